/-
    A part of the proof: contracts of functions.
-/
import Derived.Test.YtgihdicidaipmaaGreatDoorTBD
import Derived.Test.YtgihdicidaipmaaGreatDoorTAF
import Derived.Test.YtgihdicidaipmaaGreatDoorTAD
import Derived.Shelf.LaysM
import Derived.Shelf.Strings.Count
import Derived.Shelf.Strings.Search2
import Derived.Test.YtgihdicidaipmaaGreatDoorProg
import Derived.Test.YtgihdicidaipmaaGreatDoorTAN
set_option linter.unusedSectionVars false
set_option linter.unusedSimpArgs false
set_option linter.unusedVariables false
set_option maxHeartbeats 16000000
namespace Go.Proofs
open Go.Shelf
def Tryz.lays156_ren:Go.Shelf.Ren:=⟨fun| 156=>153| 165=>180| 166=>181| 169=>182| 240=>190| 241=>191| 276=>200| 277=>201|n=>n,fun| 31=>152| 9=>9| 3=>3| 4=>4| 0=>0| 20=>20| 72=>212| 76=>216| 70=>210| 37=>88| 75=>215| 127=>223| 164=>230| 5=>5| 80=>218|n=>n,fun|n=>n⟩
theorem Tryz.lays156:Go.Proofs.Lays.n156 Tryz.prog Tryz.lays156_ren:={
  mixed:=by kernel_rfl
  f156:=Tryz.func153.trans (congrArg some (by kernel_rfl))
  f165:=Tryz.func180.trans (congrArg some (by kernel_rfl))
  f166:=Tryz.func181.trans (congrArg some (by kernel_rfl))
  f169:=Tryz.func182.trans (congrArg some (by kernel_rfl))
  f240:=Tryz.func190.trans (congrArg some (by kernel_rfl))
  f241:=Tryz.func191.trans (congrArg some (by kernel_rfl))
  f276:=Tryz.func200.trans (congrArg some (by kernel_rfl))
  f277:=Tryz.func201.trans (congrArg some (by kernel_rfl))
  t0:=Tryz.underlying0
  a0:=Tryz.isAgg0
  z0:=Tryz.sizeOf0
  v0:=Tryz.zeroValue0
  t3:=Tryz.underlying3
  a3:=Tryz.isAgg3
  z3:=Tryz.sizeOf3
  v3:=Tryz.zeroValue3
  t4:=Tryz.underlying4
  a4:=Tryz.isAgg4
  z4:=Tryz.sizeOf4
  v4:=Tryz.zeroValue4
  t9:=Tryz.underlying9
  a9:=Tryz.isAgg9
  z9:=Tryz.sizeOf9
  v9:=Tryz.zeroValue9
  t20:=Tryz.underlying20
  a20:=Tryz.isAgg20
  z20:=Tryz.sizeOf20
  v20:=Tryz.zeroValue20
  t31:=Tryz.underlying152
  a31:=Tryz.isAgg152
  z31:=Tryz.sizeOf152
  v31:=Tryz.zeroValue152
  t37:=Tryz.underlying88
  a37:=Tryz.isAgg88
  z37:=Tryz.sizeOf88
  v37:=Tryz.zeroValue88
  t70:=Tryz.underlying210
  a70:=Tryz.isAgg210
  z70:=Tryz.sizeOf210
  v70:=Tryz.zeroValue210
  t72:=Tryz.underlying212
  a72:=Tryz.isAgg212
  z72:=Tryz.sizeOf212
  v72:=Tryz.zeroValue212
  t75:=Tryz.underlying215
  a75:=Tryz.isAgg215
  z75:=Tryz.sizeOf215
  v75:=Tryz.zeroValue215
  t76:=Tryz.underlying216
  a76:=Tryz.isAgg216
  z76:=Tryz.sizeOf216
  v76:=Tryz.zeroValue216
  t127:=Tryz.underlying223
  a127:=Tryz.isAgg223
  z127:=Tryz.sizeOf223
  v127:=Tryz.zeroValue223
  t164:=Tryz.underlying230
  a164:=Tryz.isAgg230
  z164:=Tryz.sizeOf230
  v164:=Tryz.zeroValue230 }
theorem Tryz.Builder_Extra_156:Builder.Extra Tryz.prog Tryz.lays156_ren:={
  sizeBuilder:=by kernel_rfl
  liesBuilder:=by kernel_rfl
  t5:=Tryz.underlying5
  a5:=Tryz.isAgg5
  z5:=Tryz.sizeOf5
  v5:=Tryz.zeroValue5
  infoByte:=by kernel_rfl
  cellsByte:=by kernel_rfl
  sizeByte:=by kernel_rfl
  neB5:=by decide }
def Tryz.lays219_ren:Go.Shelf.Ren:=⟨fun| 219=>195| 217=>205| 225=>206| 224=>207| 267=>208| 266=>215| 314=>216|n=>n,fun| 9=>9| 3=>3| 4=>4| 5=>5| 46=>172| 146=>239| 51=>202|n=>n,fun| 1=>0|n=>n⟩
theorem Tryz.lays219:Go.Proofs.Lays.n219 Tryz.prog Tryz.lays219_ren:={
  mixed:=by kernel_rfl
  f217:=Tryz.func205.trans (congrArg some (by kernel_rfl))
  f219:=Tryz.func195.trans (congrArg some (by kernel_rfl))
  f224:=Tryz.func207.trans (congrArg some (by kernel_rfl))
  f225:=Tryz.func206.trans (congrArg some (by kernel_rfl))
  f266:=Tryz.func215.trans (congrArg some (by kernel_rfl))
  f267:=Tryz.func208.trans (congrArg some (by kernel_rfl))
  f314:=Tryz.func216.trans (congrArg some (by kernel_rfl))
  t3:=Tryz.underlying3
  a3:=Tryz.isAgg3
  z3:=Tryz.sizeOf3
  v3:=Tryz.zeroValue3
  t4:=Tryz.underlying4
  a4:=Tryz.isAgg4
  z4:=Tryz.sizeOf4
  v4:=Tryz.zeroValue4
  t5:=Tryz.underlying5
  a5:=Tryz.isAgg5
  z5:=Tryz.sizeOf5
  v5:=Tryz.zeroValue5
  t9:=Tryz.underlying9
  a9:=Tryz.isAgg9
  z9:=Tryz.sizeOf9
  v9:=Tryz.zeroValue9
  t46:=Tryz.underlying172
  a46:=Tryz.isAgg172
  z46:=Tryz.sizeOf172
  v46:=Tryz.zeroValue172
  t51:=Tryz.underlying202
  a51:=Tryz.isAgg202
  z51:=Tryz.sizeOf202
  v51:=Tryz.zeroValue202
  t146:=Tryz.underlying239
  a146:=Tryz.isAgg239
  z146:=Tryz.sizeOf239
  v146:=Tryz.zeroValue239
  g1:=by kernel_rfl }
def Tryz.lays146_ren:Go.Shelf.Ren:=⟨fun| 146=>155| 221=>183| 268=>192| 138=>193| 143=>194| 195=>202| 197=>203| 218=>204| 219=>195| 260=>214| 217=>205| 225=>206| 224=>207| 267=>208| 266=>215| 314=>216|n=>n,fun| 9=>9| 31=>152| 3=>3| 4=>4| 0=>0| 105=>233| 21=>21| 5=>5| 46=>172| 119=>241| 139=>244| 138=>243| 146=>239| 51=>202|n=>n,fun| 1=>0| 3=>2| 4=>3|n=>n⟩
theorem Tryz.lays146:Go.Proofs.Lays.n146 Tryz.prog Tryz.lays146_ren:={
  mixed:=by kernel_rfl
  f138:=Tryz.func193.trans (congrArg some (by kernel_rfl))
  f143:=Tryz.func194.trans (congrArg some (by kernel_rfl))
  f146:=Tryz.func155.trans (congrArg some (by kernel_rfl))
  f195:=Tryz.func202.trans (congrArg some (by kernel_rfl))
  f197:=Tryz.func203.trans (congrArg some (by kernel_rfl))
  f217:=Tryz.func205.trans (congrArg some (by kernel_rfl))
  f218:=Tryz.func204.trans (congrArg some (by kernel_rfl))
  f219:=Tryz.func195.trans (congrArg some (by kernel_rfl))
  f221:=Tryz.func183.trans (congrArg some (by kernel_rfl))
  f224:=Tryz.func207.trans (congrArg some (by kernel_rfl))
  f225:=Tryz.func206.trans (congrArg some (by kernel_rfl))
  f260:=Tryz.func214.trans (congrArg some (by kernel_rfl))
  f266:=Tryz.func215.trans (congrArg some (by kernel_rfl))
  f267:=Tryz.func208.trans (congrArg some (by kernel_rfl))
  f268:=Tryz.func192.trans (congrArg some (by kernel_rfl))
  f314:=Tryz.func216.trans (congrArg some (by kernel_rfl))
  t0:=Tryz.underlying0
  a0:=Tryz.isAgg0
  z0:=Tryz.sizeOf0
  v0:=Tryz.zeroValue0
  t3:=Tryz.underlying3
  a3:=Tryz.isAgg3
  z3:=Tryz.sizeOf3
  v3:=Tryz.zeroValue3
  t4:=Tryz.underlying4
  a4:=Tryz.isAgg4
  z4:=Tryz.sizeOf4
  v4:=Tryz.zeroValue4
  t5:=Tryz.underlying5
  a5:=Tryz.isAgg5
  z5:=Tryz.sizeOf5
  v5:=Tryz.zeroValue5
  t9:=Tryz.underlying9
  a9:=Tryz.isAgg9
  z9:=Tryz.sizeOf9
  v9:=Tryz.zeroValue9
  t21:=Tryz.underlying21
  a21:=Tryz.isAgg21
  z21:=Tryz.sizeOf21
  v21:=Tryz.zeroValue21
  t31:=Tryz.underlying152
  a31:=Tryz.isAgg152
  z31:=Tryz.sizeOf152
  v31:=Tryz.zeroValue152
  t46:=Tryz.underlying172
  a46:=Tryz.isAgg172
  z46:=Tryz.sizeOf172
  v46:=Tryz.zeroValue172
  t51:=Tryz.underlying202
  a51:=Tryz.isAgg202
  z51:=Tryz.sizeOf202
  v51:=Tryz.zeroValue202
  t105:=Tryz.underlying233
  a105:=Tryz.isAgg233
  z105:=Tryz.sizeOf233
  v105:=Tryz.zeroValue233
  t119:=Tryz.underlying241
  a119:=Tryz.isAgg241
  z119:=Tryz.sizeOf241
  t138:=Tryz.underlying243
  a138:=Tryz.isAgg243
  z138:=Tryz.sizeOf243
  v138:=Tryz.zeroValue243
  t139:=Tryz.underlying244
  a139:=Tryz.isAgg244
  z139:=Tryz.sizeOf244
  v139:=Tryz.zeroValue244
  t146:=Tryz.underlying239
  a146:=Tryz.isAgg239
  z146:=Tryz.sizeOf239
  v146:=Tryz.zeroValue239
  g1:=by kernel_rfl
  g3:=by kernel_rfl
  g4:=by kernel_rfl }
end Go.Proofs
namespace Go.AM
open Go Go.Proofs Go.Shelf Go.RowKit
variable[Keep]
theorem lib_int{P:Program}{f:FuncId}{C:Cfg}{h:Heap}{w:World}{vs:Array Value}(r:WR C h w)(n:Int)(hc:Calls P f vs w fun e w'=>e= .returned (.int .i64 n)/\w'=w)(cs:List Frame) :
  Left P f C h w (lone (Frame.enter P f vs .normal) cs w) cs (.ret (.int .i64 n) h none):=
 lib_left r (hc.mono fun e w' q=>by
  obtain⟨rfl,rfl⟩:=q;exact⟨_,rfl,.int _ _,rfl,rfl,rfl,Nat.le_refl _,fun _ _=>rfl⟩) cs
def spIndex:List AV->Option AV
 | [.str s,.str [c]]=>some (.int .i64 (Lib.indexByte s c))
 |_=>none
theorem index_intr{P:Program}{ρ:Ren}(L:Lays.n219 P ρ)(hb:∃fn,P.funcs[ρ.f 219]? =some fn/\fn.body.isSome=true):IntrFn P (ρ.f 219) (atOnce spIndex):=by
 intro args h v h' hg C w vs r hv;refine⟨hb,fun cs=>?_⟩;unfold atOnce spIndex at hg;split at hg
 ·rename_i v0 hsp
  split at hsp
  ·rename_i s c
   cases hsp;cases hg;obtain⟨u,t,rfl,ha,ht⟩:=hv.two;cases ha;cases ht;exact lib_int r _ (Any.stringslite_Index_one L ⟨⟨s⟩⟩ c w) cs
  ·cases hsp
 ·cases hg
theorem r153:Tryz.lays156_ren.f 156=153:=rfl
theorem b153:∃fn,Tryz.prog.funcs[153]? =some fn/\fn.body.isSome=true:=⟨_,Tryz.func153,by kernel_rfl⟩
theorem F153:IntrFn Tryz.prog 153 spJoin:=by
 have:=join_intr Tryz.lays156 Tryz.Builder_Extra_156 (by rw[r153];exact b153);rw[r153]at this;exact this
theorem r155:Tryz.lays146_ren.f 146=155:=rfl
theorem b155:∃fn,Tryz.prog.funcs[155]? =some fn/\fn.body.isSome=true:=⟨_,Tryz.func155,by kernel_rfl⟩
theorem F155:IntrFn Tryz.prog 155 (atOnce spSplit):=by
 have:=split_intr Tryz.lays146 (by kernel_rfl) (by rw[r155];exact b155);rw[r155]at this;exact this
theorem r195:Tryz.lays219_ren.f 219=195:=rfl
theorem b195:∃fn,Tryz.prog.funcs[195]? =some fn/\fn.body.isSome=true:=⟨_,Tryz.func195,by kernel_rfl⟩
theorem F195:IntrFn Tryz.prog 195 (atOnce spIndex):=by
 have:=index_intr Tryz.lays219 (by rw[r195];exact b195);rw[r195]at this;exact this
theorem K195{X:Ctx}(hX:X.intr 195=some (atOnce spIndex))(s:List UInt8)(c:UInt8)(h:Heap):Cl X 195 [.str s,.str [c]] h (.ret (.int .i64 (Lib.indexByte s c)) h none):=Cl.intr hX rfl
end Go.AM
set_option maxRecDepth 100000
namespace Go.AM
open Go Go.Proofs
variable[Keep]
attribute [local irreducible] W WO WO1 WD WQ WT thenQ blockQ endR isRet retK Cl ClR
def cutR(c:UInt8):List UInt8->List UInt8×List UInt8×Bool
 | []=>([],[],false)
 |a::r=>if a=c then ([],r,true)else (a::(cutR c r).1,(cutR c r).2.1,(cutR c r).2.2)
theorem cut_idx(c:UInt8):∀s:List UInt8,(Lib.indexByte s c= -1/\cutR c s=(s,[],false))\/∃i:Nat,Lib.indexByte s c=i/\i<s.length/\cutR c s=(s.take i,s.drop (i+1),true):=by
 intro s;induction s with
 |nil=>exact .inl ⟨rfl,rfl⟩
 | cons a r ih =>
  by_cases e:a=c
  ·subst e
   exact .inr ⟨0,by simp[Lib.indexByte],by simp,by simp[cutR]⟩
  ·have hi:Lib.indexByte (a::r) c=if Lib.indexByte r c== -1 then -1 else Lib.indexByte r c+1:=by simp[Lib.indexByte,e]
   rcases ih with⟨h1,h2⟩|⟨i,h1,h2,h3⟩
   ·refine .inl ⟨by rw[hi,h1];rfl,?_⟩
    simp only[cutR,if_neg e,h2]
   ·refine .inr ⟨i+1,?_,by simp;omega,?_⟩
    ·rw[hi,h1]
     have:((i:Int)== -1)=false:=by rw[beq_eq_false_iff_ne];omega
     rw[this];simp
    ·simp only[cutR,if_neg e,h3]
     simp
def cutT(c:UInt8)(s:List UInt8):AV:=.tuple [.str (cutR c s).1,.str (cutR c s).2.1,.bool (cutR c s).2.2]
def sp158:List AV->Option AV
 | [.str s,.str [c]]=>if s.length <=60000 then some (cutT c s)else none
 |_=>none
theorem p158:∀args v,sp158 args=some v->v.pur=true:=by
 intro args v h;unfold sp158 at h;split at h
 ·split at h
  ·cases h;rfl
  ·cases h
 ·cases h
noncomputable def c185:Itr
 |195=>some (atOnce spIndex)
 |_=>none
theorem c185_sound:Sound (dX c185):=dX_sound (fun f g h=>by
 unfold c185 at h;split at h
 ·cases h;exact F195
 ·cases h)
theorem F185:IntrFn Tryz.prog 185 (pureFn sp158):=by
 refine pure_fn (X:=dX c185) c185_sound p158 ?_;intro args v h;unfold sp158 at h;split at h
 ·rename_i s c
  split at h
  ·rename_i hs
   have h:=Option.some.inj h;subst h;have k195:=fun h=>K195 (X:=dX c185) rfl s c h;unfold cutT;rcases cut_idx c s with⟨h1,h2⟩|⟨i,h1,h2,h3⟩
   ·rw[h2]
    rw[h1]at k195;have hd:decide ((-1:Int) >=0)=false:=rfl;clear h1 h2;refine ClR.walk (c:=_) rfl Tryz.func185 rfl (by kernel_rfl) rfl isRet_fail ?_;simp only[entryEnv,Nat.reduceAdd];repeat' (first|refine goS ?_|refine uJ (k195 _) ?_|(refine go2 ?_ ?_<;>intro hh)|fail)
    all_goals (simp only[rV Tryz.func185,Tryz.results185];first|exact J5|refine J6 ?_)
    all_goals rfl
   ·rw[h3]
    rw[h1]at k195;have hd:decide ((i:Int) >=0)=true:=by simp
    have hw:IntKind.i64.wrap ((i:Int)+((0+1:Nat):Int))=((i+1:Nat):Int):=by rw[wrap_small (by omega) (by omega)];omega
    have hw2:IntKind.i64.wrap ((i:Int)+((1:Nat):Int))=((i+1:Nat):Int):=hw;have hw3:IntKind.i64.wrap ((i:Int)+1)=((i+1:Nat):Int):=hw;have c1:∀H,sliceV Tryz.prog H 9 (.str s) none (some (some (.int .i64 (i:Int)))) none=some (.str (s.take i)):=fun H=>by
     have b1:boundV (some (some (.int .i64 (i:Int)))) s.length s.length=some i:=by
      simp only[boundV];rw[if_pos (by omega)];simp
     have b2:boundV none 0 i=some 0:=rfl;simp only[sliceV,Tryz.underlying9,strCut,boundsV,b1,b2,List.drop_zero]
    have c2:∀H,sliceV Tryz.prog H 9 (.str s) (some (some (.int .i64 ((i+1:Nat):Int)))) none none=some (.str (s.drop (i+1))):=fun H=>by
     have b1:boundV none s.length s.length=some s.length:=rfl;have b2:boundV (some (some (.int .i64 ((i+1:Nat):Int)))) 0 s.length=some (i+1):=by
      simp only[boundV];rw[if_pos (by omega)];simp
     simp only[sliceV,Tryz.underlying9,strCut,boundsV,b1,b2,List.take_length]
    clear h1 h2 h3;generalize s.take i=va at *;generalize s.drop (i+1)=vb at *;generalize ((i+1:Nat):Int)=i1 at *;refine ClR.walk (c:=_) rfl Tryz.func185 rfl (by kernel_rfl) rfl isRet_fail ?_;simp only[entryEnv,Nat.reduceAdd];repeat' (first|(apply W.drawQ (id:=3) (l1:=[0,1,2,3,4,5,6,7,8,9,10,11]) (l2:=[]);kernel_rfl;kernel_rfl;kernel_rfl;exact Z4)|(apply U4 (v:=.str va);(focus (simp only[go_sem, *,Nat.reduceLT,Int.reduceEq,Int.reduceBEq,Int.reduceLE,Int.reduceLT,Nat.reduceAdd,Nat.reduceBEq,Nat.reduceEqDiff,reduceIte,Nat.reduceLeDiff,Nat.reduceMul,Nat.reduceSub,reduceCtorEq,Option.map_none,Option.map_some];done));exact rfl;simp only[pM,pN,rR,rP])|(apply U4 (v:=.str vb);(focus (simp only[go_sem, *,Nat.reduceLT,Int.reduceEq,Int.reduceBEq,Int.reduceLE,Int.reduceLT,Nat.reduceAdd,Nat.reduceBEq,Nat.reduceEqDiff,reduceIte,Nat.reduceLeDiff,Nat.reduceMul,Nat.reduceSub,reduceCtorEq,Option.map_none,Option.map_some];done));exact rfl;simp only[pM,pN,rR,rP])|refine go1 ?_|refine uJ (k195 _) ?_|(refine go2 ?_ ?_<;>intro hh)|fail)
    all_goals (simp only[rV Tryz.func185,Tryz.results185];first|exact J5|refine J6 ?_)
    all_goals rfl
  ·cases h
 ·cases h
theorem K185{X:Ctx}(hX:X.intr 185=some (pureFn sp158))(s:List UInt8)(c:UInt8)(hs:s.length <=60000)(h:Heap):Cl X 185 [.str s,.str [c]] h (.ret (cutT c s) h none):=Cl.intr hX (by simp only[pureFn,AV.purL,AV.pur,Bool.and_self,if_true,sp158,hs])
noncomputable def c158:Itr
 |185=>some (pureFn sp158)
 |_=>none
theorem c158_sound:Sound (dX c158):=dX_sound (fun f g h=>by
 unfold c158 at h;split at h
 ·cases h;exact F185
 ·cases h)
theorem F158:IntrFn Tryz.prog 158 (pureFn sp158):=by
 refine pure_fn (X:=dX c158) c158_sound p158 ?_;intro args v h;unfold sp158 at h;split at h
 ·rename_i s c
  split at h
  ·rename_i hs
   have h:=Option.some.inj h;subst h;have k185:=fun h=>K185 (X:=dX c158) rfl s c hs h;unfold cutT at k185 ⊢;generalize (cutR c s).1=a1 at *;generalize (cutR c s).2.1=a2 at *;generalize (cutR c s).2.2=a3 at *;refine ClR.walk (c:=_) rfl Tryz.func158 rfl (by kernel_rfl) rfl isRet_fail ?_;simp only[entryEnv,Nat.reduceAdd];repeat' (first|refine goS ?_|refine uJ (k185 _) ?_|(refine go2 ?_ ?_<;>intro hh)|fail)
   all_goals (simp only[rV Tryz.func158,Tryz.results158];first|exact J5|refine J6 ?_)
   all_goals rfl
  ·cases h
 ·cases h
end Go.AM
namespace Go.AM
open Go
variable[Keep]
section
variable{X:Ctx}{ops:Array Oper}{K P:AV->Fr->Prop}{F:Fr}{d:Option Tmp}{T:TypeId}{p:String}{af:Array Edge}
theorem WO1.b2s{s t e:TypeId}{x:Operand}{a:AV}{l:List AV}{bs:List UInt8}(hx:F.opv x=some a)(h1:X.P.underlying s=some (.slice e))(h2:X.P.underlying t=some .string)(hu:X.P.underlying e=some (.int .u8))(hl:F.hp.elems a=some l)(hb:bytesOf l=some bs)(he:isEffAt X F.f ⟨d,.convert s t x,T,p,af,none⟩=false)
  (h:K (.str bs) (F.put d (.str bs))):WO1 X ops ⟨d,.convert s t x,T,p,af,none⟩ F K P:=by
 refine U4 (v:=.str bs) ?_ he h;have hu':isU8 X.P e=true:=by simp[isU8,hu]
 have hc:convV X.P s t a=none:=by simp[convV,h1,h2]
 simp only[rdV,Fr.convV1,hx,hc,strV,h1,h2,hu',if_true,hl,hb]
theorem WO1.sadd{t yt:TypeId}{x y:Operand}{a b:List UInt8}(hx:F.opv x=some (.str a))(hy:F.opv y=some (.str b))(he:isEffAt X F.f ⟨d,.binOp .add t x y yt,T,p,af,none⟩=false)(hl:a.length+b.length <=4294967296)
  (h:K (.str (a++b)) (F.put d (.str (a++b)))):WO1 X ops ⟨d,.binOp .add t x y yt,T,p,af,none⟩ F K P:=by
 refine U4 (v:=.str (a++b)) ?_ he h;simp only[rdV,Fr.binV2,hx,hy,binV_str,strOp,if_pos hl]
end
theorem strOp_eql(a b:List UInt8):strOp .eql a b=some (.bool (a==b)):=rfl
theorem strOp_neq(a b:List UInt8):strOp .neq a b=some (.bool (a !=b)):=rfl
attribute [go_sem] strOp_eql strOp_neq
theorem bytesOf_one(n:Int):bytesOf [.int .u8 n]=some [UInt8.ofNat n.toNat]:=rfl
end Go.AM
namespace Go.AM
open Go Go.Proofs
variable[Keep]
attribute [local irreducible] W WO WO1 WD WQ WT thenQ blockQ endR isRet retK Cl ClR
open Go.TX (dig_small dig_step digF_len)
def preD(n:Nat):List UInt8:=if n<10 then []else digF 20 (n / 10)
theorem dig_pre{n:Nat}(hu:n<10 ^ 18):digF 20 n=preD n++[UInt8.ofNat (48+n % 10)]:=by
 unfold preD;by_cases h:n<10
 ·rw[if_pos h,dig_small h,Nat.mod_eq_of_lt h]
  rfl
 ·rw[if_neg h,dig_step (by omega) hu]
theorem u8_wrap{n:Nat}(h:n<256):IntKind.u8.wrap ((n:Nat):Int)=(n:Int):=by
 simp[IntKind.wrap,IntKind.bits,IntKind.signed];omega
theorem C126p(c:Itr)(hc:c 126=none)(n0:Nat)(hn0:n0 <=1000000)(h:Heap):Cl (dX c) 126 [.int .i64 (n0:Int)] h (.ret (.str (digF 20 n0)) h none):=by
 refine ClR.cl ?_;have b10:((10:Int)==0)=false:=rfl;have hm:((n0:Nat):Int).tmod 10=((n0 % 10:Nat):Int):=by rw[Int.tmod_eq_emod_of_nonneg (by omega)];omega
 have hw:IntKind.i64.wrap (48+((n0 % 10:Nat):Int))=((48+n0 % 10:Nat):Int):=by rw[wrap_small (by omega) (by omega)];omega
 have hu:IntKind.u8.wrap ((48+n0 % 10:Nat):Int)=((48+n0 % 10:Nat):Int):=u8_wrap (by omega);refine ClR.walk (c:=_) hc Tryz.func126 rfl (by kernel_rfl) rfl (fun e=>by cases e) ?_;simp only[entryEnv,Nat.reduceAdd];repeat' (first|(apply WO1.b2s (e:=5);exact Z1;exact Z2;exact Z2;exact Z2;exact Z1;(focus (exact bytesOf_one _));exact rfl;simp only[pM,pN])|refine go1 ?_|(refine go2 ?_ ?_<;>intro hh)|fail)
 refine W.loopN (n0+1) (fun k F=>∃e n s,F=Fr.mk 126 false e .nil h [] none/\digF 20 n0=preD n++s/\n+k <=n0/\e.get 0=some (.int .i64 ((n:Nat):Int))/\e.get 3=some (.str s)) ?_ ?_
 ·refine⟨_,n0,[UInt8.ofNat (48+n0 % 10)],rfl,?_,?_,?_,?_⟩
  ·exact dig_pre (by omega)
  ·omega
  ·simp[go_sem, *]
  ·simp only[Int.toNat_natCast,go_sem, *,Nat.reduceLT,Int.reduceEq,Int.reduceBEq,Int.reduceLE,Int.reduceLT,Nat.reduceAdd,Nat.reduceBEq,Nat.reduceEqDiff,reduceIte,Nat.reduceLeDiff,Nat.reduceMul,Nat.reduceSub,reduceCtorEq]
 clear hm hw hu;rintro k F ⟨e,n,s,rfl,hs,hk,h0,h3⟩;have hls:s.length <=20:=by
  have h1:=congrArg List.length hs;rw[List.length_append]at h1;have:=digF_len 20 n0;omega
 have HS:=J1 hs;clear hs;by_cases h10:10 <=n
 ·have hd:decide ((n:Int) >=10)=true:=by simp;omega
  have hq:((n:Nat):Int).tdiv 10=((n / 10:Nat):Int):=by rw[Int.tdiv_eq_ediv_of_nonneg (by omega)];omega
  have hwq:IntKind.i64.wrap ((n / 10:Nat):Int)=((n / 10:Nat):Int):=wrap_small (by omega) (by omega);have hm:((n / 10:Nat):Int).tmod 10=((n / 10 % 10:Nat):Int):=by rw[Int.tmod_eq_emod_of_nonneg (by omega)];omega
  have hw:IntKind.i64.wrap (48+((n / 10 % 10:Nat):Int))=((48+n / 10 % 10:Nat):Int):=by rw[wrap_small (by omega) (by omega)];omega
  have hu:IntKind.u8.wrap ((48+n / 10 % 10:Nat):Int)=((48+n / 10 % 10:Nat):Int):=u8_wrap (by omega);have hnx:digF 20 n0=preD (n / 10)++([UInt8.ofNat (48+n / 10 % 10)]++s):=by
   rw[HS.out,<-List.append_assoc,<-dig_pre (by omega),preD,if_neg (by omega)]
  have HNX:=J1 hnx;have HK:=J1 hk;clear hk hnx;repeat' (first|(apply WO1.b2s (e:=5);exact Z1;exact Z2;exact Z2;exact Z2;exact Z1;(focus (exact bytesOf_one _));exact rfl;simp only[pM,pN])|(apply WO1.sadd;exact Z1;exact Z1;exact rfl;(focus (first|omega|(simp only[List.length_append,List.length_cons,List.length_nil];omega)));simp only[pM,pN])|refine go1 ?_|(refine go2 ?_ ?_<;>intro hh)|fail)
  refine⟨by have:=HK.out;omega,_,n / 10,_,rfl,HNX.out,by have:=HK.out;omega,?_,?_⟩;all_goals (simp only[Int.toNat_natCast,go_sem, *,Nat.reduceLT,Int.reduceEq,Int.reduceBEq,Int.reduceLE,Int.reduceLT,Nat.reduceAdd,Nat.reduceBEq,Nat.reduceEqDiff,reduceIte,Nat.reduceLeDiff,Nat.reduceMul,Nat.reduceSub,reduceCtorEq];done)
 ·have hd:decide ((n:Int) >=10)=false:=by simp;omega
  have hv:digF 20 n0=s:=by rw[HS.out,preD,if_pos (by omega)];rfl
  have HV:=J1 hv;clear hv hk;repeat' (first|refine goS ?_|(refine go2 ?_ ?_<;>intro hh)|fail)
  all_goals (simp only[rV Tryz.func126,Tryz.results126];first|exact J5|refine J6 ?_)
  simp[isR,frzRes,dX_frz,dFrz,HV.out]
def sp126:List AV->Option AV
 | [.int .i64 n]=>if (decide (0 <=n)&&decide (n <=1000000))=true then some (.str (itoaF n))else none
 |_=>none
theorem p126:∀args v,sp126 args=some v->v.pur=true:=by
 intro args v h;unfold sp126 at h;split at h
 ·split at h
  ·cases h;rfl
  ·cases h
 ·cases h
theorem F126:IntrFn Tryz.prog 126 (pureFn sp126):=by
 refine pure_fn (X:=dX i0) i0_sound p126 ?_;intro args v h;unfold sp126 at h;split at h
 ·rename_i n
  split at h
  ·rename_i hg
   have h:=Option.some.inj h;subst h;simp only[Bool.and_eq_true,decide_eq_true_eq]at hg;obtain⟨n,rfl⟩:∃m:Nat,n=m:=⟨n.toNat,by omega⟩;have:=C126p i0 rfl n (by omega) emptyHp;unfold ClR isRet;exact⟨_,this,rfl⟩
  ·cases h
 ·cases h
end Go.AM
