/- Texts of the walk. -/
import Derived.Test.YtemmgefppobboaaGreatDoorMa
import Derived.Lib.IndexLaws
import Derived.Test.YtemmgefppobboaaGreatDoorProg
import Derived.Test.YtemmgefppobboaaGreatDoorChecked
import Derived.Shelf.Strings.OnBuilder
import Derived.Shelf.Small.Strs
import Derived.Shelf.Strconv.Itoa3
import Derived.Shelf.Strconv.Itoa4
import Derived.Shelf.Strconv.ErrVarParseInt
import Derived.Shelf.Strings.Search3
import Derived.Shelf.Strings.Count
import Derived.Test.YtemmgefppobboaaGreatDoorMc
import Derived.RangeFuncBox
import Derived.RangeFuncLeaves
import Derived.Shelf.Abstract
import Derived.WalkKit
import Derived.OwnWalkIn
import Derived.TacticsInMore
import Derived.LoopNIn
import Derived.LoopIn
import Derived.Sort.QuietIn
import Derived.Sort.QuietTacIn
namespace Go.Proofs.YtemmgefppobboaaGreatDoor
set_option linter.defProp false
set_option linter.unusedSimpArgs false
set_option linter.unusedVariables false
open Go.RowKit
abbrev Tx:=List UInt8
def ZyS (c:UInt8):Tx->Tx×Option Tx
 | []=>([],none)
 | x :: l=>if x=c then ([],some l) else (x :: (ZyS c l).1,(ZyS c l).2)
def ZyA (c:UInt8):Tx->List Tx
 | []=>[[]]
 | x :: l=>if x=c then [] :: ZyA c l else match ZyA c l with
  | p :: ps=>(x :: p) :: ps
  | []=>[[x]]
theorem Zzp (c:UInt8):∀l,ZyA c l≠[]
 | []=>by simp[ZyA]
 | x :: l=>by
  unfold ZyA
  split
  ·simp
  ·split<;>simp
theorem ZyM (c:UInt8):∀l,ZyA c l=(ZyS c l).1 :: (match (ZyS c l).2 with
  | some r=>ZyA c r
  | none=>[])
 | []=>rfl
 | x :: l=>by
  have ih:=ZyM c l
  rw[ZyA,ZyS]
  split
  ·rfl
  ·rw[ih]
theorem Zzb (c:UInt8):∀l,(ZyS c l).1.length+(match (ZyS c l).2 with
  | some r=>r.length+1
  | none=>0)=l.length
 | []=>rfl
 | x :: l=>by
  have ih:=Zzb c l
  unfold ZyS
  split
  ·simp
  ·simp only[List.length_cons]
   omega
theorem ZzW (c:UInt8):∀l,l=(ZyS c l).1++(match (ZyS c l).2 with
  | some r=>c :: r
  | none=>[])
 | []=>rfl
 | x :: l=>by
  have ih:=ZzW c l
  unfold ZyS
  split
  ·rename_i h;simp[h]
  ·simp only[List.cons_append,zbx,true_and]
   exact ih
theorem Zzm (c:UInt8):∀l,Lib.indexByte l c=match (ZyS c l).2 with
  | some _=>((ZyS c l).1.length:Int)
  | none => -1
 | []=>rfl
 | x :: l=>by
  have ih:=Zzm c l
  unfold Lib.indexByte ZyS
  by_cases h:x=c
  ·simp[h]
  ·have h2:(x == c)=false:=by simpa using h
   rw[h2,if_neg h]
   simp only[zbm,if_false]
   rw[ih]
   cases hc:(ZyS c l).2 with
   | none=>simp
   | some r =>
    simp only[List.length_cons]
    have:(((ZyS c l).1.length:Int) == -1)=false:=by simp
    rw[this]
    simp
def ZyL (c:UInt8) (l:Tx):Nat->Tx
 | 0=>l
 | k+1=>match (ZyS c (ZyL c l k)).2 with
  | some r=>r
  | none=>[]
theorem Zy3 (c:UInt8) (l:Tx) (k:Nat):ZyL c l (k+1)=match (ZyS c (ZyL c l k)).2 with
 | some r=>r
 | none=>[]:=rfl
theorem Zy1 (c:UInt8) (l:Tx):∀k,k<(ZyA c l).length->(ZyA c l).drop k=ZyA c (ZyL c l k)
 | 0,_=>rfl
 | k+1,h=>by
  have ih:=Zy1 c l k (by omega)
  have h2:(ZyA c l).drop (k+1)=((ZyA c l).drop k).drop 1:=by rw[List.drop_drop]
  rw[h2,ih,ZyM]
  have h3:(ZyA c (ZyL c l k)).length=(ZyA c l).length - k:=by rw[<- ih,zaC]
  rw[ZyM]at h3
  rw[Zy3]
  cases hc:(ZyS c (ZyL c l k)).2 with
  | some r=>simp
  | none =>
   rw[hc]at h3
   simp at h3
   omega
theorem ZGn (c:UInt8) (l:Tx) {k:Nat} (h:k<(ZyA c l).length):(ZyA c l)[k]?=some (ZyS c (ZyL c l k)).1:=by
 have h2:(ZyA c l)[k]?=((ZyA c l).drop k)[0]?:=by rw[zaQ];simp
 rw[h2,Zy1 c l k h,ZyM c (ZyL c l k)]
 rfl
theorem Zzo (c:UInt8) (l:Tx) {k:Nat} (h:k<(ZyA c l).length):((ZyS c (ZyL c l k)).2=none ↔ k+1=(ZyA c l).length):=by
 have:=Zy1 c l k h
 have hl:=congrArg List.length this
 rw[ZyM c (ZyL c l k),zaC]at hl
 cases hc:(ZyS c (ZyL c l k)).2 with
 | none =>
  rw[hc]at hl
  simp at hl
  simp
  omega
 | some r =>
  rw[hc]at hl
  have:=zaI.2 (Zzp c r)
  simp only[List.length_cons]at hl
  simp
  omega
theorem Zzx (c:UInt8) (l:Tx):∀k,(ZyL c l k).length+k<=l.length\/(ZyA c l).length<=k
 | 0=>.inl (by simp[ZyL])
 | k+1=>by
  rcases zbn (k+1) (ZyA c l).length with h|h
  ·left
   have hm:=Zzo c l (k:=k) (by omega)
   have hl:=Zzb c (ZyL c l k)
   rcases Zzx c l k with ih|ih
   ·rw[Zy3]
    cases hc:(ZyS c (ZyL c l k)).2 with
    | none=>exact absurd (hm.1 hc) (by omega)
    | some r =>
     rw[hc]at hl
     simp only at hl ⊢
     omega
   ·omega
  ·exact .inr h
def ZyJ (c:UInt8):Bool:=(decide (97<=c)&&decide (c<=122)) || (decide (48<=c)&&decide (c<=57)) || c == 95
def ZyB (l:Tx):Bool:=l.all ZyJ&&!l.isEmpty
def ZyR (n:UInt8):UInt8:=if n<10 then 48+n else 97+n - 10
def ZyH (l:Tx):Tx:=if ZyB l then l else 37 :: l.flatMap fun c=>[ZyR (c / 16),ZyR (c % 16)]
def ZyC (c:UInt8):UInt8:=if 48<=c/\c<=57 then c - 48 else if 97<=c/\c<=102 then c - 87 else 16
def unhex:Tx->Option Tx
 | a :: b :: l=>if ZyC a<16/\ZyC b<16 then (unhex l).map ((ZyC a * 16+ZyC b) :: ·) else none
 | _=>some []
def ZyG (w:Tx):Option Tx:=if ZyB w then some w else match w with
 | 37 :: l=>match unhex l with
  | some t=>if ZyH t=w then some t else none
  | none=>none
 | _=>none
open Go.Shelf
def ZyU:Go.Shelf.Ren:=⟨fun|156=>36|165=>60|166=>61|169=>19|240=>42|241=>99|276=>62|277=>133|n=>n,fun|31=>39|9=>9|3=>3|4=>4|0=>0|20=>20|72=>54|76=>104|70=>51|37=>52|75=>56|127=>89|164=>107|5=>5|80=>59|n=>n,fun|n=>n⟩
theorem Zz1:Go.Proofs.Lays.n156 Tryz.prog ZyU:={
 mixed:=by kernel_rfl
 f156:=Tryz.func36.trans (congrArg some (by kernel_rfl))
 f165:=Tryz.func60.trans (congrArg some (by kernel_rfl))
 f166:=Tryz.func61.trans (congrArg some (by kernel_rfl))
 f169:=Tryz.func19.trans (congrArg some (by kernel_rfl))
 f240:=Tryz.func42.trans (congrArg some (by kernel_rfl))
 f241:=Tryz.func99.trans (congrArg some (by kernel_rfl))
 f276:=Tryz.func62.trans (congrArg some (by kernel_rfl))
 f277:=Tryz.func133.trans (congrArg some (by kernel_rfl))
 t0:=Tryz.underlying0
 a0:=Tryz.isAgg0
 z0:=Tryz.sizeOf0
 v0:=Tryz.zeroValue0
 t3:=Tryz.underlying3
 a3:=Tryz.isAgg3
 z3:=Tryz.sizeOf3
 v3:=Tryz.zeroValue3
 t4:=Tryz.underlying4
 a4:=Tryz.isAgg4
 z4:=Tryz.sizeOf4
 v4:=Tryz.zeroValue4
 t9:=Tryz.underlying9
 a9:=Tryz.isAgg9
 z9:=Tryz.sizeOf9
 v9:=Tryz.zeroValue9
 t20:=Tryz.underlying20
 a20:=Tryz.isAgg20
 z20:=Tryz.sizeOf20
 v20:=Tryz.zeroValue20
 t31:=Tryz.underlying39
 a31:=Tryz.isAgg39
 z31:=Tryz.sizeOf39
 v31:=Tryz.zeroValue39
 t37:=Tryz.underlying52
 a37:=Tryz.isAgg52
 z37:=Tryz.sizeOf52
 v37:=Tryz.zeroValue52
 t70:=Tryz.underlying51
 a70:=Tryz.isAgg51
 z70:=Tryz.sizeOf51
 v70:=Tryz.zeroValue51
 t72:=Tryz.underlying54
 a72:=Tryz.isAgg54
 z72:=Tryz.sizeOf54
 v72:=Tryz.zeroValue54
 t75:=Tryz.underlying56
 a75:=Tryz.isAgg56
 z75:=Tryz.sizeOf56
 v75:=Tryz.zeroValue56
 t76:=Tryz.underlying104
 a76:=Tryz.isAgg104
 z76:=Tryz.sizeOf104
 v76:=Tryz.zeroValue104
 t127:=Tryz.underlying89
 a127:=Tryz.isAgg89
 z127:=Tryz.sizeOf89
 v127:=Tryz.zeroValue89
 t164:=Tryz.underlying107
 a164:=Tryz.isAgg107
 z164:=Tryz.sizeOf107
 v164:=Tryz.zeroValue107 }
theorem ZzF:Builder.Extra Tryz.prog ZyU:={
 sizeBuilder:=by kernel_rfl
 liesBuilder:=by kernel_rfl
 t5:=Tryz.underlying5
 a5:=Tryz.isAgg5
 z5:=Tryz.sizeOf5
 v5:=Tryz.zeroValue5
 infoByte:=by kernel_rfl
 cellsByte:=by kernel_rfl
 sizeByte:=by kernel_rfl
 neB5:=by decide }
def ZzB:Go.Shelf.Ren:=⟨fun|137=>20|217=>43|266=>63|n=>n,fun|9=>9|5=>5|3=>3|n=>n,fun|n=>n⟩
theorem lays137:Go.Proofs.Lays.n137 Tryz.prog ZzB:={
 mixed:=by kernel_rfl
 f137:=Tryz.func20.trans (congrArg some (by kernel_rfl))
 f217:=Tryz.func43.trans (congrArg some (by kernel_rfl))
 f266:=Tryz.func63.trans (congrArg some (by kernel_rfl))
 t3:=Tryz.underlying3
 a3:=Tryz.isAgg3
 z3:=Tryz.sizeOf3
 v3:=Tryz.zeroValue3
 t5:=Tryz.underlying5
 a5:=Tryz.isAgg5
 z5:=Tryz.sizeOf5
 v5:=Tryz.zeroValue5
 t9:=Tryz.underlying9
 a9:=Tryz.isAgg9
 z9:=Tryz.sizeOf9
 v9:=Tryz.zeroValue9 }
def Zzg:Go.Shelf.Ren:=⟨fun|173=>35|246=>59|283=>95|284=>96|285=>97|286=>98|129=>129|317=>128|318=>130|319=>131|320=>132|337=>162|338=>163|n=>n,fun|2=>2|3=>3|9=>9|4=>4|171=>139|0=>0|53=>106|37=>52|5=>5|173=>142|212=>166|51=>167|20=>20|213=>168|46=>58|232=>206|233=>207|n=>n,fun|17=>1|18=>6|19=>7|n=>n⟩
theorem laysM173:Go.Proofs.LaysM.n173 Tryz.prog Zzg:={
 mixed:=by kernel_rfl
 f129:=Tryz.func129.trans (congrArg some (by kernel_rfl))
 f173:=Tryz.func35.trans (congrArg some (by kernel_rfl))
 f246:=Tryz.func59.trans (congrArg some (by kernel_rfl))
 f283:=Tryz.func95.trans (congrArg some (by kernel_rfl))
 f284:=Tryz.func96.trans (congrArg some (by kernel_rfl))
 f285:=Tryz.func97.trans (congrArg some (by kernel_rfl))
 f286:=Tryz.func98.trans (congrArg some (by kernel_rfl))
 f317:=Tryz.func128.trans (congrArg some (by kernel_rfl))
 f318:=Tryz.func130.trans (congrArg some (by kernel_rfl))
 f319:=Tryz.func131.trans (congrArg some (by kernel_rfl))
 f320:=Tryz.func132.trans (congrArg some (by kernel_rfl))
 f337:=Tryz.func162.trans (congrArg some (by kernel_rfl))
 f338:=Tryz.func163.trans (congrArg some (by kernel_rfl))
 t0:=Tryz.underlying0
 a0:=Tryz.isAgg0
 z0:=Tryz.sizeOf0
 v0:=Tryz.zeroValue0
 t2:=Tryz.underlying2
 a2:=Tryz.isAgg2
 z2:=Tryz.sizeOf2
 v2:=Tryz.zeroValue2
 t3:=Tryz.underlying3
 a3:=Tryz.isAgg3
 z3:=Tryz.sizeOf3
 v3:=Tryz.zeroValue3
 t4:=Tryz.underlying4
 a4:=Tryz.isAgg4
 z4:=Tryz.sizeOf4
 v4:=Tryz.zeroValue4
 t5:=Tryz.underlying5
 a5:=Tryz.isAgg5
 z5:=Tryz.sizeOf5
 v5:=Tryz.zeroValue5
 t9:=Tryz.underlying9
 a9:=Tryz.isAgg9
 z9:=Tryz.sizeOf9
 v9:=Tryz.zeroValue9
 t20:=Tryz.underlying20
 a20:=Tryz.isAgg20
 z20:=Tryz.sizeOf20
 v20:=Tryz.zeroValue20
 t37:=Tryz.underlying52
 a37:=Tryz.isAgg52
 z37:=Tryz.sizeOf52
 v37:=Tryz.zeroValue52
 t46:=Tryz.underlying58
 a46:=Tryz.isAgg58
 z46:=Tryz.sizeOf58
 v46:=Tryz.zeroValue58
 t51:=Tryz.underlying167
 a51:=Tryz.isAgg167
 z51:=Tryz.sizeOf167
 v51:=Tryz.zeroValue167
 t53:=Tryz.underlying106
 a53:=Tryz.isAgg106
 z53:=Tryz.sizeOf106
 v53:=Tryz.zeroValue106
 t171:=Tryz.underlying139
 a171:=Tryz.isAgg139
 z171:=Tryz.sizeOf139
 v171:=Tryz.zeroValue139
 t173:=Tryz.underlying142
 a173:=Tryz.isAgg142
 z173:=Tryz.sizeOf142
 v173:=Tryz.zeroValue142
 t212:=Tryz.underlying166
 a212:=Tryz.isAgg166
 z212:=Tryz.sizeOf166
 v212:=Tryz.zeroValue166
 t213:=Tryz.underlying168
 a213:=Tryz.isAgg168
 z213:=Tryz.sizeOf168
 t232:=Tryz.underlying206
 a232:=Tryz.isAgg206
 z232:=Tryz.sizeOf206
 v232:=Tryz.zeroValue206
 t233:=Tryz.underlying207
 a233:=Tryz.isAgg207
 z233:=Tryz.sizeOf207
 v233:=Tryz.zeroValue207
 g17:=by kernel_rfl
 g18:=by kernel_rfl
 g19:=by kernel_rfl
 i0:=by kernel_rfl
 i2:=by kernel_rfl
 i3:=by kernel_rfl
 i4:=by kernel_rfl
 i5:=by kernel_rfl
 i9:=by kernel_rfl
 i20:=by kernel_rfl
 i37:=by kernel_rfl
 i46:=by kernel_rfl
 i51:=by kernel_rfl
 i53:=by kernel_rfl
 i171:=by kernel_rfl
 i173:=by kernel_rfl
 i212:=by kernel_rfl
 i232:=by kernel_rfl
 i233:=by kernel_rfl
 m17:=by kernel_rfl
 m18:=by kernel_rfl
 m19:=by kernel_rfl }
def Zzq:Go.Shelf.Ren:=⟨fun|174=>67|247=>104|245=>105|287=>138|279=>139|280=>140|281=>141|282=>142|321=>165|322=>166|316=>167|171=>33|205=>168|243=>58|246=>59|283=>95|284=>96|285=>97|286=>98|129=>129|317=>128|318=>130|319=>131|320=>132|337=>162|338=>163|n=>n,fun|9=>9|3=>3|2=>2|75=>56|85=>111|4=>4|167=>172|5=>5|53=>106|175=>173|46=>58|168=>175|37=>52|0=>0|210=>201|21=>21|127=>89|145=>210|143=>208|171=>139|173=>142|212=>166|51=>167|20=>20|213=>168|232=>206|233=>207|80=>59|n=>n,fun|15=>4|16=>5|17=>1|18=>6|19=>7|n=>n⟩
theorem ZDY:Go.Proofs.LaysC.n174 Tryz.prog Zzq:={
 mixed:=by kernel_rfl
 f129:=Tryz.func129.trans (congrArg some (by kernel_rfl))
 f171:=Tryz.func33.trans (congrArg some (by kernel_rfl))
 f174:=Tryz.func67.trans (congrArg some (by kernel_rfl))
 f205:=Tryz.func168.trans (congrArg some (by kernel_rfl))
 f243:=Tryz.func58.trans (congrArg some (by kernel_rfl))
 f245:=Tryz.func105.trans (congrArg some (by kernel_rfl))
 f246:=Tryz.func59.trans (congrArg some (by kernel_rfl))
 f247:=Tryz.func104.trans (congrArg some (by kernel_rfl))
 f279:=Tryz.func139.trans (congrArg some (by kernel_rfl))
 f280:=Tryz.func140.trans (congrArg some (by kernel_rfl))
 f281:=Tryz.func141.trans (congrArg some (by kernel_rfl))
 f282:=Tryz.func142.trans (congrArg some (by kernel_rfl))
 f283:=Tryz.func95.trans (congrArg some (by kernel_rfl))
 f284:=Tryz.func96.trans (congrArg some (by kernel_rfl))
 f285:=Tryz.func97.trans (congrArg some (by kernel_rfl))
 f286:=Tryz.func98.trans (congrArg some (by kernel_rfl))
 f287:=Tryz.func138.trans (congrArg some (by kernel_rfl))
 f316:=Tryz.func167.trans (congrArg some (by kernel_rfl))
 f317:=Tryz.func128.trans (congrArg some (by kernel_rfl))
 f318:=Tryz.func130.trans (congrArg some (by kernel_rfl))
 f319:=Tryz.func131.trans (congrArg some (by kernel_rfl))
 f320:=Tryz.func132.trans (congrArg some (by kernel_rfl))
 f321:=Tryz.func165.trans (congrArg some (by kernel_rfl))
 f322:=Tryz.func166.trans (congrArg some (by kernel_rfl))
 f337:=Tryz.func162.trans (congrArg some (by kernel_rfl))
 f338:=Tryz.func163.trans (congrArg some (by kernel_rfl))
 t0:=Tryz.underlying0
 a0:=Tryz.isAgg0
 z0:=Tryz.sizeOf0
 v0:=Tryz.zeroValue0
 t2:=Tryz.underlying2
 a2:=Tryz.isAgg2
 z2:=Tryz.sizeOf2
 v2:=Tryz.zeroValue2
 t3:=Tryz.underlying3
 a3:=Tryz.isAgg3
 z3:=Tryz.sizeOf3
 v3:=Tryz.zeroValue3
 t4:=Tryz.underlying4
 a4:=Tryz.isAgg4
 z4:=Tryz.sizeOf4
 v4:=Tryz.zeroValue4
 t5:=Tryz.underlying5
 a5:=Tryz.isAgg5
 z5:=Tryz.sizeOf5
 v5:=Tryz.zeroValue5
 t9:=Tryz.underlying9
 a9:=Tryz.isAgg9
 z9:=Tryz.sizeOf9
 v9:=Tryz.zeroValue9
 t20:=Tryz.underlying20
 a20:=Tryz.isAgg20
 z20:=Tryz.sizeOf20
 v20:=Tryz.zeroValue20
 t21:=Tryz.underlying21
 a21:=Tryz.isAgg21
 z21:=Tryz.sizeOf21
 v21:=Tryz.zeroValue21
 t37:=Tryz.underlying52
 a37:=Tryz.isAgg52
 z37:=Tryz.sizeOf52
 v37:=Tryz.zeroValue52
 t46:=Tryz.underlying58
 a46:=Tryz.isAgg58
 z46:=Tryz.sizeOf58
 v46:=Tryz.zeroValue58
 t51:=Tryz.underlying167
 a51:=Tryz.isAgg167
 z51:=Tryz.sizeOf167
 v51:=Tryz.zeroValue167
 t53:=Tryz.underlying106
 a53:=Tryz.isAgg106
 z53:=Tryz.sizeOf106
 v53:=Tryz.zeroValue106
 t75:=Tryz.underlying56
 a75:=Tryz.isAgg56
 z75:=Tryz.sizeOf56
 v75:=Tryz.zeroValue56
 t85:=Tryz.underlying111
 a85:=Tryz.isAgg111
 z85:=Tryz.sizeOf111
 v85:=Tryz.zeroValue111
 t127:=Tryz.underlying89
 a127:=Tryz.isAgg89
 z127:=Tryz.sizeOf89
 v127:=Tryz.zeroValue89
 t143:=Tryz.underlying208
 a143:=Tryz.isAgg208
 z143:=Tryz.sizeOf208
 v143:=Tryz.zeroValue208
 t145:=Tryz.underlying210
 a145:=Tryz.isAgg210
 z145:=Tryz.sizeOf210
 v145:=Tryz.zeroValue210
 t167:=Tryz.underlying172
 a167:=Tryz.isAgg172
 z167:=Tryz.sizeOf172
 v167:=Tryz.zeroValue172
 t168:=Tryz.underlying175
 a168:=Tryz.isAgg175
 z168:=Tryz.sizeOf175
 v168:=Tryz.zeroValue175
 t171:=Tryz.underlying139
 a171:=Tryz.isAgg139
 z171:=Tryz.sizeOf139
 v171:=Tryz.zeroValue139
 t173:=Tryz.underlying142
 a173:=Tryz.isAgg142
 z173:=Tryz.sizeOf142
 v173:=Tryz.zeroValue142
 t175:=Tryz.underlying173
 a175:=Tryz.isAgg173
 z175:=Tryz.sizeOf173
 v175:=Tryz.zeroValue173
 t210:=Tryz.underlying201
 a210:=Tryz.isAgg201
 z210:=Tryz.sizeOf201
 v210:=Tryz.zeroValue201
 t212:=Tryz.underlying166
 a212:=Tryz.isAgg166
 z212:=Tryz.sizeOf166
 v212:=Tryz.zeroValue166
 t213:=Tryz.underlying168
 a213:=Tryz.isAgg168
 z213:=Tryz.sizeOf168
 t232:=Tryz.underlying206
 a232:=Tryz.isAgg206
 z232:=Tryz.sizeOf206
 v232:=Tryz.zeroValue206
 t233:=Tryz.underlying207
 a233:=Tryz.isAgg207
 z233:=Tryz.sizeOf207
 v233:=Tryz.zeroValue207
 g15:=by kernel_rfl
 g16:=by kernel_rfl
 g17:=by kernel_rfl
 g18:=by kernel_rfl
 g19:=by kernel_rfl
 t80:=Tryz.underlying59
 a80:=Tryz.isAgg59
 z80:=Tryz.sizeOf59
 v80:=Tryz.zeroValue59
 i0:=by kernel_rfl
 i2:=by kernel_rfl
 i3:=by kernel_rfl
 i4:=by kernel_rfl
 i5:=by kernel_rfl
 i9:=by kernel_rfl
 i20:=by kernel_rfl
 i21:=by kernel_rfl
 i37:=by kernel_rfl
 i46:=by kernel_rfl
 i51:=by kernel_rfl
 i53:=by kernel_rfl
 i75:=by kernel_rfl
 i80:=by kernel_rfl
 i85:=by kernel_rfl
 i127:=by kernel_rfl
 i143:=by kernel_rfl
 i145:=by kernel_rfl
 i167:=by kernel_rfl
 i168:=by kernel_rfl
 i171:=by kernel_rfl
 i173:=by kernel_rfl
 i175:=by kernel_rfl
 i210:=by kernel_rfl
 i212:=by kernel_rfl
 i232:=by kernel_rfl
 i233:=by kernel_rfl
 m15:=by kernel_rfl
 m16:=by kernel_rfl
 m17:=by kernel_rfl
 m18:=by kernel_rfl
 m19:=by kernel_rfl
 c0:=by kernel_rfl
 c2:=by kernel_rfl
 c3:=by kernel_rfl
 c4:=by kernel_rfl
 c5:=by kernel_rfl
 c9:=by kernel_rfl
 c20:=by kernel_rfl
 c21:=by kernel_rfl
 c37:=by kernel_rfl
 c46:=by kernel_rfl
 c51:=by kernel_rfl
 c53:=by kernel_rfl
 c75:=by kernel_rfl
 c80:=by kernel_rfl
 c85:=by kernel_rfl
 c127:=by kernel_rfl
 c143:=by kernel_rfl
 c145:=by kernel_rfl
 c167:=by kernel_rfl
 c168:=by kernel_rfl
 c171:=by kernel_rfl
 c173:=by kernel_rfl
 c175:=by kernel_rfl
 c210:=by kernel_rfl
 c212:=by kernel_rfl
 c213:=by kernel_rfl
 c232:=by kernel_rfl
 c233:=by kernel_rfl }
def ZzA:Go.Shelf.Ren:=⟨fun|219=>103|217=>43|225=>135|224=>136|267=>137|266=>63|314=>164|n=>n,fun|9=>9|3=>3|4=>4|5=>5|46=>58|146=>198|51=>167|n=>n,fun|1=>0|n=>n⟩
theorem lays219:Go.Proofs.Lays.n219 Tryz.prog ZzA:={
 mixed:=by kernel_rfl
 f217:=Tryz.func43.trans (congrArg some (by kernel_rfl))
 f219:=Tryz.func103.trans (congrArg some (by kernel_rfl))
 f224:=Tryz.func136.trans (congrArg some (by kernel_rfl))
 f225:=Tryz.func135.trans (congrArg some (by kernel_rfl))
 f266:=Tryz.func63.trans (congrArg some (by kernel_rfl))
 f267:=Tryz.func137.trans (congrArg some (by kernel_rfl))
 f314:=Tryz.func164.trans (congrArg some (by kernel_rfl))
 t3:=Tryz.underlying3
 a3:=Tryz.isAgg3
 z3:=Tryz.sizeOf3
 v3:=Tryz.zeroValue3
 t4:=Tryz.underlying4
 a4:=Tryz.isAgg4
 z4:=Tryz.sizeOf4
 v4:=Tryz.zeroValue4
 t5:=Tryz.underlying5
 a5:=Tryz.isAgg5
 z5:=Tryz.sizeOf5
 v5:=Tryz.zeroValue5
 t9:=Tryz.underlying9
 a9:=Tryz.isAgg9
 z9:=Tryz.sizeOf9
 v9:=Tryz.zeroValue9
 t46:=Tryz.underlying58
 a46:=Tryz.isAgg58
 z46:=Tryz.sizeOf58
 v46:=Tryz.zeroValue58
 t51:=Tryz.underlying167
 a51:=Tryz.isAgg167
 z51:=Tryz.sizeOf167
 v51:=Tryz.zeroValue167
 t146:=Tryz.underlying198
 a146:=Tryz.isAgg198
 z146:=Tryz.sizeOf198
 v146:=Tryz.zeroValue198
 g1:=by kernel_rfl }
def Zzv:Go.Shelf.Ren:=⟨fun|143=>66|219=>103|217=>43|225=>135|224=>136|267=>137|266=>63|314=>164|n=>n,fun|9=>9|3=>3|4=>4|5=>5|46=>58|146=>198|51=>167|n=>n,fun|1=>0|n=>n⟩
theorem Zz3:Go.Proofs.Lays.n143 Tryz.prog Zzv:={
 mixed:=by kernel_rfl
 f143:=Tryz.func66.trans (congrArg some (by kernel_rfl))
 f217:=Tryz.func43.trans (congrArg some (by kernel_rfl))
 f219:=Tryz.func103.trans (congrArg some (by kernel_rfl))
 f224:=Tryz.func136.trans (congrArg some (by kernel_rfl))
 f225:=Tryz.func135.trans (congrArg some (by kernel_rfl))
 f266:=Tryz.func63.trans (congrArg some (by kernel_rfl))
 f267:=Tryz.func137.trans (congrArg some (by kernel_rfl))
 f314:=Tryz.func164.trans (congrArg some (by kernel_rfl))
 t3:=Tryz.underlying3
 a3:=Tryz.isAgg3
 z3:=Tryz.sizeOf3
 v3:=Tryz.zeroValue3
 t4:=Tryz.underlying4
 a4:=Tryz.isAgg4
 z4:=Tryz.sizeOf4
 v4:=Tryz.zeroValue4
 t5:=Tryz.underlying5
 a5:=Tryz.isAgg5
 z5:=Tryz.sizeOf5
 v5:=Tryz.zeroValue5
 t9:=Tryz.underlying9
 a9:=Tryz.isAgg9
 z9:=Tryz.sizeOf9
 v9:=Tryz.zeroValue9
 t46:=Tryz.underlying58
 a46:=Tryz.isAgg58
 z46:=Tryz.sizeOf58
 v46:=Tryz.zeroValue58
 t51:=Tryz.underlying167
 a51:=Tryz.isAgg167
 z51:=Tryz.sizeOf167
 v51:=Tryz.zeroValue167
 t146:=Tryz.underlying198
 a146:=Tryz.isAgg198
 z146:=Tryz.sizeOf198
 v146:=Tryz.zeroValue198
 g1:=by kernel_rfl }
def Zzy:Go.Shelf.Ren:=⟨fun|138=>65|195=>100|218=>102|143=>66|219=>103|217=>43|225=>135|224=>136|267=>137|266=>63|314=>164|n=>n,fun|9=>9|3=>3|4=>4|5=>5|0=>0|46=>58|146=>198|51=>167|n=>n,fun|1=>0|n=>n⟩
theorem lays138:Go.Proofs.Lays.n138 Tryz.prog Zzy:={
 mixed:=by kernel_rfl
 f138:=Tryz.func65.trans (congrArg some (by kernel_rfl))
 f143:=Tryz.func66.trans (congrArg some (by kernel_rfl))
 f195:=Tryz.func100.trans (congrArg some (by kernel_rfl))
 f217:=Tryz.func43.trans (congrArg some (by kernel_rfl))
 f218:=Tryz.func102.trans (congrArg some (by kernel_rfl))
 f219:=Tryz.func103.trans (congrArg some (by kernel_rfl))
 f224:=Tryz.func136.trans (congrArg some (by kernel_rfl))
 f225:=Tryz.func135.trans (congrArg some (by kernel_rfl))
 f266:=Tryz.func63.trans (congrArg some (by kernel_rfl))
 f267:=Tryz.func137.trans (congrArg some (by kernel_rfl))
 f314:=Tryz.func164.trans (congrArg some (by kernel_rfl))
 t0:=Tryz.underlying0
 a0:=Tryz.isAgg0
 z0:=Tryz.sizeOf0
 v0:=Tryz.zeroValue0
 t3:=Tryz.underlying3
 a3:=Tryz.isAgg3
 z3:=Tryz.sizeOf3
 v3:=Tryz.zeroValue3
 t4:=Tryz.underlying4
 a4:=Tryz.isAgg4
 z4:=Tryz.sizeOf4
 v4:=Tryz.zeroValue4
 t5:=Tryz.underlying5
 a5:=Tryz.isAgg5
 z5:=Tryz.sizeOf5
 v5:=Tryz.zeroValue5
 t9:=Tryz.underlying9
 a9:=Tryz.isAgg9
 z9:=Tryz.sizeOf9
 v9:=Tryz.zeroValue9
 t46:=Tryz.underlying58
 a46:=Tryz.isAgg58
 z46:=Tryz.sizeOf58
 v46:=Tryz.zeroValue58
 t51:=Tryz.underlying167
 a51:=Tryz.isAgg167
 z51:=Tryz.sizeOf167
 v51:=Tryz.zeroValue167
 t146:=Tryz.underlying198
 a146:=Tryz.isAgg198
 z146:=Tryz.sizeOf198
 v146:=Tryz.zeroValue198
 g1:=by kernel_rfl }
open Go.RowKit Go.Lib
abbrev eS (l:Tx):AV:=.sc (.string ⟨l.toArray⟩)
theorem ok_ibyte:Zmq Tryz.prog 20:=⟨_,Tryz.func20,by kernel_rfl,by kernel_rfl⟩
theorem ok_index:Zmq Tryz.prog 66:=⟨_,Tryz.func66,by kernel_rfl,by kernel_rfl⟩
theorem ZzK:Zmq Tryz.prog 103:=⟨_,Tryz.func103,by kernel_rfl,by kernel_rfl⟩
theorem ok_count:Zmq Tryz.prog 65:=⟨_,Tryz.func65,by kernel_rfl,by kernel_rfl⟩
theorem Zy9 (s:ByteArray) (c:Int) (H:Zaa):Zay Tryz.prog 20 [.sc (.string s),.sc (.int .u8 c)] H (fun r H'=>r=.i (indexByte s.data.toList c.toNat.toUInt8)/\H'=H):=by
 refine⟨ok_ibyte,fun g w vs hW hV hEn=>?_⟩
 obtain⟨v0,v1,rfl⟩:∃v0 v1,vs=[v0,v1]:=by
  match vs,hV.1 with
  | [v0,v1],_=>exact⟨v0,v1,rfl⟩
 have h1:=hV.2 0 _ _ rfl rfl
 have h2:=hV.2 1 _ _ rfl rfl
 cases h1
 cases h2
 refine(Any.strings_IndexByte lays137 s c w).mono fun e w' ⟨he,hb⟩=>?_
 subst hb
 exact .inl ⟨_,_,_,g,he,⟨rfl,rfl⟩,.sc _,hW,.refl _ _ _⟩
theorem ZzL (s:ByteArray) (c:UInt8) (H:Zaa):Zay Tryz.prog 66 [.sc (.string s),.sc (.string ⟨#[c]⟩)] H (fun r H'=>r=.i (indexByte s.data.toList c)/\H'=H):=by
 refine⟨ok_index,fun g w vs hW hV hEn=>?_⟩
 obtain⟨v0,v1,rfl⟩:∃v0 v1,vs=[v0,v1]:=by
  match vs,hV.1 with
  | [v0,v1],_=>exact⟨v0,v1,rfl⟩
 have h1:=hV.2 0 _ _ rfl rfl
 have h2:=hV.2 1 _ _ rfl rfl
 cases h1
 cases h2
 refine(Any.strings_Index_one Zz3 s c w).mono fun e w' ⟨he,hb⟩=>?_
 subst hb
 exact .inl ⟨_,_,_,g,he,⟨rfl,rfl⟩,.sc _,hW,.refl _ _ _⟩
theorem Zzs (s:ByteArray) (c:UInt8) (H:Zaa):Zay Tryz.prog 103 [.sc (.string s),.sc (.string ⟨#[c]⟩)] H (fun r H'=>r=.i (indexByte s.data.toList c)/\H'=H):=by
 refine⟨ZzK,fun g w vs hW hV hEn=>?_⟩
 obtain⟨v0,v1,rfl⟩:∃v0 v1,vs=[v0,v1]:=by
  match vs,hV.1 with
  | [v0,v1],_=>exact⟨v0,v1,rfl⟩
 have h1:=hV.2 0 _ _ rfl rfl
 have h2:=hV.2 1 _ _ rfl rfl
 cases h1
 cases h2
 refine(Any.stringslite_Index_one lays219 s c w).mono fun e w' ⟨he,hb⟩=>?_
 subst hb
 exact .inl ⟨_,_,_,g,he,⟨rfl,rfl⟩,.sc _,hW,.refl _ _ _⟩
theorem ZzO (s:ByteArray) (c:UInt8) (H:Zaa):Zay Tryz.prog 65 [.sc (.string s),.sc (.string ⟨#[c]⟩)] H (fun r H'=>r=.i (countByte s.data.toList c:Nat)/\H'=H):=by
 refine⟨ok_count,fun g w vs hW hV hEn=>?_⟩
 obtain⟨v0,v1,rfl⟩:∃v0 v1,vs=[v0,v1]:=by
  match vs,hV.1 with
  | [v0,v1],_=>exact⟨v0,v1,rfl⟩
 have h1:=hV.2 0 _ _ rfl rfl
 have h2:=hV.2 1 _ _ rfl rfl
 cases h1
 cases h2
 refine(Any.strings_Count_one lays138 s c w).mono fun e w' ⟨he,hb⟩=>?_
 subst hb
 exact .inl ⟨_,_,_,g,he,⟨rfl,rfl⟩,.sc _,hW,.refl _ _ _⟩
theorem Same.pure {H:Zaa} {v:AV} {f:FuncId} {args:List AV} (h:Zay Tryz.prog f args H (fun r H'=>r=v/\H'=H)):Zay Tryz.prog f args H (Pure H v):=h.mono fun r H' ⟨h1,h2⟩=>⟨h1,0,h2⟩
open Go.RowKit Go.Shelf
attribute [local go_sem] Oper.semAt_some
theorem size_mk (l:Tx):(ByteArray.mk l.toArray).size=l.length:=by simp[ByteArray.size]
theorem ZzN (s:Tx) (c:UInt8) (n:Nat) (w:World):CallsIn Fence.wide n Tryz.prog 66 #[.string ⟨s.toArray⟩,.string ⟨#[c]⟩] w fun e w'=>e=.returned (.int .i64 (Lib.indexByte s c))/\w'=w :=
 callsIn_wide.2 (Any.strings_Index_one Zz3 ⟨s.toArray⟩ c w)
theorem cut_ext (p:Tx) (c:UInt8) (r:Tx):(ByteArray.mk (p++c :: r).toArray).extract 0 p.length=⟨p.toArray⟩:=by
 apply za3
 apply zaL
 simp[zbe]
theorem cut_ext2 (p:Tx) (c:UInt8) (r:Tx):(ByteArray.mk (p++c :: r).toArray).extract (p.length+1) (p++c :: r).length=⟨r.toArray⟩:=by
 apply za3
 apply zaL
 simp only[zbe,zbD,zab,List.length_cons]
 rw[List.extract_eq_take_drop,show p.length+(r.length+1) - (p.length+1)=r.length by omega]
 simp
def ZzX (B:Nat) (w:World):Nat:=match w.cell? ⟨B,0,none⟩with
 | some (.string t)=>t.size
 | _=>0
set_option maxRecDepth 100000 in
set_option maxHeartbeats 2000000 in
theorem Zz6 (n l Bp Bs Bz:Nat) (c:UInt8) (s:Tx) (hlen:s.length<=1000000) (J K:Nat->World->Prop) (Jx:World->Prop) (qJ:∀k W q,J k W->J k (W.drewN q)) (qK:∀k W q,K k W->K k (W.drewN q)) (qx:∀W q,Jx W->Jx (W.drewN q))
  (hK1:∀k W,K k W->W.cell? ⟨Bs,0,none⟩=some (.string ⟨(ZyL c s k).toArray⟩)/\W.frozen? ⟨Bs,0,none⟩=false) (hK2:∀k W,K k W->W.cell? ⟨Bp,0,none⟩=some (.string ⟨#[c]⟩)) (hK3:∀k W,K k W->W.cell? ⟨Bz,0,none⟩=some (.int .i64 0))
  (hS:∀k W,J (k+1) W->K k W->J (k+1) (W.setCell ⟨Bs,0,none⟩ (.string ⟨(ZyL c s (k+1)).toArray⟩))/\K (k+1) (W.setCell ⟨Bs,0,none⟩ (.string ⟨(ZyL c s (k+1)).toArray⟩)))
  (hY:∀k W1,J k W1->k<(ZyA c s).length->K k W1->YieldAt Fence.wide n Tryz.prog l #[.string ⟨(ZyS c (ZyL c s k)).1.toArray⟩] W1 fun e W' =>
    (e=.returned (.bool true)/\J (k+1) W'/\K k W')\/(e=.returned (.bool false)/\Jx W'))
  (W:World) (hKW:K 0 W) (h0:J 0 W) :
  CallsIn Fence.wide (n+1) Tryz.prog 154 #[.func (.yield l) #[] #[],.pointer (some ⟨Bp,0,none⟩),.pointer (some ⟨Bs,0,none⟩),.pointer (some ⟨Bz,0,none⟩)] W fun e W'=>(∃v,e=.returned v)/\(J (ZyA c s).length W'\/Jx W'):=by
 have hB1:=(hK1 _ W hKW).1
 have hB2:=hK2 _ W hKW
 have hB3:=hK3 _ W hKW
 have hpos:=zaI.2 (Zzp c s)
 refine callsIn_of_wp Tryz.func154 rfl trivial ?_ rfl
 simp only[Tryz.ntmps154,zbN,List.length_cons,List.length_nil,Nat.reduceAdd,Nat.reduceSub,Array.replicate_succ,Array.replicate_zero,List.push_toArray,List.append_toArray,List.nil_append,List.cons_append]
 gi_wp2
 gi_loopw [7] (fun i wr=>∃k:Nat,k<(ZyA c s).length/\J k wr/\K k wr)
  (fun i wr=>ZzX Bs wr)
 case atStart=>exact⟨0,hpos,h0,hKW⟩
 case round =>
  obtain⟨k,hk,hJ,hKk⟩:=hrel
  obtain⟨hc1,hz1⟩:=hK1 k wr hKk
  have hc2:=hK2 k wr hKk
  have hc3:=hK3 k wr hKk
  have hI:=ZzN (ZyL c s k) c n wr
  have hix:=Zzm c (ZyL c s k)
  have hcl:=Zzb c (ZyL c s k)
  have hce:=ZzW c (ZyL c s k)
  have hmo:=Zzo c s hk
  have hY1:=hY k wr hJ hk hKk
  have hsu:=Zy3 c s k
  cases hcut:(ZyS c (ZyL c s k)).2 with
  | none =>
   rw[hcut]at hix hcl hce
   simp only at hix hcl hce
   rw[hix]at hI
   have hp:(ZyS c (ZyL c s k)).1=ZyL c s k:=by simpa using hce.symm
   rw[hp]at hY1
   have hfin:k+1=(ZyA c s).length:=hmo.1 hcut
   clear hp hce hcl hix hsu hmo hcut
   generalize ZyL c s k=t at hc1 hI hY1
   obtain⟨fn,tmps,assign,body,hy,hR⟩:=hY1
   gi_wp2_with (refine⟨trivial,?_⟩;gi_at_call 66;refine hI.mono ?_;rintro e w' ⟨rfl,rfl⟩)
   refine hR.mono ?_
   rintro e W3 (⟨rfl,hJ3,hKb3⟩|⟨rfl,hJx3⟩)
   ·gi_wp2
    go_end0
    exact⟨⟨_,rfl⟩,.inl (by rw[<- hfin];exact hJ3)⟩
   ·gi_wp2
    go_end0
    exact⟨⟨_,rfl⟩,.inr hJx3⟩
  | some r =>
   rw[hcut]at hix hcl hce hsu
   simp only at hix hcl hce hsu
   rw[hix]at hI
   have hle:(ZyS c (ZyL c s k)).1.length<=1000000:=by
    rcases Zzx c s k with h|h<;>omega
   have hmore:k+1<(ZyA c s).length:=by
    rcases zbn (k+1) (ZyA c s).length with h|h
    ·exact h
    ·have:=hmo.2 (by omega)
     rw[hcut]at this;cases this
   have hS1:=fun W=>hS k W
   rw[hsu]at hS1
   have hme:(ZyL c s k).length=(ZyS c (ZyL c s k)).1.length+(r.length+1):=hcl.symm
   have hty:ZyL c s k=(ZyS c (ZyL c s k)).1++c :: r:=hce
   clear hce hcl hix hsu hmo hcut
   have hlt:(ZyL c s k).length<=1000000:=by
    rcases Zzx c s k with h|h<;>omega
   generalize ht:ZyL c s k=t at hc1 hI hY1 hme hty hle hlt
   generalize (ZyS c t).1=p at hI hY1 hme hty hle
   subst hty
   clear hme
   have hl3:(p++c :: r).length=p.length+(r.length+1):=by simp
   rw[hl3]at hlt
   rw[<- cut_ext p c r]at hY1
   obtain⟨fn,tmps,assign,body,hy,hR⟩:=hY1
   gi_wp2_with (refine⟨trivial,?_⟩;gi_at_call 66;refine hI.mono ?_;rintro e w' ⟨rfl,rfl⟩)
   refine hR.mono ?_
   rintro e W3 (⟨rfl,hJ3,hKb3⟩|⟨rfl,hJx3⟩)
   ·obtain⟨k1,z1⟩:=hK1 _ _ hKb3
    have k2:=hK2 _ _ hKb3
    rw[ht]at k1
    obtain⟨j1,j2⟩:=hS1 _ hJ3 hKb3
    gi_wp2
    have hx2:=cut_ext2 p c r
    rw[hl3]at hx2
    rw[hx2]
    refine⟨⟨k+1,hmore,j1,j2⟩,?_⟩
    have e1:ZzX Bs w'=p.length+(r.length+1):=by unfold ZzX;rw[hc1];simp only[size_mk];exact hl3
    have e2:ZzX Bs (W3.setCell ⟨Bs,0,none⟩ (.string ⟨r.toArray⟩))=r.length:=by unfold ZzX;rw[World.cell?_setCell_same _ _ _ k1];exact size_mk r
    rw[e1,e2]
    omega
   ·gi_wp2
    refine bodyPost_ret (results_none rfl _ _ _) rfl ?_
    exact⟨⟨_,rfl⟩,.inr hJx3⟩
theorem Zzk:Zmq Tryz.prog 154:=⟨_,Tryz.func154,by kernel_rfl,by kernel_rfl⟩
theorem Zy2 {g:Gh} {H:Zaa} {w:World} (hW:WR g H w) {id:Nat} {v:Value} {E:TypeId} (h:H.get id=some (.cells [.sc v] E)) {b:Nat} (hb:g.ι id=some b):w.heap[b]?=some (.cells #[v] E (0,0)):=by
 obtain⟨b',carr,a1,a2,a3,_,_⟩:=hW.obj id _ h
 obtain rfl:b'=b:=by rw[hb]at a1;injection a1 with a1;exact a1.symm
 obtain⟨c0,hc0⟩:∃c,carr.toList=[c]:=by
  match carr.toList,a3.1 with
  | [c],_=>exact⟨c,rfl⟩
 rw[hc0]at a3
 have r0:=a3.2 0 _ _ rfl rfl
 cases r0
 have:carr=#[v]:=by apply zaL;simpa using hc0
 rw[a2,this]
theorem ZDP (c:UInt8) (s:Tx) (E1 E2 E3:TypeId) (ip is iz:Nat) (H:Zaa) (hl:s.length<=1000000) (h1:H.get ip=some (.cells [.sc (.string ⟨#[c]⟩)] E1)) (h2:H.get is=some (.cells [eS s] E2)) (h3:H.get iz=some (.cells [.i 0] E3)) (n1:ip≠is) (n2:iz≠is) :
  ItK Tryz.prog 154 [.ptr ip 0,.ptr is 0,.ptr iz 0] [ip,is,iz] ((ZyA c s).map fun p=>[eS p]) H:=by
 refine⟨Zzk,fun g w vs hW hV=>?_⟩
 obtain⟨v0,v1,v2,rfl⟩:∃v0 v1 v2,vs=[v0,v1,v2]:=by
  match vs,hV.1 with
  | [v0,v1,v2],_=>exact⟨v0,v1,v2,rfl⟩
 have q0:=hV.2 0 _ _ rfl rfl
 have q1:=hV.2 1 _ _ rfl rfl
 have q2:=hV.2 2 _ _ rfl rfl
 cases q0 with
 | ptr _ _ Bp hBp =>
 cases q1 with
 | ptr _ _ Bs hBs =>
 cases q2 with
 | ptr _ _ Bz hBz =>
 have w1:=Zy2 hW h1 hBp
 have w2:=Zy2 hW h2 hBs
 have w3:=Zy2 hW h3 hBz
 have d1:Bp≠Bs:=fun e=>n1 (hW.inj ip is _ _ Bp h1 h2 hBp (by rw[e];exact hBs))
 have d2:Bz≠Bs:=fun e=>n2 (hW.inj iz is _ _ Bz h3 h2 hBz (by rw[e];exact hBs))
 refine⟨(ZyA c s).map fun p=>#[.string ⟨p.toArray⟩],by simp,fun k x u hx hu=>?_,?_⟩
 ·rw[zba]at hx hu
  cases hp:(ZyA c s)[k]? with
  | none=>rw[hp]at hx;cases hx
  | some p =>
   rw[hp]at hx hu
   simp only[Option.map_some,zac]at hx hu
   subst hx hu
   exact VRs.nil.cons (.sc _)
 ·refine⟨fun k W=>W.heap[Bp]?=some (.cells #[.string ⟨#[c]⟩] E1 (0,0))/\W.heap[Bs]?=some (.cells #[.string ⟨(ZyL c s k).toArray⟩] E2 (0,0))/\W.heap[Bz]?=some (.cells #[.int .i64 0] E3 (0,0)),
   fun k W W' ⟨a1,a2,a3⟩ hb=>⟨(hb Bp ⟨ip,by simp,hBp⟩).trans a1,(hb Bs ⟨is,by simp,hBs⟩).trans a2,(hb Bz ⟨iz,by simp,hBz⟩).trans a3⟩,⟨w1,w2,w3⟩,?_⟩
  intro n l J Jx W _ hK0 qJ qx hM hY h0
  have:=Zz6 n l Bp Bs Bz c s hl J (fun k W=>W.heap[Bp]?=some (.cells #[.string ⟨#[c]⟩] E1 (0,0))/\W.heap[Bs]?=some (.cells #[.string ⟨(ZyL c s k).toArray⟩] E2 (0,0))/\W.heap[Bz]?=some (.cells #[.int .i64 0] E3 (0,0))) Jx qJ (fun k W q h=>h) qx
   (fun k W ⟨_,a2,_⟩=>⟨by simp[World.cell?,a2],by simp[World.frozen?,a2]⟩) (fun k W ⟨a1,_,_⟩=>by simp[World.cell?,a1]) (fun k W ⟨_,_,a3⟩=>by simp[World.cell?,a3])
   (fun k W hJ ⟨a1,a2,a3⟩=>by
    have hs:(W.setCell ⟨Bs,0,none⟩ (.string ⟨(ZyL c s (k+1)).toArray⟩)).heap[Bs]?=some (.cells #[.string ⟨(ZyL c s (k+1)).toArray⟩] E2 (0,0)):=by
     have hlt:=(zao.1 a2).1
     have hg:W.heap[Bs]=.cells #[.string ⟨(ZyL c s k).toArray⟩] E2 (0,0):=by
      rw[zam hlt]at a2;exact zbk a2
     simp[World.setCell,zbX,hlt,hg]
    have ho:∀b,b≠Bs->(W.setCell ⟨Bs,0,none⟩ (.string ⟨(ZyL c s (k+1)).toArray⟩)).heap[b]?=W.heap[b]?:=fun b hb=>Below.heap_setCell _ _ _ _ hb
    refine⟨hM (k+1) W _ hJ ⟨rfl,rfl,rfl,by simp,fun b hb=>ho b fun e=>hb ⟨is,by simp,by rw[e];exact hBs⟩,?_⟩,(ho Bp d1).trans a1,hs,(ho Bz d2).trans a3⟩
    rintro b ⟨id,hid,hb⟩ e
    simp only[zaq,List.mem_nil_iff,or_false]at hid
    rcases hid with rfl|rfl|rfl
    ·rw[hBp]at hb;injection hb with hb;subst hb;rw[a1]at e;cases e
    ·rw[hBs]at hb;injection hb with hb;subst hb;rw[a2]at e;cases e
    ·rw[hBz]at hb;injection hb with hb;subst hb;rw[a3]at e;cases e)
   (fun k W1 hJ hk hKk=>by
    have hu:((ZyA c s).map fun p=>(#[.string ⟨p.toArray⟩]:Array Value))[k]?=some #[.string ⟨(ZyS c (ZyL c s k)).1.toArray⟩]:=by rw[zba,ZGn c s hk];rfl
    obtain⟨fn,tmps,asg,bod,q1,q2⟩:=hY k _ W1 hJ hu hKk
    refine⟨fn,tmps,asg,bod,q1,q2.mono fun e W' h=>h.imp (fun⟨h1,h2,h3⟩=>⟨h1,h2,(h3 Bp ⟨ip,by simp,hBp⟩).trans hKk.1,(h3 Bs ⟨is,by simp,hBs⟩).trans hKk.2.1,(h3 Bz ⟨iz,by simp,hBz⟩).trans hKk.2.2⟩) fun h=>h⟩) W hK0 h0
  simpa using this
def itX (f:FuncId) (caps:List AV) (H:Zaa):Option (List Nat×List (List AV)):=match caps with
 | [.ptr ip 0,.ptr is 0,.ptr iz 0]=>bif Nat.beq f 154 then (match H.get ip,H.get is,H.get iz with
  | some (.cells [.sc (.string p)] _),some (.cells [.sc (.string s)] _),some (.cells [.sc (.int .i64 z)] _)=>(match p.data.toList with
   | [c]=>bif decide (z=0)&&(Nat.ble s.data.toList.length 1000000&&(!Nat.beq ip is&&!Nat.beq iz is)) then some ([ip,is,iz],(ZyA c s.data.toList).map fun p=>[eS p]) else none
   | _=>none)
  | _,_,_=>none) else none
 | _=>none
class ItOk (p:Program):Prop where
 ok:∀{f:FuncId} {caps:List AV} {H:Zaa} {ks:List Nat} {xs:List (List AV)},itX f caps H=some (ks,xs)->ItK p f caps ks xs H
instance itOk:ItOk Tryz.prog:=⟨fun {f caps H ks xs} h=>by
 unfold itX at h
 split at h
 ·rename_i ip is iz
  cases e:Nat.beq f 154 with
  | false=>rw[e]at h;cases h
  | true =>
  rw[e,cond_true]at h
  have e:=zaS e
  subst e
  split at h
  ·rename_i p E1 s E2 z E3 h1 h2 h3
   split at h
   ·rename_i c hc
    cases hd:(decide (z=0)&&(Nat.ble s.data.toList.length 1000000&&(!Nat.beq ip is&&!Nat.beq iz is)))with
    | false=>rw[hd]at h;cases h
    | true =>
    rw[hd,cond_true]at h
    simp only[zay,decide_eq_true_eq,zbu]at hd
    obtain⟨rfl,c1,c2,c3⟩:=hd
    simp only[zac,zaj]at h
    obtain⟨rfl,rfl⟩:=h
    have hp:p=⟨#[c]⟩:=by
     apply za3
     apply zaL
     rw[hc]
    have hs:s=⟨s.data.toList.toArray⟩:=by
     apply za3
     simp
    rw[hp]at h1
    rw[hs]at h2
    exact ZDP c s.data.toList E1 E2 E3 ip is iz H (zaa c1) h1 h2 h3 (fun e=>by subst e;simp at c2) (fun e=>by subst e;simp at c3)
   ·cases h
  ·cases h
 ·cases h⟩
end Go.Proofs.YtemmgefppobboaaGreatDoor
