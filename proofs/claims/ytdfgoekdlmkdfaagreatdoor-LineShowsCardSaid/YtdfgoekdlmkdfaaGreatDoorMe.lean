/- Texts of the walk. -/
import Derived.Test.YtdfgoekdlmkdfaaGreatDoorChecked
import Derived.Shelf.Strings.OnBuilder
import Derived.Shelf.Small.Strs
import Derived.Shelf.Strconv.Itoa4
import Derived.Shelf.Strconv.ErrVarParseInt
import Derived.Shelf.Strings.Count
import Derived.Test.YtdfgoekdlmkdfaaGreatDoorMc
import Derived.RangeFuncBox
import Derived.OwnWalkIn
import Derived.LoopNIn
import Derived.LoopIn
import Derived.Sort.QuietIn
namespace Go.Proofs.YtdfgoekdlmkdfaaGreatDoor
set_option linter.defProp false
set_option maxHeartbeats 64000000
set_option linter.unusedSimpArgs false
set_option linter.unusedVariables false
open Go.RowKit
abbrev Tx:=List UInt8
def ZyS (c:UInt8):Tx->Tx×Option Tx
 | []=>([],none)
 | x :: l=>if x=c then ([],some l) else (x :: (ZyS c l).1,(ZyS c l).2)
def ZyA (c:UInt8):Tx->List Tx
 | []=>[[]]
 | x :: l=>if x=c then [] :: ZyA c l else match ZyA c l with
  | p :: ps=>(x :: p) :: ps
  | []=>[[x]]
theorem Zzp (c:UInt8):∀l,ZyA c l≠[]
 | []=>by simp[ZyA]
 | x :: l=>by
  unfold ZyA
  split
  ·simp
  ·split<;>simp
theorem ZyM (c:UInt8):∀l,ZyA c l=(ZyS c l).1 :: (match (ZyS c l).2 with
  | some r=>ZyA c r
  | none=>[])
 | []=>rfl
 | x :: l=>by
  have ih:=ZyM c l
  rw[ZyA,ZyS]
  split
  ·rfl
  ·rw[ih]
theorem Zzb (c:UInt8):∀l,(ZyS c l).1.length+(match (ZyS c l).2 with
  | some r=>r.length+1
  | none=>0)=l.length
 | []=>rfl
 | x :: l=>by
  have ih:=Zzb c l
  unfold ZyS
  split
  ·simp
  ·simp only[List.length_cons]
   omega
theorem ZzW (c:UInt8):∀l,l=(ZyS c l).1++(match (ZyS c l).2 with
  | some r=>c :: r
  | none=>[])
 | []=>rfl
 | x :: l=>by
  have ih:=ZzW c l
  unfold ZyS
  split
  ·rename_i h;simp[h]
  ·simp only[List.cons_append,zbs,true_and]
   exact ih
theorem Zzm (c:UInt8):∀l,Lib.indexByte l c=match (ZyS c l).2 with
  | some _=>((ZyS c l).1.length:Int)
  | none => -1
 | []=>rfl
 | x :: l=>by
  have ih:=Zzm c l
  unfold Lib.indexByte ZyS
  by_cases h:x=c
  ·simp[h]
  ·have h2:(x == c)=false:=by simpa using h
   rw[h2,if_neg h]
   simp only[za7,if_false]
   rw[ih]
   cases hc:(ZyS c l).2 with
   | none=>simp
   | some r =>
    simp only[List.length_cons]
    have:(((ZyS c l).1.length:Int) == -1)=false:=Xc
    rw[this]
    simp
def ZyL (c:UInt8) (l:Tx):Nat->Tx
 | 0=>l
 | k+1=>match (ZyS c (ZyL c l k)).2 with
  | some r=>r
  | none=>[]
theorem Zy3 (c:UInt8) (l:Tx) (k:Nat):ZyL c l (k+1)=match (ZyS c (ZyL c l k)).2 with
 | some r=>r
 | none=>[]:=rfl
theorem Zy1 (c:UInt8) (l:Tx):∀k,k<(ZyA c l).length->(ZyA c l).drop k=ZyA c (ZyL c l k)
 | 0,_=>rfl
 | k+1,h=>by
  have ih:=Zy1 c l k Xa
  have h2:(ZyA c l).drop (k+1)=((ZyA c l).drop k).drop 1:=by rw[zbd]
  rw[h2,ih,ZyM]
  have h3:(ZyA c (ZyL c l k)).length=(ZyA c l).length - k:=by rw[<- ih,zaB]
  rw[ZyM]at h3
  rw[Zy3]
  cases hc:(ZyS c (ZyL c l k)).2 with
  | some r=>simp
  | none =>
   rw[hc]at h3
   simp at h3
   omega
theorem ZGn (c:UInt8) (l:Tx) {k:Nat} (h:k<(ZyA c l).length):(ZyA c l)[k]?=some (ZyS c (ZyL c l k)).1:=by
 have h2:(ZyA c l)[k]?=((ZyA c l).drop k)[0]?:=by rw[List.getElem?_drop];simp
 rw[h2,Zy1 c l k h,ZyM c (ZyL c l k)]
 rfl
theorem Zzo (c:UInt8) (l:Tx) {k:Nat} (h:k<(ZyA c l).length):((ZyS c (ZyL c l k)).2=none ↔ k+1=(ZyA c l).length):=by
 have:=Zy1 c l k h
 have hl:=congrArg List.length this
 rw[ZyM c (ZyL c l k),zaB]at hl
 cases hc:(ZyS c (ZyL c l k)).2 with
 | none =>
  rw[hc]at hl
  simp at hl
  simp
  omega
 | some r =>
  rw[hc]at hl
  have:=List.length_pos_iff.2 (Zzp c r)
  simp only[List.length_cons]at hl
  simp
  omega
theorem Zzx (c:UInt8) (l:Tx):∀k,(ZyL c l k).length+k<=l.length\/(ZyA c l).length<=k
 | 0=>.inl (by simp[ZyL])
 | k+1=>by
  rcases za9 (k+1) (ZyA c l).length with h|h
  ·left
   have hm:=Zzo c l (k:=k) Xa
   have hl:=Zzb c (ZyL c l k)
   rcases Zzx c l k with ih|ih
   ·rw[Zy3]
    cases hc:(ZyS c (ZyL c l k)).2 with
    | none=>exact absurd (hm.1 hc) Xa
    | some r =>
     rw[hc]at hl
     simp only at hl ⊢
     omega
   ·omega
  ·exact .inr h
def ZyJ (c:UInt8):Bool:=(decide (97<=c)&&decide (c<=122)) || (decide (48<=c)&&decide (c<=57)) || c == 95
def ZyB (l:Tx):Bool:=l.all ZyJ&&!l.isEmpty
def ZyR (n:UInt8):UInt8:=if n<10 then 48+n else 97+n - 10
def ZyH (l:Tx):Tx:=if ZyB l then l else 37 :: l.flatMap fun c=>[ZyR (c / 16),ZyR (c % 16)]
def ZyC (c:UInt8):UInt8:=if 48<=c/\c<=57 then c - 48 else if 97<=c/\c<=102 then c - 87 else 16
def unhex:Tx->Option Tx
 | a :: b :: l=>if ZyC a<16/\ZyC b<16 then (unhex l).map ((ZyC a * 16+ZyC b) :: ·) else none
 | _=>some []
def ZyG (w:Tx):Option Tx:=if ZyB w then some w else match w with
 | 37 :: l=>match unhex l with
  | some t=>if ZyH t=w then some t else none
  | none=>none
 | _=>none
open Go.Shelf
def ZyU:Go.Shelf.Ren:=⟨fun|156=>38|165=>78|166=>79|169=>80|240=>125|241=>126|276=>163|277=>164|n=>n,fun|31=>23|9=>9|3=>3|4=>4|0=>0|20=>20|72=>134|76=>138|70=>132|37=>105|75=>137|127=>184|164=>216|5=>5|80=>140|n=>n,fun|n=>n⟩
theorem Zz1:Go.Proofs.Lays.n156 Tryz.prog ZyU:={
 mixed:=by kernel_rfl
 f156:=Tryz.func38.trans (congrArg some Xg)
 f165:=Tryz.func78.trans (congrArg some Xg)
 f166:=Tryz.func79.trans (congrArg some Xg)
 f169:=Tryz.func80.trans (congrArg some Xg)
 f240:=Tryz.func125.trans (congrArg some Xg)
 f241:=Tryz.func126.trans (congrArg some Xg)
 f276:=Tryz.func163.trans (congrArg some Xg)
 f277:=Tryz.func164.trans (congrArg some Xg)
 t0:=Tryz.underlying0
 a0:=Tryz.isAgg0
 z0:=Tryz.sizeOf0
 v0:=Tryz.zeroValue0
 t3:=Tryz.underlying3
 a3:=Tryz.isAgg3
 z3:=Tryz.sizeOf3
 v3:=Tryz.zeroValue3
 t4:=Tryz.underlying4
 a4:=Tryz.isAgg4
 z4:=Tryz.sizeOf4
 v4:=Tryz.zeroValue4
 t9:=Tryz.underlying9
 a9:=Tryz.isAgg9
 z9:=Tryz.sizeOf9
 v9:=Tryz.zeroValue9
 t20:=Tryz.underlying20
 a20:=Tryz.isAgg20
 z20:=Tryz.sizeOf20
 v20:=Tryz.zeroValue20
 t31:=Tryz.underlying23
 a31:=Tryz.isAgg23
 z31:=Tryz.sizeOf23
 v31:=Tryz.zeroValue23
 t37:=Tryz.underlying105
 a37:=Tryz.isAgg105
 z37:=Tryz.sizeOf105
 v37:=Tryz.zeroValue105
 t70:=Tryz.underlying132
 a70:=Tryz.isAgg132
 z70:=Tryz.sizeOf132
 v70:=Tryz.zeroValue132
 t72:=Tryz.underlying134
 a72:=Tryz.isAgg134
 z72:=Tryz.sizeOf134
 v72:=Tryz.zeroValue134
 t75:=Tryz.underlying137
 a75:=Tryz.isAgg137
 z75:=Tryz.sizeOf137
 v75:=Tryz.zeroValue137
 t76:=Tryz.underlying138
 a76:=Tryz.isAgg138
 z76:=Tryz.sizeOf138
 v76:=Tryz.zeroValue138
 t127:=Tryz.underlying184
 a127:=Tryz.isAgg184
 z127:=Tryz.sizeOf184
 v127:=Tryz.zeroValue184
 t164:=Tryz.underlying216
 a164:=Tryz.isAgg216
 z164:=Tryz.sizeOf216
 v164:=Tryz.zeroValue216 }
theorem ZzF:Builder.Extra Tryz.prog ZyU:={
 sizeBuilder:=by kernel_rfl
 liesBuilder:=by kernel_rfl
 t5:=Tryz.underlying5
 a5:=Tryz.isAgg5
 z5:=Tryz.sizeOf5
 v5:=Tryz.zeroValue5
 infoByte:=by kernel_rfl
 cellsByte:=by kernel_rfl
 sizeByte:=by kernel_rfl
 neB5:=by decide }
def ZzB:Go.Shelf.Ren:=⟨fun|137=>102|217=>148|266=>185|n=>n,fun|9=>9|5=>5|3=>3|n=>n,fun|n=>n⟩
theorem lays137:Go.Proofs.Lays.n137 Tryz.prog ZzB:={
 mixed:=by kernel_rfl
 f137:=Tryz.func102.trans (congrArg some Xg)
 f217:=Tryz.func148.trans (congrArg some Xg)
 f266:=Tryz.func185.trans (congrArg some Xg)
 t3:=Tryz.underlying3
 a3:=Tryz.isAgg3
 z3:=Tryz.sizeOf3
 v3:=Tryz.zeroValue3
 t5:=Tryz.underlying5
 a5:=Tryz.isAgg5
 z5:=Tryz.sizeOf5
 v5:=Tryz.zeroValue5
 t9:=Tryz.underlying9
 a9:=Tryz.isAgg9
 z9:=Tryz.sizeOf9
 v9:=Tryz.zeroValue9 }
def ZAy:Go.Shelf.Ren:=⟨fun|171=>50|243=>94|246=>90|283=>133|284=>134|285=>135|286=>136|129=>172|317=>171|318=>173|319=>174|320=>175|337=>198|338=>199|n=>n,fun|3=>3|9=>9|2=>2|4=>4|171=>190|0=>0|53=>104|37=>105|5=>5|173=>193|212=>223|51=>224|20=>20|213=>225|46=>154|232=>254|233=>255|n=>n,fun|17=>0|18=>6|19=>7|n=>n⟩
theorem laysM171:Go.Proofs.LaysM.n171 Tryz.prog ZAy:={
 mixed:=by kernel_rfl
 f129:=Tryz.func172.trans (congrArg some Xg)
 f171:=Tryz.func50.trans (congrArg some Xg)
 f243:=Tryz.func94.trans (congrArg some Xg)
 f246:=Tryz.func90.trans (congrArg some Xg)
 f283:=Tryz.func133.trans (congrArg some Xg)
 f284:=Tryz.func134.trans (congrArg some Xg)
 f285:=Tryz.func135.trans (congrArg some Xg)
 f286:=Tryz.func136.trans (congrArg some Xg)
 f317:=Tryz.func171.trans (congrArg some Xg)
 f318:=Tryz.func173.trans (congrArg some Xg)
 f319:=Tryz.func174.trans (congrArg some Xg)
 f320:=Tryz.func175.trans (congrArg some Xg)
 f337:=Tryz.func198.trans (congrArg some Xg)
 f338:=Tryz.func199.trans (congrArg some Xg)
 t0:=Tryz.underlying0
 a0:=Tryz.isAgg0
 z0:=Tryz.sizeOf0
 v0:=Tryz.zeroValue0
 t2:=Tryz.underlying2
 a2:=Tryz.isAgg2
 z2:=Tryz.sizeOf2
 v2:=Tryz.zeroValue2
 t3:=Tryz.underlying3
 a3:=Tryz.isAgg3
 z3:=Tryz.sizeOf3
 v3:=Tryz.zeroValue3
 t4:=Tryz.underlying4
 a4:=Tryz.isAgg4
 z4:=Tryz.sizeOf4
 v4:=Tryz.zeroValue4
 t5:=Tryz.underlying5
 a5:=Tryz.isAgg5
 z5:=Tryz.sizeOf5
 v5:=Tryz.zeroValue5
 t9:=Tryz.underlying9
 a9:=Tryz.isAgg9
 z9:=Tryz.sizeOf9
 v9:=Tryz.zeroValue9
 t20:=Tryz.underlying20
 a20:=Tryz.isAgg20
 z20:=Tryz.sizeOf20
 v20:=Tryz.zeroValue20
 t37:=Tryz.underlying105
 a37:=Tryz.isAgg105
 z37:=Tryz.sizeOf105
 v37:=Tryz.zeroValue105
 t46:=Tryz.underlying154
 a46:=Tryz.isAgg154
 z46:=Tryz.sizeOf154
 v46:=Tryz.zeroValue154
 t51:=Tryz.underlying224
 a51:=Tryz.isAgg224
 z51:=Tryz.sizeOf224
 v51:=Tryz.zeroValue224
 t53:=Tryz.underlying104
 a53:=Tryz.isAgg104
 z53:=Tryz.sizeOf104
 v53:=Tryz.zeroValue104
 t171:=Tryz.underlying190
 a171:=Tryz.isAgg190
 z171:=Tryz.sizeOf190
 v171:=Tryz.zeroValue190
 t173:=Tryz.underlying193
 a173:=Tryz.isAgg193
 z173:=Tryz.sizeOf193
 v173:=Tryz.zeroValue193
 t212:=Tryz.underlying223
 a212:=Tryz.isAgg223
 z212:=Tryz.sizeOf223
 v212:=Tryz.zeroValue223
 t213:=Tryz.underlying225
 a213:=Tryz.isAgg225
 z213:=Tryz.sizeOf225
 t232:=Tryz.underlying254
 a232:=Tryz.isAgg254
 z232:=Tryz.sizeOf254
 v232:=Tryz.zeroValue254
 t233:=Tryz.underlying255
 a233:=Tryz.isAgg255
 z233:=Tryz.sizeOf255
 v233:=Tryz.zeroValue255
 g17:=by kernel_rfl
 g18:=by kernel_rfl
 g19:=by kernel_rfl
 i0:=by kernel_rfl
 i2:=by kernel_rfl
 i3:=by kernel_rfl
 i4:=by kernel_rfl
 i5:=by kernel_rfl
 i9:=by kernel_rfl
 i20:=by kernel_rfl
 i37:=by kernel_rfl
 i46:=by kernel_rfl
 i51:=by kernel_rfl
 i53:=by kernel_rfl
 i171:=by kernel_rfl
 i173:=by kernel_rfl
 i212:=by kernel_rfl
 i232:=by kernel_rfl
 i233:=by kernel_rfl
 m17:=by kernel_rfl
 m18:=by kernel_rfl
 m19:=by kernel_rfl }
def Zzg:Go.Shelf.Ren:=⟨fun|173=>45|246=>90|283=>133|284=>134|285=>135|286=>136|129=>172|317=>171|318=>173|319=>174|320=>175|337=>198|338=>199|n=>n,fun|2=>2|3=>3|9=>9|4=>4|171=>190|0=>0|53=>104|37=>105|5=>5|173=>193|212=>223|51=>224|20=>20|213=>225|46=>154|232=>254|233=>255|n=>n,fun|17=>0|18=>6|19=>7|n=>n⟩
theorem laysM173:Go.Proofs.LaysM.n173 Tryz.prog Zzg:={
 mixed:=by kernel_rfl
 f129:=Tryz.func172.trans (congrArg some Xg)
 f173:=Tryz.func45.trans (congrArg some Xg)
 f246:=Tryz.func90.trans (congrArg some Xg)
 f283:=Tryz.func133.trans (congrArg some Xg)
 f284:=Tryz.func134.trans (congrArg some Xg)
 f285:=Tryz.func135.trans (congrArg some Xg)
 f286:=Tryz.func136.trans (congrArg some Xg)
 f317:=Tryz.func171.trans (congrArg some Xg)
 f318:=Tryz.func173.trans (congrArg some Xg)
 f319:=Tryz.func174.trans (congrArg some Xg)
 f320:=Tryz.func175.trans (congrArg some Xg)
 f337:=Tryz.func198.trans (congrArg some Xg)
 f338:=Tryz.func199.trans (congrArg some Xg)
 t0:=Tryz.underlying0
 a0:=Tryz.isAgg0
 z0:=Tryz.sizeOf0
 v0:=Tryz.zeroValue0
 t2:=Tryz.underlying2
 a2:=Tryz.isAgg2
 z2:=Tryz.sizeOf2
 v2:=Tryz.zeroValue2
 t3:=Tryz.underlying3
 a3:=Tryz.isAgg3
 z3:=Tryz.sizeOf3
 v3:=Tryz.zeroValue3
 t4:=Tryz.underlying4
 a4:=Tryz.isAgg4
 z4:=Tryz.sizeOf4
 v4:=Tryz.zeroValue4
 t5:=Tryz.underlying5
 a5:=Tryz.isAgg5
 z5:=Tryz.sizeOf5
 v5:=Tryz.zeroValue5
 t9:=Tryz.underlying9
 a9:=Tryz.isAgg9
 z9:=Tryz.sizeOf9
 v9:=Tryz.zeroValue9
 t20:=Tryz.underlying20
 a20:=Tryz.isAgg20
 z20:=Tryz.sizeOf20
 v20:=Tryz.zeroValue20
 t37:=Tryz.underlying105
 a37:=Tryz.isAgg105
 z37:=Tryz.sizeOf105
 v37:=Tryz.zeroValue105
 t46:=Tryz.underlying154
 a46:=Tryz.isAgg154
 z46:=Tryz.sizeOf154
 v46:=Tryz.zeroValue154
 t51:=Tryz.underlying224
 a51:=Tryz.isAgg224
 z51:=Tryz.sizeOf224
 v51:=Tryz.zeroValue224
 t53:=Tryz.underlying104
 a53:=Tryz.isAgg104
 z53:=Tryz.sizeOf104
 v53:=Tryz.zeroValue104
 t171:=Tryz.underlying190
 a171:=Tryz.isAgg190
 z171:=Tryz.sizeOf190
 v171:=Tryz.zeroValue190
 t173:=Tryz.underlying193
 a173:=Tryz.isAgg193
 z173:=Tryz.sizeOf193
 v173:=Tryz.zeroValue193
 t212:=Tryz.underlying223
 a212:=Tryz.isAgg223
 z212:=Tryz.sizeOf223
 v212:=Tryz.zeroValue223
 t213:=Tryz.underlying225
 a213:=Tryz.isAgg225
 z213:=Tryz.sizeOf225
 t232:=Tryz.underlying254
 a232:=Tryz.isAgg254
 z232:=Tryz.sizeOf254
 v232:=Tryz.zeroValue254
 t233:=Tryz.underlying255
 a233:=Tryz.isAgg255
 z233:=Tryz.sizeOf255
 v233:=Tryz.zeroValue255
 g17:=by kernel_rfl
 g18:=by kernel_rfl
 g19:=by kernel_rfl
 i0:=by kernel_rfl
 i2:=by kernel_rfl
 i3:=by kernel_rfl
 i4:=by kernel_rfl
 i5:=by kernel_rfl
 i9:=by kernel_rfl
 i20:=by kernel_rfl
 i37:=by kernel_rfl
 i46:=by kernel_rfl
 i51:=by kernel_rfl
 i53:=by kernel_rfl
 i171:=by kernel_rfl
 i173:=by kernel_rfl
 i212:=by kernel_rfl
 i232:=by kernel_rfl
 i233:=by kernel_rfl
 m17:=by kernel_rfl
 m18:=by kernel_rfl
 m19:=by kernel_rfl }
def Zzq:Go.Shelf.Ren:=⟨fun|174=>100|247=>146|245=>147|287=>180|279=>181|280=>182|281=>183|282=>184|321=>201|322=>202|316=>203|171=>50|205=>204|243=>94|246=>90|283=>133|284=>134|285=>135|286=>136|129=>172|317=>171|318=>173|319=>174|320=>175|337=>198|338=>199|n=>n,fun|9=>9|3=>3|2=>2|75=>137|85=>157|4=>4|167=>228|5=>5|53=>104|175=>229|46=>154|168=>231|37=>105|0=>0|210=>251|21=>21|127=>184|145=>258|143=>256|171=>190|173=>193|212=>223|51=>224|20=>20|213=>225|232=>254|233=>255|80=>140|n=>n,fun|15=>4|16=>5|17=>0|18=>6|19=>7|n=>n⟩
theorem ZDY:Go.Proofs.LaysC.n174 Tryz.prog Zzq:={
 mixed:=by kernel_rfl
 f129:=Tryz.func172.trans (congrArg some Xg)
 f171:=Tryz.func50.trans (congrArg some Xg)
 f174:=Tryz.func100.trans (congrArg some Xg)
 f205:=Tryz.func204.trans (congrArg some Xg)
 f243:=Tryz.func94.trans (congrArg some Xg)
 f245:=Tryz.func147.trans (congrArg some Xg)
 f246:=Tryz.func90.trans (congrArg some Xg)
 f247:=Tryz.func146.trans (congrArg some Xg)
 f279:=Tryz.func181.trans (congrArg some Xg)
 f280:=Tryz.func182.trans (congrArg some Xg)
 f281:=Tryz.func183.trans (congrArg some Xg)
 f282:=Tryz.func184.trans (congrArg some Xg)
 f283:=Tryz.func133.trans (congrArg some Xg)
 f284:=Tryz.func134.trans (congrArg some Xg)
 f285:=Tryz.func135.trans (congrArg some Xg)
 f286:=Tryz.func136.trans (congrArg some Xg)
 f287:=Tryz.func180.trans (congrArg some Xg)
 f316:=Tryz.func203.trans (congrArg some Xg)
 f317:=Tryz.func171.trans (congrArg some Xg)
 f318:=Tryz.func173.trans (congrArg some Xg)
 f319:=Tryz.func174.trans (congrArg some Xg)
 f320:=Tryz.func175.trans (congrArg some Xg)
 f321:=Tryz.func201.trans (congrArg some Xg)
 f322:=Tryz.func202.trans (congrArg some Xg)
 f337:=Tryz.func198.trans (congrArg some Xg)
 f338:=Tryz.func199.trans (congrArg some Xg)
 t0:=Tryz.underlying0
 a0:=Tryz.isAgg0
 z0:=Tryz.sizeOf0
 v0:=Tryz.zeroValue0
 t2:=Tryz.underlying2
 a2:=Tryz.isAgg2
 z2:=Tryz.sizeOf2
 v2:=Tryz.zeroValue2
 t3:=Tryz.underlying3
 a3:=Tryz.isAgg3
 z3:=Tryz.sizeOf3
 v3:=Tryz.zeroValue3
 t4:=Tryz.underlying4
 a4:=Tryz.isAgg4
 z4:=Tryz.sizeOf4
 v4:=Tryz.zeroValue4
 t5:=Tryz.underlying5
 a5:=Tryz.isAgg5
 z5:=Tryz.sizeOf5
 v5:=Tryz.zeroValue5
 t9:=Tryz.underlying9
 a9:=Tryz.isAgg9
 z9:=Tryz.sizeOf9
 v9:=Tryz.zeroValue9
 t20:=Tryz.underlying20
 a20:=Tryz.isAgg20
 z20:=Tryz.sizeOf20
 v20:=Tryz.zeroValue20
 t21:=Tryz.underlying21
 a21:=Tryz.isAgg21
 z21:=Tryz.sizeOf21
 v21:=Tryz.zeroValue21
 t37:=Tryz.underlying105
 a37:=Tryz.isAgg105
 z37:=Tryz.sizeOf105
 v37:=Tryz.zeroValue105
 t46:=Tryz.underlying154
 a46:=Tryz.isAgg154
 z46:=Tryz.sizeOf154
 v46:=Tryz.zeroValue154
 t51:=Tryz.underlying224
 a51:=Tryz.isAgg224
 z51:=Tryz.sizeOf224
 v51:=Tryz.zeroValue224
 t53:=Tryz.underlying104
 a53:=Tryz.isAgg104
 z53:=Tryz.sizeOf104
 v53:=Tryz.zeroValue104
 t75:=Tryz.underlying137
 a75:=Tryz.isAgg137
 z75:=Tryz.sizeOf137
 v75:=Tryz.zeroValue137
 t85:=Tryz.underlying157
 a85:=Tryz.isAgg157
 z85:=Tryz.sizeOf157
 v85:=Tryz.zeroValue157
 t127:=Tryz.underlying184
 a127:=Tryz.isAgg184
 z127:=Tryz.sizeOf184
 v127:=Tryz.zeroValue184
 t143:=Tryz.underlying256
 a143:=Tryz.isAgg256
 z143:=Tryz.sizeOf256
 v143:=Tryz.zeroValue256
 t145:=Tryz.underlying258
 a145:=Tryz.isAgg258
 z145:=Tryz.sizeOf258
 v145:=Tryz.zeroValue258
 t167:=Tryz.underlying228
 a167:=Tryz.isAgg228
 z167:=Tryz.sizeOf228
 v167:=Tryz.zeroValue228
 t168:=Tryz.underlying231
 a168:=Tryz.isAgg231
 z168:=Tryz.sizeOf231
 v168:=Tryz.zeroValue231
 t171:=Tryz.underlying190
 a171:=Tryz.isAgg190
 z171:=Tryz.sizeOf190
 v171:=Tryz.zeroValue190
 t173:=Tryz.underlying193
 a173:=Tryz.isAgg193
 z173:=Tryz.sizeOf193
 v173:=Tryz.zeroValue193
 t175:=Tryz.underlying229
 a175:=Tryz.isAgg229
 z175:=Tryz.sizeOf229
 v175:=Tryz.zeroValue229
 t210:=Tryz.underlying251
 a210:=Tryz.isAgg251
 z210:=Tryz.sizeOf251
 v210:=Tryz.zeroValue251
 t212:=Tryz.underlying223
 a212:=Tryz.isAgg223
 z212:=Tryz.sizeOf223
 v212:=Tryz.zeroValue223
 t213:=Tryz.underlying225
 a213:=Tryz.isAgg225
 z213:=Tryz.sizeOf225
 t232:=Tryz.underlying254
 a232:=Tryz.isAgg254
 z232:=Tryz.sizeOf254
 v232:=Tryz.zeroValue254
 t233:=Tryz.underlying255
 a233:=Tryz.isAgg255
 z233:=Tryz.sizeOf255
 v233:=Tryz.zeroValue255
 g15:=by kernel_rfl
 g16:=by kernel_rfl
 g17:=by kernel_rfl
 g18:=by kernel_rfl
 g19:=by kernel_rfl
 t80:=Tryz.underlying140
 a80:=Tryz.isAgg140
 z80:=Tryz.sizeOf140
 v80:=Tryz.zeroValue140
 i0:=by kernel_rfl
 i2:=by kernel_rfl
 i3:=by kernel_rfl
 i4:=by kernel_rfl
 i5:=by kernel_rfl
 i9:=by kernel_rfl
 i20:=by kernel_rfl
 i21:=by kernel_rfl
 i37:=by kernel_rfl
 i46:=by kernel_rfl
 i51:=by kernel_rfl
 i53:=by kernel_rfl
 i75:=by kernel_rfl
 i80:=by kernel_rfl
 i85:=by kernel_rfl
 i127:=by kernel_rfl
 i143:=by kernel_rfl
 i145:=by kernel_rfl
 i167:=by kernel_rfl
 i168:=by kernel_rfl
 i171:=by kernel_rfl
 i173:=by kernel_rfl
 i175:=by kernel_rfl
 i210:=by kernel_rfl
 i212:=by kernel_rfl
 i232:=by kernel_rfl
 i233:=by kernel_rfl
 m15:=by kernel_rfl
 m16:=by kernel_rfl
 m17:=by kernel_rfl
 m18:=by kernel_rfl
 m19:=by kernel_rfl
 c0:=by kernel_rfl
 c2:=by kernel_rfl
 c3:=by kernel_rfl
 c4:=by kernel_rfl
 c5:=by kernel_rfl
 c9:=by kernel_rfl
 c20:=by kernel_rfl
 c21:=by kernel_rfl
 c37:=by kernel_rfl
 c46:=by kernel_rfl
 c51:=by kernel_rfl
 c53:=by kernel_rfl
 c75:=by kernel_rfl
 c80:=by kernel_rfl
 c85:=by kernel_rfl
 c127:=by kernel_rfl
 c143:=by kernel_rfl
 c145:=by kernel_rfl
 c167:=by kernel_rfl
 c168:=by kernel_rfl
 c171:=by kernel_rfl
 c173:=by kernel_rfl
 c175:=by kernel_rfl
 c210:=by kernel_rfl
 c212:=by kernel_rfl
 c213:=by kernel_rfl
 c232:=by kernel_rfl
 c233:=by kernel_rfl }
def ZzA:Go.Shelf.Ren:=⟨fun|219=>145|217=>148|225=>177|224=>178|267=>179|266=>185|314=>200|n=>n,fun|9=>9|3=>3|4=>4|5=>5|46=>154|146=>248|51=>224|n=>n,fun|1=>1|n=>n⟩
theorem lays219:Go.Proofs.Lays.n219 Tryz.prog ZzA:={
 mixed:=by kernel_rfl
 f217:=Tryz.func148.trans (congrArg some Xg)
 f219:=Tryz.func145.trans (congrArg some Xg)
 f224:=Tryz.func178.trans (congrArg some Xg)
 f225:=Tryz.func177.trans (congrArg some Xg)
 f266:=Tryz.func185.trans (congrArg some Xg)
 f267:=Tryz.func179.trans (congrArg some Xg)
 f314:=Tryz.func200.trans (congrArg some Xg)
 t3:=Tryz.underlying3
 a3:=Tryz.isAgg3
 z3:=Tryz.sizeOf3
 v3:=Tryz.zeroValue3
 t4:=Tryz.underlying4
 a4:=Tryz.isAgg4
 z4:=Tryz.sizeOf4
 v4:=Tryz.zeroValue4
 t5:=Tryz.underlying5
 a5:=Tryz.isAgg5
 z5:=Tryz.sizeOf5
 v5:=Tryz.zeroValue5
 t9:=Tryz.underlying9
 a9:=Tryz.isAgg9
 z9:=Tryz.sizeOf9
 v9:=Tryz.zeroValue9
 t46:=Tryz.underlying154
 a46:=Tryz.isAgg154
 z46:=Tryz.sizeOf154
 v46:=Tryz.zeroValue154
 t51:=Tryz.underlying224
 a51:=Tryz.isAgg224
 z51:=Tryz.sizeOf224
 v51:=Tryz.zeroValue224
 t146:=Tryz.underlying248
 a146:=Tryz.isAgg248
 z146:=Tryz.sizeOf248
 v146:=Tryz.zeroValue248
 g1:=by kernel_rfl }
def Zzv:Go.Shelf.Ren:=⟨fun|143=>99|219=>145|217=>148|225=>177|224=>178|267=>179|266=>185|314=>200|n=>n,fun|9=>9|3=>3|4=>4|5=>5|46=>154|146=>248|51=>224|n=>n,fun|1=>1|n=>n⟩
theorem Zz3:Go.Proofs.Lays.n143 Tryz.prog Zzv:={
 mixed:=by kernel_rfl
 f143:=Tryz.func99.trans (congrArg some Xg)
 f217:=Tryz.func148.trans (congrArg some Xg)
 f219:=Tryz.func145.trans (congrArg some Xg)
 f224:=Tryz.func178.trans (congrArg some Xg)
 f225:=Tryz.func177.trans (congrArg some Xg)
 f266:=Tryz.func185.trans (congrArg some Xg)
 f267:=Tryz.func179.trans (congrArg some Xg)
 f314:=Tryz.func200.trans (congrArg some Xg)
 t3:=Tryz.underlying3
 a3:=Tryz.isAgg3
 z3:=Tryz.sizeOf3
 v3:=Tryz.zeroValue3
 t4:=Tryz.underlying4
 a4:=Tryz.isAgg4
 z4:=Tryz.sizeOf4
 v4:=Tryz.zeroValue4
 t5:=Tryz.underlying5
 a5:=Tryz.isAgg5
 z5:=Tryz.sizeOf5
 v5:=Tryz.zeroValue5
 t9:=Tryz.underlying9
 a9:=Tryz.isAgg9
 z9:=Tryz.sizeOf9
 v9:=Tryz.zeroValue9
 t46:=Tryz.underlying154
 a46:=Tryz.isAgg154
 z46:=Tryz.sizeOf154
 v46:=Tryz.zeroValue154
 t51:=Tryz.underlying224
 a51:=Tryz.isAgg224
 z51:=Tryz.sizeOf224
 v51:=Tryz.zeroValue224
 t146:=Tryz.underlying248
 a146:=Tryz.isAgg248
 z146:=Tryz.sizeOf248
 v146:=Tryz.zeroValue248
 g1:=by kernel_rfl }
def Zzy:Go.Shelf.Ren:=⟨fun|138=>98|195=>142|218=>144|143=>99|219=>145|217=>148|225=>177|224=>178|267=>179|266=>185|314=>200|n=>n,fun|9=>9|3=>3|4=>4|5=>5|0=>0|46=>154|146=>248|51=>224|n=>n,fun|1=>1|n=>n⟩
theorem lays138:Go.Proofs.Lays.n138 Tryz.prog Zzy:={
 mixed:=by kernel_rfl
 f138:=Tryz.func98.trans (congrArg some Xg)
 f143:=Tryz.func99.trans (congrArg some Xg)
 f195:=Tryz.func142.trans (congrArg some Xg)
 f217:=Tryz.func148.trans (congrArg some Xg)
 f218:=Tryz.func144.trans (congrArg some Xg)
 f219:=Tryz.func145.trans (congrArg some Xg)
 f224:=Tryz.func178.trans (congrArg some Xg)
 f225:=Tryz.func177.trans (congrArg some Xg)
 f266:=Tryz.func185.trans (congrArg some Xg)
 f267:=Tryz.func179.trans (congrArg some Xg)
 f314:=Tryz.func200.trans (congrArg some Xg)
 t0:=Tryz.underlying0
 a0:=Tryz.isAgg0
 z0:=Tryz.sizeOf0
 v0:=Tryz.zeroValue0
 t3:=Tryz.underlying3
 a3:=Tryz.isAgg3
 z3:=Tryz.sizeOf3
 v3:=Tryz.zeroValue3
 t4:=Tryz.underlying4
 a4:=Tryz.isAgg4
 z4:=Tryz.sizeOf4
 v4:=Tryz.zeroValue4
 t5:=Tryz.underlying5
 a5:=Tryz.isAgg5
 z5:=Tryz.sizeOf5
 v5:=Tryz.zeroValue5
 t9:=Tryz.underlying9
 a9:=Tryz.isAgg9
 z9:=Tryz.sizeOf9
 v9:=Tryz.zeroValue9
 t46:=Tryz.underlying154
 a46:=Tryz.isAgg154
 z46:=Tryz.sizeOf154
 v46:=Tryz.zeroValue154
 t51:=Tryz.underlying224
 a51:=Tryz.isAgg224
 z51:=Tryz.sizeOf224
 v51:=Tryz.zeroValue224
 t146:=Tryz.underlying248
 a146:=Tryz.isAgg248
 z146:=Tryz.sizeOf248
 v146:=Tryz.zeroValue248
 g1:=by kernel_rfl }
open Go.RowKit Go.Lib
abbrev eS (l:Tx):AV:=.sc (.string ⟨l.toArray⟩)
theorem ok_ibyte:Zmq Tryz.prog 102:=⟨_,Tryz.func102,Xg,Xg⟩
theorem ok_index:Zmq Tryz.prog 99:=⟨_,Tryz.func99,Xg,Xg⟩
theorem ZzK:Zmq Tryz.prog 145:=⟨_,Tryz.func145,Xg,Xg⟩
theorem ok_count:Zmq Tryz.prog 98:=⟨_,Tryz.func98,Xg,Xg⟩
theorem Zy9 (s:ByteArray) (c:Int) (H:Zaa):Zay Tryz.prog 102 [.sc (.string s),.sc (.int .u8 c)] H (fun r H'=>r=.i (indexByte s.data.toList c.toNat.toUInt8)/\H'=H):=by
 refine⟨ok_ibyte,fun g w vs hW hV hEn=>?_⟩
 obtain⟨v0,v1,rfl⟩:∃v0 v1,vs=[v0,v1]:=by
  match vs,hV.1 with
  | [v0,v1],_=>exact⟨v0,v1,rfl⟩
 have h1:=hV.2 0 _ _ rfl rfl
 have h2:=hV.2 1 _ _ rfl rfl
 cases h1
 cases h2
 refine(Any.strings_IndexByte lays137 s c w).mono fun e w' ⟨he,hb⟩=>?_
 subst hb
 exact .inl ⟨_,_,_,g,he,⟨rfl,rfl⟩,.sc _,hW,.refl _ _ _⟩
theorem ZzL (s:ByteArray) (c:UInt8) (H:Zaa):Zay Tryz.prog 99 [.sc (.string s),.sc (.string ⟨#[c]⟩)] H (fun r H'=>r=.i (indexByte s.data.toList c)/\H'=H):=by
 refine⟨ok_index,fun g w vs hW hV hEn=>?_⟩
 obtain⟨v0,v1,rfl⟩:∃v0 v1,vs=[v0,v1]:=by
  match vs,hV.1 with
  | [v0,v1],_=>exact⟨v0,v1,rfl⟩
 have h1:=hV.2 0 _ _ rfl rfl
 have h2:=hV.2 1 _ _ rfl rfl
 cases h1
 cases h2
 refine(Any.strings_Index_one Zz3 s c w).mono fun e w' ⟨he,hb⟩=>?_
 subst hb
 exact .inl ⟨_,_,_,g,he,⟨rfl,rfl⟩,.sc _,hW,.refl _ _ _⟩
theorem Zzs (s:ByteArray) (c:UInt8) (H:Zaa):Zay Tryz.prog 145 [.sc (.string s),.sc (.string ⟨#[c]⟩)] H (fun r H'=>r=.i (indexByte s.data.toList c)/\H'=H):=by
 refine⟨ZzK,fun g w vs hW hV hEn=>?_⟩
 obtain⟨v0,v1,rfl⟩:∃v0 v1,vs=[v0,v1]:=by
  match vs,hV.1 with
  | [v0,v1],_=>exact⟨v0,v1,rfl⟩
 have h1:=hV.2 0 _ _ rfl rfl
 have h2:=hV.2 1 _ _ rfl rfl
 cases h1
 cases h2
 refine(Any.stringslite_Index_one lays219 s c w).mono fun e w' ⟨he,hb⟩=>?_
 subst hb
 exact .inl ⟨_,_,_,g,he,⟨rfl,rfl⟩,.sc _,hW,.refl _ _ _⟩
theorem ZzO (s:ByteArray) (c:UInt8) (H:Zaa):Zay Tryz.prog 98 [.sc (.string s),.sc (.string ⟨#[c]⟩)] H (fun r H'=>r=.i (countByte s.data.toList c:Nat)/\H'=H):=by
 refine⟨ok_count,fun g w vs hW hV hEn=>?_⟩
 obtain⟨v0,v1,rfl⟩:∃v0 v1,vs=[v0,v1]:=by
  match vs,hV.1 with
  | [v0,v1],_=>exact⟨v0,v1,rfl⟩
 have h1:=hV.2 0 _ _ rfl rfl
 have h2:=hV.2 1 _ _ rfl rfl
 cases h1
 cases h2
 refine(Any.strings_Count_one lays138 s c w).mono fun e w' ⟨he,hb⟩=>?_
 subst hb
 exact .inl ⟨_,_,_,g,he,⟨rfl,rfl⟩,.sc _,hW,.refl _ _ _⟩
theorem Same.pure {H:Zaa} {v:AV} {f:FuncId} {args:List AV} (h:Zay Tryz.prog f args H (fun r H'=>r=v/\H'=H)):Zay Tryz.prog f args H (Pure H v):=h.mono fun r H' ⟨h1,h2⟩=>⟨h1,0,h2⟩
open Go.RowKit Go.Shelf
attribute [local go_sem] Oper.semAt_some
theorem size_mk (l:Tx):(ByteArray.mk l.toArray).size=l.length:=by simp[ByteArray.size]
theorem ZzN (s:Tx) (c:UInt8) (n:Nat) (w:World):CallsIn Fence.wide n Tryz.prog 99 #[.string ⟨s.toArray⟩,.string ⟨#[c]⟩] w fun e w'=>e=.returned (.int .i64 (Lib.indexByte s c))/\w'=w :=
 callsIn_wide.2 (Any.strings_Index_one Zz3 ⟨s.toArray⟩ c w)
theorem cut_ext (p:Tx) (c:UInt8) (r:Tx):(ByteArray.mk (p++c :: r).toArray).extract 0 p.length=⟨p.toArray⟩:=by
 apply zbi
 apply zaO
 simp[za6]
theorem cut_ext2 (p:Tx) (c:UInt8) (r:Tx):(ByteArray.mk (p++c :: r).toArray).extract (p.length+1) (p++c :: r).length=⟨r.toArray⟩:=by
 apply zbi
 apply zaO
 simp only[za6,zbC,zaa,List.length_cons]
 rw[List.extract_eq_take_drop,show p.length+(r.length+1) - (p.length+1)=r.length by omega]
 simp
def ZzX (B:Nat) (w:World):Nat:=match w.cell? ⟨B,0,none⟩with
 | some (.string t)=>t.size
 | _=>0
set_option maxRecDepth 100000 in
theorem Zz6 (n l Bp Bs Bz:Nat) (c:UInt8) (s:Tx) (hlen:s.length<=1000000) (J K:Nat->World->Prop) (Jx:World->Prop) (qJ:∀k W q,J k W->J k (W.drewN q)) (qK:∀k W q,K k W->K k (W.drewN q)) (qx:∀W q,Jx W->Jx (W.drewN q))
  (hK1:∀k W,K k W->W.cell? ⟨Bs,0,none⟩=some (.string ⟨(ZyL c s k).toArray⟩)/\W.frozen? ⟨Bs,0,none⟩=false) (hK2:∀k W,K k W->W.cell? ⟨Bp,0,none⟩=some (.string ⟨#[c]⟩)) (hK3:∀k W,K k W->W.cell? ⟨Bz,0,none⟩=some (.int .i64 0))
  (hS:∀k W,J (k+1) W->K k W->J (k+1) (W.setCell ⟨Bs,0,none⟩ (.string ⟨(ZyL c s (k+1)).toArray⟩))/\K (k+1) (W.setCell ⟨Bs,0,none⟩ (.string ⟨(ZyL c s (k+1)).toArray⟩)))
  (hY:∀k W1,J k W1->k<(ZyA c s).length->K k W1->YieldAt Fence.wide n Tryz.prog l #[.string ⟨(ZyS c (ZyL c s k)).1.toArray⟩] W1 fun e W' =>
    (e=.returned (.bool true)/\J (k+1) W'/\K k W')\/(e=.returned (.bool false)/\Jx W'))
  (W:World) (hKW:K 0 W) (h0:J 0 W) :
  CallsIn Fence.wide (n+1) Tryz.prog 191 #[.func (.yield l) #[] #[],.pointer (some ⟨Bp,0,none⟩),.pointer (some ⟨Bs,0,none⟩),.pointer (some ⟨Bz,0,none⟩)] W fun e W'=>(∃v,e=.returned v)/\(J (ZyA c s).length W'\/Jx W'):=by
 have hB1:=(hK1 _ W hKW).1
 have hB2:=hK2 _ W hKW
 have hB3:=hK3 _ W hKW
 have hpos:=List.length_pos_iff.2 (Zzp c s)
 refine callsIn_of_wp Tryz.func191 rfl trivial ?_ rfl
 simp only[Tryz.ntmps191,zaP,List.length_cons,List.length_nil,Nat.reduceAdd,Nat.reduceSub,zbY,Array.replicate_zero,zb6,zb0,List.nil_append,List.cons_append]
 gi_wp2
 gi_loopw [7] (fun i wr=>∃k:Nat,k<(ZyA c s).length/\J k wr/\K k wr)
  (fun i wr=>ZzX Bs wr)
 case atStart=>exact⟨0,hpos,h0,hKW⟩
 case round =>
  obtain⟨k,hk,hJ,hKk⟩:=hrel
  obtain⟨hc1,hz1⟩:=hK1 k wr hKk
  have hc2:=hK2 k wr hKk
  have hc3:=hK3 k wr hKk
  have hI:=ZzN (ZyL c s k) c n wr
  have hix:=Zzm c (ZyL c s k)
  have hcl:=Zzb c (ZyL c s k)
  have hce:=ZzW c (ZyL c s k)
  have hmo:=Zzo c s hk
  have hY1:=hY k wr hJ hk hKk
  have hsu:=Zy3 c s k
  cases hcut:(ZyS c (ZyL c s k)).2 with
  | none =>
   rw[hcut]at hix hcl hce
   simp only at hix hcl hce
   rw[hix]at hI
   have hp:(ZyS c (ZyL c s k)).1=ZyL c s k:=by simpa using hce.symm
   rw[hp]at hY1
   have hfin:k+1=(ZyA c s).length:=hmo.1 hcut
   clear hp hce hcl hix hsu hmo hcut
   generalize ZyL c s k=t at hc1 hI hY1
   obtain⟨fn,tmps,assign,body,hy,hR⟩:=hY1
   gi_wp2_with (refine⟨trivial,?_⟩;gi_at_call 99;refine hI.mono ?_;rintro e w' ⟨rfl,rfl⟩)
   refine hR.mono ?_
   rintro e W3 (⟨rfl,hJ3,hKb3⟩|⟨rfl,hJx3⟩)
   ·gi_wp2
    go_end0
    exact⟨⟨_,rfl⟩,.inl (by rw[<- hfin];exact hJ3)⟩
   ·gi_wp2
    go_end0
    exact⟨⟨_,rfl⟩,.inr hJx3⟩
  | some r =>
   rw[hcut]at hix hcl hce hsu
   simp only at hix hcl hce hsu
   rw[hix]at hI
   have hle:(ZyS c (ZyL c s k)).1.length<=1000000:=by
    rcases Zzx c s k with h|h<;>omega
   have hmore:k+1<(ZyA c s).length:=by
    rcases za9 (k+1) (ZyA c s).length with h|h
    ·exact h
    ·have:=hmo.2 Xa
     rw[hcut]at this;cases this
   have hS1:=fun W=>hS k W
   rw[hsu]at hS1
   have hme:(ZyL c s k).length=(ZyS c (ZyL c s k)).1.length+(r.length+1):=hcl.symm
   have hty:ZyL c s k=(ZyS c (ZyL c s k)).1++c :: r:=hce
   clear hce hcl hix hsu hmo hcut
   have hlt:(ZyL c s k).length<=1000000:=by
    rcases Zzx c s k with h|h<;>omega
   generalize ht:ZyL c s k=t at hc1 hI hY1 hme hty hle hlt
   generalize (ZyS c t).1=p at hI hY1 hme hty hle
   subst hty
   clear hme
   have hl3:(p++c :: r).length=p.length+(r.length+1):=Xc
   rw[hl3]at hlt
   rw[<- cut_ext p c r]at hY1
   obtain⟨fn,tmps,assign,body,hy,hR⟩:=hY1
   gi_wp2_with (refine⟨trivial,?_⟩;gi_at_call 99;refine hI.mono ?_;rintro e w' ⟨rfl,rfl⟩)
   refine hR.mono ?_
   rintro e W3 (⟨rfl,hJ3,hKb3⟩|⟨rfl,hJx3⟩)
   ·obtain⟨k1,z1⟩:=hK1 _ _ hKb3
    have k2:=hK2 _ _ hKb3
    rw[ht]at k1
    obtain⟨j1,j2⟩:=hS1 _ hJ3 hKb3
    gi_wp2
    have hx2:=cut_ext2 p c r
    rw[hl3]at hx2
    rw[hx2]
    refine⟨⟨k+1,hmore,j1,j2⟩,?_⟩
    have e1:ZzX Bs w'=p.length+(r.length+1):=by unfold ZzX;rw[hc1];simp only[size_mk];exact hl3
    have e2:ZzX Bs (W3.setCell ⟨Bs,0,none⟩ (.string ⟨r.toArray⟩))=r.length:=by unfold ZzX;rw[World.cell?_setCell_same _ _ _ k1];exact size_mk r
    rw[e1,e2]
    omega
   ·gi_wp2
    refine bodyPost_ret (results_none rfl _ _ _) rfl ?_
    exact⟨⟨_,rfl⟩,.inr hJx3⟩
theorem Zzk:Zmq Tryz.prog 191:=⟨_,Tryz.func191,Xg,Xg⟩
theorem Zy2 {g:Gh} {H:Zaa} {w:World} (hW:WR g H w) {id:Nat} {v:Value} {E:TypeId} (h:H.get id=some (.cells [.sc v] E)) {b:Nat} (hb:g.ι id=some b):w.heap[b]?=some (.cells #[v] E (0,0)):=by
 obtain⟨b',carr,a1,a2,a3,_,_⟩:=hW.obj id _ h
 obtain rfl:b'=b:=by rw[hb]at a1;injection a1 with a1;exact a1.symm
 obtain⟨c0,hc0⟩:∃c,carr.toList=[c]:=by
  match carr.toList,a3.1 with
  | [c],_=>exact⟨c,rfl⟩
 rw[hc0]at a3
 have r0:=a3.2 0 _ _ rfl rfl
 cases r0
 have:carr=#[v]:=by apply zaO;simpa using hc0
 rw[a2,this]
theorem ZDP (c:UInt8) (s:Tx) (E1 E2 E3:TypeId) (ip is iz:Nat) (H:Zaa) (hl:s.length<=1000000) (h1:H.get ip=some (.cells [.sc (.string ⟨#[c]⟩)] E1)) (h2:H.get is=some (.cells [eS s] E2)) (h3:H.get iz=some (.cells [.i 0] E3)) (n1:ip≠is) (n2:iz≠is) :
  ItK Tryz.prog 191 [.ptr ip 0,.ptr is 0,.ptr iz 0] [ip,is,iz] ((ZyA c s).map fun p=>[eS p]) H:=by
 refine⟨Zzk,fun g w vs hW hV=>?_⟩
 obtain⟨v0,v1,v2,rfl⟩:∃v0 v1 v2,vs=[v0,v1,v2]:=by
  match vs,hV.1 with
  | [v0,v1,v2],_=>exact⟨v0,v1,v2,rfl⟩
 have q0:=hV.2 0 _ _ rfl rfl
 have q1:=hV.2 1 _ _ rfl rfl
 have q2:=hV.2 2 _ _ rfl rfl
 cases q0 with
 | ptr _ _ Bp hBp =>
 cases q1 with
 | ptr _ _ Bs hBs =>
 cases q2 with
 | ptr _ _ Bz hBz =>
 have w1:=Zy2 hW h1 hBp
 have w2:=Zy2 hW h2 hBs
 have w3:=Zy2 hW h3 hBz
 have d1:Bp≠Bs:=fun e=>n1 (hW.inj ip is _ _ Bp h1 h2 hBp (by rw[e];exact hBs))
 have d2:Bz≠Bs:=fun e=>n2 (hW.inj iz is _ _ Bz h3 h2 hBz (by rw[e];exact hBs))
 refine⟨(ZyA c s).map fun p=>#[.string ⟨p.toArray⟩],Xc,fun k x u hx hu=>?_,?_⟩
 ·rw[List.getElem?_map]at hx hu
  cases hp:(ZyA c s)[k]? with
  | none=>rw[hp]at hx;cases hx
  | some p =>
   rw[hp]at hx hu
   simp only[Option.map_some,zab]at hx hu
   subst hx hu
   exact VRs.nil.cons (.sc _)
 ·refine⟨fun k W=>W.heap[Bp]?=some (.cells #[.string ⟨#[c]⟩] E1 (0,0))/\W.heap[Bs]?=some (.cells #[.string ⟨(ZyL c s k).toArray⟩] E2 (0,0))/\W.heap[Bz]?=some (.cells #[.int .i64 0] E3 (0,0)),
   fun k W W' ⟨a1,a2,a3⟩ hb=>⟨(hb Bp ⟨ip,Xc,hBp⟩).trans a1,(hb Bs ⟨is,Xc,hBs⟩).trans a2,(hb Bz ⟨iz,Xc,hBz⟩).trans a3⟩,⟨w1,w2,w3⟩,?_⟩
  intro n l J Jx W _ hK0 qJ qx hM hY h0
  have:=Zz6 n l Bp Bs Bz c s hl J (fun k W=>W.heap[Bp]?=some (.cells #[.string ⟨#[c]⟩] E1 (0,0))/\W.heap[Bs]?=some (.cells #[.string ⟨(ZyL c s k).toArray⟩] E2 (0,0))/\W.heap[Bz]?=some (.cells #[.int .i64 0] E3 (0,0))) Jx qJ (fun k W q h=>h) qx
   (fun k W ⟨_,a2,_⟩=>⟨by simp[World.cell?,a2],by simp[World.frozen?,a2]⟩) (fun k W ⟨a1,_,_⟩=>by simp[World.cell?,a1]) (fun k W ⟨_,_,a3⟩=>by simp[World.cell?,a3])
   (fun k W hJ ⟨a1,a2,a3⟩=>by
    have hs:(W.setCell ⟨Bs,0,none⟩ (.string ⟨(ZyL c s (k+1)).toArray⟩)).heap[Bs]?=some (.cells #[.string ⟨(ZyL c s (k+1)).toArray⟩] E2 (0,0)):=by
     have hlt:=(Array.getElem?_eq_some_iff.1 a2).1
     have hg:W.heap[Bs]=.cells #[.string ⟨(ZyL c s k).toArray⟩] E2 (0,0):=by
      rw[Array.getElem?_eq_getElem hlt]at a2;exact za4 a2
     simp[World.setCell,zbU,hlt,hg]
    have ho:∀b,b≠Bs->(W.setCell ⟨Bs,0,none⟩ (.string ⟨(ZyL c s (k+1)).toArray⟩)).heap[b]?=W.heap[b]?:=fun b hb=>Below.heap_setCell _ _ _ _ hb
    refine⟨hM (k+1) W _ hJ ⟨rfl,rfl,rfl,Xc,fun b hb=>ho b fun e=>hb ⟨is,Xc,by rw[e];exact hBs⟩,?_⟩,(ho Bp d1).trans a1,hs,(ho Bz d2).trans a3⟩
    rintro b ⟨id,hid,hb⟩ e
    simp only[zak,List.mem_nil_iff,or_false]at hid
    rcases hid with rfl|rfl|rfl
    ·rw[hBp]at hb;injection hb with hb;subst hb;rw[a1]at e;cases e
    ·rw[hBs]at hb;injection hb with hb;subst hb;rw[a2]at e;cases e
    ·rw[hBz]at hb;injection hb with hb;subst hb;rw[a3]at e;cases e)
   (fun k W1 hJ hk hKk=>by
    have hu:((ZyA c s).map fun p=>(#[.string ⟨p.toArray⟩]:Array Value))[k]?=some #[.string ⟨(ZyS c (ZyL c s k)).1.toArray⟩]:=by rw[List.getElem?_map,ZGn c s hk];rfl
    obtain⟨fn,tmps,asg,bod,q1,q2⟩:=hY k _ W1 hJ hu hKk
    refine⟨fn,tmps,asg,bod,q1,q2.mono fun e W' h=>h.imp (fun⟨h1,h2,h3⟩=>⟨h1,h2,(h3 Bp ⟨ip,Xc,hBp⟩).trans hKk.1,(h3 Bs ⟨is,Xc,hBs⟩).trans hKk.2.1,(h3 Bz ⟨iz,Xc,hBz⟩).trans hKk.2.2⟩) fun h=>h⟩) W hK0 h0
  simpa using this
end Go.Proofs.YtdfgoekdlmkdfaaGreatDoor
