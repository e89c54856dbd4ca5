/- Texts of the walk. -/
import Derived.Lib.IndexLaws
import Derived.Test.YtfjjpndoeppbhaaGreatDoorChecked
import Derived.Shelf.Strings.Repeat
import Derived.Test.YtfjjpndoeppbhaaGreatDoorMc
namespace Go.Proofs.YtfjjpndoeppbhaaGreatDoor
set_option linter.defProp false
set_option maxHeartbeats 64000000
set_option linter.unusedSimpArgs false
set_option linter.unusedVariables false
open Go.RowKit
abbrev Tx:=List UInt8
open Go.Shelf
def ZP9:Go.Shelf.Ren:=⟨fun|212=>98|263=>148|264=>149|n=>n,fun|46=>161|51=>217|146=>218|53=>149|148=>220|n=>n,fun|n=>n⟩
theorem lays212:Go.Proofs.Lays.n212 Tryz.prog ZP9:={
 mixed:=by kernel_rfl
 f212:=Tryz.func98.trans (congrArg some Xg)
 f263:=Tryz.func148.trans (congrArg some Xg)
 f264:=Tryz.func149.trans (congrArg some Xg)
 t46:=Tryz.underlying161
 a46:=Tryz.isAgg161
 z46:=Tryz.sizeOf161
 v46:=Tryz.zeroValue161
 t51:=Tryz.underlying217
 a51:=Tryz.isAgg217
 z51:=Tryz.sizeOf217
 v51:=Tryz.zeroValue217
 t53:=Tryz.underlying149
 a53:=Tryz.isAgg149
 z53:=Tryz.sizeOf149
 v53:=Tryz.zeroValue149
 t146:=Tryz.underlying218
 a146:=Tryz.isAgg218
 z146:=Tryz.sizeOf218
 v146:=Tryz.zeroValue218
 t148:=Tryz.underlying220
 a148:=Tryz.isAgg220
 z148:=Tryz.sizeOf220
 v148:=Tryz.zeroValue220 }
def ZvY:Go.Shelf.Ren:=⟨fun|105=>99|212=>98|99=>150|165=>151|166=>152|170=>153|169=>154|263=>148|264=>149|206=>193|240=>194|241=>195|276=>229|277=>230|n=>n,fun|9=>9|3=>3|4=>4|20=>20|0=>0|46=>161|109=>162|5=>5|72=>225|76=>228|51=>217|146=>218|53=>149|148=>220|70=>223|37=>197|75=>227|127=>263|164=>290|80=>98|n=>n,fun|n=>n⟩
theorem Zxk:Go.Proofs.Lays.n105 Tryz.prog ZvY:={
 mixed:=by kernel_rfl
 f99:=Tryz.func150.trans (congrArg some Xg)
 f105:=Tryz.func99.trans (congrArg some Xg)
 f165:=Tryz.func151.trans (congrArg some Xg)
 f166:=Tryz.func152.trans (congrArg some Xg)
 f169:=Tryz.func154.trans (congrArg some Xg)
 f170:=Tryz.func153.trans (congrArg some Xg)
 f206:=Tryz.func193.trans (congrArg some Xg)
 f212:=Tryz.func98.trans (congrArg some Xg)
 f240:=Tryz.func194.trans (congrArg some Xg)
 f241:=Tryz.func195.trans (congrArg some Xg)
 f263:=Tryz.func148.trans (congrArg some Xg)
 f264:=Tryz.func149.trans (congrArg some Xg)
 f276:=Tryz.func229.trans (congrArg some Xg)
 f277:=Tryz.func230.trans (congrArg some Xg)
 t0:=Tryz.underlying0
 a0:=Tryz.isAgg0
 z0:=Tryz.sizeOf0
 v0:=Tryz.zeroValue0
 t3:=Tryz.underlying3
 a3:=Tryz.isAgg3
 z3:=Tryz.sizeOf3
 v3:=Tryz.zeroValue3
 t4:=Tryz.underlying4
 a4:=Tryz.isAgg4
 z4:=Tryz.sizeOf4
 v4:=Tryz.zeroValue4
 t5:=Tryz.underlying5
 a5:=Tryz.isAgg5
 z5:=Tryz.sizeOf5
 v5:=Tryz.zeroValue5
 t9:=Tryz.underlying9
 a9:=Tryz.isAgg9
 z9:=Tryz.sizeOf9
 v9:=Tryz.zeroValue9
 t20:=Tryz.underlying20
 a20:=Tryz.isAgg20
 z20:=Tryz.sizeOf20
 v20:=Tryz.zeroValue20
 t37:=Tryz.underlying197
 a37:=Tryz.isAgg197
 z37:=Tryz.sizeOf197
 v37:=Tryz.zeroValue197
 t46:=Tryz.underlying161
 a46:=Tryz.isAgg161
 z46:=Tryz.sizeOf161
 v46:=Tryz.zeroValue161
 t51:=Tryz.underlying217
 a51:=Tryz.isAgg217
 z51:=Tryz.sizeOf217
 v51:=Tryz.zeroValue217
 t53:=Tryz.underlying149
 a53:=Tryz.isAgg149
 z53:=Tryz.sizeOf149
 v53:=Tryz.zeroValue149
 t70:=Tryz.underlying223
 a70:=Tryz.isAgg223
 z70:=Tryz.sizeOf223
 v70:=Tryz.zeroValue223
 t72:=Tryz.underlying225
 a72:=Tryz.isAgg225
 z72:=Tryz.sizeOf225
 v72:=Tryz.zeroValue225
 t75:=Tryz.underlying227
 a75:=Tryz.isAgg227
 z75:=Tryz.sizeOf227
 v75:=Tryz.zeroValue227
 t76:=Tryz.underlying228
 a76:=Tryz.isAgg228
 z76:=Tryz.sizeOf228
 v76:=Tryz.zeroValue228
 t109:=Tryz.underlying162
 a109:=Tryz.isAgg162
 z109:=Tryz.sizeOf162
 v109:=Tryz.zeroValue162
 t127:=Tryz.underlying263
 a127:=Tryz.isAgg263
 z127:=Tryz.sizeOf263
 v127:=Tryz.zeroValue263
 t146:=Tryz.underlying218
 a146:=Tryz.isAgg218
 z146:=Tryz.sizeOf218
 v146:=Tryz.zeroValue218
 t148:=Tryz.underlying220
 a148:=Tryz.isAgg220
 z148:=Tryz.sizeOf220
 v148:=Tryz.zeroValue220
 t164:=Tryz.underlying290
 a164:=Tryz.isAgg290
 z164:=Tryz.sizeOf290
 v164:=Tryz.zeroValue290 }
theorem Zxh:Builder.Extra Tryz.prog ZvY:={
 sizeBuilder:=by kernel_rfl
 liesBuilder:=by kernel_rfl
 t5:=Tryz.underlying5
 a5:=Tryz.isAgg5
 z5:=Tryz.sizeOf5
 v5:=Tryz.zeroValue5
 infoByte:=by kernel_rfl
 cellsByte:=by kernel_rfl
 sizeByte:=by kernel_rfl
 neB5:=by decide }
open Go.RowKit Go.Lib
abbrev eS (l:Tx):AV:=.sc (.string ⟨l.toArray⟩)
theorem Same.pure {H:Zaa} {v:AV} {f:FuncId} {args:List AV} (h:Zay Tryz.prog f args H (fun r H'=>r=v/\H'=H)):Zay Tryz.prog f args H (Pure H v):=h.mono fun r H' ⟨h1,h2⟩=>⟨h1,0,h2⟩
def itX (_:FuncId) (_:List AV) (_:Zaa):Option (List Nat×List (List AV)):=none
class ItOk (p:Program):Prop where
 ok:∀{f:FuncId} {caps:List AV} {H:Zaa} {ks:List Nat} {xs:List (List AV)},itX f caps H=some (ks,xs)->ItK p f caps ks xs H
instance itOk (p:Program):ItOk p:=⟨fun h=>by cases h⟩
end Go.Proofs.YtfjjpndoeppbhaaGreatDoor
