/- Texts of the walk. -/
import Derived.Test.YtaapiigfmdhobaaGreatMq
import Derived.Test.YtaapiigfmdhobaaGreatMe
import Derived.Lib.AppendZerosOnto
namespace Go.Proofs.YtaapiigfmdhobaaGreat
set_option linter.defProp false
set_option linter.unusedSimpArgs false
set_option linter.unusedVariables false
open Go.RowKit
def ZqY:Zar:=rs 0 [.v 2 115 0,.D 4]<|ri 4 [.M 1,.N 1 2,.b .lss 5 8] 9 (rr 9 [.F 1 2,.M 1,.Y 1 11 12,.s 4])<|rr 0 [.D 4]
def cf116:=kf0 116 ZqY [.tmp 4] 15
def ZnZ:Zar:=rs 9 [.v 8 198 3,.v 9 198 4,.O (.box 113 (.c za5))]<|ri 12 [.M 1,.u 13] 14 (.seq (.drw [ip (im 15 2),ip (im 16 0),ip (io 17 (.ld 13 true (.t 8))),ip (io 19 (.ld 13 true (.t 9))),(io 18 (.call (jf 147) [.t 17]),[io 19 (.ld 13 true (.t 9))]),ip (io 20 (.call (jf 147) [.t 19])),ip (io 21 (.bld [.sc (.int .i64 0),.sc (.int .i64 0)] [(0,(1,.t 18)),(1,(1,.t 20))])),ip (io 22 (.call (jf 74) [.t 16,.t 21])),ip (io 23 (.bld zl7 [(0,(1,.t 15)),(1,(1,.t 22))])),ip (iz (.st 12 (.t 10) (.t 23)))])<|.ret)<|rs 24 [.f 0 8,.G 2 10 25,.f 0 9,.G 2 10 28,.c 148 [27,30],.s 24,.e 24 0,.e 24 1,.o 11 (.box 54 (.c za0)),.Z 10 11 32,.s 12]<|ri 33 [.M 12,.u 34] 35 (ry 35 [.M 0,.k 36,.f 4 37,.w (.st 1 (.t 38) (ik 12))])<|rr 38 [.M 2,.L 10 11,.O (.bld zl7 [(0,(1,.t 39)),(2,(10,.t 40))]),.Z 12 10 41]
def cf117:=kf0 117 ZnZ [(.cell 12 true 10)] 42
def c121_1:Zar:=rl 0 41 42 (.t 40) 77<|.blk 1<|rs 42 [.M 41,.Y 1 39 41,.m 5 43,.s 6]<|.seq (rt 45 [.L 2 2,.F 0 3,.F 0 2,.F 0 3,.Y 1 50 52,.M 5,.Y 1 54 55,.M 6,.c 150 [46,48,57,58],.s 7]<|rs 59 [.i .neq 7 0]<|.cond (.t 61) (rr 61 [.M 7,.s 4])<|.skip)<|rs 62 [.i .gtr 5 0,.y 64,.R 6,.F 1 3,.i .sub 5 1,.Y 1 69 71,.n 73,.b .gtr 67 74,.z]<|.cond (.t 76) (rr 3 [.J 14])<|.skip
def Zcv:Zar:=rs 3 [.v 2 37 0,.v 3 115 1,.J 0]<|rk 7 [.F 0 3,.B .lss 9 0,.h 10,.F 0 3,.N 0 2,.b .geq 13 16,.z,.h 18,.N 1 3,.F 0 2,.F 0 3,.Y 1 24 26,.n 28,.b .neq 22 29,.z,.h 31,.N 1 3,.B .eql 35 0,.z] 37 (rr 3 [.J 2])<|.seq (rs 37 [.N 1 3,.J 0]<|c121_1)<|ri 77 [.f 2 3,.F 0 78,.B .neq 80 0,.h 81,.L 2 2,.F 0 3,.G 2 12 3,.c 151 [83,85,87],.u 88,.z] 90 (rr 3 [.J 2])<|rr 3 [.J 0]
def cf121:=kf0 121 Zcv [.tmp 4] 91
def c122_1:Zar:=rl 0 19 20 (.t 18) 27<|.blk 1<|rs 20 [.X 12 17 19,.o 7 (.box 113 (.c za5)),.Z 12 7 22]<|rs 22 [.M 5,.L 12 7,.O (.call (.t 23) [.t 24]),.u 25]<|.cond (.t 26) (rr 0 [.K 4])<|.skip
def ZcM:Zar:=rs 0 [.v 2 29 0,.v 3 115 1,.K 4]<|rk 7 [.l 1 2,.k 8,.G 0 2 9,.F 0 3,.c 62 [11,13]] 14 (rr 0 [.T 4])<|rs 14 [.O (.mkf 152 [] [.t 2,.t 3]),.s 5]<|.seq (rs 15 [.L 14 3,.c 63 [16],.n 17,.J 0]<|c122_1)<|rr 0 [.T 4]
def cf122:=kf0 122 ZcM [.tmp 4] 28
def c130_1:Zar:=rl 0 14 15 (.t 13) 35<|.blk 1<|rs 15 [.M 14,.s 3]<|rs 16 [.M 0,.M 3,.O (.ixs (.t 17) (.t 18)),.s 4]<|.blk 2<|.seq (rs 20 [.M 4,.O (.bin .leq (.c (.sc (.int .u8 97))) (.t 21)),.y 22,.M 4,.O (.bin .leq (.t 24) (.c (.sc (.int .u8 122)))),.z,.s 20]<|.cond (.t 20) .skip<|rs 26 [.M 4,.O (.bin .leq (.c (.sc (.int .u8 48))) (.t 27)),.y 28,.M 4,.O (.bin .leq (.t 30) (.c (.sc (.int .u8 57)))),.z,.s 20]<|.cond (.t 20) .skip<|ry 32 [.M 4,.O (.bin .eql (.t 33) (.c (.sc (.int .u8 95)))),.s 20])<|.cond (.t 20) .skip<|rr 1 [.J 2]
def Zgs:Zar:=rs 1 [.J 0]<|ri 4 [.M 0,.O (.bin .eql (.t 5) (.c (.sc (.string ⟨#[]⟩)))),.h 6,.M 0,.O (.len true (.t 8)),.B .gtr 9 12,.z] 11 (rr 1 [.J 2])<|.seq (rs 11 [.M 0,.O (.len true (.t 12)),.J 0]<|c130_1)<|rr 1 [.J 0]
def cf130:=kf0 130 Zgs [.tmp 2] 36
def Zds:Zar:=rs 3 [.v 2 107 0,.J 0]<|.seq (rs 6 [.F 0 2,.c 130 [8],.s 5]<|rs 9 [.i .neq 5 0]<|.cond (.t 11) (rr 11 [.M 5,.s 4])<|.skip)<|ri 12 [.N 1 2,.B .lss 15 1,.h 16,.N 1 2,.B .gtr 20 200,.z] 22 (rr 3 [.J 5])<|.seq (rs 22 [.F 1 2,.c 157 [24],.s 6]<|rs 25 [.i .neq 6 0]<|.cond (.t 27) (rr 27 [.M 6,.s 4])<|.skip)<|ri 28 [.F 2 2,.N 1 2,.M 1,.c 158 [30,33,34],.u 35] 36 (rr 3 [.J 14])<|rr 3 [.J 0]
def cf131:=kf0 131 Zds [.tmp 4] 37
def ZmU:Zar:=rs 3 [.v 2 102 0,.J 0]<|ri 4 [.i .add 1 1,.N 1 2,.b .lss 6 9] 10 (rr 10 [.F 1 2,.i .add 1 1,.x 3 12 14,.N 1 15,.s 4])<|rr 3 [.J 0]
def cf132:=kf0 132 ZmU [.tmp 4] 19
def c133_1:Zar:=rl 0 20 21 (ik 3) 67<|.blk 1<|rs 21 [.M 20,.O (.ixv 3 3 true (.t 19) (.t 20)),.o 6 (.box 51 (.c za13)),.m 5 22,.Z 3 6 23]<|.blk 2<|rs 24 [.M 5,.M 0,.b .geq 25 26,.y 27,.L 3 6,.O (.bld [.sc (.int .i64 0),.sc (.int .i64 0),.sc (.int .i64 0)] []),.O (.eqf [.int .i64,.int .i64,.int .i64] true (.t 29) (.t 30)),.z,.s 24]<|.cond (.t 24) (rr 0 [.K 4])<|rs 33 [.M 5,.M 0,.b .lss 34 35,.y 36,.F 1 6,.F 2 6,.b .gtr 39 41,.z,.s 33]<|.cond (.t 33) (rr 0 [.K 4])<|rs 44 [.M 5,.M 0,.b .lss 45 46,.y 47,.F 0 3,.B .eql 50 1,.z,.y 52,.F 0 6,.F 1 6,.b .neq 55 57,.h 58,.F 0 6,.F 2 6,.b .neq 61 63,.z,.z,.s 44]<|.cond (.t 44) (rr 0 [.K 4])<|.skip
def Zfp:Zar:=rs 0 [.v 3 54 1,.K 4]<|ri 6 [.i .lss 0 0,.h 8,.i .gtr 0 3,.z,.h 12,.F 0 3,.B .lss 15 1,.z] 17 (rr 0 [.K 4])<|.seq (rs 17 [.G 1 9 3,.J 0]<|c133_1)<|rr 0 [.T 4]
def cf133:=kf0 133 Zfp [.tmp 4] 68
def c134_1:Zar:=rl 0 11 12 (.t 10) 30<|.blk 1<|rs 12 [.M 11,.Y 1 9 11,.m 5 13,.s 6]<|ri 15 [.M 5,.R 1,.b .geq 16 18] 19 (rr 3 [.J 1])<|rs 19 [.M 1,.M 5,.Y 1 20 21,.s 7]<|rs 23 [.M 6,.M 7,.c 139 [24,25],.s 8]<|rs 26 [.i .neq 8 0]<|.cond (.t 28) (rr 28 [.M 8,.s 4])<|.skip
def Zed:Zar:=rs 3 [.J 0]<|.seq (rs 8 [.R 0,.J 0]<|c134_1)<|ri 30 [.R 0,.R 1,.b .lss 32 34] 35 (rr 3 [.J (-1)])<|rr 3 [.J 0]
def cf134:=kf0 134 Zed [.tmp 4] 36
def ZmX:Zar:=rs 0 [.v 2 102 0,.K 4]<|rr 4 [.i .geq 1 0,.y 6,.M 1,.N 1 2,.b .lss 8 11,.z,.s 4]
def cf135:=kf0 135 ZmX [.tmp 4] 14
def c136_1:Zar:=rv 0 40 [.M 9,.M 2,.b .lss 41 42,.y 43,.i .geq 3 0,.z] 47<|.seq (.blk 1<|ry 49 [.F 1 4,.M 9,.X 3 51 52,.M 3,.c 159 [54,55],.s 3])<|ry 47 [.i .add 9 1,.s 9]
def ZeV:Zar:=rs 7 [.v 4 102 0,.J 0]<|ri 9 [.L 2 4,.M 1,.c 135 [10,11],.u 12,.h 13,.L 2 4,.M 2,.c 135 [15,16],.u 17,.z,.h 19,.M 1,.M 2,.b .gtr 21 22,.z,.h 24,.i .lss 3 0,.z,.h 28,.M 3,.F 1 4,.M 1,.x 3 32 33,.N 1 34,.b .geq 30 37,.z] 39 (rr 7 [.J (-1)])<|.seq (rs 39 [.M 1,.s 9]<|c136_1)<|rr 56 [.M 3,.O (.mm true (.t 57) (ik (-1))),.s 8]
def cf136:=kf0 136 ZeV [.tmp 8] 59
def Zka:Zar:=rs 3 [.J 0]<|rs 6 [.M 0,.c 162 [7],.s 5]<|rs 8 [.M 1,.c 162 [9],.s 6]<|ri 10 [.M 5] 11 (ri 11 [.M 6] 12 (rr 3 [.J 0])<|rr 3 [.J (-1)])<|ri 12 [.M 6] 13 (rr 3 [.J 1])<|ri 13 [.M 0,.M 1,.b .lss 14 15] 16 (rr 3 [.J (-1)])<|ri 16 [.M 0,.M 1,.b .gtr 17 18] 19 (rr 3 [.J 1])<|rr 3 [.J 0]
def cf139:=kf0 139 Zka [.tmp 4] 20
def c140_1:Zar:=rl 0 12 13 (.t 11) 35<|.blk 1<|rs 13 [.Y 1 10 12,.s 8]<|rt 16 [.L 10 5,.M 0,.k 18,.F 0 19,.M 8,.x 11 21 22,.G 1 10 23,.c 148 [17,25],.s 16,.e 16 0,.e 16 1,.Z 10 5 27,.s 6]<|rs 28 [.M 6,.u 29]<|.cond (.t 30) (rs 30 [.M 0,.k 31,.f 4 32,.w (.st 1 (.t 33) (ik 12))]<|rr 33 [.O (.bld zl1 []),.Z 10 4 34])<|.skip
def ZfC:Zar:=rs 3 [.O (.box 54 (.c za0))]<|rs 8 [.O (.bld zl1 []),.o 5 (.box 54 (.c za0)),.Z 10 5 9,.T 6]<|.seq (rs 9 [.R 1,.J 0]<|c140_1)<|rr 35 [.L 10 5,.Z 10 4 36]
def cf140:=kf0 140 ZfC [(.cell 10 true 4)] 37
def c141_1:Zar:=rv 0 3 [.M 3,.R 0,.b .lss 4 6] 7<|.seq (.blk 1<|ri 9 [.M 0,.M 3,.Y 1 10 11,.c 163 [13],.u 14] 15 (rr 1 [.J 2])<|rt 15 [.i .gtr 3 0,.y 17,.M 0,.M 3,.Y 1 19 20,.M 0,.i .sub 3 1,.Y 1 23 25,.b .leq 22 27,.z]<|.cond (.t 29) (rr 1 [.J 4])<|.skip)<|ry 7 [.i .add 3 1,.s 3]
def ZdK:Zar:=rs 1 [.J 0]<|.seq (rs 2 [.J 0]<|c141_1)<|rr 1 [.J 0]
def cf141:=kf0 141 ZdK [.tmp 2] 30
def c142_1:Zar:=rl 0 28 29 (.t 27) 39<|.blk 1<|rs 29 [.Y 1 26 28,.s 6]<|rs 31 [.i .lss 6 0,.h 33,.M 6,.M 1,.b .geq 35 36,.z]<|.cond (.t 38) (rr 0 [.K 4])<|.skip
def c142_2:Zar:=rv 2 39 [.M 7,.M 1,.b .lss 40 41] 42<|.seq (.blk 3<|rs 44 [.F 2 2,.M 7,.c 164 [46,47],.u 48]<|.cond (.t 49) (rr 0 [.K 4])<|.skip)<|ry 42 [.i .add 7 1,.s 7]
def ZcY:Zar:=rs 0 [.v 2 107 0,.K 4]<|ri 7 [.i .leq 1 0] 9 (rr 9 [.N 2 2,.B .eql 12 0,.s 4])<|ri 13 [.N 2 2,.N 1 2,.b .neq 16 19,.h 20,.i .gtr 1 200,.z] 24 (rr 0 [.K 4])<|.seq (rs 24 [.N 2 2,.J 0]<|c142_1)<|.seq (rs 6 [.J 0]<|c142_2)<|rr 0 [.T 4]
def cf142:=kf0 142 ZcY [.tmp 4] 50
def ZpP:Zar:=rs 1 [.J 0,.J 0]<|rs 4 [.i .rem 0 4294967296,.s 4]<|ri 6 [.i .lss 4 0] 8 (ry 8 [.i .add 4 4294967296,.s 4])<|rr 10 [.M 0,.M 4,.b .sub 11 12,.B .quo 13 4294967296,.M 4,.m 2 14,.s 3]
def cf145:=kf0 145 ZpP [.tmp 2,.tmp 3] 16
def c146_1:Zar:=rv 0 5 [.i .geq 1 4294967296] 7<|.blk 1<|rs 7 [.i .sub 1 4294967296,.s 1]<|ry 9 [.i .add 0 1,.s 0]
def c146_2:Zar:=rv 2 11 [.i .lss 1 0] 13<|.blk 3<|rs 13 [.i .add 1 4294967296,.s 1]<|ry 15 [.i .sub 0 1,.s 0]
def Zou:Zar:=rs 0 [.j 4 0,.K 5]<|.seq c146_1<|.seq c146_2<|ri 17 [.i .lss 0 (-2147483648),.h 19,.i .gtr 0 2147483647,.z] 23 (rr 0 [.j 4 0,.K 5])<|rr 23 [.i .mul 0 4294967296,.M 1,.b .add 25 26,.s 4,.T 5]
def cf146:=kf0 146 Zou [.tmp 4,.tmp 5] 28
def ZqT:Zar:=rs 1 [.v 1 198 0,.J 0]<|ri 2 [.F 12 1,.u 4] 5 (rr 1 [.J (-1)])<|rr 5 [.f 0 1,.F 1 6,.s 2]
def cf147:=kf0 147 ZqT [.tmp 2] 9
def c148_1:Zar:=rl 1 32 33 (ik 3) 53<|.blk 2<|rs 33 [.M 32,.s 8]<|rt 35 [.M 8,.M 8,.f 1 2,.O (.ixA 3 3 (.t 38) (.t 37)),.L 3 39,.M 8,.f 1 3,.O (.ixA 3 3 (.t 42) (.t 41)),.L 3 43,.o 48 (.fla 1 (.t 6)),.c 168 [40,44],.s 35,.e 35 0,.e 35 1,.o 49 (.ixA 3 3 (.t 48) (.t 36)),.Z 3 49 46,.s 7]<|rs 49 [.M 7,.u 50]<|.cond (.t 51) (rr 51 [.O (.bld zl1 []),.Z 10 4 52,.K 5])<|.skip
def ZcC:Zar:=rs 0 [.v 2 54 0,.v 3 54 1,.o 4 (.box 54 (.c za0)),.K 5]<|.seq (.blk 0<|rs 9 [.F 0 2,.B .eql 11 0,.s 9]<|.cond (.t 9) (rr 12 [.L 10 3,.Z 10 4 13,.T 5])<|rs 14 [.F 0 3,.B .eql 16 0,.s 14]<|.cond (.t 14) (rr 17 [.L 10 2,.Z 10 4 18,.T 5])<|.skip)<|rs 5 [.o 19 (.bld zl1 []),.O (.box 54 (.c za0)),.Z 10 6 19]<|rs 0 [.T 7]<|.seq (rs 20 [.F 0 2,.F 0 3,.c 167 [22,24],.s 20,.e 20 0,.e 20 1,.f 0 6,.Z 1 28 26,.m 7 27]<|rs 28 [.M 7,.u 29]<|.cond (.t 30) (rr 30 [.O (.bld zl1 []),.Z 10 4 31,.K 5])<|.skip)<|.seq (rs 31 [.J 0]<|c148_1)<|rr 53 [.L 10 6,.Z 10 4 54,.T 5]
def cf148:=kf0 148 ZcC [(.cell 10 true 4),.tmp 5] 55
def c150_1:Zar:=rl 0 16 17 (.t 15) 51<|.blk 1<|rs 17 [.M 16,.X 12 14 16,.o 10 (.box 113 (.c za5)),.m 9 18,.Z 12 10 20]<|.blk 2<|rs 21 [.F 0 10,.B .lss 23 0,.h 24,.F 0 10,.M 2,.b .geq 27 28,.z,.s 21]<|.cond (.t 21) (rr 7 [.J 13])<|rt 31 [.i .gtr 9 0,.y 33,.M 3,.i .sub 9 1,.x 12 35 37,.F 0 38,.F 0 10,.b .geq 40 42,.z,.s 31]<|.cond (.t 31) (rr 7 [.J 4])<|rs 45 [.L 2 4,.M 1,.L 12 10,.c 151 [46,47,48],.u 49,.s 45]<|.cond (.t 45) (rr 7 [.J 2])<|.skip
def Zcx:Zar:=rs 7 [.v 4 37 0,.J 0]<|ri 10 [.R 3,.B .eql 12 0] 13 (rr 7 [.J 2])<|.seq (rs 13 [.R 3,.J 0]<|c150_1)<|rr 7 [.J 0]
def cf150:=kf0 150 Zcx [.tmp 8] 52
def Zfk:Zar:=rs 0 [.v 3 37 0,.v 5 113 2,.K 6]<|ri 6 [.L 2 3,.M 1,.c 62 [7,8]] 9 (rr 9 [.F 1 5,.B .eql 11 0,.y 12,.F 1 3,.G 2 10 5,.c 133 [15,17],.z,.s 6])<|rr 19 [.F 1 5,.B .geq 21 0,.y 22,.G 2 10 5,.O (.bld zl1 []),.O (.eqf [.int .i64,.int .i64,.int .i64,.int .i64,.int .i64,.int .i64,.int .i64,.int .i64,.int .i64,.int .i64] false (.t 25) (.t 26)),.z,.s 6]
def cf151:=kf0 151 Zfk [.tmp 6] 29
def ZhO:Zar:=rs 0 [.v 3 113 0,.K 4]<|rt 4 [.F 1 3,.l 1 1,.k 7,.N 2 8,.b .lss 6 11,.y 12,.l 1 1,.k 14,.F 2 15,.F 1 3,.x 14 17 19,.F 0 20,.F 0 2,.B .add 24 1,.b .eql 22 25,.z,.s 4]<|.ret
def cf152:=kf0 152 ZhO [.tmp 4] 28
def c157_1:Zar:=rl 0 8 9 (.t 7) 29<|.blk 1<|rs 9 [.M 8,.Y 1 6 8,.m 3 10,.s 4]<|.seq (rs 12 [.M 4,.c 170 [13],.s 5]<|rs 14 [.i .neq 5 0]<|.cond (.t 16) (rr 16 [.M 5,.s 2])<|.skip)<|rs 17 [.i .gtr 3 0,.y 19,.M 0,.i .sub 3 1,.Y 1 21 23,.M 4,.b .geq 25 26,.z]<|.cond (.t 28) (rr 1 [.J 4])<|.skip
def ZdN:Zar:=rs 1 [.J 0]<|.seq (rs 5 [.R 0,.J 0]<|c157_1)<|rr 1 [.J 0]
def cf157:=kf0 157 ZdN [.tmp 2] 30
def c158_1:Zar:=rl 0 22 23 (.t 21) 35<|.blk 1<|rs 23 [.Y 1 20 22,.s 9]<|ri 25 [.i .lss 9 0,.h 27,.M 9,.M 2,.b .geq 29 30,.z] 32 (rr 0 [.K 6])<|ry 32 [.M 7,.M 9,.w (.mup (.one (.int .i64)) (.t 33) (.t 34) (ik 1))]
def ZeY:Zar:=rs 0 [.K 6]<|ri 9 [.i .leq 2 0] 11 (rr 11 [.R 0,.B .eql 13 0,.s 6])<|ri 14 [.R 0,.M 1,.b .neq 16 17] 18 (rr 0 [.K 6])<|rs 18 [.O (.mkm (.one (.int .i64))),.s 7]<|.seq (rs 19 [.R 0,.J 0]<|c158_1)<|rr 35 [.M 7,.O (.mln (.t 36)),.M 2,.b .eql 37 38,.s 6]
def cf158:=kf0 158 ZeY [.tmp 6] 40
def Zj3:Zar:=rs 3 [.v 2 107 0,.J 0]<|ri 4 [.i .lss 1 0,.h 6,.M 1,.N 2 2,.b .geq 8 11,.z] 13 (rr 3 [.J (-1)])<|rr 13 [.F 2 2,.M 1,.Y 1 15 16,.s 4]
def cf159:=kf0 159 Zj3 [.tmp 4] 19
def c162_0:Zar:=rs 0 [.K 2]<|rr 2 [.M 0,.M 0,.b .neq 3 4,.s 2]
def cf162:=kf0 162 c162_0 [.tmp 2] 6
def ZvQ:Zar:=rs 0 [.K 2]<|rr 2 [.M 0,.O (.len true (.t 3)),.B .geq 4 1,.y 5,.M 0,.O (.len true (.t 7)),.B .leq 8 16,.z,.s 2]
def cf163:=kf0 163 ZvQ [.tmp 2] 11
def c164_1:Zar:=rl 0 9 10 (.t 8) 16<|.blk 1<|rs 10 [.Y 1 7 9,.s 6]<|rs 12 [.M 6,.M 1,.b .eql 13 14]<|.cond (.t 15) (rr 0 [.T 4])<|.skip
def ZhA:Zar:=rs 0 [.K 4]<|.seq (rs 6 [.R 0,.J 0]<|c164_1)<|rr 0 [.K 4]
def cf164:=kf0 164 ZhA [.tmp 4] 17
def ZgH:Zar:=rs 0 [.j 4 0,.K 5]<|ri 5 [.i .gtr 1 0,.y 7,.M 0,.M 1,.O (.bin .sub (ik 9223372036854775807) (.t 10)),.b .gtr 9 11,.z,.h 13,.i .lss 1 0,.y 16,.M 0,.M 1,.O (.bin .sub (ik (-9223372036854775808)) (.t 19)),.b .lss 18 20,.z,.z] 23 (rr 0 [.j 4 0,.K 5])<|rr 23 [.M 0,.M 1,.b .add 24 25,.s 4,.T 5]
def cf167:=kf0 167 ZgH [.tmp 4,.tmp 5] 27
def ZlK:Zar:=rs 0 [.v 2 51 0,.v 3 51 1,.o 4 (.box 51 (.c za13)),.K 5]<|rs 8 [.F 0 2,.F 0 3,.c 167 [10,12],.s 8,.e 8 0,.e 8 1,.m 6 14,.s 7]<|rr 15 [.M 6,.F 1 2,.F 1 3,.O (.mm false (.t 18) (.t 20)),.F 2 2,.F 2 3,.O (.mm true (.t 23) (.t 25)),.O (.bld [.sc (.int .i64 0),.sc (.int .i64 0),.sc (.int .i64 0)] [(0,(1,.t 16)),(1,(1,.t 21)),(2,(1,.t 26))]),.M 7,.Z 3 4 27,.s 5]
def cf168:=kf0 168 ZlK [(.cell 3 true 4),.tmp 5] 29
def Zln:Zar:=rs 1 [.J 0]<|ri 2 [.M 0,.O (.bin .eql (.t 3) (.c (.sc (.string ⟨#[]⟩)))),.h 4,.M 0,.O (.len true (.t 6)),.B .gtr 7 16,.z] 9 (rr 1 [.J 2])<|rr 1 [.J 0]
def cf170:=kf0 170 Zln [.tmp 2] 10
theorem ZcL:∀{n:Nat} {xs:List Value},xs.length=n->(∀(i:Nat) (k:SK) (x:Value),(List.replicate n (SK.int .i64))[i]?=some k->xs[i]?=some x->k.is x=true)->∃l:List Int,xs=l.map (Value.int .i64)/\l.length=n
 | 0,xs,h,_=>⟨[],by simpa using h,rfl⟩
 | n+1,[],h,_=>by simp at h
 | n+1,x :: xs,h,hk=>by
  obtain⟨l,h1,h2⟩:=ZcL (n:=n) (xs:=xs) (by simpa using h) (fun i k y a b=>hk (i+1) k y (by simpa [List.replicate_succ] using a) (by simpa using b))
  have:=hk 0 (.int .i64) x (by simp[List.replicate_succ]) (by simp)
  cases x with
  | int k a =>
   simp[SK.is]at this
   subst this
   exact⟨a :: l,by simp[h1],by simp[h2]⟩
  | _=>simp[SK.is]at this
theorem Zda:∀{l m:List Int},l.length=m.length->ZgE (l.map (Value.int .i64)) (m.map (Value.int .i64))=decide (l=m)
 | [],[],_=>rfl
 | a :: l,b :: m,h=>by
  have ih:=Zda (l:=l) (m:=m) (by simpa using h)
  simp only[zas,ZgE,vEq,ih]
  by_cases h1:a=b<;>by_cases h2:l=m<;>simp[h1,h2]
 | [],_ :: _,h=>by simp at h
 | _ :: _,[],h=>by simp at h
theorem list3 {l:List Int} (h:l.length=3):∃a b c,l=[a,b,c]:=by
 match l,h with
 | [a,b,c],_=>exact⟨a,b,c,rfl⟩
theorem list10 {l:List Int} (h:l.length=10):∃a:Ag,l=[a.n,a.s0,a.l0,a.h0,a.s1,a.l1,a.h1,a.s2,a.l2,a.h2]:=by
 match l,h with
 | [a,b,c,d,e,f,g,x,y,z],_=>exact⟨⟨a,b,c,d,e,f,g,x,y,z⟩,rfl⟩
theorem list12 {l:List Int} (h:l.length=12):∃a:Cel,l=[a.key,a.child,a.agg.n,a.agg.s0,a.agg.l0,a.agg.h0,a.agg.s1,a.agg.l1,a.agg.h1,a.agg.s2,a.agg.l2,a.agg.h2]:=by
 match l,h with
 | [p,q,a,b,c,d,e,f,g,x,y,z],_=>exact⟨⟨p,q,⟨a,b,c,d,e,f,g,x,y,z⟩⟩,rfl⟩
theorem ZfM (b:Bool) (d:Nat) (w:World) (a:Int):(Instr.checkKey b (d+1) 3 (.int .i64 a)).run Tryz.prog w=.ok () w:=by
 unfold Instr.checkKey
 simp[run_underlying Tryz.underlying3]
theorem ZfQ (b:Bool) (d:Nat) (w:World) (a:Int):(Instr.checkKey b (d+1) 2 (.int .i64 a)).run Tryz.prog w=.ok () w:=by
 unfold Instr.checkKey
 simp[run_underlying Tryz.underlying2]
set_option maxHeartbeats 1000000 in
set_option maxRecDepth 100000 in
theorem Zj4 (b:Bool) (d:Nat) (w:World) (a0 a1 a2:Int):(Instr.checkKey b (d+2) 51 (.agg #[.int .i64 a0,.int .i64 a1,.int .i64 a2])).run Tryz.prog w=.ok () w:=by
 unfold Instr.checkKey
 simp[run_underlying Tryz.underlying51,go_sem,ZfM,ZfQ]
set_option maxHeartbeats 1000000 in
set_option maxRecDepth 100000 in
theorem Zmk (b:Bool) (d:Nat) (w:World) (a0 a1 a2 a3 a4 a5 a6 a7 a8:Int):(Instr.checkKey b (d+3) 52 (.agg #[.int .i64 a0,.int .i64 a1,.int .i64 a2,.int .i64 a3,.int .i64 a4,.int .i64 a5,.int .i64 a6,.int .i64 a7,.int .i64 a8])).run Tryz.prog w=.ok () w:=by
 unfold Instr.checkKey
 simp[run_underlying Tryz.underlying52,go_sem,zbF,Zj4]
set_option maxHeartbeats 1000000 in
set_option maxRecDepth 100000 in
theorem chk_ag (b:Bool) (d:Nat) (w:World) (a:Ag):(Instr.checkKey b (d+4) 54 (.agg a.arr)).run Tryz.prog w=.ok () w:=by
 unfold Instr.checkKey Ag.arr
 simp[run_underlying Tryz.underlying54,go_sem,ZfM,ZfQ,Zmk]
set_option maxHeartbeats 1000000 in
set_option maxRecDepth 100000 in
theorem chk_cel (b:Bool) (d:Nat) (w:World) (a:Cel):(Instr.checkKey b (d+5) 113 (.agg a.arr)).run Tryz.prog w=.ok () w:=by
 have h:=fun w=>chk_ag b d w a.agg
 unfold Ag.arr at h
 unfold Instr.checkKey Cel.arr
 simp[run_underlying Tryz.underlying113,go_sem,ZfM,ZfQ,h]
set_option maxHeartbeats 1000000 in
set_option maxRecDepth 100000 in
theorem eq_two (d:Nat) (w:World) (a0 a1 b0 b1:Int):(Op.equalIn (d+2) 161 (.agg #[.int .i64 a0,.int .i64 a1]) (.agg #[.int .i64 b0,.int .i64 b1])).run Tryz.prog w=.ok (decide (a0=b0/\a1=b1)) w:=by
 rw[run_equalIn_struct w (d+1) _ _ _ (by kernel_rfl) (by kernel_rfl)]
 by_cases h0:a0=b0<;>by_cases h1:a1=b1<;>simp[go_sem,h0,h1]
set_option maxHeartbeats 1000000 in
set_option maxRecDepth 100000 in
theorem chk_two (b:Bool) (d:Nat) (w:World) (a0 a1:Int):(Instr.checkKey b (d+2) 161 (.agg #[.int .i64 a0,.int .i64 a1])).run Tryz.prog w=.ok () w:=by
 unfold Instr.checkKey
 simp[run_underlying Tryz.underlying161,go_sem,ZfM,ZfQ]
set_option maxHeartbeats 1000000 in
set_option maxRecDepth 100000 in
theorem eq_both (d:Nat) (w:World) (a0 a1 b0 b1:Int):(Op.equalIn (d+2) 140 (.agg #[.int .i64 a0,.int .i64 a1]) (.agg #[.int .i64 b0,.int .i64 b1])).run Tryz.prog w=.ok (decide (a0=b0/\a1=b1)) w:=by
 rw[run_equalIn_struct w (d+1) _ _ _ (by kernel_rfl) (by kernel_rfl)]
 by_cases h0:a0=b0<;>by_cases h1:a1=b1<;>simp[go_sem,h0,h1]
set_option maxHeartbeats 1000000 in
set_option maxRecDepth 100000 in
theorem chk_both (b:Bool) (d:Nat) (w:World) (a0 a1:Int):(Instr.checkKey b (d+2) 140 (.agg #[.int .i64 a0,.int .i64 a1])).run Tryz.prog w=.ok () w:=by
 unfold Instr.checkKey
 simp[run_underlying Tryz.underlying140,go_sem,ZfM,ZfQ]
theorem list2 {l:List Int} (h:l.length=2):∃a b,l=[a,b]:=by
 match l,h with
 | [a,b],_=>exact⟨a,b,rfl⟩
theorem hE0:∀t ks,eqE t=some ks->Ziv Tryz.prog t ks:=by
 intro t ks h
 unfold eqE at h
 split at h
 ·rename_i e
  subst e
  injection h with h
  subst h
  intro xs ys h1 h2 h3 h4 w
  obtain⟨l,rfl,hl⟩:=ZcL (by simpa using h1) h3
  obtain⟨m,rfl,hm⟩:=ZcL (by simpa using h2) h4
  obtain⟨a,rfl⟩:=list10 hl
  obtain⟨c,rfl⟩:=list10 hm
  refine⟨?_,fun b=>chk_ag b 9996 w a⟩
  rw[Zda (by simp)]
  refine(eq_ag 9996 w a c).trans ?_
  congr 1
  simp[ag_eq,and_assoc]
 ·skip
  split at h
  ·rename_i e
   subst e
   injection h with h
   subst h
   intro xs ys h1 h2 h3 h4 w
   obtain⟨l,rfl,hl⟩:=ZcL (by simpa using h1) h3
   obtain⟨m,rfl,hm⟩:=ZcL (by simpa using h2) h4
   obtain⟨a,rfl⟩:=list12 hl
   obtain⟨c,rfl⟩:=list12 hm
   refine⟨?_,fun b=>chk_cel b 9995 w a⟩
   rw[Zda (by simp)]
   refine(eq_cel 9995 w a c).trans ?_
   congr 1
   simp[cel_eq,ag_eq,and_assoc]
  ·skip
   split at h
   ·rename_i e
    subst e
    injection h with h
    subst h
    intro xs ys h1 h2 h3 h4 w
    obtain⟨l,rfl,hl⟩:=ZcL (by simpa using h1) h3
    obtain⟨m,rfl,hm⟩:=ZcL (by simpa using h2) h4
    obtain⟨a0,a1,a2,rfl⟩:=list3 hl
    obtain⟨c0,c1,c2,rfl⟩:=list3 hm
    refine⟨?_,fun b=>Zj4 b 9998 w a0 a1 a2⟩
    rw[Zda (by simp)]
    refine(Zfh 9998 w a0 a1 a2 c0 c1 c2).trans ?_
    congr 1
    simp
   ·skip
    split at h
    ·rename_i e
     subst e
     injection h with h
     subst h
     intro xs ys h1 h2 h3 h4 w
     obtain⟨l,rfl,hl⟩:=ZcL (by simpa using h1) h3
     obtain⟨m,rfl,hm⟩:=ZcL (by simpa using h2) h4
     obtain⟨a0,a1,rfl⟩:=list2 hl
     obtain⟨c0,c1,rfl⟩:=list2 hm
     refine⟨?_,fun b=>chk_two b 9998 w a0 a1⟩
     rw[Zda (by simp)]
     refine(eq_two 9998 w a0 a1 c0 c1).trans ?_
     congr 1
     simp
    ·skip
     split at h
     ·rename_i e
      subst e
      injection h with h
      subst h
      intro xs ys h1 h2 h3 h4 w
      obtain⟨l,rfl,hl⟩:=ZcL (by simpa using h1) h3
      obtain⟨m,rfl,hm⟩:=ZcL (by simpa using h2) h4
      obtain⟨a0,a1,rfl⟩:=list2 hl
      obtain⟨c0,c1,rfl⟩:=list2 hm
      refine⟨?_,fun b=>chk_both b 9998 w a0 a1⟩
      rw[Zda (by simp)]
      refine(eq_both 9998 w a0 a1 c0 c1).trans ?_
      congr 1
      simp
     ·skip
      cases h
theorem hE:∀t ks,eqT t=some ks->Ziv Tryz.prog t ks:=hE0
theorem hEg:∀t ks,eqTg t=some ks->Ziv Tryz.prog t ks:=hE0
theorem hEi:∀t ks,eqTi t=some ks->Ziv Tryz.prog t ks:=hE0
theorem ZfO (z:Array Value) (n:Nat):(Builtin.zeroCells z n).size=n * z.size:=by simp[Builtin.zeroCells]
theorem gcap (w:World) (need old:Nat) (e:TypeId) (h:need<9223372036854775808):need<=grownCap w need old e/\grownCap w need old e<=maxLen:=by
 have he:grownCap w need old e=need+(w.tape w.drawn (.appendCap need old e)) % (2 ^ 63 - need):=rfl
 rw[he]
 unfold maxLen
 have:(w.tape w.drawn (.appendCap need old e)) % (2 ^ 63 - need)<2 ^ 63 - need:=zcD _ (by omega)
 constructor
 ·exact zcu _ _
 ·omega
theorem cel_inf:(Tryz.prog.info? 113).map (fun i=>(i.zero,i.size,i.bytes))=some (some (.agg #[.int .i64 0,.int .i64 0,.int .i64 0,.int .i64 0,.int .i64 0,.int .i64 0,.int .i64 0,.int .i64 0,.int .i64 0,.int .i64 0,.int .i64 0,.int .i64 0]),12,96):=by kernel_rfl
def GrowQ (w:World) (e:Ending) (w':World):Prop:=∃cap carr,e=.returned (.slice (some ⟨w.heap.size,0,none⟩) 0 cap)/\w'=w.drew.alloc (.cells carr 113)/\carr.size=cap * 12/\cap<=maxLen
set_option maxHeartbeats 400000 in
set_option maxRecDepth 100000 in
theorem Zlx (A:Option Addr) (n:Nat) (w:World) (h0:0<n) (hn:n<=1000000):Calls Tryz.prog 143 #[.slice A 0 0,.int .i64 n] w (GrowQ w):=by
 obtain⟨i0,hi,hz0,hz1,hz2⟩:=info_parts cel_inf
 have hr:=Lib.run_append_grow_zeros (P:=Tryz.prog) w 120 3 120 113 i0 _ .i64 .i64 Tryz.underlying120 Tryz.underlying3 hi hz0 A 0 0 [] (by cases A<;>simp[Builtin.firstCells,loadCells,loadCellsFrom]) n (by omega) (by rw[hz1];omega) (by omega) (by omega) (by rw[hz2];omega) (by rw[hz2];unfold Builtin.nextslicecap;rw[if_pos (by omega)];omega)
 have hc:=gcap w (0+n) 0 113 (by omega)
 generalize grownCap w (0+n) 0 113=cap at hr hc
 have hp:0<n:=by omega
 have hpi:(0:Int)<n:=by omega
 simp only[zaH]at hr hc
 have HR:=Lib.hid hr
 have hcc:n<=cap:=hc.1
 have ho:Hid (GrowQ w (.returned (.slice (some ⟨w.heap.size,0,none⟩) 0 cap)) (w.drew.alloc (.cells (#[]++Builtin.zeroCells (Value.agg #[.int .i64 0,.int .i64 0,.int .i64 0,.int .i64 0,.int .i64 0,.int .i64 0,.int .i64 0,.int .i64 0,.int .i64 0,.int .i64 0,.int .i64 0,.int .i64 0]).cells n++Builtin.zeroCells (Value.agg #[.int .i64 0,.int .i64 0,.int .i64 0,.int .i64 0,.int .i64 0,.int .i64 0,.int .i64 0,.int .i64 0,.int .i64 0,.int .i64 0,.int .i64 0,.int .i64 0]).cells (cap - n)) 113))):=by
  refine⟨cap,_,rfl,rfl,?_,hc.2⟩
  rw[Array.size_append,Array.size_append,ZfO,ZfO]
  simp[Value.cells]
  omega
 generalize w.drew.alloc _=w1 at HR ho
 clear hr hc
 cases A with
 | none =>
  go_enter Tryz.func143,Tryz.ntmps143
  go_wp2_with (at_builtin;refine wpList_append_run rfl (.tmp 20) (.tmp 21) _ _ rfl rfl rfl HR.out ?_)
  go_ret
  exact ho.out
 | some A =>
  go_enter Tryz.func143,Tryz.ntmps143
  go_wp2_with (at_builtin;refine wpList_append_run rfl (.tmp 20) (.tmp 21) _ _ rfl rfl rfl HR.out ?_)
  go_ret
  exact ho.out
set_option maxHeartbeats 400000 in
set_option maxRecDepth 100000 in
theorem Zl2 (A:Option Addr) (w:World):Calls Tryz.prog 143 #[.slice A 0 0,.int .i64 0] w (fun e w'=>e=.returned (.slice A 0 0)/\w'=w):=by
 cases A with
 | none =>
  go_enter Tryz.func143,Tryz.ntmps143
  go_wp2
  go_ret
  exact⟨rfl,rfl⟩
 | some A =>
  go_enter Tryz.func143,Tryz.ntmps143
  go_wp2
  go_ret
  exact⟨rfl,rfl⟩
theorem Zfv:Zmq Tryz.prog 143:=⟨_,Tryz.func143,by kernel_rfl,by kernel_rfl⟩
theorem Zko (n:Nat) (H:Zaa) (h0:0<n) (hn:n<=1000000):Zay Tryz.prog 143 [.sl .full [],.i n] H fun r H'=>r=.sl (.own H.next) []/\H'=H.alloc (.tok 0 113 12):=by
 refine⟨Zfv,fun g w vs hW hV=>?_⟩
 obtain⟨v0,v1,rfl⟩:∃v0 v1,vs=[v0,v1]:=by
  match vs,hV.1 with
  | [v0,v1],_=>exact⟨v0,v1,rfl⟩
 have h1:=hV.2 0 _ _ rfl rfl
 have h2:=hV.2 1 _ _ rfl rfl
 cases h2
 cases h1 with
 | sl _ _ A c sz b o f hc hm hA hsz hcell hv ht =>
  have ht':c=0:=ht
  subst ht'
  refine(Zlx A n w h0 hn).mono fun e w' ⟨cap,carr,he,hw',hs,hcm⟩=>?_
  subst hw'
  have hgr:w.grownBy (w.drew.alloc (.cells carr 113)) none:=⟨rfl,rfl,rfl,by simp,fun k hk _=>heap_alloc_old w.drew _ hk⟩
  obtain⟨k1,k2⟩:=Zjz (n:=0) hW hgr (zaf _) (heap_alloc_new w.drew _) hs (zaD _) hcm
  refine .inl ⟨_,_,_,_,he,⟨rfl,rfl⟩,?_,k1,k2⟩
  exact VR.sl (.own H.next) [] _ cap 0 0 0 (fun _ _=>undef) (zaD _) hcm (fun h=>absurd rfl h) (fun r h=>by cases h) (fun i r j x h=>by simp at h) (fun i r j x h=>by simp at h) ⟨0,cap,w.heap.size,by simp[Gh.tok],zaf _,fun _=>⟨rfl,fun _=>rfl⟩⟩
theorem ZiV (H:Zaa):Zay Tryz.prog 143 [.sl .full [],.i 0] H fun r H'=>r=.sl .full []/\H'=H:=by
 refine⟨Zfv,fun g w vs hW hV=>?_⟩
 obtain⟨v0,v1,rfl⟩:∃v0 v1,vs=[v0,v1]:=by
  match vs,hV.1 with
  | [v0,v1],_=>exact⟨v0,v1,rfl⟩
 have h1:=hV.2 0 _ _ rfl rfl
 have h2:=hV.2 1 _ _ rfl rfl
 cases h2
 cases h1 with
 | sl _ _ A c sz b o f hc hm hA hsz hcell hv ht =>
  have ht':c=0:=ht
  subst ht'
  refine(Zl2 A w).mono fun e w' ⟨he,hw'⟩=>?_
  subst hw'
  exact .inl ⟨_,_,_,g,he,⟨rfl,rfl⟩,VR.sl .full [] A 0 sz b o f hc hm hA hsz hcell hv rfl,hW,.refl _ _ _⟩
def v98_1:Zar:=rl 0 30 31 (.t 29) 56<|.blk 1<|rs 31 [.Y 1 28 30,.s 12]<|rs 33 [.M 9,.M 0,.k 35,.F 0 36,.M 12,.x 11 38 39,.F 0 40,.M 1,.Y 1 42 43,.Y 1 34 45,.s 13]<|ry 47 [.M 10,.M 13,.M 10,.M 13,.O (.lkp (.one (.int .i64)) (.sl .full []) false (.t 50) (.t 51)),.M 12,.A 3 1 8 52 53,.w (.mup (.one (.int .i64)) (.t 48) (.t 49) (.t 55))]
def v98_2:Zar:=.blk 2<|.loop<|rs 58 [.O (.nxt false (.t 58)),.e 59 0]<|.seq (.cond (.t 60) .skip<|.exit 2)<|.blk 3<|rs 60 [.O (.ent (.t 58)),.e 61 0,.e 61 1,.m 15 62,.s 16]<|ry 63 [.M 14,.M 15,.M 16,.O (.bld [.sc (.int .i64 0),.sl .full []] [(0,(1,.t 65)),(1,(1,.t 66))]),.O (.bsv 176 2 [.t 67]),.O (.apv 176 2 32 [.sc (.int .i64 0),.sl .full []] (.t 64) (.t 68)),.s 14]
def Zgg:Zar:=rs 0 [.D 8]<|rs 16 [.M 0,.k 17,.F 1 18,.M 1,.Y 1 20 21,.M 2,.Y 1 23 24,.s 9]<|rs 26 [.O (.mkm (.one (.int .i64))),.s 10]<|.seq (rs 27 [.R 3,.J 0]<|v98_1)<|rs 0 [.D 14]<|.seq (rs 56 [.M 10,.O (.rng (.t 57))]<|v98_2)<|rs 69 [.M 14,.C 137 [.t 70,jf 138]]<|rr 71 [.M 14,.s 8]
theorem kf1 (f:FuncId) (c:Zar) (r:List Zcq) (n:Nat) (h:cFn Tryz.prog eqTg f=some (c,r,n):=by kernel_rfl):cFn Tryz.prog eqTg f=some (c,r,n):=h
def vf98:=kf1 98 Zgg [.tmp 8] 73
end Go.Proofs.YtaapiigfmdhobaaGreat
