/- Texts of the walk. -/
import Derived.Test.YtaapiigfmdhobaaGreatMq
import Derived.Test.YtaapiigfmdhobaaGreatMe
import Derived.Lib.AppendZerosOnto
namespace Go.Proofs.YtaapiigfmdhobaaGreat
set_option linter.unusedSimpArgs false
set_option linter.unusedVariables false
open Go.RowKit
def ZqY:Zar:=.seq (.reg [io 2 (.box 115 (.t 0)),io 4 (.mv jn)]) (.seq (.seq (.reg [im 5 1,io 6 (.fla 1 (.t 2)),io 7 (.ld 1 false (.t 6)),io 8 (.len false (.t 7)),io 9 (.bin .lss (.t 5) (.t 8))]) (.cond (.t 9) (.seq (.reg [io 10 (.fla 1 (.t 2)),io 11 (.ld 1 false (.t 10)),im 12 1,io 13 (.ixa 1 (.t 11) (.t 12)),io 14 (.ld 1 false (.t 13)),im 4 14]) .ret) .skip)) (.seq (.reg [io 4 (.mv jn)]) .ret))
theorem cf116:cFn Tryz.prog eqT 116=some (ZqY,[(.tmp 4)],15):=by kernel_rfl
def ZnZ:Zar:=.seq (.reg [io 8 (.box 198 (.t 3)),io 9 (.box 198 (.t 4)),io 10 (.box 113 (.c za5))]) (.seq (.seq (.reg [im 13 1,io 14 (.un .not (.t 13))]) (.cond (.t 14) (.seq (.drw [ip (im 15 2),ip (im 16 0),ip (io 17 (.ld 13 true (.t 8))),ip (io 19 (.ld 13 true (.t 9))),(io 18 (.call (jf 147) [.t 17]),[io 19 (.ld 13 true (.t 9))]),ip (io 20 (.call (jf 147) [.t 19])),ip (io 21 (.bld [.sc (.int .i64 0),.sc (.int .i64 0)] [(0,(1,.t 18)),(1,(1,.t 20))])),ip (io 22 (.call (jf 74) [.t 16,.t 21])),ip (io 23 (.bld zl7 [(0,(1,.t 15)),(1,(1,.t 22))])),ip (iz (.st 12 (.t 10) (.t 23)))]) .ret) .skip)) (.seq (.reg [io 25 (.fla 0 (.t 8)),io 26 (.fla 2 (.t 25)),io 27 (.ld 10 true (.t 26)),io 28 (.fla 0 (.t 9)),io 29 (.fla 2 (.t 28)),io 30 (.ld 10 true (.t 29)),io 31 (.call (jf 148) [.t 27,.t 30]),im 24 31,io 32 (.ext (.t 24) 0),io 33 (.ext (.t 24) 1),io 11 (.box 54 (.c za0)),iz (.st 10 (.t 11) (.t 32)),im 12 33]) (.seq (.seq (.reg [im 34 12,io 35 (.un .not (.t 34))]) (.cond (.t 35) (.reg [im 36 0,io 37 (.nck (.t 36)),io 38 (.fla 4 (.t 37)),iz (.st 1 (.t 38) (ik 12))]) .skip)) (.seq (.reg [im 39 2,io 40 (.ld 10 true (.t 11)),io 41 (.bld zl7 [(0,(1,.t 39)),(2,(10,.t 40))]),iz (.st 12 (.t 10) (.t 41))]) .ret))))
theorem cf117:cFn Tryz.prog eqT 117=some (ZnZ,[(.cell 12 true 10)],42):=by kernel_rfl
def c121_1:Zar:=.blk 0 (.loop (.seq (.reg [io 42 (.bin .lss (.t 41) (.t 40))]) (.seq (.cond (.t 42) .skip (.exit 0)) (.seq (.blk 1 (.seq (.reg [im 43 41,io 44 (.ixa 1 (.t 39) (.t 41)),io 45 (.ld 1 false (.t 44)),im 5 43,im 6 45]) (.seq (.seq (.drw [ip (io 46 (.ld 2 true (.t 2))),ip (io 47 (.fla 0 (.t 3))),ip (io 48 (.ld 1 false (.t 47))),ip (io 49 (.fla 0 (.t 2))),ip (io 50 (.ld 1 false (.t 49))),ip (io 51 (.fla 0 (.t 3))),ip (io 52 (.ld 1 false (.t 51))),ip (io 53 (.ixa 1 (.t 50) (.t 52))),ip (io 54 (.ld 1 false (.t 53))),ip (im 55 5),ip (io 56 (.ixa 1 (.t 54) (.t 55))),ip (io 57 (.ld 1 false (.t 56))),ip (im 58 6),ip (io 59 (.call (jf 150) [.t 46,.t 48,.t 57,.t 58])),ip (im 7 59)]) (.seq (.reg [im 60 7,io 61 (.bin .neq (.t 60) (ik 0))]) (.cond (.t 61) (.seq (.reg [im 62 7,im 4 62]) .ret) .skip))) (.seq (.reg [im 63 5,io 64 (.bin .gtr (.t 63) (ik 0)),im 65 64,ig 65 66 (.mv (.t 6)),ig 65 67 (.len false (.t 66)),ig 65 68 (.fla 1 (.t 3)),ig 65 69 (.ld 1 false (.t 68)),ig 65 70 (.mv (.t 5)),ig 65 71 (.bin .sub (.t 70) (ik 1)),ig 65 72 (.ixa 1 (.t 69) (.t 71)),ig 65 73 (.ld 1 false (.t 72)),ig 65 74 (.len false (.t 73)),ig 65 75 (.bin .gtr (.t 67) (.t 74)),io 76 (.pick (.t 65) (.t 75) (ib false))]) (.cond (.t 76) (.seq (.reg [jm 4 14]) .ret) .skip))))) (.reg [io 77 (.bin .add (.t 41) (ik 1)),im 41 77])))))
def Zcv:Zar:=.seq (.reg [io 2 (.box 37 (.t 0)),io 3 (.box 115 (.t 1)),jm 4 0]) (.seq (.seq (.drw [ip (io 8 (.fla 0 (.t 3))),ip (io 9 (.ld 1 false (.t 8))),ip (io 10 (.bin .lss (.t 9) (ik 0))),ip (im 11 10),ip (ih 11 12 (.fla 0 (.t 3))),ip (ih 11 13 (.ld 1 false (.t 12))),ip (ih 11 14 (.fla 0 (.t 2))),ip (ih 11 15 (.ld 1 false (.t 14))),ip (ih 11 16 (.len false (.t 15))),ip (ih 11 17 (.bin .geq (.t 13) (.t 16))),ip (io 18 (.pick (.t 11) (ib true) (.t 17))),ip (im 19 18),ip (ih 19 20 (.fla 1 (.t 3))),ip (ih 19 21 (.ld 1 false (.t 20))),ip (ih 19 22 (.len false (.t 21))),ip (ih 19 23 (.fla 0 (.t 2))),ip (ih 19 24 (.ld 1 false (.t 23))),ip (ih 19 25 (.fla 0 (.t 3))),ip (ih 19 26 (.ld 1 false (.t 25))),ip (ih 19 27 (.ixa 1 (.t 24) (.t 26))),ip (ih 19 28 (.ld 1 false (.t 27))),ip (ih 19 29 (.len false (.t 28))),ip (ih 19 30 (.bin .neq (.t 22) (.t 29))),ip (io 31 (.pick (.t 19) (ib true) (.t 30))),ip (im 32 31),ip (ih 32 33 (.fla 1 (.t 3))),ip (ih 32 34 (.ld 1 false (.t 33))),ip (ih 32 35 (.len false (.t 34))),ip (ih 32 36 (.bin .eql (.t 35) (ik 0))),ip (io 37 (.pick (.t 32) (ib true) (.t 36)))]) (.cond (.t 37) (.seq (.reg [jm 4 2]) .ret) .skip)) (.seq (.seq (.reg [io 38 (.fla 1 (.t 3)),io 39 (.ld 1 false (.t 38)),io 40 (.len false (.t 39)),jm 41 0]) c121_1) (.seq (.seq (.reg [io 78 (.fla 2 (.t 3)),io 79 (.fla 0 (.t 78)),io 80 (.ld 1 false (.t 79)),io 81 (.bin .neq (.t 80) (ik 0)),im 82 81,ih 82 83 (.ld 2 true (.t 2)),ih 82 84 (.fla 0 (.t 3)),ih 82 85 (.ld 1 false (.t 84)),ih 82 86 (.fla 2 (.t 3)),ih 82 87 (.ld 12 true (.t 86)),ih 82 88 (.call (jf 151) [.t 83,.t 85,.t 87]),ih 82 89 (.un .not (.t 88)),io 90 (.pick (.t 82) (ib true) (.t 89))]) (.cond (.t 90) (.seq (.reg [jm 4 2]) .ret) .skip)) (.seq (.reg [jm 4 0]) .ret))))
theorem cf121:cFn Tryz.prog eqT 121=some (Zcv,[(.tmp 4)],91):=by kernel_rfl
def c122_1:Zar:=.blk 0 (.loop (.seq (.reg [io 20 (.bin .lss (.t 19) (.t 18))]) (.seq (.cond (.t 20) .skip (.exit 0)) (.seq (.blk 1 (.seq (.reg [io 21 (.ixa 12 (.t 17) (.t 19)),io 22 (.ld 12 true (.t 21)),io 7 (.box 113 (.c za5)),iz (.st 12 (.t 7) (.t 22))]) (.seq (.reg [im 23 5,io 24 (.ld 12 true (.t 7)),io 25 (.call (.t 23) [.t 24]),io 26 (.un .not (.t 25))]) (.cond (.t 26) (.seq (.reg [io 4 (.mv (ib false))]) .ret) .skip)))) (.reg [io 27 (.bin .add (.t 19) (ik 1)),im 19 27])))))
def ZcM:Zar:=.seq (.reg [io 2 (.box 29 (.t 0)),io 3 (.box 115 (.t 1)),io 4 (.mv (ib false))]) (.seq (.seq (.drw [ip (io 8 (.ld 1 false (.t 2))),ip (io 9 (.nck (.t 8))),ip (io 10 (.fla 0 (.t 9))),ip (io 11 (.ld 2 true (.t 10))),ip (io 12 (.fla 0 (.t 3))),ip (io 13 (.ld 1 false (.t 12))),ip (io 14 (.call (jf 62) [.t 11,.t 13]))]) (.cond (.t 14) (.seq (.reg [io 4 (.mv (ib true))]) .ret) .skip)) (.seq (.reg [io 15 (.mkf 152 [] [.t 2,.t 3]),im 5 15]) (.seq (.seq (.reg [io 16 (.ld 14 true (.t 3)),io 17 (.call (jf 63) [.t 16]),io 18 (.len false (.t 17)),jm 19 0]) c122_1) (.seq (.reg [io 4 (.mv (ib true))]) .ret))))
theorem cf122:cFn Tryz.prog eqT 122=some (ZcM,[(.tmp 4)],28):=by kernel_rfl
def Ztm:Zar:=.seq (.reg [io 4 (.mv (ib false))]) (.seq (.reg [im 5 0,im 6 1,io 7 (.call (jf 113) [.t 5,.t 6]),im 4 7]) .ret)
theorem cf124:cFn Tryz.prog eqT 124=some (Ztm,[(.tmp 4)],8):=by kernel_rfl
def c126_1:Zar:=.blk 0 (.loop (.seq (.reg [io 25 (.bin .lss (.t 24) (.t 23))]) (.seq (.cond (.t 25) .skip (.exit 0)) (.seq (.blk 1 (.seq (.reg [io 26 (.ixa 12 (.t 22) (.t 24)),io 27 (.ld 12 true (.t 26)),io 9 (.box 113 (.c za5)),iz (.st 12 (.t 9) (.t 27))]) (.reg [im 28 7,io 29 (.fla 1 (.t 9)),io 30 (.ld 1 false (.t 29)),io 31 (.bsl 1 [.t 30]),io 32 (.app 3 1 8 (.t 28) (.t 31)),im 7 32]))) (.reg [io 33 (.bin .add (.t 24) (ik 1)),im 24 33])))))
def Zre:Zar:=.seq (.reg [io 4 (.mv jn)]) (.seq (.reg [im 11 0,im 12 1,io 13 (.call (jf 68) [.t 11,.t 12]),im 10 13,io 14 (.ext (.t 10) 0),io 15 (.ext (.t 10) 1),io 5 (.box 115 (.c za4)),iz (.st 14 (.t 5) (.t 14)),im 6 15]) (.seq (.seq (.drw [ip (im 16 0),ip (io 18 (.fla 0 (.t 5))),ip (io 19 (.ld 1 false (.t 18))),(io 17 (.call (jf 65) [.t 16]),[io 19 (.ld 1 false (.t 18))]),ip (io 20 (.call (jf 62) [.t 17,.t 19]))]) (.cond (.t 20) (.seq (.reg [io 4 (.mv jn)]) .ret) .skip)) (.seq (.reg [io 7 (.mv jn)]) (.seq (.seq (.reg [io 21 (.ld 14 true (.t 5)),io 22 (.call (jf 63) [.t 21]),io 23 (.len false (.t 22)),jm 24 0]) c126_1) (.seq (.reg [im 34 7,im 4 34]) .ret)))))
theorem cf126:cFn Tryz.prog eqT 126=some (Zre,[(.tmp 4)],35):=by kernel_rfl
def Zsn:Zar:=.seq (.reg [io 4 (.box 155 (.t 0)),io 5 (.box 4 (.t 1)),io 8 (.mv (ib false))]) (.seq (.reg [im 9 2,im 10 3,io 11 (.mkf 156 [] [.t 5,.t 4]),io 12 (.call (jf 155) [.t 9,.t 10,.t 11]),im 8 12]) .ret)
theorem cf127:cFn Tryz.prog eqT 127=some (Zsn,[(.tmp 8)],13):=by kernel_rfl
def c128_1:Zar:=.blk 0 (.loop (.seq (.reg [io 18 (.bin .lss (.t 17) (.t 16))]) (.seq (.cond (.t 18) .skip (.exit 0)) (.seq (.blk 1 (.seq (.reg [im 19 17,io 20 (.ixa 1 (.t 15) (.t 17)),io 21 (.ld 1 false (.t 20)),im 7 19,im 8 21]) (.seq (.reg [im 22 1,im 23 7,io 24 (.ixa 1 (.t 22) (.t 23)),io 25 (.ld 1 false (.t 24)),im 9 25]) (.seq (.reg [im 26 2,im 27 8,im 28 9,io 29 (.call (.t 26) [.t 27,.t 28]),io 30 (.un .not (.t 29))]) (.cond (.t 30) (.seq (.reg [io 6 (.mv (ib false))]) .ret) .skip))))) (.reg [io 31 (.bin .add (.t 17) (ik 1)),im 17 31])))))
def ZrW:Zar:=.seq (.reg [io 6 (.mv (ib false))]) (.seq (.seq (.reg [im 10 0,io 11 (.len false (.t 10)),im 12 1,io 13 (.len false (.t 12)),io 14 (.bin .neq (.t 11) (.t 13))]) (.cond (.t 14) (.seq (.reg [io 6 (.mv (ib false))]) .ret) .skip)) (.seq (.seq (.reg [im 15 0,io 16 (.len false (.t 15)),jm 17 0]) c128_1) (.seq (.reg [io 6 (.mv (ib true))]) .ret)))
theorem cf128:cFn Tryz.prog eqT 128=some (ZrW,[(.tmp 6)],32):=by kernel_rfl
def c129_0:Zar:=.seq (.reg [io 4 (.mv (ib false))]) (.seq (.reg [im 5 0,io 6 (.len false (.t 5)),im 7 1,io 8 (.len false (.t 7)),io 9 (.bin .eql (.t 6) (.t 8)),im 4 9]) .ret)
theorem cf129:cFn Tryz.prog eqT 129=some (c129_0,[(.tmp 4)],10):=by kernel_rfl
def c130_1:Zar:=.blk 0 (.loop (.seq (.reg [io 15 (.bin .lss (.t 14) (.t 13))]) (.seq (.cond (.t 15) .skip (.exit 0)) (.seq (.blk 1 (.seq (.reg [im 16 14,im 3 16]) (.seq (.reg [im 17 0,im 18 3,io 19 (.ixs (.t 17) (.t 18)),im 4 19]) (.blk 2 (.seq (.seq (.reg [im 21 4,io 22 (.bin .leq (.c (.sc (.int .u8 97))) (.t 21)),im 23 22,ig 23 24 (.mv (.t 4)),ig 23 25 (.bin .leq (.t 24) (.c (.sc (.int .u8 122)))),io 26 (.pick (.t 23) (.t 25) (ib false)),im 20 26]) (.cond (.t 20) .skip (.seq (.reg [im 27 4,io 28 (.bin .leq (.c (.sc (.int .u8 48))) (.t 27)),im 29 28,ig 29 30 (.mv (.t 4)),ig 29 31 (.bin .leq (.t 30) (.c (.sc (.int .u8 57)))),io 32 (.pick (.t 29) (.t 31) (ib false)),im 20 32]) (.cond (.t 20) .skip (.reg [im 33 4,io 34 (.bin .eql (.t 33) (.c (.sc (.int .u8 95)))),im 20 34]))))) (.cond (.t 20) .skip (.seq (.reg [jm 2 2]) .ret))))))) (.reg [io 35 (.bin .add (.t 14) (ik 1)),im 14 35])))))
def Zgs:Zar:=.seq (.reg [jm 2 0]) (.seq (.seq (.reg [im 5 0,io 6 (.bin .eql (.t 5) (.c (.sc (.string ⟨#[]⟩)))),im 7 6,ih 7 8 (.mv (.t 0)),ih 7 9 (.len true (.t 8)),ih 7 10 (.bin .gtr (.t 9) (ik 12)),io 11 (.pick (.t 7) (ib true) (.t 10))]) (.cond (.t 11) (.seq (.reg [jm 2 2]) .ret) .skip)) (.seq (.seq (.reg [im 12 0,io 13 (.len true (.t 12)),jm 14 0]) c130_1) (.seq (.reg [jm 2 0]) .ret)))
theorem cf130:cFn Tryz.prog eqT 130=some (Zgs,[(.tmp 2)],36):=by kernel_rfl
def Zds:Zar:=.seq (.reg [io 2 (.box 107 (.t 0)),jm 4 0]) (.seq (.seq (.reg [io 7 (.fla 0 (.t 2)),io 8 (.ld 1 false (.t 7)),io 9 (.call (jf 130) [.t 8]),im 5 9]) (.seq (.reg [im 10 5,io 11 (.bin .neq (.t 10) (ik 0))]) (.cond (.t 11) (.seq (.reg [im 12 5,im 4 12]) .ret) .skip))) (.seq (.seq (.reg [io 13 (.fla 1 (.t 2)),io 14 (.ld 1 false (.t 13)),io 15 (.len false (.t 14)),io 16 (.bin .lss (.t 15) (ik 1)),im 17 16,ih 17 18 (.fla 1 (.t 2)),ih 17 19 (.ld 1 false (.t 18)),ih 17 20 (.len false (.t 19)),ih 17 21 (.bin .gtr (.t 20) (ik 200)),io 22 (.pick (.t 17) (ib true) (.t 21))]) (.cond (.t 22) (.seq (.reg [jm 4 5]) .ret) .skip)) (.seq (.seq (.reg [io 23 (.fla 1 (.t 2)),io 24 (.ld 1 false (.t 23)),io 25 (.call (jf 157) [.t 24]),im 6 25]) (.seq (.reg [im 26 6,io 27 (.bin .neq (.t 26) (ik 0))]) (.cond (.t 27) (.seq (.reg [im 28 6,im 4 28]) .ret) .skip))) (.seq (.seq (.reg [io 29 (.fla 2 (.t 2)),io 30 (.ld 1 false (.t 29)),io 31 (.fla 1 (.t 2)),io 32 (.ld 1 false (.t 31)),io 33 (.len false (.t 32)),im 34 1,io 35 (.call (jf 158) [.t 30,.t 33,.t 34]),io 36 (.un .not (.t 35))]) (.cond (.t 36) (.seq (.reg [jm 4 14]) .ret) .skip)) (.seq (.reg [jm 4 0]) .ret)))))
theorem cf131:cFn Tryz.prog eqT 131=some (Zds,[(.tmp 4)],37):=by kernel_rfl
def ZmU:Zar:=.seq (.reg [io 2 (.box 102 (.t 0)),jm 4 0]) (.seq (.seq (.reg [im 5 1,io 6 (.bin .add (.t 5) (ik 1)),io 7 (.fla 1 (.t 2)),io 8 (.ld 1 false (.t 7)),io 9 (.len false (.t 8)),io 10 (.bin .lss (.t 6) (.t 9))]) (.cond (.t 10) (.seq (.reg [io 11 (.fla 1 (.t 2)),io 12 (.ld 1 false (.t 11)),im 13 1,io 14 (.bin .add (.t 13) (ik 1)),io 15 (.ixa 3 (.t 12) (.t 14)),io 16 (.fla 1 (.t 15)),io 17 (.ld 1 false (.t 16)),io 18 (.len false (.t 17)),im 4 18]) .ret) .skip)) (.seq (.reg [jm 4 0]) .ret))
theorem cf132:cFn Tryz.prog eqT 132=some (ZmU,[(.tmp 4)],19):=by kernel_rfl
def c133_1:Zar:=.blk 0 (.loop (.seq (.reg [io 21 (.bin .lss (.t 20) (ik 3))]) (.seq (.cond (.t 21) .skip (.exit 0)) (.seq (.blk 1 (.seq (.reg [im 22 20,io 23 (.ixv 3 3 true (.t 19) (.t 20)),io 6 (.box 51 (.c za13)),im 5 22,iz (.st 3 (.t 6) (.t 23))]) (.blk 2 (.seq (.reg [im 25 5,im 26 0,io 27 (.bin .geq (.t 25) (.t 26)),im 28 27,ig 28 29 (.ld 3 true (.t 6)),ig 28 30 (.bld [.sc (.int .i64 0),.sc (.int .i64 0),.sc (.int .i64 0)] []),ig 28 31 (.eqf [.int .i64,.int .i64,.int .i64] true (.t 29) (.t 30)),io 32 (.pick (.t 28) (.t 31) (ib false)),im 24 32]) (.cond (.t 24) (.seq (.reg [io 4 (.mv (ib false))]) .ret) (.seq (.reg [im 34 5,im 35 0,io 36 (.bin .lss (.t 34) (.t 35)),im 37 36,ig 37 38 (.fla 1 (.t 6)),ig 37 39 (.ld 1 false (.t 38)),ig 37 40 (.fla 2 (.t 6)),ig 37 41 (.ld 1 false (.t 40)),ig 37 42 (.bin .gtr (.t 39) (.t 41)),io 43 (.pick (.t 37) (.t 42) (ib false)),im 33 43]) (.cond (.t 33) (.seq (.reg [io 4 (.mv (ib false))]) .ret) (.seq (.reg [im 45 5,im 46 0,io 47 (.bin .lss (.t 45) (.t 46)),im 48 47,ig 48 49 (.fla 0 (.t 3)),ig 48 50 (.ld 1 false (.t 49)),ig 48 51 (.bin .eql (.t 50) (ik 1)),io 52 (.pick (.t 48) (.t 51) (ib false)),im 53 52,ig 53 54 (.fla 0 (.t 6)),ig 53 55 (.ld 1 false (.t 54)),ig 53 56 (.fla 1 (.t 6)),ig 53 57 (.ld 1 false (.t 56)),ig 53 58 (.bin .neq (.t 55) (.t 57)),ig 53 59 (.mv (.t 58)),ih 59 60 (.fla 0 (.t 6)),ih 59 61 (.ld 1 false (.t 60)),ih 59 62 (.fla 2 (.t 6)),ih 59 63 (.ld 1 false (.t 62)),ih 59 64 (.bin .neq (.t 61) (.t 63)),ig 53 65 (.pick (.t 59) (ib true) (.t 64)),io 66 (.pick (.t 53) (.t 65) (ib false)),im 44 66]) (.cond (.t 44) (.seq (.reg [io 4 (.mv (ib false))]) .ret) .skip))))))))) (.reg [io 67 (.bin .add (.t 20) (ik 1)),im 20 67])))))
def Zfp:Zar:=.seq (.reg [io 3 (.box 54 (.t 1)),io 4 (.mv (ib false))]) (.seq (.seq (.reg [im 7 0,io 8 (.bin .lss (.t 7) (ik 0)),im 9 8,ih 9 10 (.mv (.t 0)),ih 9 11 (.bin .gtr (.t 10) (ik 3)),io 12 (.pick (.t 9) (ib true) (.t 11)),im 13 12,ih 13 14 (.fla 0 (.t 3)),ih 13 15 (.ld 1 false (.t 14)),ih 13 16 (.bin .lss (.t 15) (ik 1)),io 17 (.pick (.t 13) (ib true) (.t 16))]) (.cond (.t 17) (.seq (.reg [io 4 (.mv (ib false))]) .ret) .skip)) (.seq (.seq (.reg [io 18 (.fla 1 (.t 3)),io 19 (.ld 9 true (.t 18)),jm 20 0]) c133_1) (.seq (.reg [io 4 (.mv (ib true))]) .ret)))
theorem cf133:cFn Tryz.prog eqT 133=some (Zfp,[(.tmp 4)],68):=by kernel_rfl
def c134_1:Zar:=.blk 0 (.loop (.seq (.reg [io 12 (.bin .lss (.t 11) (.t 10))]) (.seq (.cond (.t 12) .skip (.exit 0)) (.seq (.blk 1 (.seq (.reg [im 13 11,io 14 (.ixa 1 (.t 9) (.t 11)),io 15 (.ld 1 false (.t 14)),im 5 13,im 6 15]) (.seq (.seq (.reg [im 16 5,im 17 1,io 18 (.len false (.t 17)),io 19 (.bin .geq (.t 16) (.t 18))]) (.cond (.t 19) (.seq (.reg [jm 4 1]) .ret) .skip)) (.seq (.reg [im 20 1,im 21 5,io 22 (.ixa 1 (.t 20) (.t 21)),io 23 (.ld 1 false (.t 22)),im 7 23]) (.seq (.reg [im 24 6,im 25 7,io 26 (.call (jf 139) [.t 24,.t 25]),im 8 26]) (.seq (.reg [im 27 8,io 28 (.bin .neq (.t 27) (ik 0))]) (.cond (.t 28) (.seq (.reg [im 29 8,im 4 29]) .ret) .skip))))))) (.reg [io 30 (.bin .add (.t 11) (ik 1)),im 11 30])))))
def Zed:Zar:=.seq (.reg [jm 4 0]) (.seq (.seq (.reg [im 9 0,io 10 (.len false (.t 9)),jm 11 0]) c134_1) (.seq (.seq (.reg [im 31 0,io 32 (.len false (.t 31)),im 33 1,io 34 (.len false (.t 33)),io 35 (.bin .lss (.t 32) (.t 34))]) (.cond (.t 35) (.seq (.reg [jm 4 (-1)]) .ret) .skip)) (.seq (.reg [jm 4 0]) .ret)))
theorem cf134:cFn Tryz.prog eqT 134=some (Zed,[(.tmp 4)],36):=by kernel_rfl
def ZmX:Zar:=.seq (.reg [io 2 (.box 102 (.t 0)),io 4 (.mv (ib false))]) (.seq (.reg [im 5 1,io 6 (.bin .geq (.t 5) (ik 0)),im 7 6,ig 7 8 (.mv (.t 1)),ig 7 9 (.fla 1 (.t 2)),ig 7 10 (.ld 1 false (.t 9)),ig 7 11 (.len false (.t 10)),ig 7 12 (.bin .lss (.t 8) (.t 11)),io 13 (.pick (.t 7) (.t 12) (ib false)),im 4 13]) .ret)
theorem cf135:cFn Tryz.prog eqT 135=some (ZmX,[(.tmp 4)],14):=by kernel_rfl
def c136_1:Zar:=.blk 0 (.loop (.seq (.seq (.reg [im 41 9,im 42 2,io 43 (.bin .lss (.t 41) (.t 42)),im 44 43,ig 44 45 (.mv (.t 3)),ig 44 46 (.bin .geq (.t 45) (ik 0)),io 47 (.pick (.t 44) (.t 46) (ib false))]) (.cond (.t 47) .skip (.exit 0))) (.seq (.blk 1 (.reg [io 50 (.fla 1 (.t 4)),io 51 (.ld 1 false (.t 50)),im 52 9,io 53 (.ixa 3 (.t 51) (.t 52)),io 54 (.ld 3 true (.t 53)),im 55 3,io 56 (.call (jf 159) [.t 54,.t 55]),im 3 56])) (.reg [im 48 9,io 49 (.bin .add (.t 48) (ik 1)),im 9 49]))))
def ZeV:Zar:=.seq (.reg [io 4 (.box 102 (.t 0)),jm 8 0]) (.seq (.seq (.reg [io 10 (.ld 2 true (.t 4)),im 11 1,io 12 (.call (jf 135) [.t 10,.t 11]),io 13 (.un .not (.t 12)),im 14 13,ih 14 15 (.ld 2 true (.t 4)),ih 14 16 (.mv (.t 2)),ih 14 17 (.call (jf 135) [.t 15,.t 16]),ih 14 18 (.un .not (.t 17)),io 19 (.pick (.t 14) (ib true) (.t 18)),im 20 19,ih 20 21 (.mv (.t 1)),ih 20 22 (.mv (.t 2)),ih 20 23 (.bin .gtr (.t 21) (.t 22)),io 24 (.pick (.t 20) (ib true) (.t 23)),im 25 24,ih 25 26 (.mv (.t 3)),ih 25 27 (.bin .lss (.t 26) (ik 0)),io 28 (.pick (.t 25) (ib true) (.t 27)),im 29 28,ih 29 30 (.mv (.t 3)),ih 29 31 (.fla 1 (.t 4)),ih 29 32 (.ld 1 false (.t 31)),ih 29 33 (.mv (.t 1)),ih 29 34 (.ixa 3 (.t 32) (.t 33)),ih 29 35 (.fla 1 (.t 34)),ih 29 36 (.ld 1 false (.t 35)),ih 29 37 (.len false (.t 36)),ih 29 38 (.bin .geq (.t 30) (.t 37)),io 39 (.pick (.t 29) (ib true) (.t 38))]) (.cond (.t 39) (.seq (.reg [jm 8 (-1)]) .ret) .skip)) (.seq (.seq (.reg [im 40 1,im 9 40]) c136_1) (.seq (.reg [im 57 3,io 58 (.mm true (.t 57) (ik (-1))),im 8 58]) .ret)))
theorem cf136:cFn Tryz.prog eqT 136=some (ZeV,[(.tmp 8)],59):=by kernel_rfl
def Zka:Zar:=.seq (.reg [jm 4 0]) (.seq (.reg [im 7 0,io 8 (.call (jf 162) [.t 7]),im 5 8]) (.seq (.reg [im 9 1,io 10 (.call (jf 162) [.t 9]),im 6 10]) (.seq (.seq (.reg [im 11 5]) (.cond (.t 11) (.seq (.seq (.reg [im 12 6]) (.cond (.t 12) (.seq (.reg [jm 4 0]) .ret) .skip)) (.seq (.reg [jm 4 (-1)]) .ret)) .skip)) (.seq (.seq (.reg [im 13 6]) (.cond (.t 13) (.seq (.reg [jm 4 1]) .ret) .skip)) (.seq (.seq (.reg [im 14 0,im 15 1,io 16 (.bin .lss (.t 14) (.t 15))]) (.cond (.t 16) (.seq (.reg [jm 4 (-1)]) .ret) .skip)) (.seq (.seq (.reg [im 17 0,im 18 1,io 19 (.bin .gtr (.t 17) (.t 18))]) (.cond (.t 19) (.seq (.reg [jm 4 1]) .ret) .skip)) (.seq (.reg [jm 4 0]) .ret)))))))
theorem cf139:cFn Tryz.prog eqT 139=some (Zka,[(.tmp 4)],20):=by kernel_rfl
def c140_1:Zar:=.blk 0 (.loop (.seq (.reg [io 13 (.bin .lss (.t 12) (.t 11))]) (.seq (.cond (.t 13) .skip (.exit 0)) (.seq (.blk 1 (.seq (.reg [io 14 (.ixa 1 (.t 10) (.t 12)),io 15 (.ld 1 false (.t 14)),im 8 15]) (.seq (.drw [ip (io 17 (.ld 10 true (.t 5))),ip (im 18 0),ip (io 19 (.nck (.t 18))),ip (io 20 (.fla 0 (.t 19))),ip (io 21 (.ld 1 false (.t 20))),ip (im 22 8),ip (io 23 (.ixa 11 (.t 21) (.t 22))),ip (io 24 (.fla 1 (.t 23))),ip (io 25 (.ld 10 true (.t 24))),ip (io 26 (.call (jf 148) [.t 17,.t 25])),ip (im 16 26),ip (io 27 (.ext (.t 16) 0)),ip (io 28 (.ext (.t 16) 1)),ip (iz (.st 10 (.t 5) (.t 27))),ip (im 6 28)]) (.seq (.reg [im 29 6,io 30 (.un .not (.t 29))]) (.cond (.t 30) (.seq (.reg [im 31 0,io 32 (.nck (.t 31)),io 33 (.fla 4 (.t 32)),iz (.st 1 (.t 33) (ik 12))]) (.seq (.reg [io 34 (.bld zl1 []),iz (.st 10 (.t 4) (.t 34))]) .ret)) .skip))))) (.reg [io 35 (.bin .add (.t 12) (ik 1)),im 12 35])))))
def ZfC:Zar:=.seq (.reg [io 4 (.box 54 (.c za0))]) (.seq (.reg [io 9 (.bld zl1 []),io 5 (.box 54 (.c za0)),iz (.st 10 (.t 5) (.t 9)),io 6 (.mv (ib true))]) (.seq (.seq (.reg [im 10 1,io 11 (.len false (.t 10)),jm 12 0]) c140_1) (.seq (.reg [io 36 (.ld 10 true (.t 5)),iz (.st 10 (.t 4) (.t 36))]) .ret)))
theorem cf140:cFn Tryz.prog eqT 140=some (ZfC,[(.cell 10 true 4)],37):=by kernel_rfl
def ZqT:Zar:=.seq (.reg [io 1 (.box 198 (.t 0)),jm 2 0]) (.seq (.seq (.reg [io 3 (.fla 12 (.t 1)),io 4 (.ld 1 false (.t 3)),io 5 (.un .not (.t 4))]) (.cond (.t 5) (.seq (.reg [jm 2 (-1)]) .ret) .skip)) (.seq (.reg [io 6 (.fla 0 (.t 1)),io 7 (.fla 1 (.t 6)),io 8 (.ld 1 false (.t 7)),im 2 8]) .ret))
theorem cf147:cFn Tryz.prog eqT 147=some (ZqT,[(.tmp 2)],9):=by kernel_rfl
def c148_1:Zar:=.blk 1 (.loop (.seq (.reg [io 33 (.bin .lss (.t 32) (ik 3))]) (.seq (.cond (.t 33) .skip (.exit 1)) (.seq (.blk 2 (.seq (.reg [im 34 32,im 8 34]) (.seq (.drw [ip (im 36 8),ip (im 37 8),ip (io 38 (.fla 1 (.t 2))),ip (io 39 (.ixA 3 3 (.t 38) (.t 37))),ip (io 40 (.ld 3 true (.t 39))),ip (im 41 8),ip (io 42 (.fla 1 (.t 3))),ip (io 43 (.ixA 3 3 (.t 42) (.t 41))),ip (io 44 (.ld 3 true (.t 43))),ip (io 48 (.fla 1 (.t 6))),ip (io 45 (.call (jf 168) [.t 40,.t 44])),ip (im 35 45),ip (io 46 (.ext (.t 35) 0)),ip (io 47 (.ext (.t 35) 1)),ip (io 49 (.ixA 3 3 (.t 48) (.t 36))),ip (iz (.st 3 (.t 49) (.t 46))),ip (im 7 47)]) (.seq (.reg [im 50 7,io 51 (.un .not (.t 50))]) (.cond (.t 51) (.seq (.reg [io 52 (.bld zl1 []),iz (.st 10 (.t 4) (.t 52)),io 5 (.mv (ib false))]) .ret) .skip))))) (.reg [io 53 (.bin .add (.t 32) (ik 1)),im 32 53])))))
def ZcC:Zar:=.seq (.reg [io 2 (.box 54 (.t 0)),io 3 (.box 54 (.t 1)),io 4 (.box 54 (.c za0)),io 5 (.mv (ib false))]) (.seq (.blk 0 (.seq (.reg [io 10 (.fla 0 (.t 2)),io 11 (.ld 1 false (.t 10)),io 12 (.bin .eql (.t 11) (ik 0)),im 9 12]) (.cond (.t 9) (.seq (.reg [io 13 (.ld 10 true (.t 3)),iz (.st 10 (.t 4) (.t 13)),io 5 (.mv (ib true))]) .ret) (.seq (.reg [io 15 (.fla 0 (.t 3)),io 16 (.ld 1 false (.t 15)),io 17 (.bin .eql (.t 16) (ik 0)),im 14 17]) (.cond (.t 14) (.seq (.reg [io 18 (.ld 10 true (.t 2)),iz (.st 10 (.t 4) (.t 18)),io 5 (.mv (ib true))]) .ret) .skip))))) (.seq (.reg [io 19 (.bld zl1 []),io 6 (.box 54 (.c za0)),iz (.st 10 (.t 6) (.t 19))]) (.seq (.reg [io 7 (.mv (ib true))]) (.seq (.seq (.reg [io 21 (.fla 0 (.t 2)),io 22 (.ld 1 false (.t 21)),io 23 (.fla 0 (.t 3)),io 24 (.ld 1 false (.t 23)),io 25 (.call (jf 167) [.t 22,.t 24]),im 20 25,io 26 (.ext (.t 20) 0),io 27 (.ext (.t 20) 1),io 28 (.fla 0 (.t 6)),iz (.st 1 (.t 28) (.t 26)),im 7 27]) (.seq (.reg [im 29 7,io 30 (.un .not (.t 29))]) (.cond (.t 30) (.seq (.reg [io 31 (.bld zl1 []),iz (.st 10 (.t 4) (.t 31)),io 5 (.mv (ib false))]) .ret) .skip))) (.seq (.seq (.reg [jm 32 0]) c148_1) (.seq (.reg [io 54 (.ld 10 true (.t 6)),iz (.st 10 (.t 4) (.t 54)),io 5 (.mv (ib true))]) .ret))))))
theorem cf148:cFn Tryz.prog eqT 148=some (ZcC,[(.cell 10 true 4),(.tmp 5)],55):=by kernel_rfl
def c150_1:Zar:=.blk 0 (.loop (.seq (.reg [io 17 (.bin .lss (.t 16) (.t 15))]) (.seq (.cond (.t 17) .skip (.exit 0)) (.seq (.blk 1 (.seq (.reg [im 18 16,io 19 (.ixa 12 (.t 14) (.t 16)),io 20 (.ld 12 true (.t 19)),io 10 (.box 113 (.c za5)),im 9 18,iz (.st 12 (.t 10) (.t 20))]) (.blk 2 (.seq (.reg [io 22 (.fla 0 (.t 10)),io 23 (.ld 1 false (.t 22)),io 24 (.bin .lss (.t 23) (ik 0)),im 25 24,ih 25 26 (.fla 0 (.t 10)),ih 25 27 (.ld 1 false (.t 26)),ih 25 28 (.mv (.t 2)),ih 25 29 (.bin .geq (.t 27) (.t 28)),io 30 (.pick (.t 25) (ib true) (.t 29)),im 21 30]) (.cond (.t 21) (.seq (.reg [jm 8 13]) .ret) (.seq (.drw [ip (im 32 9),ip (io 33 (.bin .gtr (.t 32) (ik 0))),ip (im 34 33),ip (ig 34 35 (.mv (.t 3))),ip (ig 34 36 (.mv (.t 9))),ip (ig 34 37 (.bin .sub (.t 36) (ik 1))),ip (ig 34 38 (.ixa 12 (.t 35) (.t 37))),ip (ig 34 39 (.fla 0 (.t 38))),ip (ig 34 40 (.ld 1 false (.t 39))),ip (ig 34 41 (.fla 0 (.t 10))),ip (ig 34 42 (.ld 1 false (.t 41))),ip (ig 34 43 (.bin .geq (.t 40) (.t 42))),ip (io 44 (.pick (.t 34) (.t 43) (ib false))),ip (im 31 44)]) (.cond (.t 31) (.seq (.reg [jm 8 4]) .ret) (.seq (.reg [io 46 (.ld 2 true (.t 4)),im 47 1,io 48 (.ld 12 true (.t 10)),io 49 (.call (jf 151) [.t 46,.t 47,.t 48]),io 50 (.un .not (.t 49)),im 45 50]) (.cond (.t 45) (.seq (.reg [jm 8 2]) .ret) .skip))))))))) (.reg [io 51 (.bin .add (.t 16) (ik 1)),im 16 51])))))
def Zcx:Zar:=.seq (.reg [io 4 (.box 37 (.t 0)),jm 8 0]) (.seq (.seq (.reg [im 11 3,io 12 (.len false (.t 11)),io 13 (.bin .eql (.t 12) (ik 0))]) (.cond (.t 13) (.seq (.reg [jm 8 2]) .ret) .skip)) (.seq (.seq (.reg [im 14 3,io 15 (.len false (.t 14)),jm 16 0]) c150_1) (.seq (.reg [jm 8 0]) .ret)))
theorem cf150:cFn Tryz.prog eqT 150=some (Zcx,[(.tmp 8)],52):=by kernel_rfl
def Zfk:Zar:=.seq (.reg [io 3 (.box 37 (.t 0)),io 5 (.box 113 (.t 2)),io 6 (.mv (ib false))]) (.seq (.seq (.reg [io 7 (.ld 2 true (.t 3)),im 8 1,io 9 (.call (jf 62) [.t 7,.t 8])]) (.cond (.t 9) (.seq (.reg [io 10 (.fla 1 (.t 5)),io 11 (.ld 1 false (.t 10)),io 12 (.bin .eql (.t 11) (ik 0)),im 13 12,ig 13 14 (.fla 1 (.t 3)),ig 13 15 (.ld 1 false (.t 14)),ig 13 16 (.fla 2 (.t 5)),ig 13 17 (.ld 10 true (.t 16)),ig 13 18 (.call (jf 133) [.t 15,.t 17]),io 19 (.pick (.t 13) (.t 18) (ib false)),im 6 19]) .ret) .skip)) (.seq (.reg [io 20 (.fla 1 (.t 5)),io 21 (.ld 1 false (.t 20)),io 22 (.bin .geq (.t 21) (ik 0)),im 23 22,ig 23 24 (.fla 2 (.t 5)),ig 23 25 (.ld 10 true (.t 24)),ig 23 26 (.bld zl1 []),ig 23 27 (.eqf [.int .i64,.int .i64,.int .i64,.int .i64,.int .i64,.int .i64,.int .i64,.int .i64,.int .i64,.int .i64] false (.t 25) (.t 26)),io 28 (.pick (.t 23) (.t 27) (ib false)),im 6 28]) .ret))
theorem cf151:cFn Tryz.prog eqT 151=some (Zfk,[(.tmp 6)],29):=by kernel_rfl
def ZhO:Zar:=.seq (.reg [io 3 (.box 113 (.t 0)),io 4 (.mv (ib false))]) (.seq (.drw [ip (io 5 (.fla 1 (.t 3))),ip (io 6 (.ld 1 false (.t 5))),ip (io 7 (.ld 1 false (.t 1))),ip (io 8 (.nck (.t 7))),ip (io 9 (.fla 2 (.t 8))),ip (io 10 (.ld 1 false (.t 9))),ip (io 11 (.len false (.t 10))),ip (io 12 (.bin .lss (.t 6) (.t 11))),ip (im 13 12),ip (ig 13 14 (.ld 1 false (.t 1))),ip (ig 13 15 (.nck (.t 14))),ip (ig 13 16 (.fla 2 (.t 15))),ip (ig 13 17 (.ld 1 false (.t 16))),ip (ig 13 18 (.fla 1 (.t 3))),ip (ig 13 19 (.ld 1 false (.t 18))),ip (ig 13 20 (.ixa 14 (.t 17) (.t 19))),ip (ig 13 21 (.fla 0 (.t 20))),ip (ig 13 22 (.ld 1 false (.t 21))),ip (ig 13 23 (.fla 0 (.t 2))),ip (ig 13 24 (.ld 1 false (.t 23))),ip (ig 13 25 (.bin .add (.t 24) (ik 1))),ip (ig 13 26 (.bin .eql (.t 22) (.t 25))),ip (io 27 (.pick (.t 13) (.t 26) (ib false))),ip (im 4 27)]) .ret)
theorem cf152:cFn Tryz.prog eqT 152=some (ZhO,[(.tmp 4)],28):=by kernel_rfl
def c155_1:Zar:=.blk 0 (.loop (.seq (.reg [io 18 (.bin .lss (.t 17) (.t 16))]) (.seq (.cond (.t 18) .skip (.exit 0)) (.seq (.blk 1 (.seq (.reg [im 19 17,io 20 (.ixa 12 (.t 15) (.t 17)),io 21 (.ld 12 true (.t 20)),io 8 (.box 113 (.c za5)),im 7 19,iz (.st 12 (.t 8) (.t 21))]) (.seq (.reg [im 22 1,im 23 7,io 24 (.ixa 12 (.t 22) (.t 23)),io 25 (.ld 12 true (.t 24)),io 9 (.box 113 (.c za5)),iz (.st 12 (.t 9) (.t 25))]) (.seq (.reg [im 26 2,io 27 (.ld 12 true (.t 8)),io 28 (.ld 12 true (.t 9)),io 29 (.call (.t 26) [.t 27,.t 28]),io 30 (.un .not (.t 29))]) (.cond (.t 30) (.seq (.reg [io 6 (.mv (ib false))]) .ret) .skip))))) (.reg [io 31 (.bin .add (.t 17) (ik 1)),im 17 31])))))
def Zrw:Zar:=.seq (.reg [io 6 (.mv (ib false))]) (.seq (.seq (.reg [im 10 0,io 11 (.len false (.t 10)),im 12 1,io 13 (.len false (.t 12)),io 14 (.bin .neq (.t 11) (.t 13))]) (.cond (.t 14) (.seq (.reg [io 6 (.mv (ib false))]) .ret) .skip)) (.seq (.seq (.reg [im 15 0,io 16 (.len false (.t 15)),jm 17 0]) c155_1) (.seq (.reg [io 6 (.mv (ib true))]) .ret)))
theorem cf155:cFn Tryz.prog eqT 155=some (Zrw,[(.tmp 6)],32):=by kernel_rfl
def Zr2:Zar:=.seq (.reg [io 4 (.box 113 (.t 0)),io 5 (.box 113 (.t 1)),io 6 (.mv (ib false))]) (.seq (.seq (.reg [io 7 (.fla 0 (.t 4)),io 8 (.ld 1 false (.t 7)),io 9 (.fla 0 (.t 5)),io 10 (.ld 1 false (.t 9)),io 11 (.bin .neq (.t 8) (.t 10)),im 12 11,ih 12 13 (.fla 2 (.t 4)),ih 12 14 (.ld 10 true (.t 13)),ih 12 15 (.fla 2 (.t 5)),ih 12 16 (.ld 10 true (.t 15)),ih 12 17 (.eqf [.int .i64,.int .i64,.int .i64,.int .i64,.int .i64,.int .i64,.int .i64,.int .i64,.int .i64,.int .i64] true (.t 14) (.t 16)),io 18 (.pick (.t 12) (ib true) (.t 17))]) (.cond (.t 18) (.seq (.reg [io 6 (.mv (ib false))]) .ret) .skip)) (.seq (.reg [io 19 (.ld 1 false (.t 2)),im 20 19,ih 20 21 (.ld 1 false (.t 3)),ih 20 22 (.fla 1 (.t 4)),ih 20 23 (.ld 1 false (.t 22)),ih 20 24 (.fla 1 (.t 5)),ih 20 25 (.ld 1 false (.t 24)),ih 20 26 (.bld [.sc (.int .i64 0),.sc (.int .i64 0)] [(0,(1,.t 23)),(1,(1,.t 25))]),ih 20 27 (.call (jf 86) [.t 21,.t 26]),io 28 (.pick (.t 20) (ib true) (.t 27)),im 6 28]) .ret))
theorem cf156:cFn Tryz.prog eqT 156=some (Zr2,[(.tmp 6)],29):=by kernel_rfl
def c157_1:Zar:=.blk 0 (.loop (.seq (.reg [io 9 (.bin .lss (.t 8) (.t 7))]) (.seq (.cond (.t 9) .skip (.exit 0)) (.seq (.blk 1 (.seq (.reg [im 10 8,io 11 (.ixa 1 (.t 6) (.t 8)),io 12 (.ld 1 false (.t 11)),im 3 10,im 4 12]) (.seq (.seq (.reg [im 13 4,io 14 (.call (jf 170) [.t 13]),im 5 14]) (.seq (.reg [im 15 5,io 16 (.bin .neq (.t 15) (ik 0))]) (.cond (.t 16) (.seq (.reg [im 17 5,im 2 17]) .ret) .skip))) (.seq (.reg [im 18 3,io 19 (.bin .gtr (.t 18) (ik 0)),im 20 19,ig 20 21 (.mv (.t 0)),ig 20 22 (.mv (.t 3)),ig 20 23 (.bin .sub (.t 22) (ik 1)),ig 20 24 (.ixa 1 (.t 21) (.t 23)),ig 20 25 (.ld 1 false (.t 24)),ig 20 26 (.mv (.t 4)),ig 20 27 (.bin .geq (.t 25) (.t 26)),io 28 (.pick (.t 20) (.t 27) (ib false))]) (.cond (.t 28) (.seq (.reg [jm 2 4]) .ret) .skip))))) (.reg [io 29 (.bin .add (.t 8) (ik 1)),im 8 29])))))
def ZdN:Zar:=.seq (.reg [jm 2 0]) (.seq (.seq (.reg [im 6 0,io 7 (.len false (.t 6)),jm 8 0]) c157_1) (.seq (.reg [jm 2 0]) .ret))
theorem cf157:cFn Tryz.prog eqT 157=some (ZdN,[(.tmp 2)],30):=by kernel_rfl
def c158_1:Zar:=.blk 0 (.loop (.seq (.reg [io 23 (.bin .lss (.t 22) (.t 21))]) (.seq (.cond (.t 23) .skip (.exit 0)) (.seq (.blk 1 (.seq (.reg [io 24 (.ixa 1 (.t 20) (.t 22)),io 25 (.ld 1 false (.t 24)),im 9 25]) (.seq (.seq (.reg [im 26 9,io 27 (.bin .lss (.t 26) (ik 0)),im 28 27,ih 28 29 (.mv (.t 9)),ih 28 30 (.mv (.t 2)),ih 28 31 (.bin .geq (.t 29) (.t 30)),io 32 (.pick (.t 28) (ib true) (.t 31))]) (.cond (.t 32) (.seq (.reg [io 6 (.mv (ib false))]) .ret) .skip)) (.reg [im 33 7,im 34 9,iz (.mup (.one (.int .i64)) (.t 33) (.t 34) (ik 1))])))) (.reg [io 35 (.bin .add (.t 22) (ik 1)),im 22 35])))))
def ZeY:Zar:=.seq (.reg [io 6 (.mv (ib false))]) (.seq (.seq (.reg [im 10 2,io 11 (.bin .leq (.t 10) (ik 0))]) (.cond (.t 11) (.seq (.reg [im 12 0,io 13 (.len false (.t 12)),io 14 (.bin .eql (.t 13) (ik 0)),im 6 14]) .ret) .skip)) (.seq (.seq (.reg [im 15 0,io 16 (.len false (.t 15)),im 17 1,io 18 (.bin .neq (.t 16) (.t 17))]) (.cond (.t 18) (.seq (.reg [io 6 (.mv (ib false))]) .ret) .skip)) (.seq (.reg [io 19 (.mkm (.one (.int .i64))),im 7 19]) (.seq (.seq (.reg [im 20 0,io 21 (.len false (.t 20)),jm 22 0]) c158_1) (.seq (.reg [im 36 7,io 37 (.mln (.t 36)),im 38 2,io 39 (.bin .eql (.t 37) (.t 38)),im 6 39]) .ret)))))
theorem cf158:cFn Tryz.prog eqT 158=some (ZeY,[(.tmp 6)],40):=by kernel_rfl
def Zj3:Zar:=.seq (.reg [io 2 (.box 107 (.t 0)),jm 4 0]) (.seq (.seq (.reg [im 5 1,io 6 (.bin .lss (.t 5) (ik 0)),im 7 6,ih 7 8 (.mv (.t 1)),ih 7 9 (.fla 2 (.t 2)),ih 7 10 (.ld 1 false (.t 9)),ih 7 11 (.len false (.t 10)),ih 7 12 (.bin .geq (.t 8) (.t 11)),io 13 (.pick (.t 7) (ib true) (.t 12))]) (.cond (.t 13) (.seq (.reg [jm 4 (-1)]) .ret) .skip)) (.seq (.reg [io 14 (.fla 2 (.t 2)),io 15 (.ld 1 false (.t 14)),im 16 1,io 17 (.ixa 1 (.t 15) (.t 16)),io 18 (.ld 1 false (.t 17)),im 4 18]) .ret))
theorem cf159:cFn Tryz.prog eqT 159=some (Zj3,[(.tmp 4)],19):=by kernel_rfl
def c162_0:Zar:=.seq (.reg [io 2 (.mv (ib false))]) (.seq (.reg [im 3 0,im 4 0,io 5 (.bin .neq (.t 3) (.t 4)),im 2 5]) .ret)
theorem cf162:cFn Tryz.prog eqT 162=some (c162_0,[(.tmp 2)],6):=by kernel_rfl
def ZgH:Zar:=.seq (.reg [jm 4 0,io 5 (.mv (ib false))]) (.seq (.seq (.reg [im 6 1,io 7 (.bin .gtr (.t 6) (ik 0)),im 8 7,ig 8 9 (.mv (.t 0)),ig 8 10 (.mv (.t 1)),ig 8 11 (.bin .sub (ik 9223372036854775807) (.t 10)),ig 8 12 (.bin .gtr (.t 9) (.t 11)),io 13 (.pick (.t 8) (.t 12) (ib false)),im 14 13,ih 14 15 (.mv (.t 1)),ih 14 16 (.bin .lss (.t 15) (ik 0)),ih 14 17 (.mv (.t 16)),ig 17 18 (.mv (.t 0)),ig 17 19 (.mv (.t 1)),ig 17 20 (.bin .sub (ik (-9223372036854775808)) (.t 19)),ig 17 21 (.bin .lss (.t 18) (.t 20)),ih 14 22 (.pick (.t 17) (.t 21) (ib false)),io 23 (.pick (.t 14) (ib true) (.t 22))]) (.cond (.t 23) (.seq (.reg [jm 4 0,io 5 (.mv (ib false))]) .ret) .skip)) (.seq (.reg [im 24 0,im 25 1,io 26 (.bin .add (.t 24) (.t 25)),im 4 26,io 5 (.mv (ib true))]) .ret))
theorem cf167:cFn Tryz.prog eqT 167=some (ZgH,[(.tmp 4),(.tmp 5)],27):=by kernel_rfl
def ZlK:Zar:=.seq (.reg [io 2 (.box 51 (.t 0)),io 3 (.box 51 (.t 1)),io 4 (.box 51 (.c za13)),io 5 (.mv (ib false))]) (.seq (.reg [io 9 (.fla 0 (.t 2)),io 10 (.ld 1 false (.t 9)),io 11 (.fla 0 (.t 3)),io 12 (.ld 1 false (.t 11)),io 13 (.call (jf 167) [.t 10,.t 12]),im 8 13,io 14 (.ext (.t 8) 0),io 15 (.ext (.t 8) 1),im 6 14,im 7 15]) (.seq (.reg [im 16 6,io 17 (.fla 1 (.t 2)),io 18 (.ld 1 false (.t 17)),io 19 (.fla 1 (.t 3)),io 20 (.ld 1 false (.t 19)),io 21 (.mm false (.t 18) (.t 20)),io 22 (.fla 2 (.t 2)),io 23 (.ld 1 false (.t 22)),io 24 (.fla 2 (.t 3)),io 25 (.ld 1 false (.t 24)),io 26 (.mm true (.t 23) (.t 25)),io 27 (.bld [.sc (.int .i64 0),.sc (.int .i64 0),.sc (.int .i64 0)] [(0,(1,.t 16)),(1,(1,.t 21)),(2,(1,.t 26))]),im 28 7,iz (.st 3 (.t 4) (.t 27)),im 5 28]) .ret))
theorem cf168:cFn Tryz.prog eqT 168=some (ZlK,[(.cell 3 true 4),(.tmp 5)],29):=by kernel_rfl
def Zln:Zar:=.seq (.reg [jm 2 0]) (.seq (.seq (.reg [im 3 0,io 4 (.bin .eql (.t 3) (.c (.sc (.string ⟨#[]⟩)))),im 5 4,ih 5 6 (.mv (.t 0)),ih 5 7 (.len true (.t 6)),ih 5 8 (.bin .gtr (.t 7) (ik 16)),io 9 (.pick (.t 5) (ib true) (.t 8))]) (.cond (.t 9) (.seq (.reg [jm 2 2]) .ret) .skip)) (.seq (.reg [jm 2 0]) .ret))
theorem cf170:cFn Tryz.prog eqT 170=some (Zln,[(.tmp 2)],10):=by kernel_rfl
theorem ZcL:∀{n:Nat} {xs:List Value},xs.length=n->(∀(i:Nat) (k:SK) (x:Value),(List.replicate n (SK.int .i64))[i]?=some k->xs[i]?=some x->k.is x=true)->∃l:List Int,xs=l.map (Value.int .i64)/\l.length=n
 | 0,xs,h,_=>⟨[],by simpa using h,rfl⟩
 | n+1,[],h,_=>by simp at h
 | n+1,x :: xs,h,hk=>by
  obtain⟨l,h1,h2⟩:=ZcL (n:=n) (xs:=xs) (by simpa using h) (fun i k y a b=>hk (i+1) k y (by simpa [List.replicate_succ] using a) (by simpa using b))
  have:=hk 0 (.int .i64) x (by simp[List.replicate_succ]) (by simp)
  cases x with
  | int k a =>
   simp[SK.is]at this
   subst this
   exact⟨a :: l,by simp[h1],by simp[h2]⟩
  | _=>simp[SK.is]at this
theorem Zda:∀{l m:List Int},l.length=m.length->ZgE (l.map (Value.int .i64)) (m.map (Value.int .i64))=decide (l=m)
 | [],[],_=>rfl
 | a :: l,b :: m,h=>by
  have ih:=Zda (l:=l) (m:=m) (by simpa using h)
  simp only[zak,ZgE,vEq,ih]
  by_cases h1:a=b<;>by_cases h2:l=m<;>simp[h1,h2]
 | [],_ :: _,h=>by simp at h
 | _ :: _,[],h=>by simp at h
theorem list3 {l:List Int} (h:l.length=3):∃a b c,l=[a,b,c]:=by
 match l,h with
 | [a,b,c],_=>exact⟨a,b,c,rfl⟩
theorem list10 {l:List Int} (h:l.length=10):∃a:Ag,l=[a.n,a.s0,a.l0,a.h0,a.s1,a.l1,a.h1,a.s2,a.l2,a.h2]:=by
 match l,h with
 | [a,b,c,d,e,f,g,x,y,z],_=>exact⟨⟨a,b,c,d,e,f,g,x,y,z⟩,rfl⟩
theorem list12 {l:List Int} (h:l.length=12):∃a:Cel,l=[a.key,a.child,a.agg.n,a.agg.s0,a.agg.l0,a.agg.h0,a.agg.s1,a.agg.l1,a.agg.h1,a.agg.s2,a.agg.l2,a.agg.h2]:=by
 match l,h with
 | [p,q,a,b,c,d,e,f,g,x,y,z],_=>exact⟨⟨p,q,⟨a,b,c,d,e,f,g,x,y,z⟩⟩,rfl⟩
theorem ZfM (b:Bool) (d:Nat) (w:World) (a:Int):(Instr.checkKey b (d+1) 3 (.int .i64 a)).run Tryz.prog w=.ok () w:=by
 unfold Instr.checkKey
 simp[run_underlying Tryz.underlying3]
theorem ZfQ (b:Bool) (d:Nat) (w:World) (a:Int):(Instr.checkKey b (d+1) 2 (.int .i64 a)).run Tryz.prog w=.ok () w:=by
 unfold Instr.checkKey
 simp[run_underlying Tryz.underlying2]
set_option maxHeartbeats 1000000 in
set_option maxRecDepth 100000 in
theorem Zj4 (b:Bool) (d:Nat) (w:World) (a0 a1 a2:Int):(Instr.checkKey b (d+2) 51 (.agg #[.int .i64 a0,.int .i64 a1,.int .i64 a2])).run Tryz.prog w=.ok () w:=by
 unfold Instr.checkKey
 simp[run_underlying Tryz.underlying51,go_sem,ZfM,ZfQ]
set_option maxHeartbeats 1000000 in
set_option maxRecDepth 100000 in
theorem Zmk (b:Bool) (d:Nat) (w:World) (a0 a1 a2 a3 a4 a5 a6 a7 a8:Int):(Instr.checkKey b (d+3) 52 (.agg #[.int .i64 a0,.int .i64 a1,.int .i64 a2,.int .i64 a3,.int .i64 a4,.int .i64 a5,.int .i64 a6,.int .i64 a7,.int .i64 a8])).run Tryz.prog w=.ok () w:=by
 unfold Instr.checkKey
 simp[run_underlying Tryz.underlying52,go_sem,zbG,Zj4]
set_option maxHeartbeats 1000000 in
set_option maxRecDepth 100000 in
theorem chk_ag (b:Bool) (d:Nat) (w:World) (a:Ag):(Instr.checkKey b (d+4) 54 (.agg a.arr)).run Tryz.prog w=.ok () w:=by
 unfold Instr.checkKey Ag.arr
 simp[run_underlying Tryz.underlying54,go_sem,ZfM,ZfQ,Zmk]
set_option maxHeartbeats 1000000 in
set_option maxRecDepth 100000 in
theorem chk_cel (b:Bool) (d:Nat) (w:World) (a:Cel):(Instr.checkKey b (d+5) 113 (.agg a.arr)).run Tryz.prog w=.ok () w:=by
 have h:=fun w=>chk_ag b d w a.agg
 unfold Ag.arr at h
 unfold Instr.checkKey Cel.arr
 simp[run_underlying Tryz.underlying113,go_sem,ZfM,ZfQ,h]
set_option maxHeartbeats 1000000 in
set_option maxRecDepth 100000 in
theorem eq_two (d:Nat) (w:World) (a0 a1 b0 b1:Int):(Op.equalIn (d+2) 161 (.agg #[.int .i64 a0,.int .i64 a1]) (.agg #[.int .i64 b0,.int .i64 b1])).run Tryz.prog w=.ok (decide (a0=b0/\a1=b1)) w:=by
 rw[run_equalIn_struct w (d+1) _ _ _ (by kernel_rfl) (by kernel_rfl)]
 by_cases h0:a0=b0<;>by_cases h1:a1=b1<;>simp[go_sem,h0,h1]
set_option maxHeartbeats 1000000 in
set_option maxRecDepth 100000 in
theorem chk_two (b:Bool) (d:Nat) (w:World) (a0 a1:Int):(Instr.checkKey b (d+2) 161 (.agg #[.int .i64 a0,.int .i64 a1])).run Tryz.prog w=.ok () w:=by
 unfold Instr.checkKey
 simp[run_underlying Tryz.underlying161,go_sem,ZfM,ZfQ]
set_option maxHeartbeats 1000000 in
set_option maxRecDepth 100000 in
theorem eq_both (d:Nat) (w:World) (a0 a1 b0 b1:Int):(Op.equalIn (d+2) 140 (.agg #[.int .i64 a0,.int .i64 a1]) (.agg #[.int .i64 b0,.int .i64 b1])).run Tryz.prog w=.ok (decide (a0=b0/\a1=b1)) w:=by
 rw[run_equalIn_struct w (d+1) _ _ _ (by kernel_rfl) (by kernel_rfl)]
 by_cases h0:a0=b0<;>by_cases h1:a1=b1<;>simp[go_sem,h0,h1]
set_option maxHeartbeats 1000000 in
set_option maxRecDepth 100000 in
theorem chk_both (b:Bool) (d:Nat) (w:World) (a0 a1:Int):(Instr.checkKey b (d+2) 140 (.agg #[.int .i64 a0,.int .i64 a1])).run Tryz.prog w=.ok () w:=by
 unfold Instr.checkKey
 simp[run_underlying Tryz.underlying140,go_sem,ZfM,ZfQ]
theorem list2 {l:List Int} (h:l.length=2):∃a b,l=[a,b]:=by
 match l,h with
 | [a,b],_=>exact⟨a,b,rfl⟩
theorem hE0:∀t ks,eqE t=some ks->Ziv Tryz.prog t ks:=by
 intro t ks h
 unfold eqE at h
 split at h
 ·rename_i e
  subst e
  injection h with h
  subst h
  intro xs ys h1 h2 h3 h4 w
  obtain⟨l,rfl,hl⟩:=ZcL (by simpa using h1) h3
  obtain⟨m,rfl,hm⟩:=ZcL (by simpa using h2) h4
  obtain⟨a,rfl⟩:=list10 hl
  obtain⟨c,rfl⟩:=list10 hm
  refine⟨?_,fun b=>chk_ag b 9996 w a⟩
  rw[Zda (by simp)]
  refine(eq_ag 9996 w a c).trans ?_
  congr 1
  simp[ag_eq,and_assoc]
 ·skip
  split at h
  ·rename_i e
   subst e
   injection h with h
   subst h
   intro xs ys h1 h2 h3 h4 w
   obtain⟨l,rfl,hl⟩:=ZcL (by simpa using h1) h3
   obtain⟨m,rfl,hm⟩:=ZcL (by simpa using h2) h4
   obtain⟨a,rfl⟩:=list12 hl
   obtain⟨c,rfl⟩:=list12 hm
   refine⟨?_,fun b=>chk_cel b 9995 w a⟩
   rw[Zda (by simp)]
   refine(eq_cel 9995 w a c).trans ?_
   congr 1
   simp[cel_eq,ag_eq,and_assoc]
  ·skip
   split at h
   ·rename_i e
    subst e
    injection h with h
    subst h
    intro xs ys h1 h2 h3 h4 w
    obtain⟨l,rfl,hl⟩:=ZcL (by simpa using h1) h3
    obtain⟨m,rfl,hm⟩:=ZcL (by simpa using h2) h4
    obtain⟨a0,a1,a2,rfl⟩:=list3 hl
    obtain⟨c0,c1,c2,rfl⟩:=list3 hm
    refine⟨?_,fun b=>Zj4 b 9998 w a0 a1 a2⟩
    rw[Zda (by simp)]
    refine(Zfh 9998 w a0 a1 a2 c0 c1 c2).trans ?_
    congr 1
    simp
   ·skip
    split at h
    ·rename_i e
     subst e
     injection h with h
     subst h
     intro xs ys h1 h2 h3 h4 w
     obtain⟨l,rfl,hl⟩:=ZcL (by simpa using h1) h3
     obtain⟨m,rfl,hm⟩:=ZcL (by simpa using h2) h4
     obtain⟨a0,a1,rfl⟩:=list2 hl
     obtain⟨c0,c1,rfl⟩:=list2 hm
     refine⟨?_,fun b=>chk_two b 9998 w a0 a1⟩
     rw[Zda (by simp)]
     refine(eq_two 9998 w a0 a1 c0 c1).trans ?_
     congr 1
     simp
    ·skip
     split at h
     ·rename_i e
      subst e
      injection h with h
      subst h
      intro xs ys h1 h2 h3 h4 w
      obtain⟨l,rfl,hl⟩:=ZcL (by simpa using h1) h3
      obtain⟨m,rfl,hm⟩:=ZcL (by simpa using h2) h4
      obtain⟨a0,a1,rfl⟩:=list2 hl
      obtain⟨c0,c1,rfl⟩:=list2 hm
      refine⟨?_,fun b=>chk_both b 9998 w a0 a1⟩
      rw[Zda (by simp)]
      refine(eq_both 9998 w a0 a1 c0 c1).trans ?_
      congr 1
      simp
     ·skip
      cases h
theorem hE:∀t ks,eqT t=some ks->Ziv Tryz.prog t ks:=hE0
theorem hEg:∀t ks,eqTg t=some ks->Ziv Tryz.prog t ks:=hE0
theorem hEf:∀t ks,eqTf t=some ks->Ziv Tryz.prog t ks:=hE0
theorem hEi:∀t ks,eqTi t=some ks->Ziv Tryz.prog t ks:=hE0
theorem ZfO (z:Array Value) (n:Nat):(Builtin.zeroCells z n).size=n * z.size:=by simp[Builtin.zeroCells]
theorem gcap (w:World) (need old:Nat) (e:TypeId) (h:need<9223372036854775808):need<=grownCap w need old e/\grownCap w need old e<=maxLen:=by
 have he:grownCap w need old e=need+(w.tape w.drawn (.appendCap need old e)) % (2 ^ 63 - need):=rfl
 rw[he]
 unfold maxLen
 have:(w.tape w.drawn (.appendCap need old e)) % (2 ^ 63 - need)<2 ^ 63 - need:=zcr _ (by omega)
 constructor
 ·exact zcl _ _
 ·omega
theorem cel_inf:(Tryz.prog.info? 113).map (fun i=>(i.zero,i.size,i.bytes))=some (some (.agg #[.int .i64 0,.int .i64 0,.int .i64 0,.int .i64 0,.int .i64 0,.int .i64 0,.int .i64 0,.int .i64 0,.int .i64 0,.int .i64 0,.int .i64 0,.int .i64 0]),12,96):=by kernel_rfl
def GrowQ (w:World) (e:Ending) (w':World):Prop:=∃cap carr,e=.returned (.slice (some ⟨w.heap.size,0,none⟩) 0 cap)/\w'=w.drew.alloc (.cells carr 113)/\carr.size=cap * 12/\cap<=maxLen
set_option maxHeartbeats 400000 in
set_option maxRecDepth 100000 in
theorem Zlx (A:Option Addr) (n:Nat) (w:World) (h0:0<n) (hn:n<=1000000):Calls Tryz.prog 143 #[.slice A 0 0,.int .i64 n] w (GrowQ w):=by
 obtain⟨i0,hi,hz0,hz1,hz2⟩:=info_parts cel_inf
 have hr:=Lib.run_append_grow_zeros (P:=Tryz.prog) w 120 3 120 113 i0 _ .i64 .i64 Tryz.underlying120 Tryz.underlying3 hi hz0 A 0 0 [] (by cases A<;>simp[Builtin.firstCells,loadCells,loadCellsFrom]) n (by omega) (by rw[hz1];omega) (by omega) (by omega) (by rw[hz2];omega) (by rw[hz2];unfold Builtin.nextslicecap;rw[if_pos (by omega)];omega)
 have hc:=gcap w (0+n) 0 113 (by omega)
 generalize grownCap w (0+n) 0 113=cap at hr hc
 have hp:0<n:=by omega
 have hpi:(0:Int)<n:=by omega
 simp only[zaz]at hr hc
 have HR:=Lib.hid hr
 have hcc:n<=cap:=hc.1
 have ho:Hid (GrowQ w (.returned (.slice (some ⟨w.heap.size,0,none⟩) 0 cap)) (w.drew.alloc (.cells (#[]++Builtin.zeroCells (Value.agg #[.int .i64 0,.int .i64 0,.int .i64 0,.int .i64 0,.int .i64 0,.int .i64 0,.int .i64 0,.int .i64 0,.int .i64 0,.int .i64 0,.int .i64 0,.int .i64 0]).cells n++Builtin.zeroCells (Value.agg #[.int .i64 0,.int .i64 0,.int .i64 0,.int .i64 0,.int .i64 0,.int .i64 0,.int .i64 0,.int .i64 0,.int .i64 0,.int .i64 0,.int .i64 0,.int .i64 0]).cells (cap - n)) 113))):=by
  refine⟨cap,_,rfl,rfl,?_,hc.2⟩
  rw[Array.size_append,Array.size_append,ZfO,ZfO]
  simp[Value.cells]
  omega
 generalize w.drew.alloc _=w1 at HR ho
 clear hr hc
 cases A with
 | none =>
  go_enter Tryz.func143,Tryz.ntmps143
  go_wp2_with (at_builtin;refine wpList_append_run rfl (.tmp 20) (.tmp 21) _ _ rfl rfl rfl HR.out ?_)
  go_ret
  exact ho.out
 | some A =>
  go_enter Tryz.func143,Tryz.ntmps143
  go_wp2_with (at_builtin;refine wpList_append_run rfl (.tmp 20) (.tmp 21) _ _ rfl rfl rfl HR.out ?_)
  go_ret
  exact ho.out
set_option maxHeartbeats 400000 in
set_option maxRecDepth 100000 in
theorem Zl2 (A:Option Addr) (w:World):Calls Tryz.prog 143 #[.slice A 0 0,.int .i64 0] w (fun e w'=>e=.returned (.slice A 0 0)/\w'=w):=by
 cases A with
 | none =>
  go_enter Tryz.func143,Tryz.ntmps143
  go_wp2
  go_ret
  exact⟨rfl,rfl⟩
 | some A =>
  go_enter Tryz.func143,Tryz.ntmps143
  go_wp2
  go_ret
  exact⟨rfl,rfl⟩
theorem Zfv:Zmq Tryz.prog 143:=⟨_,Tryz.func143,by kernel_rfl,by kernel_rfl⟩
theorem Zko (n:Nat) (H:Zaa) (h0:0<n) (hn:n<=1000000):Zay Tryz.prog 143 [.sl .full [],.i n] H fun r H'=>r=.sl (.own H.next) []/\H'=H.alloc (.tok 0 113 12):=by
 refine⟨Zfv,fun g w vs hW hV=>?_⟩
 obtain⟨v0,v1,rfl⟩:∃v0 v1,vs=[v0,v1]:=by
  match vs,hV.1 with
  | [v0,v1],_=>exact⟨v0,v1,rfl⟩
 have h1:=hV.2 0 _ _ rfl rfl
 have h2:=hV.2 1 _ _ rfl rfl
 cases h2
 cases h1 with
 | sl _ _ A c sz b o f hc hm hA hsz hcell hv ht =>
  have ht':c=0:=ht
  subst ht'
  refine(Zlx A n w h0 hn).mono fun e w' ⟨cap,carr,he,hw',hs,hcm⟩=>?_
  subst hw'
  have hgr:w.grownBy (w.drew.alloc (.cells carr 113)) none:=⟨rfl,rfl,rfl,by simp,fun k hk _=>heap_alloc_old w.drew _ hk⟩
  obtain⟨k1,k2⟩:=Zjz (n:=0) hW hgr (zai _) (heap_alloc_new w.drew _) hs (zaT _) hcm
  refine⟨_,_,_,_,he,⟨rfl,rfl⟩,?_,k1,k2⟩
  exact VR.sl (.own H.next) [] _ cap 0 0 0 (fun _ _=>undef) (zaT _) hcm (fun h=>absurd rfl h) (fun r h=>by cases h) (fun i r j x h=>by simp at h) (fun i r j x h=>by simp at h) ⟨0,cap,w.heap.size,by simp[Gh.tok],zai _,fun _=>⟨rfl,fun _=>rfl⟩⟩
theorem ZiV (H:Zaa):Zay Tryz.prog 143 [.sl .full [],.i 0] H fun r H'=>r=.sl .full []/\H'=H:=by
 refine⟨Zfv,fun g w vs hW hV=>?_⟩
 obtain⟨v0,v1,rfl⟩:∃v0 v1,vs=[v0,v1]:=by
  match vs,hV.1 with
  | [v0,v1],_=>exact⟨v0,v1,rfl⟩
 have h1:=hV.2 0 _ _ rfl rfl
 have h2:=hV.2 1 _ _ rfl rfl
 cases h2
 cases h1 with
 | sl _ _ A c sz b o f hc hm hA hsz hcell hv ht =>
  have ht':c=0:=ht
  subst ht'
  refine(Zl2 A w).mono fun e w' ⟨he,hw'⟩=>?_
  subst hw'
  exact⟨_,_,_,g,he,⟨rfl,rfl⟩,VR.sl .full [] A 0 sz b o f hc hm hA hsz hcell hv rfl,hW,.refl _ _ _⟩
def v98_1:Zar:=.blk 0 (.loop (.seq (.reg [io 31 (.bin .lss (.t 30) (.t 29))]) (.seq (.cond (.t 31) .skip (.exit 0)) (.seq (.blk 1 (.seq (.reg [io 32 (.ixa 1 (.t 28) (.t 30)),io 33 (.ld 1 false (.t 32)),im 12 33]) (.seq (.reg [im 34 9,im 35 0,io 36 (.nck (.t 35)),io 37 (.fla 0 (.t 36)),io 38 (.ld 1 false (.t 37)),im 39 12,io 40 (.ixa 11 (.t 38) (.t 39)),io 41 (.fla 0 (.t 40)),io 42 (.ld 1 false (.t 41)),im 43 1,io 44 (.ixa 1 (.t 42) (.t 43)),io 45 (.ld 1 false (.t 44)),io 46 (.ixa 1 (.t 34) (.t 45)),io 47 (.ld 1 false (.t 46)),im 13 47]) (.reg [im 48 10,im 49 13,im 50 10,im 51 13,io 52 (.lkp (.one (.int .i64)) (.sl .full []) false (.t 50) (.t 51)),im 53 12,io 54 (.bsl 1 [.t 53]),io 55 (.app 3 1 8 (.t 52) (.t 54)),iz (.mup (.one (.int .i64)) (.t 48) (.t 49) (.t 55))])))) (.reg [io 56 (.bin .add (.t 30) (ik 1)),im 30 56])))))
def v98_2:Zar:=.blk 2 (.loop (.seq (.reg [io 59 (.nxt false (.t 58)),io 60 (.ext (.t 59) 0)]) (.seq (.cond (.t 60) .skip (.exit 2)) (.blk 3 (.seq (.reg [io 61 (.ent (.t 58)),io 62 (.ext (.t 61) 0),io 63 (.ext (.t 61) 1),im 15 62,im 16 63]) (.reg [im 64 14,im 65 15,im 66 16,io 67 (.bld [.sc (.int .i64 0),.sl .full []] [(0,(1,.t 65)),(1,(1,.t 66))]),io 68 (.bsv 176 2 [.t 67]),io 69 (.apv 176 2 32 [.sc (.int .i64 0),.sl .full []] (.t 64) (.t 68)),im 14 69]))))))
def Zgg:Zar:=.seq (.reg [io 8 (.mv jn)]) (.seq (.reg [im 17 0,io 18 (.nck (.t 17)),io 19 (.fla 1 (.t 18)),io 20 (.ld 1 false (.t 19)),im 21 1,io 22 (.ixa 1 (.t 20) (.t 21)),io 23 (.ld 1 false (.t 22)),im 24 2,io 25 (.ixa 1 (.t 23) (.t 24)),io 26 (.ld 1 false (.t 25)),im 9 26]) (.seq (.reg [io 27 (.mkm (.one (.int .i64))),im 10 27]) (.seq (.seq (.reg [im 28 3,io 29 (.len false (.t 28)),jm 30 0]) v98_1) (.seq (.reg [io 14 (.mv jn)]) (.seq (.seq (.reg [im 57 10,io 58 (.rng (.t 57))]) v98_2) (.seq (.reg [im 70 14,io 71 (.call (jf 137) [.t 70,jf 138])]) (.seq (.reg [im 72 14,im 8 72]) .ret)))))))
theorem vf98:cFn Tryz.prog eqTg 98=some (Zgg,[(.tmp 8)],73):=by kernel_rfl
end Go.Proofs.YtaapiigfmdhobaaGreat
