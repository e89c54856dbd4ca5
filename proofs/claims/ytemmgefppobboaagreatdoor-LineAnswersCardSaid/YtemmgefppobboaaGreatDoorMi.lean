/- Texts of the walk, joined: Lm Ln Lo. -/
import Derived.Test.YtemmgefppobboaaGreatDoorMf
import Derived.Test.YtemmgefppobboaaGreatDoorMh
namespace Go.Proofs.YtemmgefppobboaaGreatDoor
set_option linter.unusedSimpArgs false
set_option linter.unusedVariables false
open Go.RowKit
def zm0:AV:=.agg [.sl .full [],.sc (.int .i64 0),.sc (.int .i64 0),.sc (.int .i64 0),.sc (.int .i64 0),.sc (.int .i64 0),.sc (.int .i64 0),.sc (.int .i64 0),.sc (.int .i64 0),.sc (.int .i64 0),.sc (.int .i64 0)]
def zm1:AV:=.agg [.sc (.int .i64 0),.sc (.int .i64 0),.sc (.int .i64 0)]
theorem YZm:True∧zm0=.agg [.sl .full [],.sc (.int .i64 0),.sc (.int .i64 0),.sc (.int .i64 0),.sc (.int .i64 0),.sc (.int .i64 0),.sc (.int .i64 0),.sc (.int .i64 0),.sc (.int .i64 0),.sc (.int .i64 0),.sc (.int .i64 0)]∧zm1=.agg [.sc (.int .i64 0),.sc (.int .i64 0),.sc (.int .i64 0)]:=⟨trivial,rfl,rfl⟩
def c5_1:Zar:=.blk 0 (.loop (.seq (.reg [io 22 (.bin .lss (.t 21) (.t 20))]) (.seq (.cond (.t 22) .skip (.exit 0)) (.seq (.blk 1 (.seq (.reg [io 23 (.ixa 11 (.t 19) (.t 21)),io 24 (.ld 11 true (.t 23)),io 6 (.box 46 (.c zm0)),iz (.st 11 (.t 6) (.t 24))]) (.seq (.reg [io 25 (.fla 0 (.t 6)),io 26 (.ld 1 false (.t 25)),io 27 (.len false (.t 26)),io 28 (.bin .gtr (.t 27) (ik 20)),im 29 28,ih 29 30 (.fla 0 (.t 6)),ih 29 31 (.ld 1 false (.t 30)),ih 29 32 (.call (jf 13) [.t 31]),ih 29 33 (.bin .gtr (.t 32) (ik 1000)),io 34 (.pick (.t 29) (ib true) (.t 33))]) (.cond (.t 34) (.seq (.reg [io 35 (.call (jf 6) []),im 4 35]) .ret) .skip)))) (.reg [io 36 (.bin .add (.t 21) (ik 1)),im 21 36])))))
def Zc0:Zar:=.seq (.reg [io 3 (.box 38 (.t 1)),io 4 (.mv (ib false))]) (.seq (.seq (.reg [io 7 (.fla 1 (.t 3)),io 8 (.ld 1 false (.t 7)),io 9 (.len false (.t 8)),io 10 (.bin .gtr (.t 9) (ik 60)),im 11 10,ih 11 12 (.fla 2 (.t 3)),ih 11 13 (.ld 1 false (.t 12)),ih 11 14 (.len false (.t 13)),ih 11 15 (.bin .gtr (.t 14) (ik 60)),io 16 (.pick (.t 11) (ib true) (.t 15))]) (.cond (.t 16) (.seq (.reg [io 17 (.call (jf 6) []),im 4 17]) .ret) .skip)) (.seq (.seq (.reg [io 18 (.fla 1 (.t 3)),io 19 (.ld 1 false (.t 18)),io 20 (.len false (.t 19)),jm 21 0]) c5_1) (.seq (.drw [ip (im 37 0),ip (io 38 (.ld 3 true (.t 3))),ip (im 40 0),ip (io 41 (.ld 3 true (.t 3))),(io 39 (.call (jf 15) [.t 37,.t 38]),[io 41 (.ld 3 true (.t 3))]),ip (io 42 (.call (jf 16) [.t 40,.t 41])),ip (io 43 (.call (jf 14) [.t 39,.t 42])),ip (im 44 43),ip (ig 44 45 (.call (jf 6) [])),ip (io 46 (.pick (.t 44) (.t 45) (ib false))),ip (im 4 46)]) .ret)))
theorem cf5:cFn Tryz.prog eqT 5=some (Zc0,[(.tmp 4)],47):=by kernel_rfl
def c13_1:Zar:=.blk 0 (.loop (.seq (.reg [io 9 (.bin .lss (.t 8) (.t 7))]) (.seq (.cond (.t 9) .skip (.exit 0)) (.seq (.blk 1 (.seq (.reg [io 10 (.ixa 1 (.t 6) (.t 8)),io 11 (.ld 1 false (.t 10)),im 5 11]) (.seq (.reg [im 12 3,im 13 5,io 14 (.len true (.t 13)),io 15 (.mm false (.t 14) (ik 1000000)),io 16 (.bin .add (.t 12) (.t 15)),im 3 16]) (.seq (.reg [im 17 3,io 18 (.bin .geq (.t 17) (ik 1000000))]) (.cond (.t 18) (.seq (.reg [im 19 3,im 2 19]) .ret) .skip))))) (.reg [io 20 (.bin .add (.t 8) (ik 1)),im 8 20])))))
def ZcW:Zar:=.seq (.reg [jm 2 0]) (.seq (.reg [jm 3 0]) (.seq (.seq (.reg [im 6 0,io 7 (.len false (.t 6)),jm 8 0]) c13_1) (.seq (.reg [im 21 3,im 2 21]) .ret)))
theorem cf13:cFn Tryz.prog eqT 13=some (ZcW,[(.tmp 2)],22):=by kernel_rfl
def c14_1:Zar:=.blk 0 (.loop (.seq (.reg [io 14 (.bin .lss (.t 13) (.t 12))]) (.seq (.cond (.t 14) .skip (.exit 0)) (.seq (.blk 1 (.seq (.reg [im 15 13,im 5 15]) (.seq (.drw [ip (im 16 0),ip (im 17 5),ip (io 18 (.ixa 1 (.t 16) (.t 17))),ip (io 19 (.ld 1 false (.t 18))),ip (im 20 1),ip (im 21 5),ip (io 22 (.ixa 1 (.t 20) (.t 21))),ip (io 23 (.ld 1 false (.t 22))),ip (io 24 (.bin .neq (.t 19) (.t 23)))]) (.cond (.t 24) (.seq (.reg [io 4 (.mv (ib false))]) .ret) .skip)))) (.reg [io 25 (.bin .add (.t 13) (ik 1)),im 13 25])))))
def Zew:Zar:=.seq (.reg [io 4 (.mv (ib false))]) (.seq (.seq (.reg [im 6 0,io 7 (.len false (.t 6)),im 8 1,io 9 (.len false (.t 8)),io 10 (.bin .neq (.t 7) (.t 9))]) (.cond (.t 10) (.seq (.reg [io 4 (.mv (ib false))]) .ret) .skip)) (.seq (.seq (.reg [im 11 0,io 12 (.len false (.t 11)),jm 13 0]) c14_1) (.seq (.reg [io 4 (.mv (ib true))]) .ret)))
theorem cf14:cFn Tryz.prog eqT 14=some (Zew,[(.tmp 4)],26):=by kernel_rfl
def c15_1:Zar:=.blk 0 (.loop (.seq (.reg [io 25 (.bin .lss (.t 24) (.t 23))]) (.seq (.cond (.t 25) .skip (.exit 0)) (.seq (.blk 1 (.seq (.reg [io 26 (.ixa 1 (.t 22) (.t 24)),io 27 (.ld 1 false (.t 26)),im 7 27]) (.reg [im 28 5,im 29 7,io 30 (.call (jf 33) [.t 29]),io 31 (.bin .add (.c (.sc (.string ⟨#[32]⟩))) (.t 30)),io 32 (.bin .add (.t 28) (.t 31)),im 5 32]))) (.reg [io 33 (.bin .add (.t 24) (ik 1)),im 24 33])))))
def c15_3:Zar:=.blk 4 (.loop (.seq (.reg [io 61 (.bin .lss (.t 60) (.t 59))]) (.seq (.cond (.t 61) .skip (.exit 4)) (.seq (.blk 5 (.seq (.reg [io 62 (.ixa 3 (.t 58) (.t 60)),io 63 (.ld 3 true (.t 62)),io 13 (.box 41 (.c zm1)),iz (.st 3 (.t 13) (.t 63))]) (.reg [im 64 11,io 65 (.fla 0 (.t 13)),io 66 (.ld 1 false (.t 65)),io 67 (.fla 1 (.t 13)),io 68 (.ld 1 false (.t 67)),io 69 (.fla 2 (.t 13)),io 70 (.ld 1 false (.t 69)),io 71 (.bsl 1 [.t 66,.t 68,.t 70]),io 72 (.call (jf 37) [.t 71,jf 38]),io 73 (.call (jf 36) [.t 72,.c (.sc (.string ⟨#[58]⟩))]),io 74 (.bin .add (.c (.sc (.string ⟨#[32]⟩))) (.t 73)),io 75 (.bin .add (.t 64) (.t 74)),im 11 75]))) (.reg [io 76 (.bin .add (.t 60) (ik 1)),im 60 76])))))
def c15_2:Zar:=.blk 2 (.loop (.seq (.reg [io 40 (.bin .lss (.t 39) (.t 38))]) (.seq (.cond (.t 40) .skip (.exit 2)) (.seq (.blk 3 (.seq (.reg [io 41 (.ixa 11 (.t 37) (.t 39)),io 42 (.ld 11 true (.t 41)),io 10 (.box 46 (.c zm0)),iz (.st 11 (.t 10) (.t 42))]) (.seq (.drw [ip (io 43 (.fla 0 (.t 10))),ip (io 44 (.ld 1 false (.t 43))),ip (io 48 (.fla 1 (.t 10))),ip (io 49 (.fla 0 (.t 48))),ip (io 50 (.ld 1 false (.t 49))),(io 45 (.call (jf 34) [.t 44]),[io 50 (.ld 1 false (.t 49))]),ip (io 46 (.bin .add (.c (.sc (.string ⟨#[32,32]⟩))) (.t 45))),ip (io 47 (.bin .add (.t 46) (.c (.sc (.string ⟨#[61]⟩))))),ip (io 51 (.call (jf 35) [.t 50,ik 10])),ip (io 52 (.bin .add (.t 47) (.t 51))),ip (im 11 52)]) (.seq (.seq (.reg [io 53 (.fla 1 (.t 10)),io 54 (.fla 1 (.t 53)),im 55 0,io 56 (.mm true (.t 55) (ik 0)),io 57 (.mm false (.t 56) (ik 3)),io 58 (.sla 3 3 (.t 54) none (some (.t 57)) none),io 59 (.len false (.t 58)),jm 60 0]) c15_3) (.reg [im 77 8,im 78 11,io 79 (.bsl 1 [.t 78]),io 80 (.app 9 1 16 (.t 77) (.t 79)),im 8 80]))))) (.reg [io 81 (.bin .add (.t 39) (ik 1)),im 39 81])))))
def ZkW:Zar:=.seq (.reg [io 3 (.box 38 (.t 1)),io 4 (.mv jn)]) (.seq (.reg [io 5 (.mv (.c (.sc (.string ⟨#[111,107]⟩))))]) (.seq (.seq (.reg [io 14 (.fla 0 (.t 3)),io 15 (.ld 1 false (.t 14)),io 16 (.bin .neq (.t 15) (ik 0))]) (.cond (.t 16) (.reg [io 17 (.fla 0 (.t 3)),io 18 (.ld 1 false (.t 17)),io 19 (.call (jf 33) [.t 18]),io 20 (.bin .add (.c (.sc (.string ⟨#[101,114,114,111,114,32]⟩))) (.t 19)),im 5 20]) .skip)) (.seq (.seq (.reg [io 21 (.fla 2 (.t 3)),io 22 (.ld 1 false (.t 21)),io 23 (.len false (.t 22)),jm 24 0]) c15_1) (.seq (.reg [im 34 5,io 35 (.bsl 1 [.t 34]),im 8 35]) (.seq (.seq (.reg [io 36 (.fla 1 (.t 3)),io 37 (.ld 1 false (.t 36)),io 38 (.len false (.t 37)),jm 39 0]) c15_2) (.seq (.reg [im 82 8,im 4 82]) .ret))))))
theorem cf15:cFn Tryz.prog eqT 15=some (ZkW,[(.tmp 4)],83):=by kernel_rfl
def c16_1:Zar:=.blk 0 (.loop (.seq (.reg [io 24 (.bin .lss (.t 23) (.t 22))]) (.seq (.cond (.t 24) .skip (.exit 0)) (.seq (.blk 1 (.seq (.reg [io 25 (.ixa 1 (.t 21) (.t 23)),io 26 (.ld 1 false (.t 25)),im 7 26]) (.reg [im 27 5,io 28 (.bin .add (.t 27) (.c (.sc (.string ⟨#[32]⟩)))),im 29 7,io 30 (.call (jf 39) [.t 29]),io 31 (.bin .add (.t 28) (.t 30)),im 5 31]))) (.reg [io 32 (.bin .add (.t 23) (ik 1)),im 23 32])))))
def c16_3:Zar:=.blk 4 (.loop (.seq (.seq (.reg [im 52 12,io 53 (.bin .lss (.t 52) (ik 3)),im 54 53,ig 54 55 (.mv (.t 12)),ig 54 56 (.mv (.t 0)),ig 54 57 (.bin .lss (.t 55) (.t 56)),io 58 (.pick (.t 54) (.t 57) (ib false))]) (.cond (.t 58) .skip (.exit 4))) (.seq (.blk 5 (.drw [ip (im 61 11),ip (io 62 (.bin .add (.t 61) (.c (.sc (.string ⟨#[32]⟩))))),ip (im 63 12),ip (io 64 (.fla 1 (.t 10))),ip (io 65 (.fla 1 (.t 64))),ip (io 66 (.ixA 3 3 (.t 65) (.t 63))),ip (io 67 (.fla 0 (.t 66))),ip (io 68 (.ld 1 false (.t 67))),ip (im 72 12),ip (io 73 (.fla 1 (.t 10))),ip (io 74 (.fla 1 (.t 73))),ip (io 75 (.ixA 3 3 (.t 74) (.t 72))),ip (io 76 (.fla 1 (.t 75))),ip (io 77 (.ld 1 false (.t 76))),ip (im 81 12),ip (io 82 (.fla 1 (.t 10))),ip (io 83 (.fla 1 (.t 82))),ip (io 84 (.ixA 3 3 (.t 83) (.t 81))),ip (io 85 (.fla 2 (.t 84))),ip (io 86 (.ld 1 false (.t 85))),(io 69 (.call (jf 39) [.t 68]),[io 77 (.ld 1 false (.t 76)),io 86 (.ld 1 false (.t 85))]),ip (io 70 (.bin .add (.t 62) (.t 69))),ip (io 71 (.bin .add (.t 70) (.c (.sc (.string ⟨#[58]⟩))))),(io 78 (.call (jf 39) [.t 77]),[io 86 (.ld 1 false (.t 85))]),ip (io 79 (.bin .add (.t 71) (.t 78))),ip (io 80 (.bin .add (.t 79) (.c (.sc (.string ⟨#[58]⟩))))),ip (io 87 (.call (jf 39) [.t 86])),ip (io 88 (.bin .add (.t 80) (.t 87))),ip (im 11 88)])) (.reg [im 59 12,io 60 (.bin .add (.t 59) (ik 1)),im 12 60]))))
def c16_2:Zar:=.blk 2 (.loop (.seq (.reg [io 39 (.bin .lss (.t 38) (.t 37))]) (.seq (.cond (.t 39) .skip (.exit 2)) (.seq (.blk 3 (.seq (.reg [io 40 (.ixa 11 (.t 36) (.t 38)),io 41 (.ld 11 true (.t 40)),io 10 (.box 46 (.c zm0)),iz (.st 11 (.t 10) (.t 41))]) (.seq (.drw [ip (io 42 (.fla 0 (.t 10))),ip (io 43 (.ld 1 false (.t 42))),ip (io 47 (.fla 1 (.t 10))),ip (io 48 (.fla 0 (.t 47))),ip (io 49 (.ld 1 false (.t 48))),(io 44 (.call (jf 40) [.t 43]),[io 49 (.ld 1 false (.t 48))]),ip (io 45 (.bin .add (.c (.sc (.string ⟨#[32,32]⟩))) (.t 44))),ip (io 46 (.bin .add (.t 45) (.c (.sc (.string ⟨#[61]⟩))))),ip (io 50 (.call (jf 39) [.t 49])),ip (io 51 (.bin .add (.t 46) (.t 50))),ip (im 11 51)]) (.seq (.seq (.reg [jm 12 0]) c16_3) (.reg [im 89 8,im 90 11,io 91 (.bsl 1 [.t 90]),io 92 (.app 9 1 16 (.t 89) (.t 91)),im 8 92]))))) (.reg [io 93 (.bin .add (.t 38) (ik 1)),im 38 93])))))
def Zvh:Zar:=.seq (.reg [io 3 (.box 38 (.t 1)),io 4 (.mv jn)]) (.seq (.reg [io 5 (.mv (.c (.sc (.string ⟨#[111,107]⟩))))]) (.seq (.seq (.reg [io 13 (.fla 0 (.t 3)),io 14 (.ld 1 false (.t 13)),io 15 (.bin .neq (.t 14) (ik 0))]) (.cond (.t 15) (.reg [io 16 (.fla 0 (.t 3)),io 17 (.ld 1 false (.t 16)),io 18 (.call (jf 39) [.t 17]),io 19 (.bin .add (.c (.sc (.string ⟨#[101,114,114,111,114,32]⟩))) (.t 18)),im 5 19]) .skip)) (.seq (.seq (.reg [io 20 (.fla 2 (.t 3)),io 21 (.ld 1 false (.t 20)),io 22 (.len false (.t 21)),jm 23 0]) c16_1) (.seq (.reg [im 33 5,io 34 (.bsl 1 [.t 33]),im 8 34]) (.seq (.seq (.reg [io 35 (.fla 1 (.t 3)),io 36 (.ld 1 false (.t 35)),io 37 (.len false (.t 36)),jm 38 0]) c16_2) (.seq (.reg [im 94 8,im 4 94]) .ret))))))
theorem cf16:cFn Tryz.prog eqT 16=some (Zvh,[(.tmp 4)],95):=by kernel_rfl
def c34_1:Zar:=.blk 0 (.loop (.seq (.reg [io 9 (.bin .lss (.t 8) (.t 7))]) (.seq (.cond (.t 9) .skip (.exit 0)) (.seq (.blk 1 (.seq (.reg [io 10 (.ixa 1 (.t 6) (.t 8)),io 11 (.ld 1 false (.t 10)),im 5 11]) (.reg [im 12 3,im 13 5,io 14 (.call (jf 7) [.t 13]),io 15 (.bsl 1 [.t 14]),io 16 (.app 9 1 16 (.t 12) (.t 15)),im 3 16]))) (.reg [io 17 (.bin .add (.t 8) (ik 1)),im 8 17])))))
def ZrX:Zar:=.seq (.reg [io 2 (.mv (.c (.sc (.string ⟨#[]⟩))))]) (.seq (.reg [io 3 (.mv jn)]) (.seq (.seq (.reg [im 6 0,io 7 (.len false (.t 6)),jm 8 0]) c34_1) (.seq (.reg [im 18 3,io 19 (.call (jf 36) [.t 18,.c (.sc (.string ⟨#[44]⟩))]),im 2 19]) .ret)))
theorem cf34:cFn Tryz.prog eqT 34=some (ZrX,[(.tmp 2)],20):=by kernel_rfl
def c37_1:Zar:=.blk 0 (.loop (.seq (.reg [io 11 (.bin .lss (.t 10) (.t 9))]) (.seq (.cond (.t 11) .skip (.exit 0)) (.seq (.blk 1 (.seq (.reg [io 12 (.ixa 1 (.t 8) (.t 10)),io 13 (.ld 1 false (.t 12)),im 7 13]) (.reg [im 14 5,im 15 1,im 16 7,io 17 (.call (.t 15) [.t 16]),io 18 (.bsl 1 [.t 17]),io 19 (.app 9 1 16 (.t 14) (.t 18)),im 5 19]))) (.reg [io 20 (.bin .add (.t 10) (ik 1)),im 10 20])))))
def ZtL:Zar:=.seq (.reg [io 4 (.mv jn)]) (.seq (.reg [io 5 (.mv jn)]) (.seq (.seq (.reg [im 8 0,io 9 (.len false (.t 8)),jm 10 0]) c37_1) (.seq (.reg [im 21 5,im 4 21]) .ret)))
theorem cf37:cFn Tryz.prog eqT 37=some (ZtL,[(.tmp 4)],22):=by kernel_rfl
def c39_1:Zar:=.blk 0 (.loop (.seq (.seq (.reg [im 13 3,io 14 (.bin .gtr (.t 13) (.c (.sc (.int .u64 0))))]) (.cond (.t 14) .skip (.exit 0))) (.blk 1 (.seq (.reg [im 15 3,io 16 (.bin .rem (.t 15) (.c (.sc (.int .u64 10)))),io 17 (.cnv .u8 (.t 16)),io 18 (.bin .add (.c (.sc (.int .u8 48))) (.t 17)),io 19 (.bsl 1 [.t 18]),io 20 (.sob (.t 19)),im 21 4,io 22 (.bin .add (.t 20) (.t 21)),im 4 22]) (.reg [im 23 3,io 24 (.bin .quo (.t 23) (.c (.sc (.int .u64 10)))),im 3 24])))))
def Zt8:Zar:=.seq (.reg [io 2 (.mv (.c (.sc (.string ⟨#[]⟩))))]) (.seq (.seq (.reg [im 5 0,io 6 (.bin .eql (.t 5) (ik 0))]) (.cond (.t 6) (.seq (.reg [io 2 (.mv (.c (.sc (.string ⟨#[48]⟩))))]) .ret) .skip)) (.seq (.reg [im 7 0,io 8 (.cnv .u64 (.t 7)),im 3 8]) (.seq (.seq (.reg [im 9 0,io 10 (.bin .lss (.t 9) (ik 0))]) (.cond (.t 10) (.reg [im 11 3,io 12 (.un .neg (.t 11)),im 3 12]) .skip)) (.seq (.reg [io 4 (.mv (.c (.sc (.string ⟨#[]⟩))))]) (.seq c39_1 (.seq (.seq (.reg [im 25 0,io 26 (.bin .lss (.t 25) (ik 0))]) (.cond (.t 26) (.seq (.reg [im 27 4,io 28 (.bin .add (.c (.sc (.string ⟨#[45]⟩))) (.t 27)),im 2 28]) .ret) .skip)) (.seq (.reg [im 29 4,im 2 29]) .ret)))))))
theorem cf39:cFn Tryz.prog eqT 39=some (Zt8,[(.tmp 2)],30):=by kernel_rfl
def c40_1:Zar:=.blk 0 (.loop (.seq (.reg [io 8 (.bin .lss (.t 7) (.t 6))]) (.seq (.cond (.t 8) .skip (.exit 0)) (.seq (.blk 1 (.seq (.reg [im 9 7,im 4 9]) (.seq (.seq (.reg [im 10 4,io 11 (.bin .gtr (.t 10) (ik 0))]) (.cond (.t 11) (.reg [im 12 3,io 13 (.bin .add (.t 12) (.c (.sc (.string ⟨#[44]⟩)))),im 3 13]) .skip)) (.reg [im 14 3,im 15 0,im 16 4,io 17 (.ixa 1 (.t 15) (.t 16)),io 18 (.ld 1 false (.t 17)),io 19 (.call (jf 10) [.t 18]),io 20 (.bin .add (.t 14) (.t 19)),im 3 20])))) (.reg [io 21 (.bin .add (.t 7) (ik 1)),im 7 21])))))
def ZtB:Zar:=.seq (.reg [io 2 (.mv (.c (.sc (.string ⟨#[]⟩))))]) (.seq (.reg [io 3 (.mv (.c (.sc (.string ⟨#[]⟩))))]) (.seq (.seq (.reg [im 5 0,io 6 (.len false (.t 5)),jm 7 0]) c40_1) (.seq (.reg [im 22 3,im 2 22]) .ret)))
theorem cf40:cFn Tryz.prog eqT 40=some (ZtB,[(.tmp 2)],23):=by kernel_rfl
open Go.RowKit Go.Lib
abbrev rS (l:List Tx):List (List AV):=l.map fun s=>[eS s]
theorem ok_join:Zmq Tryz.prog 36:=⟨_,Tryz.func36,by kernel_rfl,by kernel_rfl⟩
theorem ZAC (t:Tok) (l:List Tx) (sep:Tx) (H:Zaa) (hl:(Lib.join l sep).length≤100000000) (hn:l.length≤1000000):Zay Tryz.prog 36 [.sl t (rS l),eS sep] H (Pure H (eS (Lib.join l sep))):=by
 refine⟨ok_join,fun g w vs hW hV hEn=>?_⟩
 obtain⟨v0,v1,rfl⟩:∃v0 v1,vs=[v0,v1]:=by
  match vs,hV.1 with
  | [v0,v1],_=>exact⟨v0,v1,rfl⟩
 have q0:=hV.2 0 _ _ rfl rfl
 have q1:=hV.2 1 _ _ rfl rfl
 cases q1
 cases q0 with
 | sl _ _ A c sz b o f hc hm hA hsz hcell hv ht =>
 have hlen:(rS l).length=l.length:=by simp
 by_cases hne:l=[]
 ·subst hne
  refine(Any.strings_Join_none Zz1 ZzF A c ⟨sep.toArray⟩ w).mono fun e w' ⟨he,hb⟩=>?_
  subst hb
  exact .inl ⟨_,_,_,g,he,⟨rfl,0,rfl⟩,.sc _,hW,.refl _ _ _⟩
 ·have hrn:rS l≠[]:=fun e=>hne (by simpa using e)
  have hA:=hA hrn
  subst hA
  have hone:sz=1:=by
   obtain⟨x,hx⟩:=List.exists_mem_of_ne_nil l hne
   have:=(hsz [eS x] (List.mem_map.2 ⟨x,hx,rfl⟩)).1
   simpa using this.symm
  subst hone
  have hcells:∀(j:Nat) (x:ByteArray),(l.map fun s=>(⟨s.toArray⟩:ByteArray))[j]?=some x→w.cell? ⟨b,o+j,none⟩=some (.string x):=fun j x hx=>by
   rw[List.getElem?_map]at hx
   cases hj:l[j]? with
   | none=>rw[hj]at hx;cases hx
   | some s =>
    rw[hj]at hx
    simp only[Option.map_some,Option.some.injEq]at hx
    subst hx
    have hr:(rS l)[j]?=some [eS s]:=by simp[hj]
    have h1:=(hcell j [eS s] 0 (eS s) hr rfl).1
    have h2:=hv j [eS s] 0 (eS s) hr rfl
    rw[show o+j * 1+0=o+j by omega]at h1
    rw[h1]
    generalize f j 0=y at h2
    cases h2
    rfl
  have hbl:b<w.heap.size:=by
   obtain⟨s,hs⟩:=List.exists_mem_of_ne_nil l hne
   obtain⟨j,hj,rfl⟩:=List.getElem_of_mem hs
   exact hW.ro b _ (hcell j [eS l[j]] 0 (eS l[j]) (by simp[hj]) rfl).2
  have hmm:(l.map fun s=>(⟨s.toArray⟩:ByteArray)).map (·.data.toList)=l:=by rw[List.map_map];simp[Function.comp_def]
  have:=Any.strings_Join Zz1 ZzF b o c (l.map fun s=>(⟨s.toArray⟩:ByteArray)) ⟨sep.toArray⟩ w hcells hbl (by simp;omega) (by simpa using hc) (by rw[hmm];simp only;omega)
  rw[hmm]at this
  have e2:(l.map fun s=>(⟨s.toArray⟩:ByteArray)).length=(rS l).length:=by simp
  rw[e2]at this
  refine this.mono fun e w' ⟨he,hb⟩=>?_
  obtain⟨k1,k2⟩:=Zxg hW hb
  exact .inl ⟨_,_,_,g,he,⟨rfl,0,rfl⟩,.sc _,k1,k2⟩
def decD (u:Nat):Tx:=if u=0 then [] else decDigits u
theorem ZAQ {u:Nat} (h:0<u):decD u=decD (u / 10)++[UInt8.ofNat (48+u % 10)]:=by
 unfold decD
 rw[if_neg (by omega)]
 by_cases h10:u<10
 ·rw[if_pos (by omega),decDigits_one h10,Nat.mod_eq_of_lt h10];rfl
 ·rw[if_neg (by omega),decDigits,dif_neg h10]
theorem dig10:∀n:Fin 10,IntKind.u8.wrap (48+IntKind.u8.wrap (n.val:Int))=((UInt8.ofNat (48+n.val)).toNat:Int):=by decide +kernel
theorem u64_quo (u:Nat) (h:u<18446744073709551616):IntKind.u64.wrap ((u:Int).tdiv 10)=((u / 10:Nat):Int):=by
 rw[Int.tdiv_eq_ediv_of_nonneg (by omega),IntKind.wrap_u64]
 omega
theorem nDig_le:∀u:Nat,nDigits u≤u+1:=by
 intro u
 induction u using Nat.strongRecOn with
 | _ u ih =>
  by_cases h:u<10
  ·rw[nDigits_small h];omega
  ·rw[nDigits_big h]
   have:=ih (u / 10) (by omega)
   omega
theorem ZAP (u:Nat) (h:u<18446744073709551616):(decDigits u).length≤9000000000000000000:=by
 rw[decDigits_length]
 by_cases h10:u<10
 ·rw[nDigits_small h10];omega
 ·rw[nDigits_big h10]
  have:=nDig_le (u / 10)
  omega
theorem Zz9 (a b:Tx):(⟨a.toArray⟩:ByteArray)++⟨b.toArray⟩=⟨(a++b).toArray⟩:=by
 apply ByteArray.ext
 simp[ByteArray.data_append]
set_option maxHeartbeats 4000000 in
theorem ZAb (n:Int) (h0 : -9223372036854775808≤n) (h1:n≤9223372036854775807) (H:Zaa):Zay Tryz.prog 39 [.i n] H (Pure H (eS (itoa n))):=by
 by_cases hz:n=0
 ·subst hz
  have hi:itoa 0=[48]:=by unfold itoa;rw[if_neg (by omega)];exact decDigits_one (by decide)
  rw[hi]
  have d:((0:Int) == 0)=true:=rfl
  refine Zak hE cf39 (Nat.le_of_ble_eq_true rfl) fun Q hQr hQn=>?_
  ((have hd:=trivial;repeat' (first|((first|apply Zad|apply Zac|apply Zab)<;>intro hd<;>(try simp only[hd]))|simp(disch:=first|assumption|omega|(simp only[nx]<;>omega)|fail)only [hd,hQr,hQn,Zt8,↓YA,YB,YC,YE,YF,YZ,sevalprocAttr,d]))<;>(try (have hd_:True:=hd;clear hd_ hd)))
  refine Zcm (by rfl)
 have dz:(n == 0)=false:=by simpa using hz
 obtain⟨U,hU⟩:∃U,U=n.natAbs:=⟨_,rfl⟩
 have hUp:0<U:=by omega
 have hUl:U<18446744073709551616:=by omega
 have hloop:∀(T:Tx) (Q:AEx→Fr→Zaa→Prop) (F:Fr) (G:Zaa),Fr.get F 3=.sc (.int .u64 (U:Int))→Fr.get F 4=eS []→Fr.get F 0=.i n→(∀F',Fr.get F' 4=eS (decDigits U)→Fr.get F' 0=.i n→Q .normal F' G)→AW Tryz.prog c39_1 Q F G:=by
  intro T Q F G f3 f4 f0 hQ
  refine AW_bl (fun m F' G'=>∃u out,m=u∧u≤U∧Fr.get F' 3=.sc (.int .u64 (u:Int))∧Fr.get F' 4=eS out∧Fr.get F' 0=.i n∧decD U=decD u++out∧G'=G) U (GStep.refl _ _) ⟨U,[],rfl,Nat.le_refl _,f3,f4,f0,by simp,rfl⟩ ?_
  rintro m F' G' ⟨u,out,rfl,hu,f3,f4,f0,hd,rfl⟩
  have hQr:=trivial
  have hQn:=trivial
  by_cases hu0:0<m
  ·have d:decide ((m:Int) > 0)=true:=by simp;omega
   have hr:(m:Int).tmod 10=((m % 10:Nat):Int):=by rw[Int.tmod_eq_emod_of_nonneg (by omega)];omega
   have hq:=u64_quo m (by omega)
   have h10:((10:Int)=0)=False:=by simp
   have hdg:=dig10 ⟨m % 10,by omega⟩
   simp only at hdg
   rw[ZAQ hu0]at hd
   have hby:Zef [[u8 (UInt8.ofNat (48+m % 10))]]=some [((UInt8.ofNat (48+m % 10)).toNat:Int)]:=ZyX [UInt8.ofNat (48+m % 10)]
   have hso:strOf [((UInt8.ofNat (48+m % 10)).toNat:Int)]=⟨[UInt8.ofNat (48+m % 10)].toArray⟩:=Zza [UInt8.ofNat (48+m % 10)]
   generalize UInt8.ofNat (48+m % 10)=c at *
   have hol:1+out.length≤maxLen:=by
    have hl:=congrArg List.length hd
    have h3:decD U=decDigits U:=by unfold decD;rw[if_neg (by omega)]
    have h4:=ZAP U hUl
    rw[← h3,hl]at h4
    simp only[List.length_append,List.length_cons,List.length_nil]at h4
    unfold maxLen
    omega
   have hap:(⟨#[c]⟩:ByteArray)++⟨out.toArray⟩=⟨(c :: out).toArray⟩:=Zz9 [c] out
   skip
   ((have hd:=trivial;repeat' (first|((first|apply Zad|apply Zac|apply Zab)<;>intro hd<;>(try simp only[hd]))|simp(disch:=first|assumption|omega|(simp only[nx]<;>omega)|fail)only [hd,hQr,hQn,Zt8,↓YA,YB,YC,YE,YF,YZ,sevalprocAttr,f3,f4,f0,d,hr,hq,h10,hdg,hby,hso,hol,hap]))<;>(try (have hd_:True:=hd;clear hd_ hd)))
   exact⟨_,by omega,m / 10,_,rfl,by omega,rfl,rfl,by rw[hd];simp⟩
  ·have d:decide ((m:Int) > 0)=false:=by simp;omega
   have hm:m=0:=by omega
   subst hm
   have ho:decDigits U=out:=by
    have e:decD U=decDigits U:=by unfold decD;rw[if_neg (by omega)]
    rw[← e,hd];rfl
   rw[ho]at hQ
   skip
   ((have hd:=trivial;repeat' (first|((first|apply Zad|apply Zac|apply Zab)<;>intro hd<;>(try simp only[hd]))|simp(disch:=first|assumption|omega|(simp only[nx]<;>omega)|fail)only [hd,hQr,hQn,Zt8,↓YA,YB,YC,YE,YF,YZ,sevalprocAttr,f3,f4,f0,d]))<;>(try (have hd_:True:=hd;clear hd_ hd)))
   exact hQ _ (by simpa [Fr.get] using f4) (by simpa [Fr.get] using f0)
 by_cases hneg:n<0
 ·have dn:decide (n<0)=true:=decide_eq_true hneg
  have hi:itoa n=45 :: decDigits U:=by unfold itoa;rw[if_pos hneg,hU]
  rw[hi]
  have hw:IntKind.u64.wrap (0 - IntKind.u64.wrap n)=(U:Int):=by rw[IntKind.wrap_u64,IntKind.wrap_u64];omega
  have hol:1+(decDigits U).length≤maxLen:=by have:=ZAP U hUl;unfold maxLen;omega
  have hap:(⟨#[45]⟩:ByteArray)++⟨(decDigits U).toArray⟩=⟨(45 :: decDigits U).toArray⟩:=Zz9 [45] (decDigits U)
  refine Zak hE cf39 (Nat.le_of_ble_eq_true rfl) fun Q hQr hQn=>?_
  ((have hd:=trivial;repeat' (first|((first|apply Zad|apply Zac|apply Zab)<;>intro hd<;>(try simp only[hd]))|simp(disch:=first|assumption|omega|(simp only[nx]<;>omega)|fail)only [hd,hQr,hQn,Zt8,↓YA,YB,YC,YE,YF,YZ,sevalprocAttr,dz,dn,hw]))<;>(try (have hd_:True:=hd;clear hd_ hd)))
  refine hloop [] _ _ _ rfl rfl rfl fun F' f4 f0=>?_
  ((have hd:=trivial;repeat' (first|((first|apply Zad|apply Zac|apply Zab)<;>intro hd<;>(try simp only[hd]))|simp(disch:=first|assumption|omega|(simp only[nx]<;>omega)|fail)only [hd,hQr,hQn,Zt8,↓YA,YB,YC,YE,YF,YZ,sevalprocAttr,f4,f0,dn,hol,hap]))<;>(try (have hd_:True:=hd;clear hd_ hd)))
  exact Zcm rfl (Zaa.Ext.refl _)
 ·have dn:decide (n<0)=false:=decide_eq_false hneg
  have hi:itoa n=decDigits U:=by unfold itoa;rw[if_neg hneg,hU];congr 1;omega
  rw[hi]
  have hw:IntKind.u64.wrap n=(U:Int):=by rw[IntKind.wrap_u64];omega
  refine Zak hE cf39 (Nat.le_of_ble_eq_true rfl) fun Q hQr hQn=>?_
  ((have hd:=trivial;repeat' (first|((first|apply Zad|apply Zac|apply Zab)<;>intro hd<;>(try simp only[hd]))|simp(disch:=first|assumption|omega|(simp only[nx]<;>omega)|fail)only [hd,hQr,hQn,Zt8,↓YA,YB,YC,YE,YF,YZ,sevalprocAttr,dz,dn,hw]))<;>(try (have hd_:True:=hd;clear hd_ hd)))
  refine hloop [] _ _ _ rfl rfl rfl fun F' f4 f0=>?_
  ((have hd:=trivial;repeat' (first|((first|apply Zad|apply Zac|apply Zab)<;>intro hd<;>(try simp only[hd]))|simp(disch:=first|assumption|omega|(simp only[nx]<;>omega)|fail)only [hd,hQr,hQn,Zt8,↓YA,YB,YC,YE,YF,YZ,sevalprocAttr,f4,f0,dn]))<;>(try (have hd_:True:=hd;clear hd_ hd)))
  exact Zcm rfl (Zaa.Ext.refl _)
open Go.RowKit Go.Lib
def ZAc (l:List Tx):Tx:=Lib.join (l.map ZyH) [44]
theorem ZAS (sep:Tx) (l:List Tx) (x:Tx) (h:l≠[]):Lib.join (l++[x]) sep=Lib.join l sep++sep++x:=by
 cases l with
 | nil=>exact absurd rfl h
 | cons y l=>rw[List.cons_append,Lib.join_cons,Lib.join_cons];simp[Lib.joinTail]
def ZAr (l:List Tx):Nat:=(l.map List.length).sum
theorem ZAw (sep:Tx):∀l:List Tx,(Lib.join l sep).length≤ZAr l+l.length * sep.length
 | []=>by simp[Lib.join_nil]
 | x :: r=>by
  rw[Lib.join_cons]
  have:(Lib.joinTail sep r).length=ZAr r+r.length * sep.length:=by
   unfold Lib.joinTail ZAr
   induction r with
   | nil=>simp
   | cons y r ih=>simp only[List.map_cons,List.flatten_cons,List.length_append,ih,List.sum_cons,List.length_cons];rw[Nat.add_mul];omega
  rw[List.length_append,this]
  unfold ZAr
  simp only[List.map_cons,List.sum_cons,List.length_cons]
  rw[Nat.add_mul]
  omega
theorem ZAj (l:List Tx):ZAr (l.map ZyH)≤2 * ZAr l+l.length:=by
 unfold ZAr
 induction l with
 | nil=>simp
 | cons x l ih =>
  have:=ZzU x
  simp only[List.map_cons,List.sum_cons,List.length_cons]at ih ⊢
  omega
theorem ZAJ {l:List Tx} {k:Nat} (h:k<l.length):l[k].length≤ZAr l:=by
 unfold ZAr
 induction l generalizing k with
 | nil=>simp at h
 | cons x l ih =>
  simp only[List.map_cons,List.sum_cons]
  cases k with
  | zero=>simp
  | succ k =>
   have:=ih (k:=k) (by simpa using h)
   simp only[List.getElem_cons_succ]
   omega
theorem ZAT {l:List Tx} {k:Nat}:ZAr (l.take k)≤ZAr l:=by
 unfold ZAr
 induction l generalizing k with
 | nil=>simp
 | cons x l ih =>
  cases k with
  | zero=>simp
  | succ k=>simp only[List.take_succ_cons,List.map_cons,List.sum_cons];have:=ih (k:=k);omega
theorem ZAZ {l:List Tx} {k:Nat} (h:k<l.length):rS (l.take k)++[[eS l[k]]]=rS (l.take (k+1)):=by
 rw[List.take_succ_eq_append_getElem h]
 unfold rS
 rw[List.map_append];rfl
set_option maxHeartbeats 4000000 in
theorem ZAE (t:Tok) (l:List Tx) (H:Zaa) (hl:l.length≤1000) (hs:ZAr l≤100000):Zay Tryz.prog 34 [.sl t (rS l)] H (Pure H (eS (ZAc l))):=by
 have hsw:=ZAj l
 have hjl:=ZAw [44] (l.map ZyH)
 rw[List.length_map]at hjl
 simp only[List.length_cons,List.length_nil]at hjl
 refine Zak hE cf34 (Nat.le_of_ble_eq_true rfl) fun Q hQr hQn=>?_
 ((have hd:=trivial;repeat' (first|((first|apply Zad|apply Zac|apply Zab)<;>intro hd<;>(try simp only[hd]))|simp(disch:=first|assumption|omega|(simp only[nx]<;>omega)|fail)only [hd,hQr,hQn,ZrX,↓YA,YB,YC,YE,YF,YZ,sevalprocAttr,List.length_map]))<;>(try (have hd_:True:=hd;clear hd_ hd)))
 refine ZbJ (N:=l.length) (fun k F G=>Fr.get F 8=.i (k:Int)∧Fr.get F 7=.i (l.length:Int)∧Fr.get F 6=.sl t (rS l)∧Zaa.Ext H G∧∃tok,Fr.get F 3=.sl tok (rS ((l.map ZyH).take k))∧TokA H.next G 9 1 k tok) (by unfold maxLen;omega) (fun k F G h=>⟨h.1,h.2.1⟩) (GStep.refl _ _) ⟨rfl,rfl,rfl,.refl _,.full,rfl,.inl rfl⟩ ?_ ?_
 ·rintro k F G hk ⟨f8,f7,f6,hx,tok,f3,hT⟩
  have h0:(0:Int)≤(k:Int):=by omega
  have hr:(rS l)[k]?=some [eS l[k]]:=by simp[hk]
  have hk2:k<(l.map ZyH).length:=by simpa using hk
  have hsn:=ZAZ hk2
  rw[List.getElem_map]at hsn
  have hle:=ZAJ hk
  have hrl:(rS ((l.map ZyH).take k)).length=k:=by simp;omega
  have hal:ZaE 1 (rS ((l.map ZyH).take k))=true:=ZaU (f:=fun s:Tx=>[eS s]) (sz:=1) (fun _=>rfl) _
  have hm1:k+1≤maxLen:=by unfold maxLen;omega
  have hm2:(k+1) * 16≤140737488355328:=by omega
  generalize hR1:rS ((l.map ZyH).take (k+1))=R1 at *
  generalize rS ((l.map ZyH).take k)=R0 at *
  generalize l[k]=s at *
  have hal2:ZaE 1 [[eS (ZyH s)]]=true:=rfl
  rcases hT with rfl|⟨t',ht,rfl,hgt⟩
  ·((have hd:=trivial;repeat' (first|((first|apply Zad|apply Zac|apply Zab)<;>intro hd<;>(try simp only[hd]))|simp(disch:=first|assumption|omega|(simp only[nx]<;>omega)|fail)only [hd,hQr,hQn,ZrX,↓YA,YB,YC,YE,YF,YZ,sevalprocAttr,f8,f7,f6,f3,h0,hr]))<;>(try (have hd_:True:=hd;clear hd_ hd)))
   (refine Zap.use (ZyQ s _ (by omega)) ?_;rintro _ _ ⟨rfl,k2,rfl⟩)
   ((have hd:=trivial;repeat' (first|((first|apply Zad|apply Zac|apply Zab)<;>intro hd<;>(try simp only[hd]))|simp(disch:=first|assumption|omega|(simp only[nx]<;>omega)|fail)only [hd,hQr,hQn,ZrX,↓YA,YB,YC,YE,YF,YZ,sevalprocAttr,f8,f7,f6,f3,hrl,hal,hal2,hm1,hm2,hsn]))<;>(try (have hd_:True:=hd;clear hd_ hd)))
   have hnx:=hx.next
   exact⟨hx.bump.alloc,_,by rw[hR1];rfl,.inr ⟨_,by simp only[Zaa.ZaD];omega,rfl,Zaa.Zae (H:=G.bump k2)⟩⟩
  ·((have hd:=trivial;repeat' (first|((first|apply Zad|apply Zac|apply Zab)<;>intro hd<;>(try simp only[hd]))|simp(disch:=first|assumption|omega|(simp only[nx]<;>omega)|fail)only [hd,hQr,hQn,ZrX,↓YA,YB,YC,YE,YF,YZ,sevalprocAttr,f8,f7,f6,f3,h0,hr]))<;>(try (have hd_:True:=hd;clear hd_ hd)))
   (refine Zap.use (ZyQ s _ (by omega)) ?_;rintro _ _ ⟨rfl,k2,rfl⟩)
   ((have hd:=trivial;repeat' (first|((first|apply Zad|apply Zac|apply Zab)<;>intro hd<;>(try simp only[hd]))|simp(disch:=first|assumption|omega|(simp only[nx]<;>omega)|fail)only [hd,hQr,hQn,ZrX,↓YA,YB,YC,YE,YF,YZ,sevalprocAttr,f8,f7,f6,f3,hrl,hal,hal2,hm1,hm2,hsn,hgt]))<;>(try (have hd_:True:=hd;clear hd_ hd)))
   exact⟨hx.bump.set ht,_,by rw[hR1],.inr ⟨t',ht,rfl,Zaa.Zal (Zaa.lt (H:=G.bump k2) hgt)⟩⟩
 ·rintro F G ⟨f8,f7,f6,hx,tok,f3,hT⟩
  rw[List.take_of_length_le (by simp)]at f3
  ((have hd:=trivial;repeat' (first|((first|apply Zad|apply Zac|apply Zab)<;>intro hd<;>(try simp only[hd]))|simp(disch:=first|assumption|omega|(simp only[nx]<;>omega)|fail)only [hd,hQr,hQn,ZrX,↓YA,YB,YC,YE,YF,YZ,sevalprocAttr,f8,f7,f6,f3]))<;>(try (have hd_:True:=hd;clear hd_ hd)))
  (refine Zap.use (ZAC tok (l.map ZyH) [44] _ (by omega) (by simp;omega)) ?_;rintro _ _ ⟨rfl,k2,rfl⟩)
  ((have hd:=trivial;repeat' (first|((first|apply Zad|apply Zac|apply Zab)<;>intro hd<;>(try simp only[hd]))|simp(disch:=first|assumption|omega|(simp only[nx]<;>omega)|fail)only [hd,hQr,hQn,ZrX,↓YA,YB,YC,YE,YF,YZ,sevalprocAttr]))<;>(try (have hd_:True:=hd;clear hd_ hd)))
  exact Zcm rfl (hx.bump)
theorem ZAX (l:List Tx) {k:Nat} (h:k<l.length):Lib.join (l.take (k+1)) [44]=(if 0<k then Lib.join (l.take k) [44]++[44] else [])++l[k]:=by
 rw[List.take_succ_eq_append_getElem h]
 by_cases hk:0<k
 ·rw[if_pos hk,ZAS]
  intro e
  have:=congrArg List.length e
  rw[List.length_take,List.length_nil]at this
  omega
 ·have:k=0:=by omega
  subst this
  rw[if_neg hk]
  simp[Lib.join_one]
theorem ZA0 {a b:Nat} (h:a+b≤1000000000):a+b≤maxLen:=by unfold maxLen;omega
set_option maxHeartbeats 4000000 in
theorem ZAA (t:Tok) (l:List Tx) (H:Zaa) (hl:l.length≤1000) (hs:ZAr l≤100000):Zay Tryz.prog 40 [.sl t (rS l)] H (Pure H (eS (ZAc l))):=by
 have hbnd:∀k,(Lib.join ((l.map ZyH).take k) [44]).length≤300000:=fun k=>by
  have h1:=ZAw [44] ((l.map ZyH).take k)
  have h2:=ZAT (l:=l.map ZyH) (k:=k)
  have h3:=ZAj l
  have h4:((l.map ZyH).take k).length≤l.length:=by rw[List.length_take,List.length_map];omega
  simp only[List.length_cons,List.length_nil]at h1
  omega
 refine Zak hE cf40 (Nat.le_of_ble_eq_true rfl) fun Q hQr hQn=>?_
 ((have hd:=trivial;repeat' (first|((first|apply Zad|apply Zac|apply Zab)<;>intro hd<;>(try simp only[hd]))|simp(disch:=first|assumption|omega|(simp only[nx]<;>omega)|fail)only [hd,hQr,hQn,ZtB,↓YA,YB,YC,YE,YF,YZ,sevalprocAttr,List.length_map]))<;>(try (have hd_:True:=hd;clear hd_ hd)))
 refine Zbs [0,6] (σ:=Tx) (fun(k:Nat) s=>s=Lib.join ((l.map ZyH).take k) [44]) (fun k s=>[(3,eS s)]) (fun k s=>[]) [] (GStep.refl _ _) (by simp only[ZaA,Zav,Fr.put,Fr.get,↓reduceIte,Nat.reduceEqDiff];rfl) (by intro k s;rfl) (by intro k s;rfl) (by rfl) (by unfold maxLen;omega) ?_ (by simp only[ZaF,ZaX,Fr.put,Fr.get,↓reduceIte,Nat.reduceEqDiff,and_self]<;>simp) (by simp only[ZaJ]) ?_ ?_
 ·rfl
 ·(rintro k J0 G hk hJ0 hG hn;try simp only[nx]at hn)
  have hr:(rS l)[k]?=some [eS l[k]]:=by simp[hk]
  have hk2:k<(l.map ZyH).length:=by simpa using hk
  have hjt:=ZAX (l.map ZyH) hk2
  rw[List.getElem_map]at hjt
  have hle:=ZAJ hk
  have hb:=hbnd k
  have hwl:=ZzU l[k]
  rw[← hJ0]at hb hjt
  generalize hJ1:Lib.join ((l.map ZyH).take (k+1)) [44]=J1 at *
  generalize l[k]=s at *
  have hf1:J0.length+1≤maxLen:=ZA0 (by omega)
  have hf2:J0.length+(ZyH s).length≤maxLen:=ZA0 (by omega)
  have hf3:(J0++[44]).length+(ZyH s).length≤maxLen:=by rw[List.length_append];simp only[List.length_cons,List.length_nil];unfold maxLen;omega
  have ha1:(⟨J0.toArray⟩:ByteArray)++⟨#[44]⟩=⟨(J0++[44]).toArray⟩:=Zz9 J0 [44]
  have ha2:(⟨J0.toArray⟩:ByteArray)++⟨(ZyH s).toArray⟩=⟨(J0++ZyH s).toArray⟩:=Zz9 J0 (ZyH s)
  have ha3:(⟨(J0++[44]).toArray⟩:ByteArray)++⟨(ZyH s).toArray⟩=⟨(J0++[44]++ZyH s).toArray⟩:=Zz9 (J0++[44]) (ZyH s)
  by_cases h0:0<k
  ·have d:decide ((k:Int) > 0)=true:=by simp;omega
   rw[if_pos h0]at hjt
   ((have hd:=trivial;repeat' (first|((first|apply Zad|apply Zac|apply Zab)<;>intro hd<;>(try simp only[hd]))|simp(disch:=first|assumption|omega|(simp only[nx]<;>omega)|fail)only [hd,hQr,hQn,ZtB,↓YA,YB,YC,YE,YF,YZ,sevalprocAttr,d,hr,hf1,ha1]))<;>(try (have hd_:True:=hd;clear hd_ hd)))
   (refine Zap.use (ZyV s _ (by omega)) ?_;rintro _ _ ⟨rfl,k2,rfl⟩)
   ((have hd:=trivial;repeat' (first|((first|apply Zad|apply Zac|apply Zab)<;>intro hd<;>(try simp only[hd]))|simp(disch:=first|assumption|omega|(simp only[nx]<;>omega)|fail)only [hd,hQr,hQn,ZtB,↓YA,YB,YC,YE,YF,YZ,sevalprocAttr,hf3,ha3]))<;>(try (have hd_:True:=hd;clear hd_ hd)))
   exact⟨J1,hJ1.symm,by rw[hjt],by exact HXT⟩
  ·have d:decide ((k:Int) > 0)=false:=by simp;omega
   rw[if_neg h0]at hjt
   ((have hd:=trivial;repeat' (first|((first|apply Zad|apply Zac|apply Zab)<;>intro hd<;>(try simp only[hd]))|simp(disch:=first|assumption|omega|(simp only[nx]<;>omega)|fail)only [hd,hQr,hQn,ZtB,↓YA,YB,YC,YE,YF,YZ,sevalprocAttr,d,hr,hf1,ha1]))<;>(try (have hd_:True:=hd;clear hd_ hd)))
   (refine Zap.use (ZyV s _ (by omega)) ?_;rintro _ _ ⟨rfl,k2,rfl⟩)
   ((have hd:=trivial;repeat' (first|((first|apply Zad|apply Zac|apply Zab)<;>intro hd<;>(try simp only[hd]))|simp(disch:=first|assumption|omega|(simp only[nx]<;>omega)|fail)only [hd,hQr,hQn,ZtB,↓YA,YB,YC,YE,YF,YZ,sevalprocAttr,hf2,ha2]))<;>(try (have hd_:True:=hd;clear hd_ hd)))
   have e0:J0=[]:=by
    have:k=0:=by omega
    rw[hJ0,this];rfl
   exact⟨J1,hJ1.symm,by rw[hjt,e0],by exact HXT⟩
 ·(rintro J0 G hJ0 hG hn;try simp only[nx]at hn)
  rw[List.take_of_length_le (by simp)]at hJ0
  ((have hd:=trivial;repeat' (first|((first|apply Zad|apply Zac|apply Zab)<;>intro hd<;>(try simp only[hd]))|simp(disch:=first|assumption|omega|(simp only[nx]<;>omega)|fail)only [hd,hQr,hQn,ZtB,↓YA,YB,YC,YE,YF,YZ,sevalprocAttr]))<;>(try (have hd_:True:=hd;clear hd_ hd)))
  exact Zcm (by rw[hJ0];rfl) hG.ext
theorem ZAi (n:Int) (h0 : -9223372036854775808≤n) (h1:n≤9223372036854775807) (H:Zaa):Zay Tryz.prog 38 [.i n] H (Pure H (eS (itoa n))):=by
 have hf:∀H,Zay Tryz.prog 35 [.i n,.i 10] H (Pure H (eS (itoa n))):=fun H=>Same.pure (Zzz n H h0 h1)
 refine Zak hE cf38 (Nat.le_of_ble_eq_true rfl) fun Q hQr hQn=>?_
 ((have hd:=trivial;repeat' (first|((first|apply Zad|apply Zac|apply Zab)<;>intro hd<;>(try simp only[hd]))|simp(disch:=first|assumption|omega|(simp only[nx]<;>omega)|fail)only [hd,hQr,hQn,Ztz,↓YA,YB,YC,YE,YF,YZ,sevalprocAttr]))<;>(try (have hd_:True:=hd;clear hd_ hd)))
 (refine Zap.use (hf _) ?_;rintro _ _ ⟨rfl,k1,rfl⟩)
 ((have hd:=trivial;repeat' (first|((first|apply Zad|apply Zac|apply Zab)<;>intro hd<;>(try simp only[hd]))|simp(disch:=first|assumption|omega|(simp only[nx]<;>omega)|fail)only [hd,hQr,hQn,Ztz,↓YA,YB,YC,YE,YF,YZ,sevalprocAttr]))<;>(try (have hd_:True:=hd;clear hd_ hd)))
 refine Zcm (by rfl)
def InI (n:Int):Prop := -9223372036854775808≤n∧n≤9223372036854775807
abbrev rI (l:List Int):List (List AV):=l.map fun n=>[AV.i n]
def SlQ (l:List Tx) (H:Zaa) (r:AV) (G:Zaa):Prop:=Zaa.Ext H G∧∃tok,r=.sl tok (rS l)
set_option maxHeartbeats 4000000 in
theorem ZkK (t:Tok) (l:List Int) (H:Zaa) (hl:l.length≤1000) (hi:∀n∈l,InI n):Zay Tryz.prog 37 [.sl t (rI l),.fn 38 [] []] H (SlQ (l.map itoa) H):=by
 refine Zak hE cf37 (Nat.le_of_ble_eq_true rfl) fun Q hQr hQn=>?_
 ((have hd:=trivial;repeat' (first|((first|apply Zad|apply Zac|apply Zab)<;>intro hd<;>(try simp only[hd]))|simp(disch:=first|assumption|omega|(simp only[nx]<;>omega)|fail)only [hd,hQr,hQn,ZtL,↓YA,YB,YC,YE,YF,YZ,sevalprocAttr,List.length_map]))<;>(try (have hd_:True:=hd;clear hd_ hd)))
 refine ZbJ (N:=l.length) (fun k F G=>Fr.get F 10=.i (k:Int)∧Fr.get F 9=.i (l.length:Int)∧Fr.get F 8=.sl t (rI l)∧Fr.get F 1=.fn 38 [] []∧Zaa.Ext H G∧∃tok,Fr.get F 5=.sl tok (rS ((l.map itoa).take k))∧TokA H.next G 9 1 k tok) (by unfold maxLen;omega) (fun k F G h=>⟨h.1,h.2.1⟩) (GStep.refl _ _) ⟨rfl,rfl,rfl,rfl,.refl _,.full,rfl,.inl rfl⟩ ?_ ?_
 ·rintro k F G hk ⟨f10,f9,f8,f1,hx,tok,f5,hT⟩
  have h0:(0:Int)≤(k:Int):=by omega
  have hr:(rI l)[k]?=some [.i l[k]]:=by simp[hk]
  have hk2:k<(l.map itoa).length:=by simpa using hk
  have hsn:=ZAZ hk2
  rw[List.getElem_map]at hsn
  have hin:=hi _ (List.getElem_mem hk)
  have hrl:(rS ((l.map itoa).take k)).length=k:=by simp;omega
  have hal:ZaE 1 (rS ((l.map itoa).take k))=true:=ZaU (f:=fun s:Tx=>[eS s]) (sz:=1) (fun _=>rfl) _
  have hm1:k+1≤maxLen:=by unfold maxLen;omega
  have hm2:(k+1) * 16≤140737488355328:=by omega
  generalize hR1:rS ((l.map itoa).take (k+1))=R1 at *
  generalize rS ((l.map itoa).take k)=R0 at *
  generalize l[k]=s at *
  have hal2:ZaE 1 [[eS (itoa s)]]=true:=rfl
  rcases hT with rfl|⟨t',ht,rfl,hgt⟩
  ·((have hd:=trivial;repeat' (first|((first|apply Zad|apply Zac|apply Zab)<;>intro hd<;>(try simp only[hd]))|simp(disch:=first|assumption|omega|(simp only[nx]<;>omega)|fail)only [hd,hQr,hQn,ZtL,↓YA,YB,YC,YE,YF,YZ,sevalprocAttr,f10,f9,f8,f1,f5,h0,hr]))<;>(try (have hd_:True:=hd;clear hd_ hd)))
   (refine Zap.use (ZAi s hin.1 hin.2 _) ?_;rintro _ _ ⟨rfl,k2,rfl⟩)
   ((have hd:=trivial;repeat' (first|((first|apply Zad|apply Zac|apply Zab)<;>intro hd<;>(try simp only[hd]))|simp(disch:=first|assumption|omega|(simp only[nx]<;>omega)|fail)only [hd,hQr,hQn,ZtL,↓YA,YB,YC,YE,YF,YZ,sevalprocAttr,f10,f9,f8,f1,f5,hrl,hal,hal2,hm1,hm2,hsn]))<;>(try (have hd_:True:=hd;clear hd_ hd)))
   have hnx:=hx.next
   exact⟨hx.bump.alloc,_,by rw[hR1];rfl,.inr ⟨_,by simp only[Zaa.ZaD];omega,rfl,Zaa.Zae (H:=G.bump k2)⟩⟩
  ·((have hd:=trivial;repeat' (first|((first|apply Zad|apply Zac|apply Zab)<;>intro hd<;>(try simp only[hd]))|simp(disch:=first|assumption|omega|(simp only[nx]<;>omega)|fail)only [hd,hQr,hQn,ZtL,↓YA,YB,YC,YE,YF,YZ,sevalprocAttr,f10,f9,f8,f1,f5,h0,hr]))<;>(try (have hd_:True:=hd;clear hd_ hd)))
   (refine Zap.use (ZAi s hin.1 hin.2 _) ?_;rintro _ _ ⟨rfl,k2,rfl⟩)
   ((have hd:=trivial;repeat' (first|((first|apply Zad|apply Zac|apply Zab)<;>intro hd<;>(try simp only[hd]))|simp(disch:=first|assumption|omega|(simp only[nx]<;>omega)|fail)only [hd,hQr,hQn,ZtL,↓YA,YB,YC,YE,YF,YZ,sevalprocAttr,f10,f9,f8,f1,f5,hrl,hal,hal2,hm1,hm2,hsn,hgt]))<;>(try (have hd_:True:=hd;clear hd_ hd)))
   exact⟨hx.bump.set ht,_,by rw[hR1],.inr ⟨t',ht,rfl,Zaa.Zal (Zaa.lt (H:=G.bump k2) hgt)⟩⟩
 ·rintro F G ⟨f10,f9,f8,f1,hx,tok,f5,hT⟩
  rw[List.take_of_length_le (by simp)]at f5
  ((have hd:=trivial;repeat' (first|((first|apply Zad|apply Zac|apply Zab)<;>intro hd<;>(try simp only[hd]))|simp(disch:=first|assumption|omega|(simp only[nx]<;>omega)|fail)only [hd,hQr,hQn,ZtL,↓YA,YB,YC,YE,YF,YZ,sevalprocAttr,f10,f9,f8,f5]))<;>(try (have hd_:True:=hd;clear hd_ hd)))
  exact Zaq ⟨hx,tok,rfl⟩
end Go.Proofs.YtemmgefppobboaaGreatDoor
