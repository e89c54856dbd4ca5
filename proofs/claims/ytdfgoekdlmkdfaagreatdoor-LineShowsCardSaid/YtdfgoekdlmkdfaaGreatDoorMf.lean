/- Texts of the walk. -/
import Derived.Test.YtdfgoekdlmkdfaaGreatDoorMd
import Derived.Test.YtdfgoekdlmkdfaaGreatDoorMe
import Derived.Lib.AppendIntMem
namespace Go.Proofs.YtdfgoekdlmkdfaaGreatDoor
set_option linter.defProp false
set_option maxHeartbeats 64000000
set_option linter.unusedSimpArgs false
set_option linter.unusedVariables false
open Go.RowKit
inductive Tr (α:Type) where
 | e
 | n (v:α) (l r:Tr α)
def fN (n:Nat) (k:Nat->Bool):Bool:=Nat.casesOn (motive:=fun _=>Bool) n (k 0) fun m=>k (Nat.succ m)
abbrev TF:=Tr AV
section
variable {T:TF} {F:Fr}
end
abbrev TH:=Tr (Option Zb3)
abbrev Zwq:=FuncId->List AV->(AV->TH->Nat->Bool)->TH->Nat->Bool
section
variable {P:Prg} {call:Zwq}
end
def eqE:TypeId->Option (List SK):=fun t=>if t=27 then some [.int .i64,.str] else none
def eqT:EqT:=⟨eqE,fun _=>false⟩
theorem ZfM (b:Bool) (d:Nat) (w:World) (a:Int):(Instr.checkKey b (d+1) 3 (.int .i64 a)).run Tryz.prog w=.ok () w:=by
 unfold Instr.checkKey
 simp[run_underlying Tryz.underlying3]
theorem ba_dec (a b:ByteArray):(a == b)=decide (a=b):=by rw[zaR,Zmh];simp
theorem ba_tl (a b:ByteArray):(a.toList=b.toList)=(a=b):=propext ⟨fun h=>by rw[ByteArray.toList_eq,ByteArray.toList_eq]at h;exact zbi (Array.toList_inj.1 h),fun h=>by rw[h]⟩
theorem chk_str (b:Bool) (d:Nat) (w:World) (a:ByteArray):(Instr.checkKey b (d+1) 9 (.string a)).run Tryz.prog w=.ok () w:=by
 unfold Instr.checkKey
 simp[run_underlying Tryz.underlying9]
set_option maxRecDepth 100000 in
theorem eq_call (d:Nat) (w:World) (a0 b0:ByteArray) (a1 b1:Int):(Op.equalIn (d+2) 27 (.agg #[.int .i64 a1,.string a0]) (.agg #[.int .i64 b1,.string b0])).run Tryz.prog w=.ok ((a1 == b1)&&(a0 == b0)) w:=by
 rw[run_equalIn_struct w (d+1) _ _ _ Xg Xg]
 by_cases h0:a0=b0<;>by_cases h1:a1=b1<;>simp[go_sem,h0,h1,ba_dec,ba_tl]
set_option maxRecDepth 100000 in
theorem chk_call (b:Bool) (d:Nat) (w:World) (a0:ByteArray) (a1:Int):(Instr.checkKey b (d+2) 27 (.agg #[.int .i64 a1,.string a0])).run Tryz.prog w=.ok () w:=by
 unfold Instr.checkKey
 simp[run_underlying Tryz.underlying27,go_sem,ZfM,chk_str]
theorem hE:∀t ks,eqT t=some ks->Ziv Tryz.prog t ks:=by
 intro t ks h
 have h:eqE t=some ks:=h
 unfold eqE at h
 split at h
 ·rename_i e
  subst e
  injection h with h
  subst h
  intro xs ys h1 h2 h3 h4 w
  obtain⟨x0,x1,rfl⟩:∃a b,xs=[a,b]:=by
   match xs,h1 with
   | [a,b],_=>exact⟨a,b,rfl⟩
  obtain⟨y0,y1,rfl⟩:∃a b,ys=[a,b]:=by
   match ys,h2 with
   | [a,b],_=>exact⟨a,b,rfl⟩
  obtain⟨a0,rfl⟩:∃s,x1=.string s:=by
   have:=h3 1 .str x1 rfl rfl
   cases x1<;>simp[SK.is]at this
   exact⟨_,rfl⟩
  obtain⟨b0,rfl⟩:∃s,y1=.string s:=by
   have:=h4 1 .str y1 rfl rfl
   cases y1<;>simp[SK.is]at this
   exact⟨_,rfl⟩
  obtain⟨a1,rfl⟩:∃s,x0=.int .i64 s:=by
   have:=h3 0 (.int .i64) x0 rfl rfl
   cases x0<;>simp[SK.is]at this
   subst this
   exact⟨_,rfl⟩
  obtain⟨b1,rfl⟩:∃s,y0=.int .i64 s:=by
   have:=h4 0 (.int .i64) y0 rfl rfl
   cases y0<;>simp[SK.is]at this
   subst this
   exact⟨_,rfl⟩
  refine⟨?_,fun b=>chk_call b 9998 w a0 a1⟩
  refine(eq_call 9998 w a0 b0 a1 b1).trans ?_
  simp[ZgE,vEq]
 ·cases h
def za0:AV:=.agg [.sc (.int .u8 0),.sc (.int .u8 0),.sc (.int .u8 0),.sc (.int .u8 0),.sc (.int .u8 0),.sc (.int .u8 0),.sc (.int .u8 0),.sc (.int .u8 0),.sc (.int .u8 0),.sc (.int .u8 0),.sc (.int .u8 0),.sc (.int .u8 0),.sc (.int .u8 0),.sc (.int .u8 0),.sc (.int .u8 0),.sc (.int .u8 0),.sc (.int .u8 0),.sc (.int .u8 0),.sc (.int .u8 0),.sc (.int .u8 0),.sc (.int .u8 0),.sc (.int .u8 0),.sc (.int .u8 0),.sc (.int .u8 0)]
def za1:AV:=.agg [.sc (.int .u8 0),.sc (.int .u8 0),.sc (.int .u8 0),.sc (.int .u8 0),.sc (.int .u8 0),.sc (.int .u8 0),.sc (.int .u8 0),.sc (.int .u8 0),.sc (.int .u8 0),.sc (.int .u8 0),.sc (.int .u8 0),.sc (.int .u8 0),.sc (.int .u8 0),.sc (.int .u8 0),.sc (.int .u8 0),.sc (.int .u8 0),.sc (.int .u8 0),.sc (.int .u8 0),.sc (.int .u8 0),.sc (.int .u8 0),.sc (.int .u8 0),.sc (.int .u8 0),.sc (.int .u8 0),.sc (.int .u8 0),.sc (.int .u8 0),.sc (.int .u8 0),.sc (.int .u8 0),.sc (.int .u8 0),.sc (.int .u8 0),.sc (.int .u8 0),.sc (.int .u8 0),.sc (.int .u8 0),.sc (.int .u8 0),.sc (.int .u8 0),.sc (.int .u8 0),.sc (.int .u8 0),.sc (.int .u8 0),.sc (.int .u8 0),.sc (.int .u8 0),.sc (.int .u8 0),.sc (.int .u8 0),.sc (.int .u8 0),.sc (.int .u8 0),.sc (.int .u8 0),.sc (.int .u8 0),.sc (.int .u8 0),.sc (.int .u8 0),.sc (.int .u8 0),.sc (.int .u8 0),.sc (.int .u8 0),.sc (.int .u8 0),.sc (.int .u8 0),.sc (.int .u8 0),.sc (.int .u8 0),.sc (.int .u8 0),.sc (.int .u8 0),.sc (.int .u8 0),.sc (.int .u8 0),.sc (.int .u8 0),.sc (.int .u8 0),.sc (.int .u8 0),.sc (.int .u8 0),.sc (.int .u8 0),.sc (.int .u8 0),.sc (.int .u8 0)]
def za2:AV:=.agg [.sc (.int .u8 0),.sc (.int .u8 0),.sc (.int .u8 0),.sc (.int .u8 0),.sc (.int .u8 0),.sc (.int .u8 0),.sc (.int .u8 0),.sc (.int .u8 0),.sc (.int .u8 0)]
def YZ:=an7 za0.eq_1<|an7 za1.eq_1<|za2.eq_1
def Zc0:Zar:=rs 0 [.K 0]<|rs 5 [.C 7 [.c (.sc (.string ⟨#[108,111,97,100,32,97,44,98,61,51]⟩))],.s 5,.e 5 0,.e 5 1,.o 1 (.box 27 (.c (.agg [.sc (.int .i64 0),.sc (.string ⟨#[]⟩)]))),.Z 2 1 7,.s 2]<|rs 9 [.C 7 [.c (.sc (.string ⟨#[97,115,107,32,42,32,48,61,120,44,121,47,49]⟩))],.s 9,.e 9 0,.e 9 1,.o 3 (.box 27 (.c (.agg [.sc (.int .i64 0),.sc (.string ⟨#[]⟩)]))),.Z 2 3 11,.s 4]<|rr 12 [.L 2 1,.O (.bld [.sc (.int .i64 0),.sc (.string ⟨#[]⟩)] [(0,(1,ik 2)),(1,(1,.c (.sc (.string ⟨#[1,1,97,1,98,6]⟩))))]),.O (.eqf [.int .i64,.str] false (.t 13) (.t 14)),.y 15,.i .eql 2 0,.z,.y 19,.F 0 3,.B .eql 22 5,.z,.y 24,.F 1 3,.O (.len true (.t 27)),.B .eql 28 12,.z,.y 30,.i .eql 4 0,.z,.s 0]
theorem kf0 (f:FuncId) (c:Zar) (r:List Zcq) (n:Nat) (h:cFn Tryz.prog eqT f=some (c,r,n):=by kernel_rfl):cFn Tryz.prog eqT f=some (c,r,n):=h
def cf5:=kf0 5 Zc0 [.tmp 0] 35
def c51_1:Zar:=rl 0 11 12 (.t 10) 26<|.blk 1<|rs 12 [.M 11,.s 4]<|rs 13 [.M 0,.M 4,.O (.ixs (.t 14) (.t 15)),.O (.bin .shr (.t 16) (.c (.sc (.int .u64 4)))),.O (.ixs (.c (.sc (.string ⟨#[48,49,50,51,52,53,54,55,56,57,97,98,99,100,101,102]⟩))) (.t 17)),.c 96 [3,18]]<|ry 19 [.M 0,.M 4,.O (.ixs (.t 20) (.t 21)),.O (.bin .and (.t 22) (.c (.sc (.int .u8 15)))),.O (.ixs (.c (.sc (.string ⟨#[48,49,50,51,52,53,54,55,56,57,97,98,99,100,101,102]⟩))) (.t 23)),.c 96 [3,24]]
def Zgb:Zar:=rs 1 [.O (.mv (.c (.sc (.string ⟨#[]⟩))))]<|ri 4 [.M 0,.c 95 [5]] 6 (rr 6 [.M 0,.s 2])<|rs 2 [.O (.box 134 (.c (.agg [.sc (.pointer none),.sl .full []])))]<|rs 7 [.C 96 [.t 3,.c (.sc (.int .u8 37))]]<|.seq (rs 8 [.M 0,.O (.len true (.t 9)),.J 0]<|c51_1)<|rr 26 [.c 80 [3],.s 2]
def cf51:=kf0 51 Zgb [.tmp 2] 28
def c54_1:Zar:=rv 0 20 [.M 5,.M 0,.O (.len true (.t 22)),.b .lss 21 23] 24<|.seq (.blk 1<|rt 30 [.m 27 0,.m 28 5,.o 29 (.ixs (.t 27) (.t 28)),.M 0,.i .add 5 1,.O (.ixs (.t 31) (.t 33)),.o 30 (.call (jf 102) [.c (.sc (.string ⟨#[48,49,50,51,52,53,54,55,56,57,97,98,99,100,101,102]⟩)),.t 29]),.C 102 [.c (.sc (.string ⟨#[48,49,50,51,52,53,54,55,56,57,97,98,99,100,101,102]⟩)),.t 34],.m 6 30,.s 7]<|ri 35 [.i .lss 6 0,.h 37,.i .lss 7 0,.z] 41 (rr 0 [.o 2 (.mv (.c (.sc (.string ⟨#[]⟩)))),.K 3])<|ry 41 [.M 4,.M 6,.O (.bin .shl (.t 43) (.c (.sc (.int .u64 4)))),.M 7,.b .or 44 45,.O (.cnv .u8 (.t 46)),.A 5 1 1 42 47,.s 4])<|ry 24 [.i .add 5 2,.s 5]
def Zdn:Zar:=rs 0 [.o 2 (.mv (.c (.sc (.string ⟨#[]⟩)))),.K 3]<|ri 8 [.M 0,.c 95 [9]] 10 (rr 10 [.M 0,.s 2,.T 3])<|ri 11 [.M 0,.O (.len true (.t 12)),.B .rem 13 2,.B .eql 14 0,.h 15,.M 0,.O (.ixs (.t 17) (ik 0)),.O (.bin .neq (.t 18) (.c (.sc (.int .u8 37)))),.z] 20 (rr 0 [.o 2 (.mv (.c (.sc (.string ⟨#[]⟩)))),.K 3])<|rs 0 [.D 4]<|.seq (rs 4 [.J 1]<|c54_1)<|rs 49 [.M 4,.O (.sob (.t 50)),.s 8]<|ri 51 [.M 8,.c 51 [52],.M 0,.b .neq 53 54] 55 (rr 0 [.o 2 (.mv (.c (.sc (.string ⟨#[]⟩)))),.K 3])<|rr 55 [.M 8,.s 2,.T 3]
def cf54:=kf0 54 Zdn [.tmp 2,.tmp 3] 57
def c27_1:Zar:=rv 0 8 [.M 4,.M 0,.O (.len true (.t 10)),.b .lss 9 11] 12<|.seq (.blk 1<|rd 20 [.m 15 3,.m 16 0,.m 17 4,.o 18 (.ixs (.t 16) (.t 17)),.o 19 (.bin .quo (.t 18) (.c (.sc (.int .u8 16)))),.M 0,.M 4,.O (.ixs (.t 21) (.t 22)),.O (.bin .rem (.t 23) (.c (.sc (.int .u8 16)))),.o 20 (.call (jf 60) [.t 19]),.c 60 [24],.O (.bsl 1 [.t 20,.t 25]),.a 5 1 1 15 26,.s 3])<|ry 12 [.i .add 4 1,.s 4]
def Zdp:Zar:=rs 1 [.O (.mv (.c (.sc (.string ⟨#[]⟩))))]<|ri 4 [.M 0,.c 59 [5]] 6 (rr 6 [.M 0,.s 2])<|rs 7 [.O (.bsl 1 [.c (.sc (.int .u8 37))]),.s 3]<|.seq (rs 3 [.J 0]<|c27_1)<|rr 27 [.M 3,.O (.sob (.t 28)),.s 2]
def cf27:=kf0 27 Zdp [.tmp 2] 30
def ZzR:Zar:=rs 1 [.O (.box 27 (.c (.agg [.sc (.int .i64 0),.sc (.string ⟨#[]⟩)]))),.J 0]<|rs 9 [.M 0,.C 22 [.t 10,.c (.sc (.string ⟨#[32]⟩))],.s 4]<|ri 11 [.M 4,.O (.ixa 1 (.t 12) (ik 0)),.l 1 13,.O (.bin .eql (.t 14) (.c (.sc (.string ⟨#[114,97,119]⟩))))] 15 (.seq (rs 16 [.M 4,.O (.slc 1 (.t 17) (some (ik 1)) none none),.c 23 [18],.s 16,.e 16 0,.e 16 1,.o 5 (.box 27 (.c (.agg [.sc (.int .i64 0),.sc (.string ⟨#[]⟩)]))),.Z 2 5 20,.s 6]<|rs 21 [.M 6]<|.cond (.t 22) (rr 22 [.L 2 5,.Z 2 2 23,.j 3 0])<|.skip)<|rr 2 [.o 24 (.bld [.sc (.int .i64 0),.sc (.string ⟨#[]⟩)] []),.Z 2 2 24,.J 16])<|.seq (.drw [ip (im 26 4),ip (io 27 (.ixa 1 (.t 26) (ik 0))),ip (io 28 (.ld 1 false (.t 27))),(io 25 (.call (jf 24) []),[io 28 (.ld 1 false (.t 27))]),ip (io 29 (.lkp (.one .str) (.sc (.int .i64 0)) false (.t 25) (.t 28))),ip (im 7 29)])<|rt 32 [.m 31 7,.M 4,.O (.slc 1 (.t 33) (some (ik 1)) none none),.o 32 (.call (jf 25) [.t 31]),.O (.call (.t 32) [.t 34]),.s 30,.e 30 0,.e 30 1,.m 8 36,.s 9]<|ri 37 [.M 9,.u 38,.h 39,.i .eql 7 0,.z] 43 (rr 2 [.o 44 (.bld [.sc (.int .i64 0),.sc (.string ⟨#[]⟩)] []),.Z 2 2 44,.J 16])<|rr 44 [.M 7,.M 8,.O (.bld [.sc (.int .i64 0),.sc (.string ⟨#[]⟩)] [(0,(1,.t 45)),(1,(1,.t 46))]),.Z 2 2 47,.j 3 0]
def cf7:=kf0 7 ZzR [(.cell 2 true 2),.tmp 3] 48
def c95_1:Zar:=rl 0 6 7 (.t 5) 14<|.blk 1<|rs 7 [.M 6,.s 3]<|rs 8 [.M 0,.M 3,.O (.ixs (.t 9) (.t 10)),.c 141 [11],.u 12]<|.cond (.t 13) (rr 0 [.K 2])<|.skip
def Zvp:Zar:=rs 0 [.K 2]<|.seq (rs 3 [.M 0,.O (.len true (.t 4)),.J 0]<|c95_1)<|rr 14 [.M 0,.O (.bin .neq (.t 15) (.c (.sc (.string ⟨#[]⟩)))),.s 2]
def cf95:=kf0 95 Zvp [.tmp 2] 17
def ZiC:Zar:=rs 3 [.O (.mv (.c (.sc .nilIface)))]<|rs 4 [.M 0,.c 125 [5]]<|rs 6 [.M 0,.M 0,.k 8,.F 1 9,.M 1,.A 5 1 1 11 12,.k 7,.f 1 15,.Z 1 16 14]<|rr 3 [.O (.mv (.c (.sc .nilIface)))]
def cf96:=kf0 96 ZiC [.tmp 4] 17
def c59_1:Zar:=rv 0 4 [.M 3,.M 0,.O (.len true (.t 6)),.b .lss 5 7] 8<|.seq (.blk 1<|rs 10 [.M 0,.M 3,.O (.ixs (.t 11) (.t 12)),.s 4]<|rs 13 [.M 4,.O (.bin .geq (.t 14) (.c (.sc (.int .u8 97)))),.y 15,.M 4,.O (.bin .leq (.t 17) (.c (.sc (.int .u8 122)))),.z,.h 19,.M 4,.O (.bin .geq (.t 21) (.c (.sc (.int .u8 48)))),.y 22,.M 4,.O (.bin .leq (.t 24) (.c (.sc (.int .u8 57)))),.z,.z,.h 27,.M 4,.O (.bin .eql (.t 29) (.c (.sc (.int .u8 95)))),.z,.u 31]<|.cond (.t 32) (rr 0 [.K 2])<|.skip)<|ry 8 [.i .add 3 1,.s 3]
def Zqj:Zar:=rs 0 [.K 2]<|.seq (rs 2 [.J 0]<|c59_1)<|rr 32 [.M 0,.O (.len true (.t 33)),.B .gtr 34 0,.s 2]
def cf59:=kf0 59 Zqj [.tmp 2] 36
def ZvP:Zar:=rs 1 [.O (.mv (.c (.sc (.int .u8 0))))]<|ri 2 [.M 0,.O (.bin .lss (.t 3) (.c (.sc (.int .u8 10))))] 4 (rr 4 [.M 0,.O (.bin .add (.c (.sc (.int .u8 48))) (.t 5)),.s 2])<|rr 6 [.M 0,.O (.bin .add (.c (.sc (.int .u8 97))) (.t 7)),.O (.bin .sub (.t 8) (.c (.sc (.int .u8 10)))),.s 2]
def cf60:=kf0 60 ZvP [.tmp 2] 10
def Zg5:Zar:=rs 0 [.D 4]<|rr 4 [.M 0,.M 1,.C 52 [.t 5,.t 6,ik 0,ik (-1)],.s 4]
def cf22:=kf0 22 Zg5 [.tmp 4] 8
def Zga:Zar:=rs 0 [.o 2 (.box 27 (.c (.agg [.sc (.int .i64 0),.sc (.string ⟨#[]⟩)]))),.K 3]<|ri 7 [.R 0,.B .neq 9 2] 10 (rr 10 [.O (.bld [.sc (.int .i64 0),.sc (.string ⟨#[]⟩)] []),.Z 2 2 11,.K 3])<|rs 12 [.M 0,.O (.ixa 1 (.t 13) (ik 0)),.l 1 14,.c 53 [15],.s 12,.e 12 0,.e 12 1,.m 4 17,.s 5]<|rs 19 [.M 0,.O (.ixa 1 (.t 20) (ik 1)),.l 1 21,.c 54 [22],.s 19,.e 19 0,.e 19 1,.m 6 24,.s 7]<|rr 25 [.M 4,.M 6,.O (.bld [.sc (.int .i64 0),.sc (.string ⟨#[]⟩)] [(0,(1,.t 26)),(1,(1,.t 27))]),.M 5,.y 29,.M 7,.z,.Z 2 2 28,.s 3]
def cf23:=kf0 23 Zga [(.cell 2 true 2),.tmp 3] 33
def ZuT:Zar:=rs 0 [.o 0 (.mv (.c (.sc (.map none))))]<|rr 0 [.O (.mkm (.one .str)),.w (.mup (.one .str) (.t 1) (.c (.sc (.string ⟨#[99,114,101,97,116,101]⟩))) (ik 1)),.w (.mup (.one .str) (.t 1) (.c (.sc (.string ⟨#[108,111,97,100]⟩))) (ik 2)),.w (.mup (.one .str) (.t 1) (.c (.sc (.string ⟨#[109,101,114,103,101]⟩))) (ik 3)),.w (.mup (.one .str) (.t 1) (.c (.sc (.string ⟨#[114,101,98,117,105,108,100]⟩))) (ik 4)),.w (.mup (.one .str) (.t 1) (.c (.sc (.string ⟨#[97,115,107]⟩))) (ik 5)),.w (.mup (.one .str) (.t 1) (.c (.sc (.string ⟨#[115,116,97,116,115]⟩))) (ik 6)),.w (.mup (.one .str) (.t 1) (.c (.sc (.string ⟨#[99,108,111,115,101]⟩))) (ik 7)),.M 1,.s 0]
def cf24:=kf0 24 ZuT [.tmp 0] 3
def Zlu:Zar:=rs 1 [.O (.mv (.c (.sc .nilFunc)))]<|.seq (rs 0 [.s 3]<|.blk 0<|rs 4 [.B .eql 3 1,.s 4]<|.cond (.t 4) (rr 1 [.O (.mv (jf 55))])<|.seq (rs 6 [.B .eql 3 2,.s 6]<|.cond (.t 6) .skip<|ry 7 [.B .eql 3 3,.s 6])<|.cond (.t 6) (rr 1 [.O (.mv (jf 56))])<|rs 9 [.B .eql 3 5,.s 9]<|.cond (.t 9) (rr 1 [.O (.mv (jf 57))])<|.skip)<|rr 1 [.O (.mv (jf 58))]
def cf25:=kf0 25 Zlu [.tmp 2] 11
def ZmV:Zar:=rs 1 [.O (.mv (.c (.sc (.string ⟨#[]⟩))))]<|rr 2 [.M 0,.C 45 [.t 3,ik 10],.s 2]
def cf101:=kf0 101 ZmV [.tmp 2] 5
def ZdK:Zar:=rs 0 [.K 2]<|rr 2 [.M 0,.O (.bin .leq (.c (.sc (.int .u8 97))) (.t 3)),.y 4,.M 0,.O (.bin .leq (.t 6) (.c (.sc (.int .u8 122)))),.z,.h 8,.M 0,.O (.bin .leq (.c (.sc (.int .u8 48))) (.t 10)),.y 11,.M 0,.O (.bin .leq (.t 13) (.c (.sc (.int .u8 57)))),.z,.z,.h 16,.M 0,.O (.bin .eql (.t 18) (.c (.sc (.int .u8 95)))),.z,.s 2]
def cf141:=kf0 141 ZdK [.tmp 2] 21
def c52_1:Zar:=rv 0 33 [.M 10,.M 3,.b .lss 34 35] 36<|.blk 1<|rs 36 [.M 0,.M 1,.c 99 [37,38],.s 11]<|ri 39 [.i .lss 11 0] 41 (.exit 0)<|rs 41 [.M 9,.M 10,.M 0,.M 11,.M 2,.b .add 45 46,.O (.slS (.t 44) none (some (.t 47))),.x 1 42 43,.Z 1 49 48]<|rs 49 [.M 0,.M 11,.M 1,.O (.len true (.t 52)),.b .add 51 53,.O (.slS (.t 50) (some (.t 54)) none),.s 0]<|ry 55 [.i .add 10 1,.s 10]
def Zjp:Zar:=rs 0 [.D 8]<|ri 11 [.i .eql 3 0] 13 (rr 0 [.D 8])<|ri 13 [.M 1,.O (.bin .eql (.t 14) (.c (.sc (.string ⟨#[]⟩))))] 15 (rr 15 [.M 0,.M 3,.c 97 [16,17],.s 8])<|ri 18 [.i .lss 3 0] 20 (ry 20 [.M 0,.M 1,.c 98 [21,22],.B .add 23 1,.s 3])<|rs 24 [.M 3,.M 0,.O (.len true (.t 26)),.B .add 27 1,.O (.mm false (.t 25) (.t 28)),.s 3]<|rs 29 [.M 3,.O (.mks 9 1 16 [.sc (.string ⟨#[]⟩)] (.t 30) (.t 30)),.s 9]<|rs 31 [.i .sub 3 1,.s 3]<|rs 9 [.J 0]<|.seq c52_1<|rs 57 [.M 9,.M 10,.M 0,.x 1 58 59,.Z 1 61 60]<|rr 61 [.M 9,.i .add 10 1,.O (.slc 1 (.t 62) none (some (.t 64)) none),.s 8]
def cf52:=kf0 52 Zjp [.tmp 8] 66
def Zdx:Zar:=rs 0 [.j 2 0,.K 3]<|rs 6 [.M 0,.C 100 [.t 7,ik 10,ik 64],.s 6,.e 6 0,.e 6 1,.m 4 9,.s 5]<|rr 10 [.M 4,.M 5,.O (.eqn 3 false (.t 12) (.c (.sc .nilIface))),.y 13,.M 4,.c 101 [15],.M 0,.b .eql 16 17,.z,.m 2 11,.s 3]
def cf53:=kf0 53 Zdx [.tmp 2,.tmp 3] 20
def c55_1:Zar:=rl 0 11 12 (.t 10) 18<|.blk 1<|rs 12 [.Y 1 9 11,.s 6]<|rs 14 [.M 6,.c 103 [4,15],.u 16]<|.cond (.t 17) (rr 0 [.o 2 (.mv (.c (.sc (.string ⟨#[]⟩)))),.K 3])<|.skip
def ZkZ:Zar:=rs 0 [.o 2 (.mv (.c (.sc (.string ⟨#[]⟩)))),.K 3]<|rs 3 [.O (.box 25 (.c (.agg [.sl .full [],.sl .full []])))]<|.seq (rs 8 [.R 0,.J 0]<|c55_1)<|rs 19 [.L 2 4,.c 104 [20],.s 19,.e 19 0,.e 19 1,.m 7 22,.s 8]<|rr 23 [.M 7,.i .eql 8 0,.y 26,.L 2 4,.c 13 [28],.M 0,.c 105 [29,30],.z,.m 2 24,.s 3]
def cf55:=kf0 55 ZkZ [.tmp 2,.tmp 3] 33
def c56_2:Zar:=rl 2 45 46 (.t 44) 53<|.blk 3<|rs 46 [.Y 1 43 45,.s 13]<|.drw [ip (io 49 (.ld 1 false (.t 4))),ip (im 50 13),(io 51 (.call (jf 109) [.t 50]),[io 49 (.ld 1 false (.t 4))]),ip (io 52 (.bin .add (.t 49) (.t 51))),ip (iz (.st 1 (.t 4) (.t 52)))]
def c56_1:Zar:=rl 0 22 23 (.t 21) 70<|.blk 1<|rs 23 [.Y 1 20 22,.s 6]<|rs 26 [.M 6,.C 107 [.t 27,.c (.sc (.string ⟨#[61]⟩))],.s 26,.e 26 0,.e 26 1,.e 26 2,.m 7 29,.m 8 30,.s 9]<|rs 32 [.M 7,.c 108 [33],.s 32,.e 32 0,.e 32 1,.m 10 35,.s 11]<|ri 36 [.M 9,.u 37,.h 38,.M 11,.u 40,.z] 42 (rr 0 [.w (.st 1 (.t 2) (.c (.sc (.string ⟨#[]⟩)))),.w (.st 1 (.t 3) (ib false))])<|.seq (rs 42 [.R 10,.J 0]<|c56_2)<|ri 53 [.M 8,.O (.bin .eql (.t 54) (.c (.sc (.string ⟨#[]⟩))))] 55 (.exit 1)<|rs 55 [.M 8,.C 110 [.t 56,.c (.sc (.string ⟨#[44]⟩))]]<|.blk 4<|.rf (.t 57) [58] (.reg [im 14 58]) (.blk 5 (.seq (.reg [im 60 14,io 61 (.call (jf 53) [.t 60]),im 59 61,io 62 (.ext (.t 59) 0),io 63 (.ext (.t 59) 1),im 15 62,im 16 63]) (.seq (.seq (.reg [im 64 16,io 65 (.un .not (.t 64))]) (.cond (.t 65) (.seq (.reg [iz (.st 1 (.t 2) (.c (.sc (.string ⟨#[]⟩)))),iz (.st 1 (.t 3) (ib false))]) .ret) .skip)) (.drw [ip (io 66 (.ld 1 false (.t 4))),ip (im 67 15),(io 68 (.call (jf 111) [.t 67]),[io 66 (.ld 1 false (.t 4))]),ip (io 69 (.bin .add (.t 66) (.t 68))),ip (iz (.st 1 (.t 4) (.t 69)))]))))
def Zfd:Zar:=rs 1 [.O (.box 9 (.c (.sc (.string ⟨#[]⟩)))),.O (.box 4 (ib false))]<|rs 16 [.R 0,.c 106 [18],.o 4 (.box 9 (.c (.sc (.string ⟨#[]⟩)))),.Z 1 4 19]<|.seq (rs 19 [.R 0,.J 0]<|c56_1)<|rr 70 [.l 1 4,.Z 1 2 71,.w (.st 1 (.t 3) (ib true))]
def cf56:=kf0 56 Zfd [(.cell 1 false 2),(.cell 1 false 3)] 72
def c57_1:Zar:=rl 0 16 17 (.t 15) 50<|.blk 1<|rs 17 [.Y 1 14 16,.s 6]<|rs 20 [.M 6,.C 107 [.t 21,.c (.sc (.string ⟨#[47]⟩))],.s 20,.e 20 0,.e 20 1,.e 20 2,.m 7 23,.m 8 24,.s 9]<|rs 26 [.M 7,.c 112 [27],.s 26,.e 26 0,.e 26 1,.m 10 29,.s 11]<|ri 30 [.M 11,.u 31] 32 (rr 0 [.o 2 (.mv (.c (.sc (.string ⟨#[]⟩)))),.K 3])<|rs 33 [.M 8,.c 113 [34],.s 33,.e 33 0,.e 33 1,.m 12 36,.s 13]<|ri 37 [.M 9,.M 13,.O (.bnb true (.t 38) (.t 39))] 40 (rr 0 [.o 2 (.mv (.c (.sc (.string ⟨#[]⟩)))),.K 3])<|ri 40 [.M 9] 41 (ry 41 [.i .add 12 1,.s 12])<|ry 43 [.M 4,.M 10,.M 12,.c 106 [46],.b .add 45 47,.b .add 44 48,.s 4]
def ZkX:Zar:=rs 0 [.o 2 (.mv (.c (.sc (.string ⟨#[]⟩)))),.K 3]<|rs 3 [.O (.mv (.c (.sc (.string ⟨#[]⟩))))]<|.seq (rs 13 [.R 0,.J 0]<|c57_1)<|rr 50 [.M 4,.s 2,.T 3]
def cf57:=kf0 57 ZkX [.tmp 2,.tmp 3] 52
def ZtC:Zar:=rs 0 [.o 2 (.mv (.c (.sc (.string ⟨#[]⟩)))),.K 3]<|rr 3 [.R 0,.B .eql 5 0,.o 2 (.mv (.c (.sc (.string ⟨#[]⟩)))),.s 3]
def cf58:=kf0 58 ZtC [.tmp 2,.tmp 3] 7
def c104_1:Zar:=rl 0 24 25 (.t 23) 36<|.blk 1<|rs 25 [.X 2 22 24,.o 7 (.box 39 (.c (.agg [.sc (.string ⟨#[]⟩),.sl .full []]))),.Z 2 7 27]<|rs 28 [.L 2 7,.c 151 [29],.s 28,.e 28 0,.e 28 1,.m 8 31,.s 9]<|ry 32 [.M 5,.M 8,.b .add 33 34,.s 5]
def c104_2:Zar:=rl 2 46 47 (.t 45) 54<|.blk 3<|rs 47 [.Y 1 44 46,.s 11]<|ry 49 [.M 5,.M 11,.c 109 [51],.b .add 50 52,.s 5]
def Zt4:Zar:=rs 1 [.v 1 25 0,.O (.mv (.c (.sc (.string ⟨#[]⟩)))),.J 0]<|.seq (rs 11 [.L 2 1,.c 40 [12],.s 4]<|rs 13 [.i .neq 4 0]<|.cond (.t 15) (rr 15 [.M 4,.o 2 (.mv (.c (.sc (.string ⟨#[]⟩)))),.s 3])<|.skip)<|rs 16 [.N 0 1,.c 106 [19],.s 5]<|.seq (rs 20 [.N 0 1,.J 0]<|c104_1)<|rs 36 [.M 5,.N 1 1,.c 106 [40],.b .add 37 41,.s 5]<|.seq (rs 42 [.N 1 1,.J 0]<|c104_2)<|rr 54 [.M 5,.s 2,.j 3 0]
def cf104:=kf0 104 Zt4 [.tmp 2,.tmp 3] 56
def c105_1:Zar:=rl 0 13 14 (.t 12) 25<|.blk 1<|rs 14 [.M 13,.s 5]<|rt 15 [.M 0,.M 5,.Y 1 16 17,.M 1,.M 5,.Y 1 20 21,.b .neq 19 23]<|.cond (.t 24) (rr 0 [.K 4])<|.skip
def ZtP:Zar:=rs 0 [.K 4]<|ri 5 [.R 0,.R 1,.b .neq 7 9] 10 (rr 0 [.K 4])<|.seq (rs 10 [.R 0,.J 0]<|c105_1)<|rr 0 [.T 4]
def cf105:=kf0 105 ZtP [.tmp 4] 26
def c13_2:Zar:=rv 2 25 [.i .geq 6 0] 27<|.seq (.blk 3<|rd 29 [.M 3,.F 1 5,.M 6,.X 3 32 33,.F 1 5,.i .add 6 1,.i .add 6 2,.N 1 5,.O (.mm false (.t 41) (.t 44)),.O (.slc 3 (.t 37) (some (.t 39)) (some (.t 45)) none),.c 39 [35,46],.a 9 1 16 30 47,.s 3])<|ry 27 [.i .sub 6 1,.s 6]
def c13_1:Zar:=rl 0 12 13 (.t 11) 49<|.blk 1<|rs 13 [.X 2 10 12,.o 5 (.box 39 (.c (.agg [.sc (.string ⟨#[]⟩),.sl .full []]))),.Z 2 5 15]<|rs 15 [.M 3,.F 0 5,.O (.bin .add (.c (.sc (.string ⟨#[64]⟩))) (.t 18)),.A 9 1 16 16 19,.s 3]<|rs 21 [.N 1 5,.B .sub 24 1,.s 6]<|c13_2
def c13_3:Zar:=rl 4 53 54 (.t 52) 62<|.blk 5<|rs 54 [.Y 1 51 53,.s 8]<|ry 56 [.M 3,.M 8,.O (.bin .add (.c (.sc (.string ⟨#[43]⟩))) (.t 58)),.A 9 1 16 57 59,.s 3]
def ZcW:Zar:=rs 1 [.v 1 25 0,.O (.mv jn)]<|rs 0 [.D 3]<|.seq (rs 8 [.N 0 1,.J 0]<|c13_1)<|.seq (rs 49 [.N 1 1,.J 0]<|c13_3)<|rr 62 [.M 3,.s 2]
def cf13:=kf0 13 ZcW [.tmp 2] 64
def Zic:Zar:=rs 1 [.O (.mv (.c (.sc (.string ⟨#[]⟩))))]<|rr 2 [.M 0,.O (.mm true (.t 3) (ik 0)),.O (.cnv .u64 (.t 4)),.c 152 [5],.s 2]
def cf106:=kf0 106 Zic [.tmp 2] 7
def Zcf:Zar:=rs 0 [.o 4 (.mv (.c (.sc (.string ⟨#[]⟩)))),.o 5 (.mv (.c (.sc (.string ⟨#[]⟩)))),.K 6]<|rr 6 [.M 0,.M 1,.c 153 [7,8],.e 9 0,.e 9 1,.e 9 2,.m 4 10,.m 5 11,.s 6]
def cf107:=kf0 107 Zcf [.tmp 4,.tmp 5,.tmp 6] 13
def Zeq:Zar:=rs 1 [.O (.box 23 jn),.O (.box 4 (ib false))]<|ri 7 [.M 0,.O (.bin .eql (.t 8) (.c (.sc (.string ⟨#[]⟩))))] 9 (rr 0 [.w (.st 1 (.t 2) jn),.w (.st 1 (.t 3) (ib true))])<|rs 3 [.O (.box 23 jn)]<|.seq (rs 9 [.M 0,.C 110 [.t 10,.c (.sc (.string ⟨#[44]⟩))]]<|.blk 0<|.rf (.t 11) [12] (.reg [im 5 12]) (.blk 1 (.seq (.reg [im 14 5,io 15 (.call (jf 54) [.t 14]),im 13 15,io 16 (.ext (.t 13) 0),io 17 (.ext (.t 13) 1),im 6 16,im 7 17]) (.seq (.seq (.reg [im 18 7,io 19 (.un .not (.t 18))]) (.cond (.t 19) (.seq (.reg [iz (.st 1 (.t 2) jn),iz (.st 1 (.t 3) (ib false))]) .ret) .skip)) (.reg [io 20 (.ld 1 false (.t 4)),im 21 6,io 22 (.bsl 1 [.t 21]),io 23 (.app 9 1 16 (.t 20) (.t 22)),iz (.st 1 (.t 4) (.t 23))])))))<|rr 23 [.l 1 4,.Z 1 2 24,.w (.st 1 (.t 3) (ib true))]
def cf108:=kf0 108 Zeq [(.cell 1 false 2),(.cell 1 false 3)] 25
def ZfJ:Zar:=rs 1 [.O (.mv (.c (.sc (.string ⟨#[]⟩))))]<|rr 2 [.M 0,.O (.len true (.t 3)),.c 106 [4],.M 0,.b .add 5 6,.s 2]
def cf109:=kf0 109 ZfJ [.tmp 2] 8
def Zpi:Zar:=rs 3 [.O (.mv (.c (.sc .nilFunc)))]<|rr 4 [.M 0,.M 1,.C 154 [.t 5,.t 6,ik 0],.s 4]
def cf110:=kf0 110 Zpi [.tmp 4] 8
def Zfr:Zar:=rs 1 [.O (.mv (.c (.sc (.string ⟨#[]⟩))))]<|rr 2 [.M 0,.c 155 [3],.s 2]
def cf111:=kf0 111 Zfr [.tmp 2] 5
def Zpf:Zar:=rs 0 [.o 2 (.mv (.c (.sc (.string ⟨#[]⟩)))),.K 3]<|ri 17 [.M 0,.O (.bin .eql (.t 18) (.c (.sc (.string ⟨#[42]⟩))))] 19 (rr 19 [.C 106 [ik 0],.s 2,.T 3])<|ri 20 [.M 0,.O (.bin .eql (.t 21) (.c (.sc (.string ⟨#[]⟩))))] 22 (rr 0 [.o 2 (.mv (.c (.sc (.string ⟨#[]⟩)))),.K 3])<|rs 23 [.M 0,.O (.slS (.t 24) none (some (ik 1))),.c 113 [25],.s 23,.e 23 0,.e 23 1,.m 4 27,.s 5]<|rs 28 [.M 0,.O (.slS (.t 29) (some (ik 1)) none),.s 6]<|ri 30 [.M 5,.u 31,.h 32,.M 6,.O (.bin .eql (.t 34) (.c (.sc (.string ⟨#[]⟩)))),.z] 36 (rr 0 [.o 2 (.mv (.c (.sc (.string ⟨#[]⟩)))),.K 3])<|ri 36 [.M 6,.O (.ixs (.t 37) (ik 0)),.O (.bin .eql (.t 38) (.c (.sc (.int .u8 61))))] 39 (rs 40 [.M 6,.O (.slS (.t 41) (some (ik 1)) none),.c 108 [42],.s 40,.e 40 0,.e 40 1,.m 7 44,.s 8]<|rs 46 [.M 7,.c 156 [47],.s 46,.e 46 0,.e 46 1,.m 9 49,.s 10]<|rr 50 [.C 106 [ik 2],.M 4,.c 106 [52],.b .add 51 53,.M 9,.b .add 54 55,.M 8,.y 57,.i .eql 10 0,.z,.m 2 56,.s 3])<|rs 62 [.M 6,.O (.slS (.t 63) (some (ik 1)) none),.C 107 [.t 64,.c (.sc (.string ⟨#[126]⟩))],.s 62,.e 62 0,.e 62 1,.e 62 2,.m 11 66,.m 12 67,.s 13]<|rs 69 [.M 11,.c 54 [70],.s 69,.e 69 0,.e 69 1,.m 14 72,.s 15]<|rs 74 [.M 12,.c 54 [75],.s 74,.e 74 0,.e 74 1,.m 16 77,.s 17]<|rt 88 [.m 80 4,.m 83 14,.m 86 16,.M 6,.O (.ixs (.t 89) (ik 0)),.O (.bin .eql (.t 90) (.c (.sc (.int .u8 126)))),.o 79 (.call (jf 106) [ik 1]),.o 81 (.call (jf 106) [.t 80]),.o 82 (.bin .add (.t 79) (.t 81)),.o 84 (.call (jf 109) [.t 83]),.o 85 (.bin .add (.t 82) (.t 84)),.o 87 (.call (jf 109) [.t 86]),.o 88 (.bin .add (.t 85) (.t 87)),.y 91,.M 13,.z,.y 94,.M 15,.z,.y 97,.M 17,.z,.m 2 88,.s 3]<|.ret
def ZIH:=kf0 112 Zpf [.tmp 2,.tmp 3] 101
def ZpX:Zar:=rs 0 [.j 2 0,.K 3]<|ri 3 [.M 0,.O (.len true (.t 4)),.B .neq 5 1,.h 6,.M 0,.O (.ixs (.t 8) (ik 0)),.O (.bin .lss (.t 9) (.c (.sc (.int .u8 48)))),.z,.h 11,.M 0,.O (.ixs (.t 13) (ik 0)),.O (.bin .gtr (.t 14) (.c (.sc (.int .u8 57)))),.z] 16 (rr 0 [.j 2 0,.K 3])<|rr 16 [.M 0,.O (.ixs (.t 17) (ik 0)),.O (.bin .sub (.t 18) (.c (.sc (.int .u8 48)))),.O (.cnv .i64 (.t 19)),.s 2,.T 3]
def ZKB:=kf0 113 ZpX [.tmp 2,.tmp 3] 21
def Zcx:Zar:=rs 0 [.K 6]<|rs 13 [.M 1,.C 107 [.t 14,.c (.sc (.string ⟨#[62]⟩))],.s 13,.e 13 0,.e 13 1,.e 13 2,.m 7 16,.m 8 17,.s 9]<|rs 19 [.M 7,.c 54 [20],.s 19,.e 19 0,.e 19 1,.m 10 22,.s 11]<|ri 23 [.M 11,.u 24] 25 (rr 0 [.K 6])<|rs 25 [.M 0,.M 0,.k 27,.F 1 28,.M 10,.A 9 1 16 30 31,.k 26,.f 1 34,.Z 1 35 33]<|ri 35 [.M 9,.u 36] 37 (rr 0 [.T 6])<|rs 38 [.M 8,.c 54 [39],.s 38,.e 38 0,.e 38 1,.m 12 41,.s 11]<|.seq (.drw [ip (im 43 0),ip (im 44 0),ip (io 45 (.nck (.t 44))),ip (io 46 (.fla 2 (.t 45))),ip (io 47 (.ld 1 false (.t 46))),ip (im 48 2),ip (im 49 12),(io 50 (.call (jf 188) [.t 48,.t 49]),[io 47 (.ld 1 false (.t 46))]),ip (io 51 (.bsl 1 [.t 50])),ip (io 52 (.app 3 1 8 (.t 47) (.t 51))),ip (io 53 (.nck (.t 43))),ip (io 54 (.fla 2 (.t 53))),ip (iz (.st 1 (.t 54) (.t 52)))])<|rr 54 [.M 11,.y 55,.M 2,.M 12,.c 189 [57,58],.z,.s 6]
def cf150:=kf0 150 Zcx [.tmp 6] 61
def c40_1:Zar:=rl 0 21 22 (.t 20) 35<|.blk 1<|rs 22 [.X 2 19 21,.o 5 (.box 39 (.c (.agg [.sc (.string ⟨#[]⟩),.sl .full []]))),.Z 2 5 24]<|.seq (rs 24 [.L 2 5,.c 81 [25],.s 6]<|rs 26 [.i .neq 6 0]<|.cond (.t 28) (rr 28 [.M 6,.s 2])<|.skip)<|rs 29 [.M 3,.F 0 5,.c 82 [30,32],.u 33]<|.cond (.t 34) (rr 1 [.J 11])<|.skip
def ZtB:Zar:=rs 1 [.v 1 25 0,.J 0]<|ri 6 [.N 0 1,.B .lss 9 1,.h 10,.N 0 1,.B .gtr 14 16,.z] 16 (rr 1 [.J 5])<|rs 16 [.O (.mkm (.one .str)),.s 3]<|.seq (rs 17 [.N 0 1,.J 0]<|c40_1)<|rr 35 [.F 1 1,.c 83 [37],.s 2]
def cf40:=kf0 40 ZtB [.tmp 2] 39
def c151_1:Zar:=rv 0 25 [.i .geq 6 0] 27<|.seq (.blk 1<|.seq (.drw [ip (io 31 (.fla 1 (.t 1))),ip (io 32 (.ld 1 false (.t 31))),ip (im 33 6),ip (io 34 (.ixa 3 (.t 32) (.t 33))),ip (io 35 (.ld 3 true (.t 34))),ip (io 36 (.ld 2 true (.t 1))),ip (im 37 6),(io 38 (.call (jf 129) [.t 36,.t 37]),[io 32 (.ld 1 false (.t 31)),io 35 (.ld 3 true (.t 34))]),ip (io 39 (.call (jf 190) [.t 35,.t 38])),ip (im 30 39),ip (io 40 (.ext (.t 30) 0)),ip (io 41 (.ext (.t 30) 1)),ip (im 7 40),ip (im 8 41)])<|ry 41 [.M 5,.M 7,.b .add 42 43,.s 5])<|ry 27 [.i .sub 6 1,.s 6]
def Zfk:Zar:=rs 1 [.v 1 39 0,.O (.mv (.c (.sc (.string ⟨#[]⟩)))),.J 0]<|.seq (rs 8 [.L 2 1,.c 81 [9],.s 4]<|rs 10 [.i .neq 4 0]<|.cond (.t 12) (rr 12 [.M 4,.o 2 (.mv (.c (.sc (.string ⟨#[]⟩)))),.s 3])<|.skip)<|.seq (.drw [ip (io 14 (.fla 0 (.t 1))),ip (io 15 (.ld 1 false (.t 14))),ip (io 17 (.fla 1 (.t 1))),ip (io 18 (.ld 1 false (.t 17))),ip (io 19 (.len false (.t 18))),(io 16 (.call (jf 109) [.t 15]),[io 18 (.ld 1 false (.t 17))]),ip (io 20 (.call (jf 106) [.t 19])),ip (io 21 (.bin .add (.t 16) (.t 20))),ip (im 5 21)])<|.seq (rs 21 [.N 1 1,.B .sub 24 1,.s 6]<|c151_1)<|rr 44 [.M 5,.s 2,.j 3 0]
def cf151:=kf0 151 Zfk [.tmp 2,.tmp 3] 46
def c39_2:Zar:=rl 2 28 29 (.t 27) 45<|.blk 3<|rs 29 [.X 3 26 28,.o 10 (.box 42 (.c (.agg [.sc (.string ⟨#[]⟩),.sl .full [],.sl .full []]))),.Z 3 10 31]<|rd 31 [.M 8,.F 1 10,.F 2 2,.M 6,.Y 1 36 37,.Y 1 34 39,.c 51 [41],.O (.bin .add (.c (.sc (.string ⟨#[62]⟩))) (.t 42)),.b .add 32 43,.s 8]
def c39_1:Zar:=rl 0 18 19 (.t 17) 50<|.blk 1<|rs 19 [.M 18,.Y 1 16 18,.m 6 20,.s 7]<|rs 22 [.M 7,.c 51 [23],.O (.bin .add (.c (.sc (.string ⟨#[46]⟩))) (.t 24)),.s 8]<|.seq (rs 25 [.R 1,.J 0]<|c39_2)<|ry 45 [.M 5,.M 8,.A 9 1 16 46 47,.s 5]
def Zt8:Zar:=rs 0 [.v 2 42 0,.D 4]<|rs 10 [.F 0 2,.O (.bin .add (.c (.sc (.string ⟨#[94]⟩))) (.t 12)),.S 1 13,.s 5]<|.seq (rs 14 [.N 1 2,.J 0]<|c39_1)<|rr 50 [.M 5,.s 4]
def cf39:=kf0 39 Zt8 [.tmp 4] 52
def c152_1:Zar:=rv 0 9 [.i .geq 5 0] 11<|.seq (.blk 1<|rs 13 [.M 5,.M 0,.O (.cnv .u8 (.t 15)),.O (.ixA 9 1 (.t 4) (.t 14)),.Z 1 17 16]<|ry 17 [.M 0,.O (.bin .shr (.t 18) (.c (.sc (.int .u64 8)))),.s 0])<|ry 11 [.i .sub 5 1,.s 5]
def ZhO:Zar:=rs 1 [.O (.mv (.c (.sc (.string ⟨#[]⟩))))]<|rs 5 [.M 0,.c 169 [6],.s 3]<|rs 3 [.O (.box 238 (.c za2))]<|.seq (rs 7 [.i .sub 3 1,.s 5]<|c152_1)<|.seq (rs 19 [.i .lss 3 9]<|.cond (.t 21) (.drw [ip (io 22 (.ixA 9 1 (.t 4) (ik 0))),ip (io 23 (.ld 1 false (.t 22))),ip (im 24 3),(io 25 (.call (jf 168) [.t 24]),[io 23 (.ld 1 false (.t 22))]),ip (io 26 (.bin .or (.t 23) (.t 25))),ip (io 27 (.ixA 9 1 (.t 4) (ik 0))),ip (iz (.st 1 (.t 27) (.t 26)))])<|ry 27 [.M 3,.c 168 [28],.O (.ixA 9 1 (.t 4) (ik 0)),.Z 1 30 29])<|rr 30 [.M 3,.O (.sla 9 1 (.t 4) none (some (.t 31)) none),.O (.sob (.t 32)),.s 2]
def cf152:=kf0 152 ZhO [.tmp 2] 34
def ZuD:Zar:=rs 0 [.o 4 (.mv (.c (.sc (.string ⟨#[]⟩)))),.o 5 (.mv (.c (.sc (.string ⟨#[]⟩)))),.K 6]<|.seq (rs 7 [.M 0,.M 1,.c 145 [8,9],.s 7]<|rs 10 [.i .geq 7 0]<|.cond (.t 12) (rt 12 [.M 0,.M 7,.O (.slS (.t 13) none (some (.t 14))),.M 0,.M 7,.M 1,.O (.len true (.t 18)),.b .add 17 19,.O (.slS (.t 16) (some (.t 20)) none),.m 4 15,.s 5,.T 6]<|.ret)<|.skip)<|rr 21 [.M 0,.s 4,.o 5 (.mv (.c (.sc (.string ⟨#[]⟩)))),.K 6]
def cf153:=kf0 153 ZuD [.tmp 4,.tmp 5,.tmp 6] 23
def ZHi:Zar:=rs 5 [.v 3 9 0,.v 4 9 1,.v 5 3 2,.O (.mv (.c (.sc .nilFunc)))]<|rr 6 [.O (.mkf 191 [] [.t 4,.t 3,.t 5]),.s 6]
def cf154:=kf0 154 ZHi [.tmp 6] 8
def Zrw:Zar:=rs 1 [.O (.mv (.c (.sc (.string ⟨#[]⟩))))]<|rr 2 [.M 0,.c 192 [3],.c 152 [4],.s 2]
def cf155:=kf0 155 Zrw [.tmp 2] 6
def c156_1:Zar:=rl 0 20 21 (.t 19) 37<|.blk 1<|rs 21 [.Y 1 18 20,.s 8]<|rs 23 [.M 6,.M 8,.c 137 [24,25],.s 9]<|rt 29 [.m 27 5,.m 28 9,.M 8,.M 9,.O (.slS (.t 30) (some (.t 31)) none),.o 29 (.call (jf 106) [.t 28]),.c 109 [32],.b .add 29 33,.b .add 27 34,.s 5]<|ry 35 [.M 8,.s 6]
def Zr2:Zar:=rs 1 [.O (.mv (.c (.sc (.string ⟨#[]⟩)))),.J 0]<|.seq (rs 9 [.M 0,.c 165 [10],.s 4]<|rs 11 [.i .neq 4 0]<|.cond (.t 13) (rr 13 [.M 4,.o 2 (.mv (.c (.sc (.string ⟨#[]⟩)))),.s 3])<|.skip)<|rs 14 [.R 0,.c 106 [16],.s 5,.o 6 (.mv (.c (.sc (.string ⟨#[]⟩))))]<|.seq (rs 17 [.R 0,.J 0]<|c156_1)<|rr 37 [.M 5,.s 2,.j 3 0]
def cf156:=kf0 156 Zr2 [.tmp 2,.tmp 3] 39
def c188_1:Zar:=rl 0 8 9 (.t 7) 18<|.blk 1<|rs 9 [.M 8,.s 5]<|rs 10 [.M 1,.M 0,.M 5,.Y 1 12 13,.b .eql 11 15]<|.cond (.t 16) (rr 16 [.M 5,.s 4])<|.skip
def ZK3:Zar:=rs 3 [.J 0]<|.seq (rs 5 [.R 0,.J 0]<|c188_1)<|rr 3 [.J (-1)]
def cf188:=kf0 188 ZK3 [.tmp 4] 19
def ZLe:Zar:=rs 0 [.K 4]<|rr 4 [.M 0,.M 1,.c 188 [5,6],.B .geq 7 0,.s 4]
def cf189:=kf0 189 ZLe [.tmp 4] 9
def c81_1:Zar:=rl 0 28 29 (.t 27) 51<|.blk 1<|rs 29 [.M 28,.X 3 26 28,.o 6 (.box 42 (.c (.agg [.sc (.string ⟨#[]⟩),.sl .full [],.sl .full []]))),.m 5 30,.Z 3 6 32]<|.seq (.seq (.drw [ip (io 33 (.ld 3 true (.t 6))),ip (io 34 (.ld 2 true (.t 1))),ip (im 35 5),(io 36 (.call (jf 129) [.t 34,.t 35]),[io 33 (.ld 3 true (.t 6))]),ip (io 37 (.call (jf 128) [.t 33,.t 36])),ip (im 7 37)])<|rs 37 [.i .neq 7 0]<|.cond (.t 39) (rr 39 [.M 7,.s 2])<|.skip)<|rs 40 [.M 4,.F 0 6,.O (.lkp (.one .str) (.sc (.int .i64 0)) false (.t 41) (.t 43)),.B .add 44 1,.w (.mup (.one .str) (.t 41) (.t 43) (.t 45))]<|rs 45 [.M 4,.F 0 6,.O (.lkp (.one .str) (.sc (.int .i64 0)) false (.t 46) (.t 48)),.B .gtr 49 1]<|.cond (.t 50) (rr 1 [.J 11])<|.skip
def c81_0:Zar:=rs 1 [.v 1 39 0,.J 0]<|.seq (rs 7 [.F 0 1,.c 127 [9],.s 3]<|rs 10 [.i .neq 3 0]<|.cond (.t 12) (rr 12 [.M 3,.s 2])<|.skip)<|ri 13 [.N 1 1,.B .lss 16 1,.h 17,.N 1 1,.B .gtr 21 4,.z] 23 (rr 1 [.J 5])<|rs 23 [.O (.mkm (.one .str)),.s 4]<|.seq (rs 24 [.N 1 1,.J 0]<|c81_1)<|rr 1 [.J 0]
def cf81:=kf0 81 c81_0 [.tmp 2] 52
def Zt0:Zar:=rs 0 [.K 4]<|rs 4 [.M 0,.M 1,.O (.lkp (.one .str) (.sc (.int .i64 0)) false (.t 5) (.t 6)),.B .add 7 1,.w (.mup (.one .str) (.t 5) (.t 6) (.t 8))]<|rr 8 [.M 0,.M 1,.O (.lkp (.one .str) (.sc (.int .i64 0)) false (.t 9) (.t 10)),.B .eql 11 1,.s 4]
def cf82:=kf0 82 Zt0 [.tmp 4] 13
def c83_1:Zar:=rl 0 18 19 (.t 17) 31<|.blk 1<|rs 19 [.Y 1 16 18,.s 5]<|.seq (rs 21 [.M 5,.c 127 [22],.s 6]<|rs 23 [.i .neq 6 0]<|.cond (.t 25) (rr 25 [.M 6,.s 2])<|.skip)<|rs 26 [.M 3,.M 5,.c 82 [27,28],.u 29]<|.cond (.t 30) (rr 1 [.J 11])<|.skip
def c83_0:Zar:=rs 1 [.J 0]<|ri 6 [.R 0,.B .lss 8 1,.h 9,.R 0,.B .gtr 12 3,.z] 14 (rr 1 [.J 5])<|rs 14 [.O (.mkm (.one .str)),.s 3]<|.seq (rs 15 [.R 0,.J 0]<|c83_1)<|rr 1 [.J 0]
def cf83:=kf0 83 c83_0 [.tmp 2] 32
def c190_1:Zar:=rl 0 32 33 (.t 31) 40<|.blk 1<|rs 33 [.Y 1 30 32,.s 11]<|ry 35 [.M 9,.M 11,.c 106 [37],.b .add 36 38,.s 9]
def ZLv:Zar:=rs 3 [.v 2 42 0,.O (.mv (.c (.sc (.string ⟨#[]⟩)))),.J 0]<|.seq (rs 11 [.L 3 2,.M 1,.c 128 [12,13],.s 6]<|rs 14 [.i .neq 6 0]<|.cond (.t 16) (rr 16 [.M 6,.o 4 (.mv (.c (.sc (.string ⟨#[]⟩)))),.s 5])<|.skip)<|rs 18 [.F 1 2,.c 156 [20],.s 18,.e 18 0,.e 18 1,.m 7 22,.s 8]<|rs 23 [.F 0 2,.c 109 [25],.M 7,.b .add 26 27,.s 9]<|.seq (rs 28 [.N 2 2,.J 0]<|c190_1)<|rr 40 [.M 9,.s 4,.j 5 0]
def cf190:=kf0 190 ZLv [.tmp 4,.tmp 5] 42
def ZHf:Zar:=rs 3 [.v 2 39 0,.J 0]<|ri 4 [.i .add 1 1,.N 1 2,.b .lss 6 9] 10 (rr 10 [.F 1 2,.i .add 1 1,.x 3 12 14,.N 1 15,.s 4])<|rr 3 [.J 0]
def cf129:=kf0 129 ZHf [.tmp 4] 19
def c169_1:Zar:=rv 0 3 [.i .lss 3 9] 5<|.seq (.blk 1<|rs 7 [.M 0,.M 3,.O (.bin .mul (ik 7) (.t 9)),.b .shr 8 10,.O (.bin .eql (.t 11) (.c (.sc (.int .u64 0))))]<|.cond (.t 12) (rr 12 [.M 3,.s 2])<|.skip)<|ry 5 [.i .add 3 1,.s 3]
def ZHj:Zar:=rs 1 [.J 0]<|.seq (rs 2 [.J 1]<|c169_1)<|rr 1 [.J 9]
def cf169:=kf0 169 ZHj [.tmp 2] 14
def ZlK:Zar:=rs 1 [.O (.mv (.c (.sc (.int .u8 0))))]<|rr 2 [.M 0,.O (.bin .sub (ik 9) (.t 3)),.O (.bin .shl (.c (.sc (.int .u8 255))) (.t 4)),.s 2]
def cf168:=kf0 168 ZlK [.tmp 2] 6
def ZJm:Zar:=rs 1 [.O (.mv (.c (.sc (.int .u64 0))))]<|ri 2 [.i .lss 0 0] 4 (rr 4 [.M 0,.O (.un .xor (.t 5)),.O (.cnv .u64 (.t 6)),.O (.bin .shl (.t 7) (.c (.sc (.int .u64 1)))),.O (.bin .or (.t 8) (.c (.sc (.int .u64 1)))),.s 2])<|rr 9 [.M 0,.O (.cnv .u64 (.t 10)),.O (.bin .shl (.t 11) (.c (.sc (.int .u64 1)))),.s 2]
def cf192:=kf0 192 ZJm [.tmp 2] 13
def c165_1:Zar:=rl 0 8 9 (.t 7) 29<|.blk 1<|rs 9 [.M 8,.Y 1 6 8,.m 3 10,.s 4]<|.seq (rs 12 [.M 4,.c 87 [13],.s 5]<|rs 14 [.i .neq 5 0]<|.cond (.t 16) (rr 16 [.M 5,.s 2])<|.skip)<|rs 17 [.i .gtr 3 0,.y 19,.M 0,.i .sub 3 1,.Y 1 21 23,.M 4,.b .geq 25 26,.z]<|.cond (.t 28) (rr 1 [.J 4])<|.skip
def Zeo:Zar:=rs 1 [.J 0]<|.seq (rs 5 [.R 0,.J 0]<|c165_1)<|rr 1 [.J 0]
def cf165:=kf0 165 Zeo [.tmp 2] 30
def c137_1:Zar:=.blk 0<|.loop<|.seq (rt 5 [.M 5,.M 0,.O (.len true (.t 7)),.b .lss 6 8,.y 9,.M 5,.M 1,.O (.len true (.t 12)),.b .lss 11 13,.z,.y 15,.M 0,.M 5,.O (.ixs (.t 17) (.t 18)),.M 1,.M 5,.O (.ixs (.t 20) (.t 21)),.b .eql 19 22,.z]<|.cond (.t 24) .skip<|.exit 0)<|.blk 1<|ry 24 [.i .add 5 1,.s 5]
def ZLG:Zar:=rs 3 [.J 0]<|rs 4 [.J 0]<|.seq c137_1<|rr 26 [.M 5,.s 4]
def cf137:=kf0 137 ZLG [.tmp 4] 28
def c127_1:Zar:=rl 0 14 15 (.t 13) 35<|.blk 1<|rs 15 [.M 14,.s 3]<|rs 16 [.M 0,.M 3,.O (.ixs (.t 17) (.t 18)),.s 4]<|.blk 2<|.seq (rs 20 [.M 4,.O (.bin .leq (.c (.sc (.int .u8 97))) (.t 21)),.y 22,.M 4,.O (.bin .leq (.t 24) (.c (.sc (.int .u8 122)))),.z,.s 20]<|.cond (.t 20) .skip<|rs 26 [.M 4,.O (.bin .leq (.c (.sc (.int .u8 48))) (.t 27)),.y 28,.M 4,.O (.bin .leq (.t 30) (.c (.sc (.int .u8 57)))),.z,.s 20]<|.cond (.t 20) .skip<|ry 32 [.M 4,.O (.bin .eql (.t 33) (.c (.sc (.int .u8 95)))),.s 20])<|.cond (.t 20) .skip<|rr 1 [.J 2]
def Zsn:Zar:=rs 1 [.J 0]<|ri 4 [.M 0,.O (.bin .eql (.t 5) (.c (.sc (.string ⟨#[]⟩)))),.h 6,.M 0,.O (.len true (.t 8)),.B .gtr 9 12,.z] 11 (rr 1 [.J 2])<|.seq (rs 11 [.M 0,.O (.len true (.t 12)),.J 0]<|c127_1)<|rr 1 [.J 0]
def cf127:=kf0 127 Zsn [.tmp 2] 36
def ZrW:Zar:=rs 3 [.v 2 42 0,.J 0]<|.seq (rs 6 [.F 0 2,.c 127 [8],.s 5]<|rs 9 [.i .neq 5 0]<|.cond (.t 11) (rr 11 [.M 5,.s 4])<|.skip)<|ri 12 [.N 1 2,.B .lss 15 1,.h 16,.N 1 2,.B .gtr 20 200,.z] 22 (rr 3 [.J 5])<|.seq (rs 22 [.F 1 2,.c 165 [24],.s 6]<|rs 25 [.i .neq 6 0]<|.cond (.t 27) (rr 27 [.M 6,.s 4])<|.skip)<|ri 28 [.F 2 2,.N 1 2,.M 1,.c 166 [30,33,34],.u 35] 36 (rr 3 [.J 14])<|rr 3 [.J 0]
def ZLD:=kf0 128 ZrW [.tmp 4] 37
def c87_0:Zar:=rs 1 [.J 0]<|ri 2 [.M 0,.O (.bin .eql (.t 3) (.c (.sc (.string ⟨#[]⟩)))),.h 4,.M 0,.O (.len true (.t 6)),.B .gtr 7 16,.z] 9 (rr 1 [.J 2])<|rr 1 [.J 0]
def cf87:=kf0 87 c87_0 [.tmp 2] 10
def c166_1:Zar:=rl 0 22 23 (.t 21) 35<|.blk 1<|rs 23 [.Y 1 20 22,.s 9]<|ri 25 [.i .lss 9 0,.h 27,.M 9,.M 2,.b .geq 29 30,.z] 32 (rr 0 [.K 6])<|ry 32 [.M 7,.M 9,.w (.mup (.one (.int .i64)) (.t 33) (.t 34) (ik 1))]
def Zk7:Zar:=rs 0 [.K 6]<|ri 9 [.i .leq 2 0] 11 (rr 11 [.R 0,.B .eql 13 0,.s 6])<|ri 14 [.R 0,.M 1,.b .neq 16 17] 18 (rr 0 [.K 6])<|rs 18 [.O (.mkm (.one (.int .i64))),.s 7]<|.seq (rs 19 [.R 0,.J 0]<|c166_1)<|rr 35 [.M 7,.O (.mln (.t 36)),.M 2,.b .eql 37 38,.s 6]
def cf166:=kf0 166 Zk7 [.tmp 6] 40
def c46_1:Zar:=rl 0 8 9 (.t 7) 17<|.blk 1<|rs 9 [.Y 1 6 8,.s 5]<|ry 11 [.M 3,.M 5,.c 51 [13],.A 9 1 16 12 14,.s 3]
def ZrM:Zar:=rs 1 [.O (.mv (.c (.sc (.string ⟨#[]⟩))))]<|rs 0 [.D 3]<|.seq (rs 5 [.R 0,.J 0]<|c46_1)<|rr 17 [.M 3,.C 38 [.t 18,.c (.sc (.string ⟨#[44]⟩))],.s 2]
def cf46:=kf0 46 ZrM [.tmp 2] 20
def c26_1:Zar:=rv 0 12 [.M 3,.O (.bin .gtr (.t 13) (.c (.sc (.int .u64 0))))] 14<|.blk 1<|rs 14 [.M 3,.O (.bin .rem (.t 15) (.c (.sc (.int .u64 10)))),.O (.cnv .u8 (.t 16)),.O (.bin .add (.c (.sc (.int .u8 48))) (.t 17)),.S 1 18,.O (.sob (.t 19)),.M 4,.b .add 20 21,.s 4]<|ry 22 [.M 3,.O (.bin .quo (.t 23) (.c (.sc (.int .u64 10)))),.s 3]
def c26_0:Zar:=rs 1 [.O (.mv (.c (.sc (.string ⟨#[]⟩))))]<|ri 4 [.i .eql 0 0] 6 (rr 1 [.O (.mv (.c (.sc (.string ⟨#[48]⟩))))])<|rs 6 [.M 0,.O (.cnv .u64 (.t 7)),.s 3]<|ri 8 [.i .lss 0 0] 10 (ry 10 [.M 3,.O (.un .neg (.t 11)),.s 3])<|rs 3 [.O (.mv (.c (.sc (.string ⟨#[]⟩))))]<|.seq c26_1<|ri 24 [.i .lss 0 0] 26 (rr 26 [.M 4,.O (.bin .add (.c (.sc (.string ⟨#[45]⟩))) (.t 27)),.s 2])<|rr 28 [.M 4,.s 2]
def cf26:=kf0 26 c26_0 [.tmp 2] 30
def c70_1:Zar:=rl 0 7 8 (.t 6) 21<|.blk 1<|rs 8 [.M 7,.s 4]<|ri 9 [.i .gtr 4 0] 11 (ry 11 [.M 3,.O (.bin .add (.t 12) (.c (.sc (.string ⟨#[44]⟩)))),.s 3])<|ry 13 [.M 3,.M 0,.M 4,.Y 1 15 16,.c 27 [18],.b .add 14 19,.s 3]
def ZnP:Zar:=rs 1 [.O (.mv (.c (.sc (.string ⟨#[]⟩))))]<|rs 2 [.O (.mv (.c (.sc (.string ⟨#[]⟩))))]<|.seq (rs 4 [.R 0,.J 0]<|c70_1)<|rr 21 [.M 3,.s 2]
def cf70:=kf0 70 ZnP [.tmp 2] 23
def zp0:AV:=.agg [.sc (.string ⟨#[]⟩),.sc (.int .i64 0),.sc (.int .i64 0)]
def YZp:=zp0.eq_1
def Zl6:Zar:=rs 0 [.o 2 (.box 25 (.c (.agg [.sl .full [],.sl .full []]))),.K 3]<|rs 6 [.M 0,.O (.bld [.sc (.string ⟨#[]⟩),.sc (.int .i64 0),.sc (.int .i64 0)] [(0,(1,.t 7))]),.c 61 [8],.s 6,.e 6 0,.e 6 1,.o 4 (.box 109 (.c zp0)),.o 5 (.box 25 (.c (.agg [.sl .full [],.sl .full []]))),.Z 3 4 10,.Z 2 5 11]<|ri 11 [.L 3 4,.c 62 [12],.B .neq 13 0] 14 (rr 14 [.O (.bld [.sl .full [],.sl .full []] []),.Z 2 2 15,.K 3])<|rr 15 [.L 2 5,.Z 2 2 16,.T 3]
def cf28:=kf0 28 Zl6 [(.cell 2 true 2),.tmp 3] 17
def c29_3:Zar:=rl 4 46 47 (.t 45) 90<|.blk 5<|rs 47 [.M 46,.s 7]<|rs 48 [.M 3,.O (.bin .add (.t 49) (.c (.sc (.string ⟨#[32,46]⟩)))),.F 1 5,.M 6,.x 3 52 53,.F 1 54,.M 7,.Y 1 56 57,.c 27 [59],.b .add 50 60,.s 3]<|rs 61 [.i .add 6 1,.N 1 5,.b .lss 63 66]<|.cond (.t 67) (rd 67 [.M 3,.O (.bin .add (.t 68) (.c (.sc (.string ⟨#[62]⟩)))),.F 1 5,.i .add 6 1,.x 3 71 73,.F 1 74,.F 1 5,.M 6,.x 3 78 79,.F 2 80,.M 7,.Y 1 82 83,.Y 1 76 85,.c 27 [87],.b .add 69 88,.s 3])<|.skip
def c29_2:Zar:=rv 2 25 [.i .geq 6 0] 27<|.seq (.blk 3<|rs 29 [.M 3,.O (.bin .add (.t 30) (.c (.sc (.string ⟨#[32,94]⟩)))),.F 1 5,.M 6,.x 3 33 34,.F 0 35,.b .add 31 37,.s 3]<|rs 38 [.F 1 5,.M 6,.x 3 40 41,.N 1 42,.J 0]<|c29_3)<|ry 27 [.i .sub 6 1,.s 6]
def c29_1:Zar:=rl 0 13 14 (.t 12) 91<|.blk 1<|rs 14 [.X 2 11 13,.o 5 (.box 39 (.c (.agg [.sc (.string ⟨#[]⟩),.sl .full []]))),.Z 2 5 16]<|rs 16 [.M 3,.O (.bin .add (.t 17) (.c (.sc (.string ⟨#[32,64]⟩)))),.F 0 5,.b .add 18 20,.s 3]<|rs 21 [.N 1 5,.B .sub 24 1,.s 6]<|c29_2
def c29_4:Zar:=rl 6 95 96 (.t 94) 103<|.blk 7<|rs 96 [.Y 1 93 95,.s 9]<|ry 98 [.M 3,.O (.bin .add (.t 99) (.c (.sc (.string ⟨#[32,43]⟩)))),.M 9,.b .add 100 101,.s 3]
def ZoU:Zar:=rs 1 [.v 1 25 0,.O (.mv (.c (.sc (.string ⟨#[]⟩))))]<|rs 2 [.O (.mv (.c (.sc (.string ⟨#[]⟩))))]<|.seq (rs 9 [.N 0 1,.J 0]<|c29_1)<|.seq (rs 91 [.N 1 1,.J 0]<|c29_4)<|rr 103 [.M 3,.s 2]
def cf29:=kf0 29 ZoU [.tmp 2] 105
def c63_2:Zar:=rv 2 32 [.M 5,.M 3,.b .lss 33 34] 35<|.seq (.blk 3<|rt 37 [.F 0 1,.M 5,.x 2 39 40,.F 0 41,.F 0 1,.M 3,.x 2 45 46,.F 0 47,.b .eql 43 49]<|.cond (.t 50) (rr 1 [.J 11])<|.skip)<|ry 35 [.i .add 5 1,.s 5]
def c63_1:Zar:=rl 0 21 22 (.t 20) 51<|.blk 1<|rs 22 [.M 21,.s 3]<|rs 23 [.F 0 1,.M 3,.X 2 25 26,.c 115 [28],.s 4]<|ri 29 [.i .neq 4 0] 31 (rr 31 [.M 4,.s 2])<|rs 4 [.J 0]<|c63_2
def c63_4:Zar:=rv 6 74 [.M 7,.M 6,.b .lss 75 76] 77<|.seq (.blk 7<|rt 79 [.F 1 1,.M 7,.Y 1 81 82,.F 1 1,.M 6,.Y 1 86 87,.b .eql 84 89]<|.cond (.t 90) (rr 1 [.J 11])<|.skip)<|ry 77 [.i .add 7 1,.s 7]
def c63_3:Zar:=rl 4 65 66 (.t 64) 91<|.blk 5<|rs 66 [.M 65,.s 6]<|ri 67 [.F 1 1,.M 6,.Y 1 69 70,.c 116 [72],.u 73] 74 (rr 1 [.J 2])<|rs 6 [.J 0]<|c63_4
def Zi8:Zar:=rs 1 [.v 1 25 0,.J 0]<|ri 7 [.N 0 1,.B .lss 10 1,.h 11,.N 0 1,.B .gtr 15 16,.z] 17 (rr 1 [.J 5])<|.seq (rs 17 [.N 0 1,.J 0]<|c63_1)<|ri 51 [.N 1 1,.B .lss 54 1,.h 55,.N 1 1,.B .gtr 59 3,.z] 61 (rr 1 [.J 5])<|.seq (rs 61 [.N 1 1,.J 0]<|c63_3)<|rr 1 [.J 0]
def cf63:=kf0 63 Zi8 [.tmp 2] 92
def c61_1:Zar:=rv 0 16 [.M 6,.M 5,.b .lss 17 18,.y 19,.F 2 1,.B .eql 22 0,.z] 24<|.seq (.blk 1<|rs 27 [.L 3 1,.c 114 [28],.s 27,.e 27 0,.e 27 1,.o 7 (.box 109 (.c zp0)),.o 8 (.box 39 (.c (.agg [.sc (.string ⟨#[]⟩),.sl .full []]))),.Z 3 7 30,.Z 2 8 31]<|rs 31 [.L 3 7,.Z 3 1 32]<|ry 32 [.F 0 4,.L 2 8,.A 39 2 40 34 35,.f 0 4,.Z 1 38 37])<|ry 24 [.i .add 6 1,.s 6]
def c61_2:Zar:=rv 2 43 [.M 9,.M 5,.b .lss 44 45,.y 46,.F 2 1,.B .eql 49 0,.z] 51<|.seq (.blk 3<|rs 54 [.L 3 1,.C 65 [.t 55,ik 12],.s 54,.e 54 0,.e 54 1,.o 10 (.box 109 (.c zp0)),.Z 3 10 57,.s 11]<|rs 58 [.L 3 10,.Z 3 1 59]<|ry 59 [.F 1 4,.M 11,.A 9 1 16 61 62,.f 1 4,.Z 1 65 64])<|ry 51 [.i .add 9 1,.s 9]
def ZiF:Zar:=rs 1 [.v 1 109 0,.O (.box 109 (.c zp0)),.O (.box 25 (.c (.agg [.sl .full [],.sl .full []])))]<|rs 3 [.O (.box 25 (.c (.agg [.sl .full [],.sl .full []])))]<|rs 12 [.L 3 1,.C 64 [.t 13,ik 16],.s 12,.e 12 0,.e 12 1,.Z 3 1 15,.s 5]<|.seq (rs 5 [.J 0]<|c61_1)<|rs 39 [.L 3 1,.C 64 [.t 40,ik 3],.s 39,.e 39 0,.e 39 1,.Z 3 1 42,.s 5]<|.seq (rs 8 [.J 0]<|c61_2)<|ri 65 [.F 2 1,.B .eql 67 0] 68 (ry 68 [.L 2 4,.c 63 [69],.f 2 1,.Z 1 71 70])<|.seq (.drw [ip (io 72 (.ld 3 true (.t 1))),ip (io 73 (.ld 2 true (.t 4))),(iz (.st 3 (.t 2) (.t 72)),[io 73 (.ld 2 true (.t 4))]),ip (iz (.st 2 (.t 3) (.t 73)))])<|.ret
def cf61:=kf0 61 ZiF [(.cell 3 true 2),(.cell 2 true 3)] 74
def c62_0:Zar:=rs 1 [.v 1 109 0,.J 0]<|rr 2 [.L 3 1,.F 1 1,.F 0 1,.O (.len true (.t 7)),.b .eql 5 8,.C 66 [.t 3,.t 9,ik 3],.O (.fld 2 1 false (.t 10)),.s 2]
def cf62:=kf0 62 c62_0 [.tmp 2] 12
def c115_2:Zar:=rv 2 37 [.M 5,.M 3,.b .lss 38 39] 40<|.seq (.blk 3<|rt 42 [.F 1 1,.M 5,.x 3 44 45,.F 0 46,.F 1 1,.M 3,.x 3 50 51,.F 0 52,.b .eql 48 54]<|.cond (.t 55) (rr 1 [.J 11])<|.skip)<|ry 40 [.i .add 5 1,.s 5]
def c115_1:Zar:=rl 0 23 24 (.t 22) 56<|.blk 1<|rs 24 [.M 23,.s 3]<|.seq (.drw [ip (io 26 (.fla 1 (.t 1))),ip (io 27 (.ld 1 false (.t 26))),ip (im 28 3),ip (io 29 (.ixa 3 (.t 27) (.t 28))),ip (io 30 (.ld 3 true (.t 29))),ip (io 31 (.ld 2 true (.t 1))),ip (im 32 3),(io 33 (.call (jf 159) [.t 31,.t 32]),[io 27 (.ld 1 false (.t 26)),io 30 (.ld 3 true (.t 29))]),ip (io 34 (.call (jf 158) [.t 30,.t 33])),ip (im 4 34)])<|ri 34 [.i .neq 4 0] 36 (rr 36 [.M 4,.s 2])<|rs 4 [.J 0]<|c115_2
def Zno:Zar:=rs 1 [.v 1 39 0,.J 0]<|ri 5 [.F 0 1,.c 116 [7],.u 8] 9 (rr 1 [.J 2])<|ri 9 [.N 1 1,.B .lss 12 1,.h 13,.N 1 1,.B .gtr 17 4,.z] 19 (rr 1 [.J 5])<|.seq (rs 19 [.N 1 1,.J 0]<|c115_1)<|rr 1 [.J 0]
def cf115:=kf0 115 Zno [.tmp 2] 57
def c116_1:Zar:=rv 0 12 [.M 3,.M 0,.O (.len true (.t 14)),.b .lss 13 15] 16<|.seq (.blk 1<|rs 18 [.M 0,.M 3,.O (.ixs (.t 19) (.t 20)),.s 4]<|rs 21 [.M 4,.O (.bin .geq (.t 22) (.c (.sc (.int .u8 97)))),.y 23,.M 4,.O (.bin .leq (.t 25) (.c (.sc (.int .u8 122)))),.z,.h 27,.M 4,.O (.bin .geq (.t 29) (.c (.sc (.int .u8 48)))),.y 30,.M 4,.O (.bin .leq (.t 32) (.c (.sc (.int .u8 57)))),.z,.z,.h 35,.M 4,.O (.bin .eql (.t 37) (.c (.sc (.int .u8 95)))),.z,.u 39]<|.cond (.t 40) (rr 0 [.K 2])<|.skip)<|ry 16 [.i .add 3 1,.s 3]
def ZqY:Zar:=rs 0 [.K 2]<|ri 4 [.M 0,.O (.len true (.t 5)),.B .lss 6 1,.h 7,.M 0,.O (.len true (.t 9)),.B .gtr 10 12,.z] 12 (rr 0 [.K 2])<|.seq (rs 2 [.J 0]<|c116_1)<|rr 0 [.T 2]
def cf116:=kf0 116 ZqY [.tmp 2] 41
def c195_1:Zar:=rv 0 7 [.M 5,.M 3,.b .lss 8 9] 10<|.seq (.blk 1<|rs 12 [.M 0,.O (.bin .rem (.t 13) (.c (.sc (.int .u64 256)))),.O (.cnv .u8 (.t 14)),.S 1 15,.O (.sob (.t 16)),.M 4,.b .add 17 18,.s 4]<|ry 19 [.M 0,.O (.bin .quo (.t 20) (.c (.sc (.int .u64 256)))),.s 0])<|ry 10 [.i .add 5 1,.s 5]
def c195_0:Zar:=rs 1 [.O (.mv (.c (.sc (.string ⟨#[]⟩))))]<|rs 5 [.M 0,.c 207 [6],.s 3]<|rs 3 [.O (.mv (.c (.sc (.string ⟨#[]⟩))))]<|.seq (rs 4 [.J 1]<|c195_1)<|rr 21 [.M 3,.c 194 [22],.M 0,.O (.cnv .i64 (.t 24)),.b .add 23 25,.O (.cnv .u8 (.t 26)),.S 1 27,.O (.sob (.t 28)),.M 4,.b .add 29 30,.s 2]
def cf195:=kf0 195 c195_0 [.tmp 2] 32
def c162_1:Zar:=rv 0 3 [.M 3,.R 0,.b .lss 4 6] 7<|.seq (.blk 1<|ri 9 [.M 0,.M 3,.Y 1 10 11,.c 67 [13],.u 14] 15 (rr 1 [.J 2])<|rt 15 [.i .gtr 3 0,.y 17,.M 0,.M 3,.Y 1 19 20,.M 0,.i .sub 3 1,.Y 1 23 25,.b .leq 22 27,.z]<|.cond (.t 29) (rr 1 [.J 4])<|.skip)<|ry 7 [.i .add 3 1,.s 3]
def ZHn:Zar:=rs 1 [.J 0]<|.seq (rs 2 [.J 0]<|c162_1)<|rr 1 [.J 0]
def cf162:=kf0 162 ZHn [.tmp 2] 30
def ZoS:Zar:=rs 3 [.v 2 109 0,.O (.box 109 (.c zp0)),.J 0]<|rs 7 [.L 3 2,.c 117 [8],.s 7,.e 7 0,.e 7 1,.Z 3 2 10,.s 6]<|ri 11 [.F 2 2,.B .eql 13 0,.y 14,.i .lss 1 0,.h 17,.M 6,.M 1,.O (.cnv .u64 (.t 20)),.b .gtr 19 21,.z,.z] 24 (ry 24 [.f 2 2,.w (.st 1 (.t 25) (ik 5))])<|ri 25 [.F 2 2,.B .neq 27 0] 28 (rr 28 [.L 3 2,.Z 3 4 29,.j 5 0])<|rr 29 [.L 3 2,.M 6,.O (.cnv .i64 (.t 31)),.Z 3 4 30,.s 5]
def cf64:=kf0 64 ZoS [(.cell 3 true 4),.tmp 5] 33
def c114_1:Zar:=rv 0 20 [.M 7,.M 5,.b .lss 21 22,.y 23,.F 2 1,.B .eql 26 0,.z] 28<|.seq (.blk 1<|rs 31 [.L 3 1,.M 6,.c 157 [32,33],.s 31,.e 31 0,.e 31 1,.o 8 (.box 109 (.c zp0)),.o 9 (.box 42 (.c (.agg [.sc (.string ⟨#[]⟩),.sl .full [],.sl .full []]))),.Z 3 8 35,.Z 3 9 36]<|rs 36 [.L 3 8,.Z 3 1 37]<|rs 37 [.N 1 9,.s 6]<|ry 40 [.L 3 9,.S 3 41,.F 1 4,.a 42 3 64 42 44,.f 1 4,.Z 1 46 45])<|ry 28 [.i .add 7 1,.s 7]
def ZpQ:Zar:=rs 1 [.v 1 109 0,.O (.box 109 (.c zp0)),.O (.box 39 (.c (.agg [.sc (.string ⟨#[]⟩),.sl .full []])))]<|rs 3 [.O (.box 39 (.c (.agg [.sc (.string ⟨#[]⟩),.sl .full []])))]<|rs 10 [.L 3 1,.C 65 [.t 11,ik 12],.s 10,.e 10 0,.e 10 1,.Z 3 1 13,.f 0 4,.Z 1 15 14]<|rs 16 [.L 3 1,.C 64 [.t 17,ik 4],.s 16,.e 16 0,.e 16 1,.Z 3 1 19,.s 5]<|rs 5 [.J 0]<|.seq (rs 6 [.J 0]<|c114_1)<|ri 46 [.F 2 1,.B .eql 48 0] 49 (ry 49 [.L 2 4,.c 115 [50],.f 2 1,.Z 1 52 51])<|.seq (.drw [ip (io 53 (.ld 3 true (.t 1))),ip (io 54 (.ld 2 true (.t 4))),(iz (.st 3 (.t 2) (.t 53)),[io 54 (.ld 2 true (.t 4))]),ip (iz (.st 2 (.t 3) (.t 54)))])<|.ret
def cf114:=kf0 114 ZpQ [(.cell 3 true 2),(.cell 2 true 3)] 55
def Zk1:Zar:=rs 3 [.v 2 109 0,.O (.box 109 (.c zp0)),.O (.mv (.c (.sc (.string ⟨#[]⟩))))]<|rs 7 [.L 3 2,.M 1,.c 64 [8,9],.s 7,.e 7 0,.e 7 1,.Z 3 2 11,.s 6]<|rr 12 [.L 3 2,.M 6,.c 118 [13,14],.e 15 0,.e 15 1,.Z 3 4 16,.s 5]
def cf65:=kf0 65 Zk1 [(.cell 3 true 4),.tmp 5] 18
def ZlH:Zar:=rs 5 [.v 3 109 0,.O (.box 109 (.c zp0))]<|ri 6 [.F 2 3,.B .eql 8 0,.y 9,.M 1,.u 11,.z] 13 (rs 13 [.M 2,.f 2 3,.Z 1 15 14]<|rs 15 [.i .eql 2 0]<|.cond (.t 17) (ry 17 [.f 2 3,.w (.st 1 (.t 18) (ik 3))])<|.skip)<|rr 18 [.L 3 3,.Z 3 6 19]
def cf66:=kf0 66 ZlH [(.cell 3 true 6)] 20
def c161_1:Zar:=rv 0 5 [.M 5,.R 0,.b .lss 6 8] 9<|.seq (.blk 1<|rs 11 [.M 0,.M 5,.Y 1 12 13,.M 1,.b .eql 15 16]<|.cond (.t 17) (rr 17 [.M 5,.s 4])<|.skip)<|ry 9 [.i .add 5 1,.s 5]
def ZDG:Zar:=rs 3 [.J 0]<|.seq (rs 4 [.J 0]<|c161_1)<|rr 3 [.J (-1)]
def cf161:=kf0 161 ZDG [.tmp 4] 19
def ZeY:Zar:=rs 3 [.v 2 42 0,.J 0]<|ri 5 [.F 0 2,.c 116 [7],.u 8] 9 (rr 3 [.J 2])<|ri 9 [.N 1 2,.B .lss 12 1,.h 13,.N 1 2,.B .gtr 17 200,.z] 19 (rr 3 [.J 5])<|rs 19 [.F 1 2,.c 162 [21],.s 5]<|ri 22 [.i .neq 5 0] 24 (rr 24 [.M 5,.s 4])<|ri 25 [.L 3 2,.M 1,.c 193 [26,27],.u 28] 29 (rr 3 [.J 14])<|rr 3 [.J 0]
def ZKA:=kf0 158 ZeY [.tmp 4] 30
def Zj3:Zar:=rs 3 [.v 2 39 0,.J 0]<|ri 4 [.i .add 1 1,.N 1 2,.b .geq 6 9] 10 (rr 3 [.J 0])<|rr 10 [.F 1 2,.i .add 1 1,.x 3 12 14,.N 1 15,.s 4]
def cf159:=kf0 159 Zj3 [.tmp 4] 19
def c207_1:Zar:=rv 0 3 [.i .lss 3 9,.y 5,.M 0,.M 3,.c 210 [8],.b .geq 7 9,.z] 11<|.blk 1<|ry 11 [.i .add 3 1,.s 3]
def c207_0:Zar:=rs 1 [.J 0]<|rs 2 [.J 1]<|.seq c207_1<|rr 13 [.M 3,.s 2]
def cf207:=kf0 207 c207_0 [.tmp 2] 15
def c194_1:Zar:=rv 0 5 [.M 5,.M 0,.b .lss 6 7] 8<|.seq (.blk 1<|rs 10 [.M 3,.M 4,.b .add 11 12,.s 3]<|ry 13 [.i .quo 4 2,.s 4])<|ry 8 [.i .add 5 1,.s 5]
def c194_0:Zar:=rs 1 [.J 0]<|rs 2 [.J 0]<|rs 3 [.J 128]<|.seq (rs 4 [.J 1]<|c194_1)<|rr 15 [.M 3,.s 2]
def cf194:=kf0 194 c194_0 [.tmp 2] 17
def c121_1:Zar:=.blk 0<|.loop<|.seq (rt 5 [.M 5,.M 0,.O (.len true (.t 7)),.b .lss 6 8,.y 9,.M 5,.M 1,.O (.len true (.t 12)),.b .lss 11 13,.z,.y 15,.M 0,.i .add 5 1,.O (.slS (.t 17) none (some (.t 19))),.M 1,.i .add 5 1,.O (.slS (.t 21) none (some (.t 23))),.b .eql 20 24,.z]<|.cond (.t 26) .skip<|.exit 0)<|.blk 1<|ry 26 [.i .add 5 1,.s 5]
def Zcv:Zar:=rs 3 [.J 0]<|rs 4 [.J 0]<|.seq c121_1<|rr 28 [.M 5,.s 4]
def cf121:=kf0 121 Zcv [.tmp 4] 30
def Zks:Zar:=rs 0 [.K 2]<|rr 2 [.M 0,.O (.len true (.t 3)),.B .geq 4 1,.y 5,.M 0,.O (.len true (.t 7)),.B .leq 8 16,.z,.s 2]
def cf67:=kf0 67 Zks [.tmp 2] 11
def ZnZ:Zar:=rs 1 [.v 1 109 0,.O (.box 109 (.c zp0)),.O (.mv (.c (.sc (.int .u64 0))))]<|ri 6 [.F 2 1,.B .neq 8 0] 9 (rr 9 [.L 3 1,.Z 3 2 10,.o 3 (.mv (.c (.sc (.int .u64 0))))])<|rs 11 [.F 0 1,.F 1 1,.O (.slS (.t 13) (some (.t 15)) none),.c 160 [16],.s 11,.e 11 0,.e 11 1,.e 11 2,.m 4 18,.m 5 19,.s 6]<|ri 20 [.M 6,.u 21] 22 (rs 22 [.f 2 1,.w (.st 1 (.t 23) (ik 3))]<|rr 23 [.L 3 1,.Z 3 2 24,.o 3 (.mv (.c (.sc (.int .u64 0))))])<|rs 24 [.F 1 1,.M 5,.b .add 26 27,.f 1 1,.Z 1 29 28]<|rr 29 [.L 3 1,.M 4,.Z 3 2 30,.s 3]
def cf117:=kf0 117 ZnZ [(.cell 3 true 2),.tmp 3] 32
def c157_1:Zar:=rv 0 21 [.i .gtr 1 0,.y 23,.M 7,.N 1 6,.b .lss 25 28,.z,.y 30,.F 2 2,.B .eql 33 0,.z] 35<|.seq (.blk 1<|rs 38 [.L 3 2,.i .sub 1 1,.c 64 [39,41],.s 38,.e 38 0,.e 38 1,.o 8 (.box 109 (.c zp0)),.Z 3 8 43,.s 9]<|rs 44 [.L 3 8,.Z 3 2 45]<|ry 45 [.F 2 6,.M 9,.A 3 1 8 47 48,.f 2 6,.Z 1 51 50])<|ry 35 [.i .add 7 1,.s 7]
def ZdN:Zar:=rs 3 [.v 2 109 0,.O (.box 109 (.c zp0)),.O (.box 42 (.c (.agg [.sc (.string ⟨#[]⟩),.sl .full [],.sl .full []])))]<|rs 5 [.O (.box 42 (.c (.agg [.sc (.string ⟨#[]⟩),.sl .full [],.sl .full []])))]<|rs 10 [.L 3 2,.C 65 [.t 11,ik 12],.s 10,.e 10 0,.e 10 1,.Z 3 2 13,.f 0 6,.Z 1 15 14]<|rs 16 [.L 3 2,.C 71 [.t 17,ik 200],.s 16,.e 16 0,.e 16 1,.Z 3 2 19,.f 1 6,.Z 1 21 20]<|.seq (rs 6 [.J 0]<|c157_1)<|ri 51 [.F 2 2,.B .eql 53 0] 54 (ry 54 [.L 3 6,.M 1,.c 158 [55,56],.f 2 2,.Z 1 58 57])<|.seq (.drw [ip (io 59 (.ld 3 true (.t 2))),ip (io 60 (.ld 3 true (.t 6))),(iz (.st 3 (.t 4) (.t 59)),[io 60 (.ld 3 true (.t 6))]),ip (iz (.st 3 (.t 5) (.t 60)))])<|.ret
def cf157:=kf0 157 ZdN [(.cell 3 true 4),(.cell 3 true 5)] 61
def ZJg:Zar:=rs 3 [.v 2 109 0,.O (.box 109 (.c zp0)),.O (.mv (.c (.sc (.string ⟨#[]⟩))))]<|ri 6 [.F 2 2,.B .neq 8 0] 9 (rr 9 [.L 3 2,.Z 3 4 10,.o 5 (.mv (.c (.sc (.string ⟨#[]⟩))))])<|ri 10 [.i .lss 1 0,.h 12,.M 1,.F 0 2,.O (.len true (.t 16)),.F 1 2,.b .sub 17 19,.b .gtr 14 20,.z] 22 (rs 22 [.f 2 2,.w (.st 1 (.t 23) (ik 3))]<|rr 23 [.L 3 2,.Z 3 4 24,.o 5 (.mv (.c (.sc (.string ⟨#[]⟩))))])<|rs 24 [.F 0 2,.F 1 2,.F 1 2,.M 1,.b .add 30 31,.O (.slS (.t 26) (some (.t 28)) (some (.t 32))),.s 6]<|rs 33 [.F 1 2,.M 1,.b .add 35 36,.f 1 2,.Z 1 38 37]<|rr 38 [.L 3 2,.M 6,.Z 3 4 39,.s 5]
def ZFS:=kf0 118 ZJg [(.cell 3 true 4),.tmp 5] 41
def c193_1:Zar:=rl 0 28 29 (.t 27) 39<|.blk 1<|rs 29 [.Y 1 26 28,.s 6]<|rs 31 [.i .lss 6 0,.h 33,.M 6,.M 1,.b .geq 35 36,.z]<|.cond (.t 38) (rr 0 [.K 4])<|.skip
def c193_2:Zar:=rv 2 39 [.M 7,.M 1,.b .lss 40 41] 42<|.seq (.blk 3<|rs 44 [.F 2 2,.M 7,.c 206 [46,47],.u 48]<|.cond (.t 49) (rr 0 [.K 4])<|.skip)<|ry 42 [.i .add 7 1,.s 7]
def c193_0:Zar:=rs 0 [.v 2 42 0,.K 4]<|ri 7 [.i .leq 1 0] 9 (rr 9 [.N 2 2,.B .eql 12 0,.s 4])<|ri 13 [.N 2 2,.N 1 2,.b .neq 16 19,.h 20,.i .gtr 1 200,.z] 24 (rr 0 [.K 4])<|.seq (rs 24 [.N 2 2,.J 0]<|c193_1)<|.seq (rs 6 [.J 0]<|c193_2)<|rr 0 [.T 4]
def cf193:=kf0 193 c193_0 [.tmp 4] 50
def c210_1:Zar:=rv 0 4 [.M 4,.M 0,.O (.bin .mul (ik 7) (.t 6)),.b .lss 5 7] 8<|.seq (.blk 1<|ry 10 [.M 3,.O (.bin .mul (.t 11) (.c (.sc (.int .u64 2)))),.s 3])<|ry 8 [.i .add 4 1,.s 4]
def c210_0:Zar:=rs 1 [.O (.mv (.c (.sc (.int .u64 0))))]<|rs 2 [.O (.mv (.c (.sc (.int .u64 1))))]<|.seq (rs 3 [.J 0]<|c210_1)<|rr 12 [.M 3,.s 2]
def cf210:=kf0 210 c210_0 [.tmp 2] 14
def c160_2:Zar:=rv 2 43 [.M 7,.M 5,.b .lss 44 45] 46<|.seq (.blk 3<|ry 48 [.M 6,.O (.bin .mul (.t 49) (.c (.sc (.int .u64 256)))),.M 0,.M 7,.O (.ixs (.t 51) (.t 52)),.O (.cnv .u64 (.t 53)),.b .add 50 54,.s 6])<|ry 46 [.i .add 7 1,.s 7]
def c160_1:Zar:=rv 0 7 [.i .leq 5 9] 9<|.seq (.blk 1<|rk 11 [.M 0,.O (.len true (.t 12)),.M 5,.b .lss 13 14,.h 15,.M 0,.O (.ixs (.t 17) (ik 0)),.O (.cnv .i64 (.t 18)),.M 5,.c 194 [20],.b .lss 19 21,.z,.h 23,.i .lss 5 9,.y 26,.M 0,.O (.ixs (.t 28) (ik 0)),.O (.cnv .i64 (.t 29)),.i .add 5 1,.c 194 [32],.b .geq 30 33,.z,.z] 36 (.exit 1)<|rt 36 [.M 0,.O (.ixs (.t 37) (ik 0)),.O (.cnv .i64 (.t 38)),.M 5,.c 194 [40],.b .sub 39 41,.O (.cnv .u64 (.t 42)),.s 6]<|.seq (rs 6 [.J 1]<|c160_2)<|rt 57 [.m 56 6,.M 0,.M 5,.O (.slS (.t 58) none (some (.t 59))),.o 57 (.call (jf 195) [.t 56]),.b .eql 57 60]<|.cond (.t 61) (rr 61 [.M 6,.M 5,.m 2 62,.s 3,.T 4])<|.skip)<|ry 9 [.i .add 5 1,.s 5]
def ZGs:Zar:=rs 0 [.o 2 (.mv (.c (.sc (.int .u64 0)))),.j 3 0,.K 4]<|.seq (rs 4 [.J 1]<|c160_1)<|rr 0 [.o 2 (.mv (.c (.sc (.int .u64 0)))),.j 3 0,.K 4]
def cf160:=kf0 160 ZGs [.tmp 2,.tmp 3,.tmp 4] 64
def c71_1:Zar:=rv 0 18 [.M 9,.M 6,.b .lss 19 20,.y 21,.F 2 2,.B .eql 24 0,.z] 26<|.seq (.blk 1<|rs 29 [.L 3 2,.M 8,.O (.len true (.t 31)),.c 64 [30,32],.s 29,.e 29 0,.e 29 1,.o 10 (.box 109 (.c zp0)),.Z 3 10 34,.s 11]<|rs 36 [.L 3 10,.C 65 [.t 37,ik 16],.s 36,.e 36 0,.e 36 1,.Z 3 10 39,.s 12]<|rs 40 [.M 8,.M 11,.O (.slS (.t 41) none (some (.t 42))),.M 12,.b .add 43 44,.s 12]<|.seq (.drw [ip (io 46 (.ld 3 true (.t 10))),ip (im 47 12),(io 48 (.call (jf 67) [.t 47]),[io 46 (.ld 3 true (.t 10))]),ip (im 49 48),ip (ig 49 50 (.mv (.t 12))),ip (ig 49 51 (.mv (.t 8))),ip (ig 49 52 (.bin .gtr (.t 50) (.t 51))),ip (io 53 (.pick (.t 49) (.t 52) (ib false))),ip (im 54 53),ip (ig 54 55 (.mv (.t 8))),ip (ig 54 56 (.mv (.t 12))),ip (ig 54 58 (.mv (.t 11))),(ig 54 57 (.call (jf 121) [.t 55,.t 56]),[io 46 (.ld 3 true (.t 10))]),ip (ig 54 59 (.bin .eql (.t 57) (.t 58))),ip (io 60 (.pick (.t 54) (.t 59) (ib false))),ip (io 61 (.call (jf 66) [.t 46,.t 60,ik 3])),ip (iz (.st 3 (.t 2) (.t 61)))])<|rs 61 [.M 7,.M 12,.A 9 1 16 62 63,.s 7]<|ry 65 [.M 12,.s 8])<|ry 26 [.i .add 9 1,.s 9]
def ZHh:Zar:=rs 0 [.v 2 109 0,.o 4 (.box 109 (.c zp0)),.D 5]<|rs 13 [.L 3 2,.M 1,.c 64 [14,15],.s 13,.e 13 0,.e 13 1,.Z 3 2 17,.s 6]<|rs 0 [.D 7]<|rs 7 [.O (.mv (.c (.sc (.string ⟨#[]⟩))))]<|.seq (rs 8 [.J 0]<|c71_1)<|rr 66 [.L 3 2,.M 7,.Z 3 4 67,.s 5]
def cf71:=kf0 71 ZHh [(.cell 3 true 4),.tmp 5] 69
def c206_1:Zar:=rl 0 9 10 (.t 8) 16<|.blk 1<|rs 10 [.Y 1 7 9,.s 6]<|rs 12 [.M 6,.M 1,.b .eql 13 14]<|.cond (.t 15) (rr 0 [.T 4])<|.skip
def c206_0:Zar:=rs 0 [.K 4]<|.seq (rs 6 [.R 0,.J 0]<|c206_1)<|rr 0 [.K 4]
def cf206:=kf0 206 c206_0 [.tmp 4] 17
def zs0:AV:=.agg [.sc (.int .i64 0),.sc (.int .i64 0),.sc (.string ⟨#[]⟩),.sc (.string ⟨#[]⟩),.sl .full [],.sc (.bool false),.sc (.int .i64 0)]
def zs1:AV:=.agg [.sc (.string ⟨#[]⟩),.sc (.int .i64 0),.sc (.int .i64 0)]
def zs2:List AV:=[.sc (.int .i64 0),.sc (.int .i64 0),.sc (.string ⟨#[]⟩),.sc (.string ⟨#[]⟩),.sl .full [],.sc (.bool false),.sc (.int .i64 0)]
def YZs:=an7 zs0.eq_1<|an7 zs1.eq_1<|zs2.eq_1
def Zxe:Zar:=rs 0 [.v 2 25 0,.v 3 27 1,.K 4]<|ri 9 [.L 2 2,.c 4 [10],.u 11,.h 12,.F 1 3,.O (.len true (.t 15)),.B .gtr 16 2000,.z] 18 (rr 18 [.c 5 [],.s 4])<|rs 19 [.L 2 2,.L 2 3,.c 6 [20,21],.s 5]<|rs 23 [.M 5,.c 7 [24],.s 23,.e 23 0,.e 23 1,.o 6 (.box 27 (.c (.agg [.sc (.int .i64 0),.sc (.string ⟨#[]⟩)]))),.Z 2 6 26,.s 7]<|rs 28 [.L 2 3,.c 8 [29],.c 7 [30],.s 28,.e 28 0,.e 28 1,.o 8 (.box 27 (.c (.agg [.sc (.int .i64 0),.sc (.string ⟨#[]⟩)]))),.Z 2 8 32,.s 9]<|rr 33 [.M 5,.L 2 2,.L 2 3,.c 9 [35,36],.b .eql 34 37,.y 38,.L 2 6,.L 2 3,.O (.eqf [.int .i64,.str] false (.t 40) (.t 41)),.z,.y 43,.i .eql 7 0,.z,.y 47,.L 2 8,.L 2 3,.O (.eqf [.int .i64,.str] false (.t 49) (.t 50)),.z,.y 52,.i .eql 9 0,.z,.y 56,.c 5 [],.z,.s 4]
def cf3:=kf0 3 Zxe [.tmp 4] 60
def c4_2:Zar:=rl 2 34 35 (.t 33) 43<|.blk 3<|rs 35 [.X 3 32 34,.o 6 (.box 42 (.c (.agg [.sc (.string ⟨#[]⟩),.sl .full [],.sl .full []]))),.Z 3 6 37]<|ry 37 [.M 3,.N 1 6,.b .add 38 41,.s 3]
def c4_1:Zar:=rv 0 8 [.M 4,.N 0 1,.b .lss 9 12,.y 13,.i .leq 4 20,.z] 17<|.seq (.blk 1<|ri 19 [.F 0 1,.M 4,.X 2 21 22,.c 10 [24],.u 25] 26 (rr 0 [.K 2])<|rs 26 [.F 0 1,.M 4,.x 2 28 29,.N 1 30,.J 0]<|c4_2)<|ry 17 [.i .add 4 1,.s 4]
def c4_3:Zar:=rv 4 43 [.M 8,.N 1 1,.b .lss 44 47,.y 48,.i .leq 8 5,.z] 52<|.seq (.blk 5<|ry 54 [.M 7,.F 1 1,.M 8,.Y 1 57 58,.O (.len true (.t 60)),.O (.mm false (.t 61) (ik 1000)),.b .add 55 62,.s 7])<|ry 52 [.i .add 8 1,.s 8]
def c4_0:Zar:=rs 1 [.v 1 25 0,.O (.mv (ib false))]<|rs 2 [.J 0]<|.seq (rs 3 [.J 0]<|c4_1)<|rs 6 [.J 0]<|.seq (rs 7 [.J 0]<|c4_3)<|rr 63 [.N 0 1,.B .leq 66 20,.y 67,.N 1 1,.B .leq 71 5,.z,.y 73,.i .leq 3 300,.z,.y 77,.i .leq 7 1000,.z,.s 2]
def cf4:=kf0 4 c4_0 [.tmp 2] 82
def Zna:Zar:=rs 3 [.v 2 25 0,.v 3 27 1,.O (.mv (.c (.sc (.string ⟨#[]⟩))))]<|.seq (rs 10 [.F 0 3]<|.blk 0<|rs 13 [.B .eql 12 1,.s 13]<|.cond (.t 13) (rs 15 [.F 1 3,.c 11 [17],.s 15,.e 15 0,.e 15 1,.o 5 (.box 25 (.c (.agg [.sl .full [],.sl .full []]))),.Z 2 5 19,.s 6]<|rs 20 [.i .eql 6 0]<|.cond (.t 22) (rr 22 [.L 2 5,.c 13 [23],.C 12 [.c (.sc (.string ⟨#[99,114,101,97,116,101]⟩)),.t 24],.s 4])<|.skip)<|.seq (rs 26 [.B .eql 12 2,.s 26]<|.cond (.t 26) .skip<|ry 27 [.B .eql 12 3,.s 26])<|.cond (.t 26) (rs 29 [.L 2 2,.F 1 3,.c 14 [30,32],.s 29,.e 29 0,.e 29 1,.m 7 34,.s 8]<|rs 35 [.i .eql 8 0]<|.cond (.t 37) (.seq (.drw [ip (io 38 (.bsl 1 [.c (.sc (.string ⟨#[108,111,97,100]⟩)),.c (.sc (.string ⟨#[109,101,114,103,101]⟩))])),ip (io 39 (.fla 0 (.t 3))),ip (io 40 (.ld 1 false (.t 39))),ip (io 41 (.bin .sub (.t 40) (ik 2))),ip (io 42 (.ixa 1 (.t 38) (.t 41))),ip (io 43 (.ld 1 false (.t 42))),ip (im 44 7),(io 45 (.call (jf 15) [.t 44,jf 16]),[io 40 (.ld 1 false (.t 39)),io 43 (.ld 1 false (.t 42))]),ip (io 46 (.call (jf 12) [.t 43,.t 45])),ip (im 4 46)])<|.ret)<|.skip)<|rs 47 [.B .eql 12 5,.s 47]<|.cond (.t 47) (rs 49 [.L 2 2,.F 1 3,.c 17 [50,52],.s 49,.e 49 0,.e 49 1,.o 9 (.box 57 (.c (.agg [.sl .full []]))),.Z 1 9 54,.s 10]<|rs 55 [.i .eql 10 0]<|.cond (.t 57) (rr 57 [.F 0 9,.C 18 [.t 59,jf 19],.C 12 [.c (.sc (.string ⟨#[97,115,107]⟩)),.t 60],.s 4])<|.skip)<|.seq (rs 62 [.B .eql 12 4,.s 62]<|.cond (.t 62) .skip<|rs 63 [.B .eql 12 6,.s 62]<|.cond (.t 62) .skip<|ry 64 [.B .eql 12 7,.s 62])<|.cond (.t 62) (rs 65 [.F 1 3,.O (.bin .eql (.t 67) (.c (.sc (.string ⟨#[]⟩))))]<|.cond (.t 68) (rr 68 [.F 0 3,.c 20 [70],.s 4])<|.skip)<|.skip)<|rr 71 [.L 2 3,.c 21 [72],.s 4]
def cf6:=kf0 6 Zna [.tmp 4] 74
def Ztx:Zar:=rs 1 [.v 1 27 0,.O (.mv (.c (.sc (.string ⟨#[]⟩))))]<|.seq (.drw [ip (io 3 (.fla 0 (.t 1))),ip (io 4 (.ld 1 false (.t 3))),ip (io 8 (.fla 1 (.t 1))),ip (io 9 (.ld 1 false (.t 8))),(io 5 (.call (jf 26) [.t 4]),[io 9 (.ld 1 false (.t 8))]),ip (io 6 (.bin .add (.c (.sc (.string ⟨#[114,97,119,32]⟩))) (.t 5))),ip (io 7 (.bin .add (.t 6) (.c (.sc (.string ⟨#[32]⟩))))),ip (io 10 (.call (jf 27) [.t 9])),ip (io 11 (.bin .add (.t 7) (.t 10))),ip (im 2 11)])<|.ret
def cf8:=kf0 8 Ztx [.tmp 2] 12
def Zq4:Zar:=rs 3 [.v 2 25 0,.v 3 27 1,.O (.mv (.c (.sc (.string ⟨#[]⟩))))]<|ri 10 [.F 0 3,.B .eql 12 1] 13 (rs 14 [.F 1 3,.c 28 [16],.s 14,.e 14 0,.e 14 1,.o 5 (.box 25 (.c (.agg [.sl .full [],.sl .full []]))),.Z 2 5 18,.s 6]<|rs 19 [.M 6]<|.cond (.t 20) (rr 20 [.L 2 5,.c 29 [21],.O (.bin .add (.c (.sc (.string ⟨#[99,114,101,97,116,101]⟩))) (.t 22)),.s 4])<|.skip)<|ri 23 [.F 0 3,.B .eql 25 2,.h 26,.F 0 3,.B .eql 29 3,.z] 31 (rs 32 [.L 2 2,.F 1 3,.c 30 [33,35],.s 32,.e 32 0,.e 32 1,.m 7 37,.s 8]<|ri 38 [.i .eql 8 0,.y 40,.F 0 3,.B .eql 43 2,.z] 45 (rr 45 [.M 7,.c 31 [46],.O (.bin .add (.c (.sc (.string ⟨#[108,111,97,100]⟩))) (.t 47)),.s 4])<|rs 48 [.i .eql 8 0]<|.cond (.t 50) (rr 50 [.M 7,.c 31 [51],.O (.bin .add (.c (.sc (.string ⟨#[109,101,114,103,101]⟩))) (.t 52)),.s 4])<|.skip)<|ri 53 [.F 0 3,.B .eql 55 5] 56 (rs 57 [.L 2 2,.F 1 3,.c 32 [58,60],.s 57,.e 57 0,.e 57 1,.o 9 (.box 57 (.c (.agg [.sl .full []]))),.Z 1 9 62,.s 10]<|rs 63 [.i .eql 10 0]<|.cond (.t 65) (rr 65 [.L 1 9,.c 33 [66],.O (.bin .add (.c (.sc (.string ⟨#[97,115,107]⟩))) (.t 67)),.s 4])<|.skip)<|ri 68 [.F 1 3,.O (.bin .eql (.t 70) (.c (.sc (.string ⟨#[]⟩)))),.y 71,.F 0 3,.B .eql 74 4,.z] 76 (rr 3 [.O (.mv (.c (.sc (.string ⟨#[114,101,98,117,105,108,100]⟩))))])<|ri 76 [.F 1 3,.O (.bin .eql (.t 78) (.c (.sc (.string ⟨#[]⟩)))),.y 79,.F 0 3,.B .eql 82 6,.z] 84 (rr 3 [.O (.mv (.c (.sc (.string ⟨#[115,116,97,116,115]⟩))))])<|ri 84 [.F 1 3,.O (.bin .eql (.t 86) (.c (.sc (.string ⟨#[]⟩)))),.y 87,.F 0 3,.B .eql 90 7,.z] 92 (rr 3 [.O (.mv (.c (.sc (.string ⟨#[99,108,111,115,101]⟩))))])<|rr 92 [.L 2 3,.c 8 [93],.s 4]
def cf9:=kf0 9 Zq4 [.tmp 4] 95
def c10_1:Zar:=rv 0 3 [.M 3,.N 1 1,.b .lss 4 7,.y 8,.i .leq 3 6,.z] 12<|.seq (.blk 1<|rs 14 [.F 1 1,.M 3,.X 3 16 17,.c 34 [19],.u 20]<|.cond (.t 21) (rr 0 [.K 2])<|.skip)<|ry 12 [.i .add 3 1,.s 3]
def ZkB:Zar:=rs 1 [.v 1 39 0,.O (.mv (ib false))]<|.seq (rs 2 [.J 0]<|c10_1)<|rr 21 [.N 1 1,.B .leq 24 6,.y 25,.F 0 1,.O (.len true (.t 28)),.B .leq 29 1000,.z,.s 2]
def cf10:=kf0 10 ZkB [.tmp 2] 32
def ZlE:Zar:=rs 1 [.O (.box 25 (.c (.agg [.sl .full [],.sl .full []]))),.J 0]<|rs 3 [.O (.box 25 (.c (.agg [.sl .full [],.sl .full []])))]<|.seq (rs 5 [.M 0,.O (.mkf 36 [] [.t 4]),.c 35 [6,7],.s 5]<|rs 8 [.i .neq 5 0]<|.cond (.t 10) (rr 10 [.O (.bld [.sl .full [],.sl .full []] []),.M 5,.Z 2 2 11,.s 3])<|.skip)<|rr 12 [.L 2 4,.Z 2 2 13,.j 3 0]
def cf11:=kf0 11 ZlE [(.cell 2 true 2),.tmp 3] 14
def Zca:Zar:=rs 3 [.O (.mv (.c (.sc (.string ⟨#[]⟩))))]<|rr 4 [.M 0,.S 1 5,.M 1,.a 9 1 16 6 7,.C 38 [.t 8,.c (.sc (.string ⟨#[32]⟩))],.s 4]
def cf12:=kf0 12 Zca [.tmp 4] 10
def Zew:Zar:=rs 4 [.v 2 25 0,.D 4,.J 0]<|.seq (rs 8 [.L 2 2,.c 40 [9],.s 6]<|rs 10 [.i .neq 6 0]<|.cond (.t 12) (rr 12 [.M 6,.D 4,.s 5])<|.skip)<|rs 6 [.O (.box 47 jn)]<|rs 13 [.M 1,.O (.mkf 41 [] [.t 7,.t 2]),.c 35 [14,15],.s 8]<|ri 16 [.i .eql 8 0] 18 (ry 18 [.L 2 2,.l 1 7,.c 44 [19,20],.s 8])<|ri 21 [.i .neq 8 0] 23 (rr 23 [.M 8,.D 4,.s 5])<|rr 24 [.l 1 7,.s 4,.j 5 0]
def cf14:=kf0 14 Zew [.tmp 4,.tmp 5] 26
def c15_1:Zar:=rl 0 10 11 (.t 9) 20<|.blk 1<|rs 11 [.X 2 8 10,.o 7 (.box 53 (.c (.agg [.sl .full [],.sl .full []]))),.Z 2 7 13]<|ry 13 [.M 5,.M 1,.L 2 7,.O (.call (.t 15) [.t 16]),.A 9 1 16 14 17,.s 5]
def ZkW:Zar:=rs 0 [.D 4]<|rs 0 [.D 5]<|.seq (rs 7 [.R 0,.J 0]<|c15_1)<|rr 20 [.M 5,.s 4]
def cf15:=kf0 15 ZkW [.tmp 4] 22
def c16_1:Zar:=rl 0 9 10 (.t 8) 18<|.blk 1<|rs 10 [.Y 1 7 9,.s 5]<|ry 12 [.M 3,.M 5,.C 45 [.t 14,ik 10],.A 9 1 16 13 15,.s 3]
def Zvh:Zar:=rs 1 [.v 1 53 0,.O (.mv (.c (.sc (.string ⟨#[]⟩))))]<|rs 0 [.D 3]<|.seq (rs 5 [.N 1 1,.J 0]<|c16_1)<|rr 18 [.F 0 1,.c 46 [20],.O (.bin .add (.t 21) (.c (.sc (.string ⟨#[61]⟩)))),.M 3,.C 38 [.t 23,.c (.sc (.string ⟨#[44]⟩))],.b .add 22 24,.s 2]
def cf16:=kf0 16 Zvh [.tmp 2] 26
def ZqR:Zar:=rs 3 [.v 2 25 0,.O (.box 57 (.c (.agg [.sl .full []]))),.J 0]<|.seq (rs 8 [.L 2 2,.c 40 [9],.s 6]<|rs 10 [.i .neq 6 0]<|.cond (.t 12) (rr 12 [.O (.bld [.sl .full []] []),.M 6,.Z 1 4 13,.s 5])<|.skip)<|rs 6 [.O (.box 57 (.c (.agg [.sl .full []])))]<|rs 14 [.M 1,.O (.mkf 47 [] [.t 2,.t 7]),.c 35 [15,16],.s 8]<|ri 17 [.i .eql 8 0] 19 (ry 19 [.L 2 2,.L 1 7,.c 49 [20,21],.s 8])<|ri 22 [.i .neq 8 0] 24 (rr 24 [.O (.bld [.sl .full []] []),.M 8,.Z 1 4 25,.s 5])<|rr 26 [.L 1 7,.Z 1 4 27,.j 5 0]
def cf17:=kf0 17 ZqR [(.cell 1 true 4),.tmp 5] 28
def c18_1:Zar:=rl 0 10 11 (.t 9) 20<|.blk 1<|rs 11 [.X 7 8 10,.o 7 (.box 62 (.c zs0)),.Z 7 7 13]<|ry 13 [.M 5,.M 1,.L 7 7,.O (.call (.t 15) [.t 16]),.A 9 1 16 14 17,.s 5]
def Zo4:Zar:=rs 0 [.D 4]<|rs 0 [.D 5]<|.seq (rs 7 [.R 0,.J 0]<|c18_1)<|rr 20 [.M 5,.s 4]
def cf18:=kf0 18 Zo4 [.tmp 4] 22
def ZnE:Zar:=rs 1 [.v 1 62 0,.O (.mv (.c (.sc (.string ⟨#[]⟩))))]<|rs 3 [.F 1 1,.c 50 [5],.s 3]<|.seq (rs 6 [.F 0 1]<|.blk 0<|rs 9 [.B .eql 8 1,.s 9]<|.cond (.t 9) (.drw [ip (im 11 3),ip (io 12 (.fla 2 (.t 1))),ip (io 13 (.ld 1 false (.t 12))),ip (io 17 (.fla 3 (.t 1))),ip (io 18 (.ld 1 false (.t 17))),(io 14 (.call (jf 51) [.t 13]),[io 18 (.ld 1 false (.t 17))]),ip (io 15 (.bin .add (.c (.sc (.string ⟨#[126]⟩))) (.t 14))),ip (io 16 (.bin .add (.t 15) (.c (.sc (.string ⟨#[126]⟩))))),ip (io 19 (.call (jf 51) [.t 18])),ip (io 20 (.bin .add (.t 16) (.t 19))),ip (io 21 (.bin .add (.t 11) (.t 20))),ip (im 3 21)])<|rs 22 [.B .eql 8 2,.s 22]<|.cond (.t 22) (ry 23 [.M 3,.F 4 1,.c 46 [26],.O (.bin .add (.c (.sc (.string ⟨#[61]⟩))) (.t 27)),.b .add 24 28,.s 3])<|ry 2 [.O (.mv (.c (.sc (.string ⟨#[42]⟩))))])<|ri 29 [.F 5 1] 31 (ry 31 [.M 3,.F 6 1,.c 50 [34],.O (.bin .add (.c (.sc (.string ⟨#[47]⟩))) (.t 35)),.b .add 32 36,.s 3])<|rr 37 [.M 3,.s 2]
def cf19:=kf0 19 ZnE [.tmp 2] 39
def Zf9:Zar:=rs 1 [.O (.mv (.c (.sc (.string ⟨#[]⟩))))]<|.seq (rs 0 [.s 3]<|.blk 0<|rs 4 [.B .eql 3 4,.s 4]<|.cond (.t 4) (rr 1 [.O (.mv (.c (.sc (.string ⟨#[114,101,98,117,105,108,100]⟩))))])<|rs 6 [.B .eql 3 6,.s 6]<|.cond (.t 6) (rr 1 [.O (.mv (.c (.sc (.string ⟨#[115,116,97,116,115]⟩))))])<|.skip)<|rr 1 [.O (.mv (.c (.sc (.string ⟨#[99,108,111,115,101]⟩))))]
def cf20:=kf0 20 Zf9 [.tmp 2] 8
def Zeb:Zar:=rs 1 [.v 1 27 0,.O (.mv (.c (.sc (.string ⟨#[]⟩))))]<|.seq (.drw [ip (io 3 (.fla 0 (.t 1))),ip (io 4 (.ld 1 false (.t 3))),ip (io 6 (.fla 1 (.t 1))),ip (io 7 (.ld 1 false (.t 6))),(io 5 (.call (jf 50) [.t 4]),[io 7 (.ld 1 false (.t 6))]),ip (io 8 (.call (jf 51) [.t 7])),ip (io 9 (.bsl 1 [.t 5,.t 8])),ip (io 10 (.call (jf 12) [.c (.sc (.string ⟨#[114,97,119]⟩)),.t 9])),ip (im 2 10)])<|.ret
def cf21:=kf0 21 Zeb [.tmp 2] 11
def c30_2:Zar:=rl 2 40 41 (.t 39) 57<|.blk 3<|rs 42 [.L 3 7,.C 65 [.t 43,ik 16],.s 42,.e 42 0,.e 42 1,.o 12 (.box 109 (.c zs1)),.Z 3 12 45,.s 13]<|.seq (.drw [ip (io 47 (.ld 3 true (.t 12))),ip (im 48 13),(io 49 (.call (jf 67) [.t 48]),[io 47 (.ld 3 true (.t 12))]),ip (io 50 (.call (jf 66) [.t 47,.t 49,ik 3])),ip (iz (.st 3 (.t 7) (.t 50)))])<|ry 50 [.F 0 11,.M 13,.A 9 1 16 52 53,.f 0 11,.Z 1 56 55]
def c30_3:Zar:=rl 4 61 62 (.t 60) 75<|.blk 5<|rs 63 [.L 3 7,.c 68 [64],.s 63,.e 63 0,.e 63 1,.o 14 (.box 109 (.c zs1)),.Z 3 14 66,.s 15]<|rs 67 [.L 3 14,.Z 3 7 68]<|ry 68 [.F 1 11,.M 15,.A 2 1 8 70 71,.f 1 11,.Z 1 74 73]
def c30_1:Zar:=rv 0 26 [.M 10,.M 8,.b .lss 27 28,.y 29,.F 2 7,.B .eql 32 0,.z] 34<|.seq (.blk 1<|rs 10 [.O (.box 53 (.c (.agg [.sl .full [],.sl .full []])))]<|.seq (rs 36 [.N 0 2,.J 0]<|c30_2)<|.seq (rs 57 [.N 1 2,.J 0]<|c30_3)<|ry 75 [.M 9,.L 2 11,.A 53 2 48 76 77,.s 9])<|ry 34 [.i .add 10 1,.s 10]
def ZE3:Zar:=rs 4 [.v 2 25 0,.D 4,.J 0]<|rs 15 [.L 2 2,.c 63 [16],.s 6]<|ri 17 [.i .neq 6 0] 19 (rr 19 [.M 6,.D 4,.s 5])<|rs 21 [.M 1,.O (.bld [.sc (.string ⟨#[]⟩),.sc (.int .i64 0),.sc (.int .i64 0)] [(0,(1,.t 22))]),.C 64 [.t 23,ik 300],.s 21,.e 21 0,.e 21 1,.o 7 (.box 109 (.c zs1)),.Z 3 7 25,.s 8]<|rs 0 [.D 9]<|.seq (rs 9 [.J 0]<|c30_1)<|rs 79 [.L 3 7,.c 62 [80],.s 6]<|ri 81 [.i .eql 6 0] 83 (ry 83 [.L 2 2,.M 9,.c 69 [84,85],.s 6])<|ri 86 [.i .neq 6 0] 88 (rr 88 [.M 6,.D 4,.s 5])<|rr 89 [.M 9,.s 4,.j 5 0]
def cf30:=kf0 30 ZE3 [.tmp 4,.tmp 5] 91
def c31_2:Zar:=rl 2 23 24 (.t 22) 38<|.blk 3<|rs 24 [.M 23,.s 6]<|ri 25 [.i .gtr 6 0] 27 (ry 27 [.M 3,.O (.bin .add (.t 28) (.c (.sc (.string ⟨#[44]⟩)))),.s 3])<|ry 29 [.M 3,.F 1 5,.M 6,.Y 1 32 33,.c 26 [35],.b .add 30 36,.s 3]
def c31_1:Zar:=rl 0 9 10 (.t 8) 39<|.blk 1<|rs 10 [.X 2 7 9,.o 5 (.box 53 (.c (.agg [.sl .full [],.sl .full []]))),.Z 2 5 12]<|rs 12 [.M 3,.O (.bin .add (.t 13) (.c (.sc (.string ⟨#[32]⟩)))),.F 0 5,.c 70 [16],.b .add 14 17,.O (.bin .add (.t 18) (.c (.sc (.string ⟨#[61]⟩)))),.s 3]<|rs 19 [.N 1 5,.J 0]<|c31_2
def ZoW:Zar:=rs 1 [.O (.mv (.c (.sc (.string ⟨#[]⟩))))]<|rs 2 [.O (.mv (.c (.sc (.string ⟨#[]⟩))))]<|.seq (rs 6 [.R 0,.J 0]<|c31_1)<|rr 39 [.M 3,.s 2]
def cf31:=kf0 31 ZoW [.tmp 2] 41
def c32_1:Zar:=rl 0 23 24 (.t 22) 82<|.blk 1<|rs 8 [.O (.box 62 (.c zs0))]<|rs 25 [.L 3 8,.C 64 [.t 26,ik 2],.s 25,.e 25 0,.e 25 1,.Z 3 8 28,.f 0 9,.Z 1 30 29]<|ri 30 [.F 0 9,.B .gtr 32 0] 33 (ry 34 [.L 3 8,.C 64 [.t 35,ik 3],.s 34,.e 34 0,.e 34 1,.Z 3 8 37,.f 1 9,.Z 1 39 38])<|ri 39 [.F 0 9,.B .eql 41 1] 42 (rs 43 [.L 3 8,.C 65 [.t 44,ik 16],.s 43,.e 43 0,.e 43 1,.Z 3 8 46,.f 2 9,.Z 1 48 47]<|ry 49 [.L 3 8,.C 65 [.t 50,ik 16],.s 49,.e 49 0,.e 49 1,.Z 3 8 52,.f 3 9,.Z 1 54 53])<|ri 54 [.F 0 9,.B .eql 56 2] 57 (ry 58 [.L 3 8,.C 71 [.t 59,ik 200],.s 58,.e 58 0,.e 58 1,.Z 3 8 61,.f 4 9,.Z 1 63 62])<|rs 64 [.L 3 8,.C 64 [.t 65,ik 4],.s 64,.e 64 0,.e 64 1,.o 10 (.box 109 (.c zs1)),.Z 3 10 67,.s 11]<|rs 68 [.L 3 10,.Z 3 8 69]<|ri 69 [.i .gtr 11 0] 71 (rs 71 [.f 5 9,.w (.st 1 (.t 72) (ib true))]<|ry 72 [.i .sub 11 1,.f 6 9,.Z 1 75 74])<|ry 75 [.F 0 7,.L 7 9,.A 62 7 88 77 78,.f 0 7,.Z 1 81 80]
def Znk:Zar:=rs 3 [.v 2 25 0,.O (.box 57 (.c (.agg [.sl .full []]))),.J 0]<|rs 11 [.L 2 2,.c 63 [12],.s 6]<|ri 13 [.i .neq 6 0] 15 (rr 15 [.O (.bld [.sl .full []] []),.M 6,.Z 1 4 16,.s 5])<|rs 6 [.O (.box 57 (.c (.agg [.sl .full []])))]<|rs 17 [.M 1,.O (.bld [.sc (.string ⟨#[]⟩),.sc (.int .i64 0),.sc (.int .i64 0)] [(0,(1,.t 18))]),.o 8 (.box 109 (.c zs1)),.Z 3 8 19]<|.seq (rs 19 [.N 0 2,.J 0]<|c32_1)<|rs 82 [.L 3 8,.c 62 [83],.s 6]<|ri 84 [.i .eql 6 0] 86 (ry 86 [.L 2 2,.L 1 7,.c 72 [87,88],.s 6])<|ri 89 [.i .neq 6 0] 91 (rr 91 [.O (.bld [.sl .full []] []),.M 6,.Z 1 4 92,.s 5])<|rr 93 [.L 1 7,.Z 1 4 94,.j 5 0]
def cf32:=kf0 32 Znk [(.cell 1 true 4),.tmp 5] 95
def c33_1:Zar:=rl 0 10 11 (.t 9) 53<|.blk 1<|rs 11 [.X 7 8 10,.o 5 (.box 62 (.c zs0)),.Z 7 5 13]<|rs 5 [.O (.mv (.c (.sc (.string ⟨#[42]⟩))))]<|ri 13 [.F 0 5,.B .eql 15 1] 16 (.drw [ip (io 17 (.fla 1 (.t 5))),ip (io 18 (.ld 1 false (.t 17))),ip (io 21 (.fla 2 (.t 5))),ip (io 22 (.ld 1 false (.t 21))),ip (io 26 (.fla 3 (.t 5))),ip (io 27 (.ld 1 false (.t 26))),(io 19 (.call (jf 26) [.t 18]),[io 22 (.ld 1 false (.t 21)),io 27 (.ld 1 false (.t 26))]),ip (io 20 (.bin .add (.t 19) (.c (.sc (.string ⟨#[126]⟩))))),(io 23 (.call (jf 27) [.t 22]),[io 27 (.ld 1 false (.t 26))]),ip (io 24 (.bin .add (.t 20) (.t 23))),ip (io 25 (.bin .add (.t 24) (.c (.sc (.string ⟨#[126]⟩))))),ip (io 28 (.call (jf 27) [.t 27])),ip (io 29 (.bin .add (.t 25) (.t 28))),ip (im 6 29)])<|ri 29 [.F 0 5,.B .eql 31 2] 32 (.drw [ip (io 33 (.fla 1 (.t 5))),ip (io 34 (.ld 1 false (.t 33))),ip (io 37 (.fla 4 (.t 5))),ip (io 38 (.ld 1 false (.t 37))),(io 35 (.call (jf 26) [.t 34]),[io 38 (.ld 1 false (.t 37))]),ip (io 36 (.bin .add (.t 35) (.c (.sc (.string ⟨#[61]⟩))))),ip (io 39 (.call (jf 70) [.t 38])),ip (io 40 (.bin .add (.t 36) (.t 39))),ip (im 6 40)])<|ri 40 [.F 5 5] 42 (ry 42 [.M 6,.O (.bin .add (.t 43) (.c (.sc (.string ⟨#[47]⟩)))),.F 6 5,.c 26 [46],.b .add 44 47,.s 6])<|ry 48 [.M 3,.O (.bin .add (.t 49) (.c (.sc (.string ⟨#[32]⟩)))),.M 6,.b .add 50 51,.s 3]
def ZId:Zar:=rs 1 [.v 1 57 0,.O (.mv (.c (.sc (.string ⟨#[]⟩))))]<|rs 2 [.O (.mv (.c (.sc (.string ⟨#[]⟩))))]<|.seq (rs 6 [.N 0 1,.J 0]<|c33_1)<|rr 53 [.M 3,.s 2]
def cf33:=kf0 33 ZId [.tmp 2] 55
def c34_1:Zar:=rv 0 8 [.M 4,.N 1 1,.b .lss 9 12,.y 13,.i .leq 4 220,.z] 17<|.seq (.blk 1<|ry 19 [.M 3,.F 1 1,.M 4,.Y 1 22 23,.O (.len true (.t 25)),.O (.mm false (.t 26) (ik 5000)),.b .add 20 27,.s 3])<|ry 17 [.i .add 4 1,.s 4]
def ZrX:Zar:=rs 1 [.v 1 42 0,.O (.mv (ib false))]<|rs 4 [.F 0 1,.O (.len true (.t 6)),.O (.mm false (.t 7) (ik 5000)),.s 3]<|.seq (rs 3 [.J 0]<|c34_1)<|rr 28 [.N 1 1,.B .leq 31 220,.y 32,.N 2 1,.B .leq 36 220,.z,.y 38,.i .leq 3 5000,.z,.s 2]
def cf34:=kf0 34 ZrX [.tmp 2] 43
def ZnS:Zar:=ry 2 [.M 0,.c 37 [3],.Z 2 1 4]
def cf36:=kf0 36 ZnS [] 5
def c37_1:Zar:=rl 0 7 8 (.t 6) 16<|.blk 1<|.drw [ip (io 9 (.fla 0 (.t 3))),ip (io 10 (.ld 1 false (.t 9))),ip (im 11 0),(io 12 (.call (jf 76) [.t 11]),[io 10 (.ld 1 false (.t 9))]),ip (io 13 (.bsl 2 [.t 12])),ip (io 14 (.app 39 2 40 (.t 10) (.t 13))),ip (io 15 (.fla 0 (.t 3))),ip (iz (.st 1 (.t 15) (.t 14)))]
def c37_2:Zar:=rl 2 19 20 (.t 18) 28<|.blk 3<|.drw [ip (io 21 (.fla 1 (.t 3))),ip (io 22 (.ld 1 false (.t 21))),ip (im 23 0),(io 24 (.call (jf 77) [.t 23,ik 12]),[io 22 (.ld 1 false (.t 21))]),ip (io 25 (.bsl 1 [.t 24])),ip (io 26 (.app 9 1 16 (.t 22) (.t 25))),ip (io 27 (.fla 1 (.t 3))),ip (iz (.st 1 (.t 27) (.t 26)))]
def ZtL:Zar:=rs 1 [.O (.box 25 (.c (.agg [.sl .full [],.sl .full []])))]<|rs 2 [.O (.box 25 (.c (.agg [.sl .full [],.sl .full []])))]<|.seq (rs 4 [.M 0,.C 42 [.t 5,ik 16],.J 0]<|c37_1)<|.seq (rs 16 [.M 0,.C 42 [.t 17,ik 3],.J 0]<|c37_2)<|rs 28 [.L 2 3,.c 40 [29],.s 4]<|rs 30 [.M 0,.i .eql 4 0,.M 4,.c 74 [31,33,34]]<|rr 35 [.L 2 3,.Z 2 2 36]
def cf37:=kf0 37 ZtL [(.cell 2 true 2)] 37
def c41_1:Zar:=rl 0 6 7 (.t 5) 14<|.blk 1<|.drw [ip (io 8 (.ld 1 false (.t 1))),ip (im 9 0),ip (io 10 (.ld 2 true (.t 2))),(io 11 (.call (jf 43) [.t 9,.t 10]),[io 8 (.ld 1 false (.t 1))]),ip (io 12 (.bsl 2 [.t 11])),ip (io 13 (.app 53 2 48 (.t 8) (.t 12))),ip (iz (.st 1 (.t 1) (.t 13)))]
def ZsN:Zar:=rs 3 [.M 0,.C 42 [.t 4,ik 300],.J 0]<|c41_1
def cf41:=kf0 41 ZsN [] 15
def Zk8:Zar:=rs 3 [.J 0]<|ri 5 [.M 0,.c 84 [6],.u 7] 8 (rr 3 [.J 0])<|rs 8 [.M 0,.c 85 [9],.s 5]<|ri 10 [.i .lss 1 0,.h 12,.M 5,.M 1,.O (.cnv .u64 (.t 15)),.b .gtr 14 16,.z] 18 (ry 18 [.M 0,.C 86 [.t 19,ik 5]])<|rr 20 [.M 5,.O (.cnv .i64 (.t 21)),.s 4]
def cf42:=kf0 42 Zk8 [.tmp 4] 23
def c43_1:Zar:=rl 0 10 11 (.t 9) 25<|.blk 1<|rs 11 [.M 0,.C 77 [.t 12,ik 16],.s 6]<|rs 13 [.M 0,.M 6,.c 87 [15],.B .eql 16 0,.C 74 [.t 14,.t 17,ik 3]]<|ry 18 [.F 0 5,.M 6,.A 9 1 16 20 21,.f 0 5,.Z 1 24 23]
def c43_2:Zar:=rl 2 29 30 (.t 28) 38<|.blk 3<|.drw [ip (io 31 (.fla 1 (.t 5))),ip (io 32 (.ld 1 false (.t 31))),ip (im 33 0),(io 34 (.call (jf 88) [.t 33]),[io 32 (.ld 1 false (.t 31))]),ip (io 35 (.bsl 1 [.t 34])),ip (io 36 (.app 2 1 8 (.t 32) (.t 35))),ip (io 37 (.fla 1 (.t 5))),ip (iz (.st 1 (.t 37) (.t 36)))]
def Zrk:Zar:=rs 3 [.v 3 25 1,.O (.box 53 (.c (.agg [.sl .full [],.sl .full []])))]<|rs 4 [.O (.box 53 (.c (.agg [.sl .full [],.sl .full []])))]<|.seq (rs 6 [.N 0 3,.J 0]<|c43_1)<|.seq (rs 25 [.N 1 3,.J 0]<|c43_2)<|rr 38 [.L 2 5,.Z 2 4 39]
def cf43:=kf0 43 Zrk [(.cell 2 true 4)] 40
def c44_1:Zar:=rl 0 20 21 (.t 19) 33<|.blk 1<|rs 21 [.X 2 18 20,.o 7 (.box 53 (.c (.agg [.sl .full [],.sl .full []]))),.Z 2 7 23]<|rs 24 [.L 2 2,.L 2 7,.c 89 [25,26],.s 24,.e 24 0,.e 24 1,.m 8 28,.s 9]<|rs 29 [.i .neq 9 0]<|.cond (.t 31) (rr 31 [.M 9,.s 4])<|.skip
def ZHo:Zar:=rs 3 [.v 2 25 0,.J 0]<|.seq (rs 9 [.L 2 2,.c 40 [10],.s 5]<|rs 11 [.i .neq 5 0]<|.cond (.t 13) (rr 13 [.M 5,.s 4])<|.skip)<|ri 14 [.R 1,.B .gtr 16 300] 17 (rr 3 [.J 5])<|.seq (rs 17 [.R 1,.J 0]<|c44_1)<|rr 3 [.J 0]
def cf44:=kf0 44 ZHo [.tmp 4] 34
def c47_1:Zar:=rl 0 7 8 (.t 6) 16<|.blk 1<|.drw [ip (io 9 (.fla 0 (.t 2))),ip (io 10 (.ld 1 false (.t 9))),ip (im 11 0),(io 12 (.call (jf 48) [.t 11]),[io 10 (.ld 1 false (.t 9))]),ip (io 13 (.bsl 7 [.t 12])),ip (io 14 (.app 62 7 88 (.t 10) (.t 13))),ip (io 15 (.fla 0 (.t 2))),ip (iz (.st 1 (.t 15) (.t 14)))]
def c47_0:Zar:=rs 3 [.N 0 1,.J 0]<|c47_1
def cf47:=kf0 47 c47_0 [] 17
def ZeF:Zar:=rs 1 [.O (.box 62 (.c zs0))]<|rs 4 [.M 0,.C 42 [.t 5,ik 2],.O (.bld zs2 [(0,(1,.t 6))]),.o 3 (.box 62 (.c zs0)),.Z 7 3 7]<|.seq (rs 7 [.F 0 3]<|.blk 0<|rs 10 [.B .eql 9 1,.s 10]<|.cond (.t 10) (rs 11 [.M 0,.C 42 [.t 12,ik 3],.f 1 3,.Z 1 14 13]<|rs 14 [.M 0,.C 77 [.t 15,ik 16],.f 2 3,.Z 1 17 16]<|ry 17 [.M 0,.C 77 [.t 18,ik 16],.f 3 3,.Z 1 20 19])<|rs 21 [.B .eql 9 2,.s 21]<|.cond (.t 21) (rs 22 [.M 0,.C 42 [.t 23,ik 3],.f 1 3,.Z 1 25 24]<|ry 25 [.M 0,.C 91 [.t 26,ik 200],.f 4 3,.Z 1 28 27])<|.skip)<|rs 28 [.M 0,.C 42 [.t 29,ik 4],.s 4]<|rs 30 [.i .gtr 4 0,.i .sub 4 1,.O (.mm true (.t 34) (ik 0)),.f 5 3,.Z 1 36 32,.f 6 3,.Z 1 37 35]<|rr 37 [.L 7 3,.Z 7 2 38]
def cf48:=kf0 48 ZeF [(.cell 7 true 2)] 39
def c49_1:Zar:=rl 0 24 25 (.t 23) 62<|.blk 1<|rs 25 [.M 24,.X 7 22 24,.o 7 (.box 62 (.c zs0)),.m 6 26,.Z 7 7 28]<|.seq (rt 28 [.F 0 2,.M 6,.X 2 30 31,.L 7 7,.c 92 [33,34],.s 8]<|rs 35 [.i .neq 8 0]<|.cond (.t 37) (rr 37 [.M 8,.s 4])<|.skip)<|rt 38 [.F 5 7,.y 40,.F 0 2,.M 6,.X 2 43 44,.F 6 7,.c 93 [46,48],.u 49,.z,.h 51,.F 5 7,.u 54,.y 55,.F 6 7,.B .neq 58 0,.z,.z]<|.cond (.t 61) (rr 3 [.J 2])<|.skip
def ZmE:Zar:=rs 3 [.v 2 25 0,.v 3 57 1,.J 0]<|.seq (rs 8 [.L 2 2,.c 40 [9],.s 5]<|rs 10 [.i .neq 5 0]<|.cond (.t 12) (rr 12 [.M 5,.s 4])<|.skip)<|ri 13 [.N 0 3,.N 0 2,.b .neq 16 19] 20 (rr 3 [.J 2])<|.seq (rs 20 [.N 0 3,.J 0]<|c49_1)<|rr 3 [.J 0]
def cf49:=kf0 49 ZmE [.tmp 4] 63
def ZiL:Zar:=rs 1 [.v 1 109 0,.O (.box 109 (.c zs1)),.J 0]<|rs 5 [.L 3 1,.c 117 [6],.s 5,.e 5 0,.e 5 1,.Z 3 1 8,.s 4]<|ri 9 [.F 2 1,.B .neq 11 0] 12 (rr 12 [.L 3 1,.Z 3 2 13,.j 3 0])<|.seq (.drw [ip (io 14 (.ld 3 true (.t 1))),ip (im 15 4),(io 16 (.call (jf 119) [.t 15]),[io 14 (.ld 3 true (.t 1))]),ip (iz (.st 3 (.t 2) (.t 14))),ip (im 3 16)])<|.ret
def cf68:=kf0 68 ZiL [(.cell 3 true 2),.tmp 3] 17
def c69_1:Zar:=rl 0 20 21 (.t 19) 33<|.blk 1<|rs 21 [.X 2 18 20,.o 7 (.box 53 (.c (.agg [.sl .full [],.sl .full []]))),.Z 2 7 23]<|rs 24 [.L 2 2,.L 2 7,.c 120 [25,26],.s 24,.e 24 0,.e 24 1,.m 8 28,.s 9]<|rs 29 [.i .neq 9 0]<|.cond (.t 31) (rr 31 [.M 9,.s 4])<|.skip
def c69_0:Zar:=rs 3 [.v 2 25 0,.J 0]<|rs 9 [.L 2 2,.c 63 [10],.s 5]<|ri 11 [.i .neq 5 0] 13 (rr 13 [.M 5,.s 4])<|ri 14 [.R 1,.B .gtr 16 300] 17 (rr 3 [.J 5])<|.seq (rs 17 [.R 1,.J 0]<|c69_1)<|rr 3 [.J 0]
def cf69:=kf0 69 c69_0 [.tmp 4] 34
def c72_1:Zar:=rl 0 24 25 (.t 23) 71<|.blk 1<|rs 25 [.M 24,.s 6]<|rs 26 [.F 0 3,.M 6,.X 7 28 29,.o 7 (.box 62 (.c zs0)),.Z 7 7 31]<|rt 31 [.F 0 2,.M 6,.X 2 33 34,.L 7 7,.c 122 [36,37],.s 8]<|ri 38 [.i .neq 8 0] 40 (rr 40 [.M 8,.s 4])<|rt 41 [.F 5 7,.y 43,.F 6 7,.B .lss 46 0,.h 47,.F 6 7,.F 0 2,.M 6,.x 2 52 53,.N 1 54,.b .geq 50 57,.z,.z,.h 60,.F 5 7,.u 63,.y 64,.F 6 7,.B .neq 67 0,.z,.z]<|.cond (.t 70) (rr 3 [.J 2])<|.skip
def ZhM:Zar:=rs 3 [.v 2 25 0,.v 3 57 1,.J 0]<|rs 8 [.L 2 2,.c 63 [9],.s 5]<|ri 10 [.i .neq 5 0] 12 (rr 12 [.M 5,.s 4])<|ri 13 [.N 0 3,.N 0 2,.b .neq 16 19] 20 (rr 3 [.J 2])<|.seq (rs 20 [.N 0 3,.J 0]<|c72_1)<|rr 3 [.J 0]
def cf72:=kf0 72 ZhM [.tmp 4] 72
def Znz:Zar:=rs 5 [.M 0,.c 84 [6],.y 7,.M 1,.u 9,.z]<|.cond (.t 11) (ri 11 [.i .eql 2 0] 13 (ry 1 [.J 3])<|ry 13 [.M 0,.M 2,.c 86 [14,15]])<|.skip
def cf74:=kf0 74 Znz [] 17
def c76_1:Zar:=rl 0 12 13 (.t 11) 26<|.blk 1<|rs 13 [.M 0,.M 4,.c 123 [14,15],.o 5 (.box 42 (.c (.agg [.sc (.string ⟨#[]⟩),.sl .full [],.sl .full []]))),.Z 3 5 16]<|rs 16 [.N 1 5,.s 4]<|ry 19 [.L 3 5,.S 3 20,.F 1 3,.a 42 3 64 21 23,.f 1 3,.Z 1 25 24]
def Zuo:Zar:=rs 1 [.O (.box 39 (.c (.agg [.sc (.string ⟨#[]⟩),.sl .full []])))]<|rs 6 [.M 0,.C 77 [.t 7,ik 12],.O (.bld [.sc (.string ⟨#[]⟩),.sl .full []] [(0,(1,.t 8))]),.o 3 (.box 39 (.c (.agg [.sc (.string ⟨#[]⟩),.sl .full []]))),.Z 2 3 9]<|rs 3 [.J 0]<|.seq (rs 9 [.M 0,.C 42 [.t 10,ik 4],.J 0]<|c76_1)<|rs 26 [.L 2 3,.c 81 [27],.s 6]<|rs 28 [.M 0,.i .eql 6 0,.M 6,.c 74 [29,31,32]]<|rr 33 [.L 2 3,.Z 2 2 34]
def cf76:=kf0 76 Zuo [(.cell 2 true 2)] 35
def ZdC:Zar:=rs 3 [.O (.mv (.c (.sc (.string ⟨#[]⟩))))]<|rr 4 [.M 0,.M 0,.M 1,.c 42 [6,7],.c 124 [5,8],.s 4]
def cf77:=kf0 77 ZdC [.tmp 4] 10
def c84_0:Zar:=rs 0 [.K 2]<|rr 2 [.M 0,.O (.eqn 0 true (.t 3) (.c (.sc (.pointer none)))),.y 4,.M 0,.k 6,.F 2 7,.z,.s 2]
def cf84:=kf0 84 c84_0 [.tmp 2] 11
def c85_0:Zar:=rs 1 [.O (.mv (.c (.sc (.int .u64 0))))]<|rt 6 [.M 0,.k 7,.F 0 8,.M 0,.k 11,.F 1 12,.O (.slS (.t 10) (some (.t 14)) none),.c 130 [15],.s 6,.e 6 0,.e 6 1,.e 6 2,.m 3 17,.m 4 18,.s 5]<|ri 19 [.M 5,.u 20] 21 (ry 21 [.M 0,.C 86 [.t 22,ik 3]])<|rs 23 [.M 0,.k 24,.F 1 25,.M 4,.b .add 27 28,.k 24,.f 1 30,.Z 1 31 29]<|rr 31 [.M 3,.s 2]
def cf85:=kf0 85 c85_0 [.tmp 2] 33
def ZdA:Zar:=rs 1 [.J 0]<|ri 2 [.M 0,.c 84 [3],.u 4] 5 (rr 1 [.J 0])<|rr 5 [.M 0,.c 85 [6],.c 131 [7],.s 2]
def cf88:=kf0 88 ZdA [.tmp 2] 9
def c89_1:Zar:=rl 0 30 31 (.t 29) 63<|.blk 1<|rs 31 [.M 30,.Y 1 28 30,.m 7 32,.s 8]<|ri 34 [.F 0 2,.M 7,.x 2 36 37,.N 1 38,.B .eql 41 0] 42 (rr 4 [.D 4,.J 2])<|rs 43 [.F 0 2,.M 7,.x 2 45 46,.F 1 47,.O (.ixa 3 (.t 49) (ik 0)),.F 1 50,.M 8,.c 132 [52,53],.s 43,.e 43 0,.e 43 1,.m 9 55,.s 10]<|ri 56 [.M 10,.u 57] 58 (rr 4 [.D 4,.J 13])<|ry 58 [.M 6,.M 9,.A 3 1 8 59 60,.s 6]
def c89_0:Zar:=rs 4 [.v 2 25 0,.v 3 53 1,.D 4,.J 0]<|ri 10 [.N 0 3,.N 0 2,.b .neq 13 16,.h 17,.N 1 3,.N 1 2,.b .neq 21 24,.z] 26 (rr 4 [.D 4,.J 2])<|rs 0 [.D 6]<|.seq (rs 26 [.N 0 3,.J 0]<|c89_1)<|rr 63 [.M 6,.s 4,.j 5 0]
def cf89:=kf0 89 c89_0 [.tmp 4,.tmp 5] 65
def c91_1:Zar:=rl 0 12 13 (.t 11) 46<|.blk 1<|rs 13 [.M 0,.M 6,.O (.len true (.t 15)),.c 42 [14,16],.s 7]<|rt 17 [.M 6,.M 7,.O (.slS (.t 18) none (some (.t 19))),.M 0,.C 77 [.t 21,ik 16],.b .add 20 22,.s 8]<|rs 23 [.M 0,.M 8,.c 87 [25],.B .eql 26 0,.y 27,.M 6,.M 8,.c 137 [29,30],.M 7,.b .eql 31 32,.z,.y 34,.M 8,.M 6,.b .gtr 36 37,.z,.C 74 [.t 24,.t 39,ik 3]]<|ry 40 [.M 5,.M 8,.A 9 1 16 41 42,.M 8,.m 5 44,.s 6]
def ZLl:Zar:=rs 0 [.D 4]<|rs 0 [.D 5]<|rs 5 [.O (.mv (.c (.sc (.string ⟨#[]⟩))))]<|.seq (rs 8 [.M 0,.M 1,.c 42 [9,10],.J 0]<|c91_1)<|rr 46 [.M 5,.s 4]
def cf91:=kf0 91 ZLl [.tmp 4] 48
def ZfU:Zar:=rs 3 [.v 2 39 0,.v 3 62 1,.J 0]<|.seq (rs 4 [.F 0 3]<|.blk 0<|rs 7 [.B .eql 6 0,.s 7]<|.cond (.t 7) (ri 8 [.L 7 3,.c 138 [9],.u 10] 11 (rr 3 [.J 2])<|rr 3 [.J 0])<|.seq (rs 12 [.B .eql 6 1,.s 12]<|.cond (.t 12) .skip<|ry 13 [.B .eql 6 2,.s 12])<|.cond (.t 12) .skip<|rr 3 [.J 2])<|ri 14 [.L 2 2,.F 1 3,.c 93 [15,17],.u 18] 19 (rr 3 [.J 2])<|ri 19 [.F 0 3,.B .eql 21 1] 22 (rr 22 [.L 7 3,.c 139 [23],.s 4])<|rt 24 [.F 1 2,.F 1 3,.X 3 26 28,.L 7 3,.c 140 [30,31],.s 4]<|.ret
def cf92:=kf0 92 ZfU [.tmp 4] 33
def ZHl:Zar:=rs 0 [.v 2 39 0,.K 4]<|rr 4 [.i .geq 1 0,.y 6,.M 1,.N 1 2,.b .lss 8 11,.z,.s 4]
def cf93:=kf0 93 ZHl [.tmp 4] 14
def Zuv:Zar:=rs 1 [.J 0]<|ri 2 [.M 0,.O (.bin .rem (.t 3) (.c (.sc (.int .u64 2)))),.O (.bin .eql (.t 4) (.c (.sc (.int .u64 0))))] 5 (rr 5 [.M 0,.O (.bin .quo (.t 6) (.c (.sc (.int .u64 2)))),.O (.cnv .i64 (.t 7)),.s 2])<|rr 8 [.M 0,.O (.bin .quo (.t 9) (.c (.sc (.int .u64 2)))),.O (.cnv .i64 (.t 10)),.O (.un .neg (.t 11)),.B .sub 12 1,.s 2]
def cf119:=kf0 119 Zuv [.tmp 2] 14
def c120_1:Zar:=rl 0 28 29 (.t 27) 60<|.blk 1<|rs 29 [.M 28,.s 7]<|ri 30 [.F 0 2,.M 7,.x 2 32 33,.N 1 34,.B .eql 37 0] 38 (rr 4 [.D 4,.J 2])<|rt 38 [.F 0 2,.M 7,.x 2 40 41,.F 1 42,.O (.ixa 3 (.t 44) (ik 0)),.F 1 45,.F 0 3,.M 7,.Y 1 49 50,.c 161 [47,52],.s 8]<|ri 53 [.i .lss 8 0] 55 (rr 4 [.D 4,.J 13])<|ry 55 [.M 6,.M 8,.A 3 1 8 56 57,.s 6]
def ZvF:Zar:=rs 4 [.v 2 25 0,.v 3 53 1,.D 4,.J 0]<|ri 8 [.N 0 3,.N 0 2,.b .neq 11 14,.h 15,.N 1 3,.N 1 2,.b .neq 19 22,.z] 24 (rr 4 [.D 4,.J 2])<|rs 0 [.D 6]<|.seq (rs 24 [.N 0 3,.J 0]<|c120_1)<|rr 60 [.M 6,.s 4,.j 5 0]
def cf120:=kf0 120 ZvF [.tmp 4,.tmp 5] 62
def c122_1:Zar:=rl 0 85 86 (.t 84) 99<|.blk 1<|rs 86 [.Y 1 83 85,.s 7]<|rs 88 [.F 1 2,.F 1 3,.x 3 90 92,.F 1 93,.M 7,.c 161 [95,96],.B .lss 97 0]<|.cond (.t 98) (rr 3 [.J 13])<|.skip
def ZcM:Zar:=rs 3 [.v 2 39 0,.v 3 62 1,.J 0]<|ri 7 [.F 0 3,.B .eql 9 0] 10 (ri 10 [.F 1 3,.B .neq 12 0,.h 13,.F 2 3,.O (.bin .neq (.t 16) (.c (.sc (.string ⟨#[]⟩)))),.z,.h 18,.F 3 3,.O (.bin .neq (.t 21) (.c (.sc (.string ⟨#[]⟩)))),.z,.h 23,.N 4 3,.B .gtr 27 0,.z] 29 (rr 3 [.J 2])<|rr 3 [.J 0])<|ri 29 [.F 0 3,.B .neq 31 1,.y 32,.F 0 3,.B .neq 35 2,.z,.h 37,.F 1 3,.B .lss 40 0,.z,.h 42,.F 1 3,.N 1 2,.b .geq 45 48,.z] 50 (rr 3 [.J 2])<|ri 50 [.F 0 3,.B .eql 52 1] 53 (ri 53 [.N 4 3,.B .gtr 56 0] 57 (rr 3 [.J 2])<|ri 57 [.F 2 3,.O (.len true (.t 59)),.B .gtr 60 16,.h 61,.F 3 3,.O (.len true (.t 64)),.B .gtr 65 16,.z] 67 (rr 3 [.J 5])<|rr 3 [.J 0])<|ri 67 [.F 2 3,.O (.bin .neq (.t 69) (.c (.sc (.string ⟨#[]⟩)))),.h 70,.F 3 3,.O (.bin .neq (.t 73) (.c (.sc (.string ⟨#[]⟩)))),.z] 75 (rr 3 [.J 2])<|rs 75 [.F 4 3,.c 162 [77],.s 5]<|ri 78 [.i .neq 5 0] 80 (rr 80 [.M 5,.s 4])<|.seq (rs 81 [.N 4 3,.J 0]<|c122_1)<|rr 3 [.J 0]
def ZLJ:=kf0 122 ZcM [.tmp 4] 100
def c123_1:Zar:=rl 0 17 18 (.t 16) 28<|.blk 1<|.drw [ip (io 19 (.fla 2 (.t 5))),ip (io 20 (.ld 1 false (.t 19))),ip (im 21 0),ip (im 22 1),ip (io 23 (.bin .sub (.t 22) (ik 1))),(io 24 (.call (jf 42) [.t 21,.t 23]),[io 20 (.ld 1 false (.t 19))]),ip (io 25 (.bsl 1 [.t 24])),ip (io 26 (.app 3 1 8 (.t 20) (.t 25))),ip (io 27 (.fla 2 (.t 5))),ip (iz (.st 1 (.t 27) (.t 26)))]
def Ztv:Zar:=rs 3 [.O (.box 42 (.c (.agg [.sc (.string ⟨#[]⟩),.sl .full [],.sl .full []])))]<|rs 6 [.M 0,.C 77 [.t 7,ik 12],.M 0,.C 91 [.t 9,ik 200],.O (.bld [.sc (.string ⟨#[]⟩),.sl .full [],.sl .full []] [(0,(1,.t 8)),(1,(1,.t 10))]),.o 5 (.box 42 (.c (.agg [.sc (.string ⟨#[]⟩),.sl .full [],.sl .full []]))),.Z 3 5 11]<|ri 11 [.i .gtr 1 0] 13 (rs 13 [.N 1 5,.J 0]<|c123_1)<|rs 28 [.L 3 5,.M 1,.c 128 [29,30],.s 6]<|rs 31 [.M 0,.i .eql 6 0,.M 6,.c 74 [32,34,35]]<|rr 36 [.L 3 5,.Z 3 4 37]
def cf123:=kf0 123 Ztv [(.cell 3 true 4)] 38
def Ztm:Zar:=rs 3 [.O (.mv (.c (.sc (.string ⟨#[]⟩))))]<|ri 5 [.M 0,.c 84 [6],.u 7] 8 (rr 3 [.O (.mv (.c (.sc (.string ⟨#[]⟩))))])<|rk 8 [.i .lss 1 0,.h 10,.M 0,.k 12,.F 0 13,.O (.len true (.t 15)),.M 0,.k 17,.F 1 18,.b .sub 16 20,.M 1,.b .lss 21 22,.z] 24 (ry 24 [.M 0,.C 86 [.t 25,ik 3]])<|rt 26 [.M 0,.k 27,.F 0 28,.M 0,.k 31,.F 1 32,.M 0,.k 35,.F 1 36,.M 1,.b .add 38 39,.O (.slS (.t 30) (some (.t 34)) (some (.t 40))),.s 5]<|rs 41 [.M 0,.k 42,.F 1 43,.M 1,.b .add 45 46,.k 42,.f 1 48,.Z 1 49 47]<|rr 49 [.M 5,.s 4]
def cf124:=kf0 124 Ztm [.tmp 4] 51
def c130_1:Zar:=rv 0 25 [.M 7,.M 5,.b .lss 26 27] 28<|.seq (.blk 1<|ry 30 [.M 6,.O (.bin .shl (.t 31) (.c (.sc (.int .u64 8)))),.M 0,.M 7,.O (.ixs (.t 33) (.t 34)),.O (.cnv .u64 (.t 35)),.b .or 32 36,.s 6])<|ry 28 [.i .add 7 1,.s 7]
def Zgs:Zar:=rs 0 [.o 2 (.mv (.c (.sc (.int .u64 0)))),.j 3 0,.K 4]<|ri 7 [.M 0,.O (.bin .eql (.t 8) (.c (.sc (.string ⟨#[]⟩))))] 9 (rr 0 [.o 2 (.mv (.c (.sc (.int .u64 0)))),.j 3 0,.K 4])<|rs 9 [.M 0,.O (.ixs (.t 10) (ik 0)),.c 167 [11],.B .add 12 1,.s 5]<|ri 13 [.M 0,.O (.len true (.t 14)),.M 5,.b .lss 15 16] 17 (rr 0 [.o 2 (.mv (.c (.sc (.int .u64 0)))),.j 3 0,.K 4])<|rt 17 [.M 0,.O (.ixs (.t 18) (ik 0)),.M 5,.c 168 [20],.b .andNot 19 21,.O (.cnv .u64 (.t 22)),.s 6]<|ri 23 [.i .eql 5 9] 25 (ry 5 [.O (.mv (.c (.sc (.int .u64 0))))])<|.seq (rs 6 [.J 1]<|c130_1)<|ri 37 [.M 6,.c 169 [38],.M 5,.b .neq 39 40] 41 (rr 0 [.o 2 (.mv (.c (.sc (.int .u64 0)))),.j 3 0,.K 4])<|rr 41 [.M 6,.M 5,.m 2 42,.s 3,.T 4]
def ZKF:=kf0 130 Zgs [.tmp 2,.tmp 3,.tmp 4] 44
def Zds:Zar:=rs 1 [.J 0]<|rs 3 [.M 0,.O (.bin .shr (.t 4) (.c (.sc (.int .u64 1)))),.O (.cnv .i64 (.t 5)),.s 3]<|ri 6 [.M 0,.O (.bin .and (.t 7) (.c (.sc (.int .u64 1)))),.O (.bin .eql (.t 8) (.c (.sc (.int .u64 1))))] 9 (rr 9 [.M 3,.O (.un .xor (.t 10)),.s 2])<|rr 11 [.M 3,.s 2]
def cf131:=kf0 131 Zds [.tmp 2] 13
def ZmU:Zar:=rs 0 [.j 4 0,.K 5]<|rr 5 [.M 0,.M 1,.c 170 [6,7],.e 8 0,.e 8 1,.m 4 9,.s 5]
def cf132:=kf0 132 ZmU [.tmp 4,.tmp 5] 11
def ZHm:Zar:=rs 1 [.v 1 62 0,.O (.mv (ib false))]<|rr 2 [.F 1 1,.B .eql 4 0,.y 5,.F 2 1,.O (.bin .eql (.t 8) (.c (.sc (.string ⟨#[]⟩)))),.z,.y 10,.F 3 1,.O (.bin .eql (.t 13) (.c (.sc (.string ⟨#[]⟩)))),.z,.y 15,.N 4 1,.B .eql 19 0,.z,.s 2]
def cf138:=kf0 138 ZHm [.tmp 2] 22
def Zka:Zar:=rs 1 [.v 1 62 0,.J 0]<|ri 2 [.N 4 1,.B .gtr 5 0] 6 (rr 1 [.J 2])<|ri 6 [.F 2 1,.O (.len true (.t 8)),.B .gtr 9 16,.h 10,.F 3 1,.O (.len true (.t 13)),.B .gtr 14 16,.z] 16 (rr 1 [.J 5])<|rr 1 [.J 0]
def cf139:=kf0 139 Zka [.tmp 2] 17
def c140_1:Zar:=rl 0 27 28 (.t 26) 40<|.blk 1<|rs 28 [.Y 1 25 27,.s 7]<|rs 31 [.F 1 2,.M 7,.c 132 [33,34],.s 31,.e 31 0,.e 31 1,.m 8 36,.s 9]<|rs 37 [.M 9,.u 38]<|.cond (.t 39) (rr 3 [.J 13])<|.skip
def ZfC:Zar:=rs 3 [.v 2 42 0,.v 3 62 1,.J 0]<|ri 9 [.F 2 3,.O (.bin .neq (.t 11) (.c (.sc (.string ⟨#[]⟩)))),.h 12,.F 3 3,.O (.bin .neq (.t 15) (.c (.sc (.string ⟨#[]⟩)))),.z] 17 (rr 3 [.J 2])<|.seq (rs 17 [.F 4 3,.c 165 [19],.s 5]<|rs 20 [.i .neq 5 0]<|.cond (.t 22) (rr 22 [.M 5,.s 4])<|.skip)<|.seq (rs 23 [.N 4 3,.J 0]<|c140_1)<|rr 3 [.J 0]
def cf140:=kf0 140 ZfC [.tmp 4] 41
def c167_1:Zar:=rv 0 3 [.M 0,.O (.bin .and (.t 4) (.c (.sc (.int .u8 128)))),.O (.bin .neq (.t 5) (.c (.sc (.int .u8 0))))] 6<|.seq (.blk 1<|ry 8 [.i .add 3 1,.s 3])<|ry 6 [.M 0,.O (.bin .shl (.t 7) (.c (.sc (.int .u64 1)))),.s 0]
def ZgH:Zar:=rs 1 [.J 0]<|rs 2 [.J 0]<|.seq c167_1<|rr 10 [.M 3,.s 2]
def cf167:=kf0 167 ZgH [.tmp 2] 12
def c170_1:Zar:=rv 0 12 [.M 7,.M 8,.b .lss 13 14] 15<|.blk 1<|rs 15 [.M 7,.M 8,.b .add 16 17,.O (.cnv .u64 (.t 18)),.O (.bin .shr (.t 19) (.c (.sc (.int .u64 1)))),.O (.cnv .i64 (.t 20)),.s 9]<|rs 21 [.M 0,.M 9,.Y 1 22 23,.M 1,.c 196 [25,26]]<|.cond (.t 27) (ry 27 [.i .add 9 1,.s 7])<|ry 29 [.M 9,.s 8]
def Zln:Zar:=rs 0 [.j 4 0,.K 5]<|rs 9 [.R 0,.s 6]<|rs 6 [.s 12,.J 0,.M 12]<|.seq c170_1<|rr 30 [.M 7,.M 7,.M 6,.b .lss 32 33,.y 34,.M 0,.M 7,.Y 1 36 37,.M 1,.b .eql 39 40,.h 41,.M 0,.M 7,.Y 1 43 44,.c 197 [46],.y 47,.M 1,.c 197 [49],.z,.z,.z,.m 4 31,.s 5]
def cf170:=kf0 170 Zln [.tmp 4,.tmp 5] 54
def c196_0:Zar:=rs 0 [.K 4]<|rr 4 [.M 0,.c 208 [5],.y 6,.M 1,.c 208 [8],.u 9,.z,.h 11,.M 0,.M 1,.b .lss 13 14,.z,.s 4]
def cf196:=kf0 196 c196_0 [.tmp 4] 17
def c197_0:Zar:=rs 0 [.K 2]<|rr 2 [.M 0,.M 0,.b .neq 3 4,.s 2]
def cf197:=kf0 197 c197_0 [.tmp 2] 6
def c208_0:Zar:=rs 0 [.K 2]<|rr 2 [.M 0,.M 0,.b .neq 3 4,.s 2]
def cf208:=kf0 208 c208_0 [.tmp 2] 6
open Go.RowKit Go.Lib
open Go.RowKit Go.Lib
theorem Zxg {g:Gh} {H:Zaa} {w w':World} (hW:WR g H w) (hb:Below w.heap.size w w'):WR g H w'/\Stp g H w g H w':=by
 have hle:g.le g w w':=⟨fun _ _ h=>h,fun _ _ _ _ h=>⟨_,_,_,h,.inr ⟨rfl,rfl,rfl⟩⟩,fun _ _ _ h=>h,fun _ _ h=>h,fun b j h=>Zcb (hb.block b (hW.ro b j h)) j,Zyf hb.block,rfl⟩
 exact⟨⟨fun id o h=>(hW.obj id o h).mono hle (fun b h2=>hb.block b (hW.bd id o b h h2)) (fun _ _ _ h=>h) rfl rfl (fun _=>rfl),hW.inj,hW.dom,fun id o b h1 h2=>zaJ (hW.bd id o b h1 h2) hb.size,fun b j h=>zaJ (hW.ro b j h) hb.size⟩,
  ⟨hle,zad _,hb.os,hb.tape,hb.output,hb.size,fun b h _=>hb.block b h,fun _ _ h=>h,fun _ _ _ h=>.inl h⟩⟩
theorem ZFt:Zmq Tryz.prog 100:=⟨_,Tryz.func100,Xg,Xg⟩
theorem ZzY:Zmq Tryz.prog 45:=⟨_,Tryz.func45,Xg,Xg⟩
theorem ok_itoa:Zmq Tryz.prog 50:=⟨_,Tryz.func50,Xg,Xg⟩
theorem ZGy {g:Gh} {w:World} (a b:Value):VR g w (.tup [.sc a,.sc b]) (.tuple #[a,b]) :=
 .tup _ _ rfl fun i x u hx hu=>(VRs.scs (g:=g) (w:=w) [a,b]).2 i x u (by simpa using hx) (by simpa using hu)
theorem ZD4 (s:ByteArray) (v:Int) (H:Zaa) (hs:s.size<=1000000) (h:parseIntB 64 s.data.toList=.ok v):Zay Tryz.prog 100 [.sc (.string s),.i 10,.i 64] H (fun r H'=>r=.tup [.i v,.sc .nilIface]/\H'=H):=by
 refine⟨ZFt,fun g w vs hW hV hEn=>?_⟩
 obtain⟨v0,v1,v2,rfl⟩:∃v0 v1 v2,vs=[v0,v1,v2]:=by
  match vs,hV.1 with
  | [v0,v1,v2],_=>exact⟨v0,v1,v2,rfl⟩
 have h1:=hV.2 0 _ _ rfl rfl
 have h2:=hV.2 1 _ _ rfl rfl
 have h3:=hV.2 2 _ _ rfl rfl
 cases h1
 cases h2
 cases h3
 refine(Any.strconv_ParseInt_10_at64_ok ZDY s Xa v h w).mono fun e w' ⟨he,hb⟩=>?_
 have hb:Below w.heap.size w w':=by
  rcases hb with rfl|⟨t,rfl⟩
  ·exact Below.refl _ _
  ·exact bytesWorld_below _ _ _
 obtain⟨k1,k2⟩:=Zxg hW hb
 exact .inl ⟨_,_,_,g,he,⟨rfl,rfl⟩,ZGy _ _,k1,k2⟩
theorem ZEm (s:ByteArray) (H:Zaa) (hs:s.size<=1000000) (h:∀v,parseIntB 64 s.data.toList≠.ok v):Zay Tryz.prog 100 [.sc (.string s),.i 10,.i 64] H (fun r H'=>(∃n t p,r=.tup [.i n,.sc (.iface t p)])/\H'=H):=by
 refine⟨ZFt,fun g w vs hW hV hEn=>?_⟩
 obtain⟨v0,v1,v2,rfl⟩:∃v0 v1 v2,vs=[v0,v1,v2]:=by
  match vs,hV.1 with
  | [v0,v1,v2],_=>exact⟨v0,v1,v2,rfl⟩
 have h1:=hV.2 0 _ _ rfl rfl
 have h2:=hV.2 1 _ _ rfl rfl
 have h3:=hV.2 2 _ _ rfl rfl
 cases h1
 cases h2
 cases h3
 rcases hp:parseIntB 64 s.data.toList with v|_|_
 ·exact absurd hp (h v)
 ·obtain⟨t,p,ev⟩:=hEn.syn
  refine(Any.strconv_ParseInt_10_at64_syntax ZDY s Xa hp _ w ev (.inr ⟨_,_,rfl⟩)).mono fun e w' ⟨N,he,_,_,hb⟩=>?_
  obtain⟨k1,k2⟩:=Zxg hW hb
  exact .inl ⟨_,_,_,g,he,⟨⟨_,_,_,rfl⟩,rfl⟩,ZGy _ _,k1,k2⟩
 ·obtain⟨t,p,ev⟩:=hEn.rng
  refine(Any.strconv_ParseInt_10_at64_range ZDY s Xa hp _ w ev (.inr ⟨_,_,rfl⟩)).mono fun e w' ⟨N,he,_,_,hb⟩=>?_
  obtain⟨k1,k2⟩:=Zxg hW hb
  exact .inl ⟨_,_,_,g,he,⟨⟨_,_,_,rfl⟩,rfl⟩,ZGy _ _,k1,k2⟩
theorem Zzz (n:Int) (H:Zaa) (h0 : -9223372036854775808<=n) (h1:n<=9223372036854775807):Zay Tryz.prog 45 [.i n,.i 10] H (fun r H'=>r=eS (itoa n)/\H'=H):=by
 refine⟨ZzY,fun g w vs hW hV hEn=>?_⟩
 obtain⟨v0,v1,rfl⟩:∃v0 v1,vs=[v0,v1]:=by
  match vs,hV.1 with
  | [v0,v1],_=>exact⟨v0,v1,rfl⟩
 have q1:=hV.2 0 _ _ rfl rfl
 have q2:=hV.2 1 _ _ rfl rfl
 cases q1
 cases q2
 refine(Any.strconv_FormatInt_10 laysM173 n h0 h1 w hEn.tab).mono fun e w' ⟨he,k,os,hb⟩=>?_
 subst hb
 obtain⟨k1,k2⟩:=Zxg hW (below_grow _ w (zad _) k os)
 exact .inl ⟨_,_,_,g,he,⟨rfl,rfl⟩,.sc _,k1,k2⟩
theorem ZAB (n:Int) (H:Zaa) (h0 : -9223372036854775808<=n) (h1:n<=9223372036854775807):Zay Tryz.prog 50 [.i n] H (fun r H'=>r=eS (itoa n)/\H'=H):=by
 refine⟨ok_itoa,fun g w vs hW hV hEn=>?_⟩
 obtain⟨v0,rfl⟩:∃v0,vs=[v0]:=by
  match vs,hV.1 with
  | [v0],_=>exact⟨v0,rfl⟩
 have q1:=hV.2 0 _ _ rfl rfl
 cases q1
 refine(Any.strconv_Itoa laysM171 n h0 h1 w hEn.tab).mono fun e w' ⟨he,k,os,hb⟩=>?_
 subst hb
 obtain⟨k1,k2⟩:=Zxg hW (below_grow _ w (zad _) k os)
 exact .inl ⟨_,_,_,g,he,⟨rfl,rfl⟩,.sc _,k1,k2⟩
end Go.Proofs.YtdfgoekdlmkdfaaGreatDoor
