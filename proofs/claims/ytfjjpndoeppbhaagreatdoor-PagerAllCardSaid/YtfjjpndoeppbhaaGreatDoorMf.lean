/- Texts of the walk. -/
import Derived.Test.YtfjjpndoeppbhaaGreatDoorMd
import Derived.Test.YtfjjpndoeppbhaaGreatDoorMe
import Derived.Shelf.Strings.OnBuilder
import Derived.Shelf.Small.Strs
import Derived.Shelf.Strings.Count
import Derived.Lib.AppendIntMem
import Derived.Lib.AtoiErrMem
import Derived.Shelf.Strconv.Itoa4
namespace Go.Proofs.YtfjjpndoeppbhaaGreatDoor
set_option linter.defProp false
set_option maxHeartbeats 64000000
set_option linter.unusedSimpArgs false
set_option linter.unusedVariables false
open Go.RowKit
inductive Tr (α:Type) where
 | e
 | n (v:α) (l r:Tr α)
theorem ZwX (s:ByteArray) (l h:Nat):(⟨⟨(s.data.toList.drop l).take (h - l)⟩⟩:ByteArray)=s.extract l h:=by
 apply zcm
 apply Array.toList_inj.1
 rw[zch,Array.toList_extract]
abbrev TF:=Tr AV
section
variable {T:TF} {F:Fr}
end
abbrev TH:=Tr (Option Zb3)
abbrev Zwq:=FuncId->List AV->(AV->TH->Nat->Bool)->TH->Nat->Bool
section
variable {P:Prg} {call:Zwq}
end
def eqE:TypeId->Option (List SK):=fun t=>if t=41 then some (List.replicate 6 (.int .i64)) else if t=125 then some [.int .i64,.str] else none
def eqT:EqT:=⟨eqE,fun _=>false⟩
theorem ZcL:∀{n:Nat} {xs:List Value},xs.length=n->(∀(i:Nat) (k:SK) (x:Value),(List.replicate n (SK.int .i64))[i]?=some k->xs[i]?=some x->k.is x=true)->∃l:List Int,xs=l.map (Value.int .i64)/\l.length=n
 | 0,xs,h,_=>⟨[],by simpa using h,rfl⟩
 | n+1,[],h,_=>by simp at h
 | n+1,x :: xs,h,hk=>by
  obtain⟨l,h1,h2⟩:=ZcL (n:=n) (xs:=xs) (by simpa using h) (fun i k y a b=>hk (i+1) k y (by simpa [List.replicate_succ] using a) (by simpa using b))
  have:=hk 0 (.int .i64) x (by simp[List.replicate_succ]) Xc
  cases x with
  | int k a =>
   simp[SK.is]at this
   subst this
   exact⟨a :: l,by simp[h1],by simp[h2]⟩
  | _=>simp[SK.is]at this
theorem Zda:∀{l m:List Int},l.length=m.length->ZgE (l.map (Value.int .i64)) (m.map (Value.int .i64))=decide (l=m)
 | [],[],_=>rfl
 | a :: l,b :: m,h=>by
  have ih:=Zda (l:=l) (m:=m) (by simpa using h)
  simp only[zaD,ZgE,vEq,ih]
  by_cases h1:a=b<;>by_cases h2:l=m<;>simp[h1,h2]
 | [],_ :: _,h=>by simp at h
 | _ :: _,[],h=>by simp at h
theorem ZfM (b:Bool) (d:Nat) (w:World) (a:Int):(Instr.checkKey b (d+1) 3 (.int .i64 a)).run Tryz.prog w=.ok () w:=by
 unfold Instr.checkKey
 simp[run_underlying Tryz.underlying3]
theorem ba_dec (a b:ByteArray):(a == b)=decide (a=b):=by rw[zbQ,Zmh];simp
theorem ba_tl (a b:ByteArray):(a.toList=b.toList)=(a=b):=propext ⟨fun h=>by rw[ByteArray.toList_eq,ByteArray.toList_eq]at h;exact zcm (Array.toList_inj.1 h),fun h=>by rw[h]⟩
theorem chk_str (b:Bool) (d:Nat) (w:World) (a:ByteArray):(Instr.checkKey b (d+1) 9 (.string a)).run Tryz.prog w=.ok () w:=by
 unfold Instr.checkKey
 simp[run_underlying Tryz.underlying9]
theorem ZfQ (b:Bool) (d:Nat) (w:World) (a:Int):(Instr.checkKey b (d+1) 2 (.int .i64 a)).run Tryz.prog w=.ok () w:=by
 unfold Instr.checkKey
 simp[run_underlying Tryz.underlying2]
set_option maxRecDepth 100000 in
theorem eq_root (d:Nat) (w:World) (a0 a1 a2 a3 a4 a5 b0 b1 b2 b3 b4 b5:Int):(Op.equalIn (d+2) 41 (.agg #[.int .i64 a0,.int .i64 a1,.int .i64 a2,.int .i64 a3,.int .i64 a4,.int .i64 a5]) (.agg #[.int .i64 b0,.int .i64 b1,.int .i64 b2,.int .i64 b3,.int .i64 b4,.int .i64 b5])).run Tryz.prog w=.ok (decide (a0=b0/\a1=b1/\a2=b2/\a3=b3/\a4=b4/\a5=b5)) w:=by
 rw[run_equalIn_struct w (d+1) _ _ _ Xg Xg]
 by_cases h0:a0=b0<;>by_cases h1:a1=b1<;>by_cases h2:a2=b2<;>by_cases h3:a3=b3<;>by_cases h4:a4=b4<;>by_cases h5:a5=b5<;>simp[go_sem,h0,h1,h2,h3,h4,h5]
set_option maxRecDepth 100000 in
theorem chk_root (b:Bool) (d:Nat) (w:World) (a0 a1 a2 a3 a4 a5:Int):(Instr.checkKey b (d+2) 41 (.agg #[.int .i64 a0,.int .i64 a1,.int .i64 a2,.int .i64 a3,.int .i64 a4,.int .i64 a5])).run Tryz.prog w=.ok () w:=by
 unfold Instr.checkKey
 simp[run_underlying Tryz.underlying41,go_sem,ZfM,ZfQ]
theorem list6 {l:List Int} (h:l.length=6):∃a b c d e f,l=[a,b,c,d,e,f]:=by
 match l,h with
 | [a,b,c,d,e,f],_=>exact⟨a,b,c,d,e,f,rfl⟩
set_option maxRecDepth 100000 in
theorem eq_put (d:Nat) (w:World) (a0 b0:ByteArray) (a1 b1:Int):(Op.equalIn (d+2) 125 (.agg #[.int .i64 a1,.string a0]) (.agg #[.int .i64 b1,.string b0])).run Tryz.prog w=.ok ((a1 == b1)&&(a0 == b0)) w:=by
 rw[run_equalIn_struct w (d+1) _ _ _ Xg Xg]
 by_cases h0:a0=b0<;>by_cases h1:a1=b1<;>simp[go_sem,h0,h1,ba_dec,ba_tl]
set_option maxRecDepth 100000 in
theorem chk_put (b:Bool) (d:Nat) (w:World) (a0:ByteArray) (a1:Int):(Instr.checkKey b (d+2) 125 (.agg #[.int .i64 a1,.string a0])).run Tryz.prog w=.ok () w:=by
 unfold Instr.checkKey
 simp[run_underlying Tryz.underlying125,go_sem,ZfM,chk_str]
theorem hE:∀t ks,eqT t=some ks->Ziv Tryz.prog t ks:=by
 intro t ks h
 have h:eqE t=some ks:=h
 unfold eqE at h
 split at h
 ·rename_i e
  subst e
  injection h with h
  subst h
  intro xs ys h1 h2 h3 h4 w
  obtain⟨l,rfl,hl⟩:=ZcL (by simpa using h1) h3
  obtain⟨m,rfl,hm⟩:=ZcL (by simpa using h2) h4
  obtain⟨a0,a1,a2,a3,a4,a5,rfl⟩:=list6 hl
  obtain⟨c0,c1,c2,c3,c4,c5,rfl⟩:=list6 hm
  refine⟨?_,fun b=>chk_root b 9998 w a0 a1 a2 a3 a4 a5⟩
  rw[Zda Xc]
  refine(eq_root 9998 w a0 a1 a2 a3 a4 a5 c0 c1 c2 c3 c4 c5).trans ?_
  congr 1
  simp
 ·rename_i _
  split at h
  ·rename_i e
   subst e
   injection h with h
   subst h
   intro xs ys h1 h2 h3 h4 w
   obtain⟨x0,x1,rfl⟩:∃a b,xs=[a,b]:=by
    match xs,h1 with
    | [a,b],_=>exact⟨a,b,rfl⟩
   obtain⟨y0,y1,rfl⟩:∃a b,ys=[a,b]:=by
    match ys,h2 with
    | [a,b],_=>exact⟨a,b,rfl⟩
   obtain⟨a0,rfl⟩:∃s,x1=.string s:=by
    have:=h3 1 .str x1 rfl rfl
    cases x1<;>simp[SK.is]at this
    exact⟨_,rfl⟩
   obtain⟨b0,rfl⟩:∃s,y1=.string s:=by
    have:=h4 1 .str y1 rfl rfl
    cases y1<;>simp[SK.is]at this
    exact⟨_,rfl⟩
   obtain⟨a1,rfl⟩:∃s,x0=.int .i64 s:=by
    have:=h3 0 (.int .i64) x0 rfl rfl
    cases x0<;>simp[SK.is]at this
    subst this
    exact⟨_,rfl⟩
   obtain⟨b1,rfl⟩:∃s,y0=.int .i64 s:=by
    have:=h4 0 (.int .i64) y0 rfl rfl
    cases y0<;>simp[SK.is]at this
    subst this
    exact⟨_,rfl⟩
   refine⟨?_,fun b=>chk_put b 9998 w a0 a1⟩
   refine(eq_put 9998 w a0 b0 a1 b1).trans ?_
   simp[ZgE,vEq]
  ·cases h
def za0:AV:=.agg [.sc (.int .i64 0),.sc (.int .i64 0),.sc (.int .i64 0),.sc (.string ⟨#[]⟩),.sc (.string ⟨#[]⟩),.sl .full []]
def zl1:List AV:=[.sc (.int .i64 0),.sc (.int .i64 0),.sc (.int .i64 0),.sc (.string ⟨#[]⟩),.sc (.string ⟨#[]⟩),.sl .full []]
def za2:AV:=.agg [.sc (.int .i64 0),.sc (.int .i64 0),.sc (.int .i64 0),.sc (.int .i64 0),.sc (.int .i64 0),.sc (.int .i64 0)]
def zl3:List AV:=[.sl .full [],.sl .full [],.sc (.bool false),.sc (.int .i64 0),.sc (.int .i64 0),.sc (.int .i64 0)]
def zl4:List AV:=[.sc (.pointer none),.sc (.pointer none),.sl .full [],.sl .full [],.sc (.bool false),.sc (.int .i64 0),.sc (.int .i64 0),.sc (.int .i64 0),.sc (.int .i64 0),.sc (.int .i64 0),.sc (.int .i64 0),.sc (.int .i64 0),.sc (.int .i64 0),.sc (.int .i64 0),.sl .full [],.sl .full [],.sc (.bool false)]
def zl5:List AV:=[.sl .full [],.sl .full [],.sc (.int .i64 0),.sc (.int .i64 0),.sc (.int .i64 0),.sc (.bool false)]
def zl6:List AV:=[.sc (.pointer none),.sc (.int .i64 0),.sc (.int .i64 0),.sc (.int .i64 0),.sc (.int .i64 0),.sc (.int .i64 0),.sc (.int .i64 0),.sl .full [],.sl .full [],.sc (.pointer none),.sc (.pointer none),.sc (.int .i64 0),.sc (.bool false)]
def zl7:List AV:=[.sc (.int .i64 0),.sc (.int .i64 0),.sc (.int .i64 0),.sc (.int .i64 0),.sc (.int .i64 0),.sc (.int .i64 0)]
def za8:AV:=.agg [.sc (.int .i64 0),.sc (.int .i64 0),.sc (.int .i64 0),.sc (.int .i64 0),.sc (.int .i64 0),.sc (.int .i64 0),.sl .full [],.sl .full []]
def zl9:List AV:=[.sc (.int .i64 0),.sc (.int .i64 0),.sc (.int .i64 0),.sc (.int .i64 0),.sc (.int .i64 0),.sc (.int .i64 0),.sl .full [],.sl .full []]
def zl10:List AV:=[.sc (.int .i64 0),.sl .full [],.sc (.map none),.sc (.int .i64 0),.sc (.int .i64 0)]
def za11:AV:=.agg [.sl .full [],.sl .full [],.sc (.bool false),.sc (.int .i64 0),.sc (.int .i64 0),.sc (.int .i64 0)]
def za12:AV:=.agg [.sc (.string ⟨#[]⟩),.sc (.int .i64 0),.sc (.int .i64 0)]
def zl13:List AV:=[.sc (.int .i64 0),.sc (.int .i64 0),.sc (.int .i64 0),.sc (.int .i64 0),.sc (.int .i64 0)]
def za14:AV:=.agg [.sc (.int .u8 0),.sc (.int .u8 0),.sc (.int .u8 0),.sc (.int .u8 0),.sc (.int .u8 0),.sc (.int .u8 0)]
def za15:AV:=.agg [.sc (.bool false),.sc (.bool false),.sc (.bool false),.sc (.bool false),.sc (.bool false),.sc (.bool false),.sc (.bool false),.sc (.bool false),.sc (.bool false),.sc (.bool false),.sc (.bool false),.sc (.bool false),.sc (.bool false),.sc (.bool false),.sc (.bool false),.sc (.bool false),.sc (.bool false),.sc (.bool false),.sc (.bool false),.sc (.bool false),.sc (.bool false),.sc (.bool false),.sc (.bool false),.sc (.bool false),.sc (.bool false),.sc (.bool false),.sc (.bool false),.sc (.bool false),.sc (.bool false),.sc (.bool false),.sc (.bool false),.sc (.bool false),.sc (.bool false),.sc (.bool false),.sc (.bool false),.sc (.bool false),.sc (.bool false),.sc (.bool false),.sc (.bool false),.sc (.bool false),.sc (.bool false),.sc (.bool false),.sc (.bool false),.sc (.bool false),.sc (.bool false),.sc (.bool false),.sc (.bool false),.sc (.bool false),.sc (.bool false),.sc (.bool false),.sc (.bool false),.sc (.bool false),.sc (.bool false),.sc (.bool false),.sc (.bool false),.sc (.bool false),.sc (.bool false),.sc (.bool false),.sc (.bool false),.sc (.bool false),.sc (.bool false),.sc (.bool false),.sc (.bool false),.sc (.bool false),.sc (.bool false),.sc (.bool false),.sc (.bool false),.sc (.bool false),.sc (.bool false),.sc (.bool false),.sc (.bool false),.sc (.bool false),.sc (.bool false),.sc (.bool false),.sc (.bool false),.sc (.bool false),.sc (.bool false),.sc (.bool false),.sc (.bool false),.sc (.bool false),.sc (.bool false),.sc (.bool false),.sc (.bool false),.sc (.bool false),.sc (.bool false),.sc (.bool false),.sc (.bool false),.sc (.bool false),.sc (.bool false),.sc (.bool false),.sc (.bool false),.sc (.bool false),.sc (.bool false),.sc (.bool false),.sc (.bool false),.sc (.bool false),.sc (.bool false),.sc (.bool false),.sc (.bool false),.sc (.bool false),.sc (.bool false),.sc (.bool false),.sc (.bool false),.sc (.bool false),.sc (.bool false),.sc (.bool false),.sc (.bool false),.sc (.bool false),.sc (.bool false),.sc (.bool false),.sc (.bool false),.sc (.bool false),.sc (.bool false),.sc (.bool false),.sc (.bool false),.sc (.bool false),.sc (.bool false),.sc (.bool false),.sc (.bool false),.sc (.bool false),.sc (.bool false),.sc (.bool false),.sc (.bool false),.sc (.bool false),.sc (.bool false),.sc (.bool false),.sc (.bool false),.sc (.bool false),.sc (.bool false),.sc (.bool false),.sc (.bool false),.sc (.bool false),.sc (.bool false),.sc (.bool false),.sc (.bool false),.sc (.bool false),.sc (.bool false),.sc (.bool false),.sc (.bool false),.sc (.bool false),.sc (.bool false),.sc (.bool false),.sc (.bool false),.sc (.bool false),.sc (.bool false),.sc (.bool false),.sc (.bool false),.sc (.bool false),.sc (.bool false),.sc (.bool false),.sc (.bool false),.sc (.bool false),.sc (.bool false),.sc (.bool false),.sc (.bool false),.sc (.bool false),.sc (.bool false),.sc (.bool false),.sc (.bool false),.sc (.bool false),.sc (.bool false),.sc (.bool false),.sc (.bool false),.sc (.bool false),.sc (.bool false),.sc (.bool false),.sc (.bool false),.sc (.bool false),.sc (.bool false),.sc (.bool false),.sc (.bool false),.sc (.bool false),.sc (.bool false),.sc (.bool false),.sc (.bool false),.sc (.bool false),.sc (.bool false),.sc (.bool false),.sc (.bool false),.sc (.bool false),.sc (.bool false),.sc (.bool false),.sc (.bool false),.sc (.bool false),.sc (.bool false),.sc (.bool false),.sc (.bool false),.sc (.bool false),.sc (.bool false),.sc (.bool false),.sc (.bool false),.sc (.bool false),.sc (.bool false),.sc (.bool false),.sc (.bool false),.sc (.bool false),.sc (.bool false),.sc (.bool false),.sc (.bool false),.sc (.bool false),.sc (.bool false),.sc (.bool false),.sc (.bool false),.sc (.bool false),.sc (.bool false),.sc (.bool false),.sc (.bool false),.sc (.bool false),.sc (.bool false),.sc (.bool false),.sc (.bool false),.sc (.bool false),.sc (.bool false),.sc (.bool false),.sc (.bool false),.sc (.bool false),.sc (.bool false),.sc (.bool false),.sc (.bool false),.sc (.bool false),.sc (.bool false),.sc (.bool false),.sc (.bool false),.sc (.bool false),.sc (.bool false),.sc (.bool false),.sc (.bool false),.sc (.bool false),.sc (.bool false),.sc (.bool false),.sc (.bool false),.sc (.bool false),.sc (.bool false),.sc (.bool false),.sc (.bool false),.sc (.bool false),.sc (.bool false),.sc (.bool false),.sc (.bool false),.sc (.bool false),.sc (.bool false),.sc (.bool false),.sc (.bool false),.sc (.bool false),.sc (.bool false),.sc (.bool false),.sc (.bool false),.sc (.bool false),.sc (.bool false),.sc (.bool false),.sc (.bool false),.sc (.bool false),.sc (.bool false),.sc (.bool false),.sc (.bool false),.sc (.bool false)]
def za16:AV:=.agg [.sc (.int .u8 0),.sc (.int .u8 0),.sc (.int .u8 0),.sc (.int .u8 0),.sc (.int .u8 0),.sc (.int .u8 0),.sc (.int .u8 0),.sc (.int .u8 0),.sc (.int .u8 0)]
def za17:AV:=.agg [.sc (.int .u32 0),.sc (.int .u32 0),.sc (.int .u32 0),.sc (.int .u32 0),.sc (.int .u32 0),.sc (.int .u32 0),.sc (.int .u32 0),.sc (.int .u32 0),.sc (.int .u32 0),.sc (.int .u32 0),.sc (.int .u32 0),.sc (.int .u32 0),.sc (.int .u32 0),.sc (.int .u32 0),.sc (.int .u32 0),.sc (.int .u32 0)]
def YZ:=an7 za0.eq_1<|an7 zl1.eq_1<|an7 za2.eq_1<|an7 zl3.eq_1<|an7 zl4.eq_1<|an7 zl5.eq_1<|an7 zl6.eq_1<|an7 zl7.eq_1<|an7 za8.eq_1<|an7 zl9.eq_1<|an7 zl10.eq_1<|an7 za11.eq_1<|an7 za12.eq_1<|an7 zl13.eq_1<|an7 za14.eq_1<|an7 za15.eq_1<|an7 za16.eq_1<|za17.eq_1
def c3_1:Zar:=rl 0 51 52 (.t 50) 194<|.blk 1<|rs 52 [.X 6 49 51,.o 15 (.box 35 (.c za0)),.Z 6 15 54]<|.blk 2<|rs 55 [.F 0 15,.B .eql 57 1,.y 58,.M 13,.O (.eqn 0 false (.t 60) (.c (.sc (.pointer none)))),.z,.s 55]<|.cond (.t 55) (rs 62 [.M 7,.F 3 15,.F 4 15,.F 1 15,.c 12 [63,65,67,69],.s 16]<|ri 70 [.i .eql 16 0] 72 (rd 72 [.F 3 15,.F 4 15,.F 1 15,.i .add 12 1,.m 9 74,.m 10 76,.m 11 78,.s 12])<|rs 80 [.i .eql 16 8]<|.cond (.t 82) (ry 82 [.F 3 15,.F 4 15,.F 1 15,.O (.bld zl1 [(3,(1,.t 84)),(4,(1,.t 86)),(1,(1,.t 88))]),.O (.box 35 (.t 89)),.s 13])<|.skip)<|rs 91 [.F 0 15,.B .eql 93 5,.s 91]<|.cond (.t 91) (ry 94 [.M 5,.F 1 15,.c 13 [95,97]])<|rs 99 [.F 0 15,.B .eql 101 6,.s 99]<|.cond (.t 99) (rs 102 [.M 5,.F 5 15,.F 1 15,.F 2 15,.c 14 [103,105,107,109]]<|rs 110 [.M 5,.c 15 [111]]<|rs 113 [.M 5,.c 16 [114],.s 113,.e 113 0,.e 113 1,.e 113 2,.e 113 3,.o 19 (.box 41 (.c za2)),.m 17 116,.m 18 117,.Z 6 19 118,.s 20]<|rk 119 [.M 13,.O (.eqn 0 true (.t 120) (.c (.sc (.pointer none)))),.y 121,.M 20,.z,.y 124,.F 0 19,.i .add 12 1,.b .eql 127 129,.z,.y 131,.M 17,.M 13,.k 134,.F 3 135,.b .eql 133 137,.z,.y 139,.M 18,.M 13,.k 142,.F 4 143,.b .eql 141 145,.z,.y 147,.F 5 19,.M 13,.k 151,.F 1 152,.b .eql 150 154,.z] 156 (rd 156 [.M 17,.M 18,.F 5 19,.F 0 19,.m 9 157,.m 10 158,.m 11 160,.s 12])<|ri 162 [.M 20,.u 163,.h 164,.M 17,.M 9,.b .neq 166 167,.z,.h 169,.M 18,.M 10,.b .neq 171 172,.z,.h 174,.F 0 19,.M 12,.b .neq 177 178,.z,.h 180,.F 5 19,.M 11,.b .neq 183 184,.z] 186 (rr 0 [.K 4])<|rs 12 [.O (.mv (.c (.sc (.pointer none))))]<|rs 187 [.M 5,.c 11 [188],.s 187,.e 187 0,.e 187 1,.m 7 190,.s 8]<|rs 191 [.i .neq 8 0]<|.cond (.t 193) (rr 0 [.K 4])<|.skip)<|.skip
def Zxe:Zar:=rs 0 [.K 4]<|ri 20 [.i .lss 0 16,.h 22,.i .gtr 0 60,.z,.h 26,.M 1,.c 8 [28],.u 29,.z] 31 (rr 31 [.c 9 [],.s 4])<|rs 33 [.M 0,.c 10 [34],.s 33,.e 33 0,.e 33 1,.m 5 36,.s 6]<|rs 38 [.M 5,.c 11 [39],.s 38,.e 38 0,.e 38 1,.m 7 41,.s 8]<|ri 42 [.i .neq 8 0,.h 44,.M 7,.O (.eqn 0 false (.t 46) (.c (.sc (.pointer none)))),.z] 48 (rr 0 [.K 4])<|rs 8 [.O (.mv (.c (.sc (.string ⟨#[]⟩)))),.O (.mv (.c (.sc (.string ⟨#[]⟩)))),.J 0,.J 0]<|rs 12 [.O (.mv (.c (.sc (.pointer none))))]<|.seq (rs 48 [.R 1,.J 0]<|c3_1)<|rr 194 [.c 9 [],.s 4]
theorem kf0 (f:FuncId) (c:Zar) (r:List Zcq) (n:Nat) (h:cFn Tryz.prog eqT f=some (c,r,n):=by kernel_rfl):cFn Tryz.prog eqT f=some (c,r,n):=h
def cf3:=kf0 3 Zxe [.tmp 4] 196
def c8_1:Zar:=rv 0 4 [.M 4,.R 0,.b .lss 5 7,.y 8,.i .leq 4 20,.z] 12<|.seq (.blk 1<|rd 14 [.M 3,.M 0,.M 4,.x 6 16 17,.F 3 18,.O (.len true (.t 20)),.O (.mm false (.t 21) (ik 20000)),.M 0,.M 4,.x 6 23 24,.F 4 25,.O (.len true (.t 27)),.O (.mm false (.t 28) (ik 20000)),.b .add 22 29,.M 0,.M 4,.x 6 31 32,.N 5 33,.O (.mm false (.t 36) (ik 20000)),.b .add 30 37,.b .add 15 38,.s 3])<|ry 12 [.i .add 4 1,.s 4]
def Ztx:Zar:=rs 0 [.K 2]<|rs 2 [.J 0]<|.seq (rs 3 [.J 0]<|c8_1)<|rr 39 [.R 0,.B .leq 41 20,.y 42,.i .leq 3 20000,.z,.s 2]
def cf8:=kf0 8 Ztx [.tmp 2] 47
def Zq4:Zar:=rs 0 [.K 0]<|rs 7 [.C 10 [ik 16],.s 7,.e 7 0,.e 7 1,.m 1 9,.s 2]<|rs 11 [.M 1,.c 11 [12],.s 11,.e 11 0,.e 11 1,.m 3 14,.s 4]<|ri 15 [.M 3,.O (.eqn 0 false (.t 16) (.c (.sc (.pointer none)))),.h 17,.i .neq 4 0,.z,.h 21,.M 3,.c 20 [23],.z,.h 25,.M 3,.C 12 [.t 27,.c (.sc (.string ⟨#[99]⟩)),.c (.sc (.string ⟨#[]⟩)),ik 0],.B .neq 28 0,.z] 30 (rr 0 [.K 0])<|rs 31 [.M 3,.c 45 [32],.s 31,.e 31 0,.e 31 1,.m 5 34,.s 6]<|rr 35 [.C 46 [ik 1,ik 0],.B .eql 36 2,.y 37,.M 3,.c 22 [39],.B .eql 40 5,.z,.y 42,.M 5,.O (.bin .eql (.t 44) (.c (.sc (.string ⟨#[99]⟩)))),.z,.y 46,.i .eql 6 0,.z,.y 50,.M 3,.c 21 [52],.O (.fld 0 1 false (.t 53)),.B .eql 54 1,.z,.s 0]
def cf9:=kf0 9 Zq4 [.tmp 0] 57
def ZkB:Zar:=rs 1 [.O (.mv (.c (.sc (.pointer none)))),.J 0]<|ri 3 [.M 0,.c 47 [4],.u 5] 6 (rr 1 [.O (.mv (.c (.sc (.pointer none)))),.J 2])<|rr 6 [.c 49 [],.S 1 7,.M 0,.c 48 [8,9],.O (.bld zl5 [(0,(1,.t 10))]),.O (.box 100 (.t 11)),.s 2,.j 3 0]
def cf10:=kf0 10 ZkB [.tmp 2,.tmp 3] 13
def ZlE:Zar:=rs 1 [.O (.mv (.c (.sc (.pointer none)))),.J 0]<|ri 9 [.M 0,.c 50 [10],.B .eql 11 0] 12 (rr 1 [.O (.mv (.c (.sc (.pointer none)))),.J 1])<|rs 13 [.M 0,.c 51 [14],.s 13,.e 13 0,.e 13 1,.e 13 2,.m 4 16,.m 5 17,.s 6]<|ri 18 [.i .neq 6 0] 20 (rr 20 [.M 6,.o 2 (.mv (.c (.sc (.pointer none)))),.s 3])<|rs 0 [.s 22,.o 23 (.bld zl6 [(0,(1,.t 22))]),.v 24 106 23,.m 7 24]<|rs 25 [.M 7,.M 0,.c 50 [27],.c 53 [28],.c 52 [29],.s 25,.e 25 0,.e 25 1,.k 26,.f 9 33,.Z 1 34 31]<|rs 35 [.M 7,.C 54 [ik 8],.s 35,.e 35 0,.e 35 1,.k 36,.f 10 40,.Z 1 41 38]<|rs 42 [.M 4,.M 5,.c 55 [43,44],.s 42,.e 42 0,.e 42 1,.o 8 (.box 41 (.c za2)),.Z 6 8 46,.s 9]<|ri 47 [.M 9,.u 48] 49 (rr 49 [.M 7,.s 2,.j 3 0])<|rs 50 [.M 7,.L 6 8,.k 51,.f 1 53,.Z 6 54 52]<|.seq (rs 55 [.M 7,.M 7,.F 2 8,.F 1 8,.M 7,.O (.mkf 57 [.t 62] []),.c 56 [59,61,63],.s 55,.e 55 0,.e 55 1,.e 55 2,.k 56,.f 7 68,.Z 1 69 65,.k 57,.f 8 70,.Z 1 71 66,.m 6 67]<|rs 71 [.i .neq 6 0]<|.cond (.t 73) (rr 73 [.M 6,.o 2 (.mv (.c (.sc (.pointer none)))),.s 3])<|.skip)<|.seq (.seq (.drw [ip (im 75 7),ip (io 76 (.nck (.t 75))),ip (io 77 (.fla 9 (.t 76))),ip (io 78 (.ld 1 false (.t 77))),ip (im 79 7),ip (io 80 (.nck (.t 79))),ip (io 81 (.fla 7 (.t 80))),ip (io 82 (.ld 1 false (.t 81))),ip (im 83 7),ip (io 84 (.nck (.t 83))),ip (io 85 (.fla 8 (.t 84))),ip (io 86 (.ld 1 false (.t 85))),ip (io 87 (.bsl 1 [.t 82,.t 86])),(io 88 (.call (jf 59) [.t 87]),[io 78 (.ld 1 false (.t 77))]),ip (io 89 (.call (jf 58) [.t 78,.t 88])),ip (io 90 (.bin .neq (.t 89) (ik 0)))])<|.cond (.t 90) (rr 1 [.O (.mv (.c (.sc (.pointer none)))),.J 15])<|.skip)<|rr 90 [.M 7,.s 2,.j 3 0]
def cf11:=kf0 11 ZlE [.tmp 2,.tmp 3] 92
def Zca:Zar:=rs 7 [.J 0]<|.seq (rs 19 [.M 0,.c 60 [20],.s 9]<|rs 21 [.i .neq 9 0,.y 23,.i .neq 9 10,.z]<|.cond (.t 27) (rr 27 [.M 9,.s 8])<|.skip)<|.seq (.drw [ip (im 29 0),ip (io 30 (.nck (.t 29))),ip (io 31 (.fla 1 (.t 30))),ip (io 32 (.fla 0 (.t 31))),ip (io 33 (.ld 1 false (.t 32))),ip (io 34 (.bin .add (.t 33) (ik 1))),ip (im 35 1),ip (io 36 (.len true (.t 35))),ip (im 38 2),ip (io 39 (.len true (.t 38))),ip (im 42 1),ip (io 43 (.len true (.t 42))),ip (im 44 2),ip (io 45 (.len true (.t 44))),ip (im 46 3),(io 37 (.call (jf 61) [.t 36]),[io 33 (.ld 1 false (.t 32))]),(io 40 (.call (jf 61) [.t 39]),[io 33 (.ld 1 false (.t 32))]),ip (io 41 (.bin .add (.t 37) (.t 40))),ip (io 47 (.bld zl7 [(0,(1,.t 34)),(1,(1,.t 41)),(3,(1,.t 43)),(4,(1,.t 45)),(5,(1,.t 46))])),ip (io 10 (.box 41 (.c za2))),ip (iz (.st 6 (.t 10) (.t 47)))])<|.seq (.blk 0<|rs 48 [.F 0 10,.B .gtr 50 1099511627776,.s 48]<|.cond (.t 48) (rr 7 [.J 5])<|.seq (.drw [ip (im 53 1),ip (io 54 (.len true (.t 53))),ip (im 55 2),ip (io 56 (.len true (.t 55))),ip (im 58 0),ip (io 59 (.nck (.t 58))),ip (io 60 (.fla 9 (.t 59))),ip (io 61 (.ld 1 false (.t 60))),(io 57 (.call (jf 46) [.t 54,.t 56]),[io 61 (.ld 1 false (.t 60))]),ip (io 62 (.call (jf 62) [.t 61])),ip (io 63 (.bin .gtr (.t 57) (.t 62))),ip (im 52 63)])<|.cond (.t 52) (rr 7 [.J 7])<|rs 64 [.L 6 10,.c 63 [65],.B .neq 66 0,.s 64]<|.cond (.t 64) (rr 7 [.J 2])<|.skip)<|.seq (.drw [ip (im 69 0),ip (io 70 (.nck (.t 69))),ip (io 71 (.fla 9 (.t 70))),ip (io 72 (.ld 1 false (.t 71))),ip (im 73 1),ip (io 74 (.len true (.t 73))),ip (im 75 2),ip (io 76 (.len true (.t 75))),(io 77 (.call (jf 46) [.t 74,.t 76]),[io 72 (.ld 1 false (.t 71))]),ip (io 78 (.call (jf 64) [.t 72,.t 77])),ip (im 68 78),ip (io 79 (.ext (.t 68) 0)),ip (io 80 (.ext (.t 68) 1)),ip (im 11 79),ip (im 12 80)])<|rs 80 [.F 1 10,.c 65 [82],.s 13]<|rt 83 [.M 11,.M 13,.M 13,.O (.slc 1 (.t 84) none (some (.t 85)) (some (.t 86))),.M 11,.M 13,.O (.slc 1 (.t 88) (some (.t 89)) none none),.m 14 87,.s 15]<|rs 90 [.M 14,.O (.ixa 1 (.t 91) (ik 0)),.l 1 92,.f 2 10,.Z 1 94 93]<|rs 95 [.M 1,.M 2,.M 14,.M 15,.c 66 [96,97,98,99],.s 95,.e 95 0,.e 95 1,.e 95 2,.m 16 101,.m 17 102,.s 18]<|ri 103 [.i .neq 18 0] 105 (rr 105 [.M 18,.s 8])<|.seq (rs 106 [.M 0,.L 6 10,.M 14,.M 15,.M 16,.M 17,.c 67 [107,108,109,110,111,112],.s 19]<|rs 113 [.i .neq 19 0]<|.cond (.t 115) (rs 115 [.M 0,.k 116,.f 12 117,.w (.st 1 (.t 118) (ib true))]<|rr 118 [.M 19,.s 8])<|.skip)<|rs 119 [.M 0,.k 120,.F 9 121,.M 11,.c 58 [123,124]]<|.seq (.drw [ip (im 126 0),ip (io 127 (.nck (.t 126))),ip (io 128 (.fla 9 (.t 127))),ip (io 129 (.ld 1 false (.t 128))),ip (im 130 0),ip (io 131 (.nck (.t 130))),ip (io 132 (.fla 7 (.t 131))),ip (io 133 (.ld 1 false (.t 132))),ip (im 134 0),ip (io 135 (.nck (.t 134))),ip (io 136 (.fla 8 (.t 135))),ip (io 137 (.ld 1 false (.t 136))),ip (io 138 (.bsl 1 [.t 133,.t 137])),(io 139 (.call (jf 59) [.t 138]),[io 129 (.ld 1 false (.t 128))]),ip (io 140 (.call (jf 68) [.t 129,.t 139]))])<|rs 140 [.M 0,.M 0,.M 0,.L 6 10,.M 14,.M 15,.k 141,.f 1 147,.Z 6 148 144,.k 142,.f 7 149,.Z 1 150 145,.k 143,.f 8 151,.Z 1 152 146]<|rs 152 [.M 0,.k 153,.F 10 154,.c 69 [156]]<|rr 7 [.J 0]
def cf12:=kf0 12 Zca [.tmp 8] 158
def ZcW:Zar:=rs 3 [.J 0]<|.seq (.blk 0<|rs 5 [.M 0,.c 70 [6],.u 7,.s 5]<|.cond (.t 5) (rr 3 [.J 1])<|rs 9 [.M 0,.k 10,.F 5 11,.s 9]<|.cond (.t 9) (rr 3 [.J 8])<|rs 14 [.i .lss 1 0,.s 14]<|.cond (.t 14) (rr 3 [.J 2])<|.skip)<|rs 16 [.M 0,.M 1,.k 17,.f 2 19,.Z 1 20 18]<|rr 3 [.J 0]
def cf13:=kf0 13 ZcW [.tmp 4] 21
def c14_1:Zar:=rl 0 22 23 (.t 21) 58<|.blk 1<|rs 23 [.M 22,.X 2 20 22,.o 10 (.box 125 (.c (.agg [.sc (.int .i64 0),.sc (.string ⟨#[]⟩)]))),.m 9 24,.Z 2 10 26]<|.blk 2<|rs 27 [.M 1,.M 9,.c 71 [28,29],.s 27]<|.cond (.t 27) (ry 30 [.M 0,.L 2 10,.c 72 [31,32]])<|rs 34 [.M 9,.M 2,.b .eql 35 36,.s 34]<|.cond (.t 34) (rd 37 [.M 0,.F 0 10,.F 1 10,.M 3,.O (.slS (.t 42) none (some (.t 43))),.M 0,.k 45,.F 0 46,.F 0 10,.Y 1 48 50,.M 3,.O (.slS (.t 52) (some (.t 53)) none),.b .add 44 54,.O (.bld [.sc (.int .i64 0),.sc (.string ⟨#[]⟩)] [(0,(1,.t 40)),(1,(1,.t 55))]),.c 72 [38,56]])<|.skip
def Zew:Zar:=rs 7 [.J 0]<|ri 10 [.M 0,.c 70 [11],.u 12] 13 (rr 7 [.J 1])<|rs 13 [.M 3,.O (.mm true (.t 14) (ik 0)),.O (.mm false (.t 15) (ik 128)),.s 3]<|.seq (rs 16 [.M 0,.k 17,.N 1 18,.J 0]<|c14_1)<|rs 58 [.M 0,.M 0,.M 0,.k 59,.f 1 62,.w (.st 1 (.t 63) jn),.k 60,.f 5 64,.w (.st 1 (.t 65) (ib true)),.k 61,.f 2 66,.w (.st 1 (.t 67) (ik 0))]<|rr 7 [.J 0]
def cf14:=kf0 14 Zew [.tmp 8] 68
def ZkW:Zar:=rs 1 [.J 0]<|ri 2 [.M 0,.c 70 [3],.u 4] 5 (rr 1 [.J 1])<|rs 5 [.M 0,.M 0,.M 0,.k 6,.f 1 9,.w (.st 1 (.t 10) jn),.k 7,.f 5 11,.w (.st 1 (.t 12) (ib false)),.k 8,.f 2 13,.w (.st 1 (.t 14) (ik 0))]<|rr 1 [.J 0]
def cf15:=kf0 15 ZkW [.tmp 2] 15
def Zvh:Zar:=rs 0 [.o 2 (.mv (.c (.sc (.string ⟨#[]⟩)))),.o 3 (.mv (.c (.sc (.string ⟨#[]⟩)))),.o 4 (.box 41 (.c za2)),.K 5]<|rs 12 [.M 0,.c 11 [13],.s 12,.e 12 0,.e 12 1,.m 6 15,.s 7]<|ri 16 [.i .neq 7 0,.h 18,.M 6,.O (.eqn 0 false (.t 20) (.c (.sc (.pointer none)))),.z] 22 (rr 1 [.o 23 (.bld zl7 []),.O (.mv (.c (.sc (.string ⟨#[]⟩)))),.O (.mv (.c (.sc (.string ⟨#[]⟩)))),.Z 6 4 23,.K 5])<|ri 23 [.M 6,.c 20 [24],.u 25] 26 (rr 1 [.o 27 (.bld zl7 []),.O (.mv (.c (.sc (.string ⟨#[]⟩)))),.O (.mv (.c (.sc (.string ⟨#[]⟩)))),.Z 6 4 27,.T 5])<|rs 28 [.M 6,.c 45 [29],.s 28,.e 28 0,.e 28 1,.m 8 31,.s 9]<|rs 33 [.M 6,.c 73 [34],.s 33,.e 33 0,.e 33 1,.m 10 36,.s 11]<|rr 37 [.M 8,.M 10,.M 6,.c 21 [40],.i .eql 9 0,.y 43,.i .eql 11 0,.z,.y 47,.M 6,.c 31 [49],.B .eql 50 0,.z,.m 2 38,.m 3 39,.Z 6 4 41,.s 5]
def cf16:=kf0 16 Zvh [.tmp 2,.tmp 3,(.cell 6 true 4),.tmp 5] 53
def Zf9:Zar:=rs 0 [.K 2]<|rr 2 [.M 0,.c 82 [3],.y 4,.M 0,.k 6,.f 1 7,.F 0 8,.B .gtr 10 0,.z,.s 2]
def cf20:=kf0 20 Zf9 [.tmp 2] 13
def Zeb:Zar:=rs 1 [.O (.box 41 (.c za2))]<|ri 2 [.M 0,.c 82 [3],.u 4] 5 (rr 5 [.O (.bld zl7 []),.Z 6 2 6])<|rr 6 [.M 0,.k 7,.G 1 6 8,.Z 6 2 10]
def cf21:=kf0 21 Zeb [(.cell 6 true 2)] 11
def Zg5:Zar:=rs 1 [.J 0]<|ri 2 [.M 0,.c 82 [3],.u 4] 5 (rr 1 [.J 0])<|rr 5 [.M 0,.k 6,.F 9 7,.c 62 [9],.s 2]
def cf22:=kf0 22 Zg5 [.tmp 2] 11
def Zdp:Zar:=rs 5 [.J 0]<|.seq (rs 8 [.M 0,.M 1,.c 83 [9,10],.s 7]<|rs 11 [.i .neq 7 0]<|.cond (.t 13) (rr 13 [.M 7,.s 6])<|.skip)<|ri 14 [.M 2,.O (.len true (.t 15)),.B .neq 16 128] 17 (rr 5 [.J 2])<|.seq (rs 17 [.M 0,.c 84 [18],.s 8]<|rs 19 [.i .neq 8 0]<|.cond (.t 21) (rr 21 [.M 8,.s 6])<|.skip)<|rs 22 [.M 0,.M 0,.k 24,.F 1 25,.M 1,.M 2,.O (.bld [.sc (.int .i64 0),.sc (.string ⟨#[]⟩)] [(0,(1,.t 28)),(1,(1,.t 29))]),.A 125 2 24 27 30,.k 23,.f 1 33,.Z 1 34 32]<|rr 5 [.J 0]
def cf27:=kf0 27 Zdp [.tmp 6] 35
def c29_1:Zar:=rl 0 22 23 (.t 21) 29<|.blk 1<|rs 23 [.X 2 20 22,.o 6 (.box 125 (.c (.agg [.sc (.int .i64 0),.sc (.string ⟨#[]⟩)]))),.Z 2 6 25]<|ry 25 [.M 0,.L 2 6,.c 72 [26,27]]
def ZoU:Zar:=rs 1 [.J 0]<|.seq (rs 6 [.M 0,.C 83 [.t 7,ik 0],.s 3]<|rs 8 [.i .neq 3 0]<|.cond (.t 10) (rr 10 [.M 3,.s 2])<|.skip)<|.seq (rs 11 [.M 0,.c 84 [12],.s 4]<|rs 13 [.i .neq 4 0]<|.cond (.t 15) (rr 15 [.M 4,.s 2])<|.skip)<|.seq (rs 16 [.M 0,.k 17,.N 1 18,.J 0]<|c29_1)<|rs 29 [.M 0,.k 30,.f 1 31,.w (.st 1 (.t 32) jn)]<|rr 1 [.J 0]
def cf29:=kf0 29 ZoU [.tmp 2] 33
def c31_1:Zar:=rl 0 17 18 (.t 16) 29<|.blk 1<|rs 18 [.M 17,.s 4]<|rs 20 [.M 0,.M 4,.c 87 [21,22],.s 20,.e 20 0,.e 20 1,.m 5 24,.s 6]<|rs 25 [.i .neq 6 0]<|.cond (.t 27) (rr 27 [.M 6,.s 2])<|.skip
def ZoW:Zar:=rs 1 [.J 0]<|.seq (rs 6 [.M 0,.c 60 [7],.s 3]<|rs 8 [.i .neq 3 0]<|.cond (.t 10) (rr 10 [.M 3,.s 2])<|.skip)<|.seq (rs 11 [.M 0,.k 12,.N 8 13,.J 0]<|c31_1)<|rr 1 [.J 0]
def cf31:=kf0 31 ZoW [.tmp 2] 30
def Zq5:Zar:=rs 1 [.O (.mv (.c (.sc (.string ⟨#[]⟩)))),.J 0]<|.seq (rs 4 [.M 0,.c 60 [5],.s 4]<|rs 6 [.i .neq 4 0]<|.cond (.t 8) (rr 1 [.m 9 4,.O (.mv (.c (.sc (.string ⟨#[]⟩)))),.M 9])<|.skip)<|rt 9 [.M 0,.M 0,.k 11,.f 1 12,.F 3 13,.M 0,.k 16,.f 1 17,.F 3 18,.C 97 [.t 10,ik 0,.t 15,ik 0,.t 20],.e 21 0,.e 21 1,.m 2 22,.s 3]<|.ret
def cf45:=kf0 45 Zq5 [.tmp 2,.tmp 3] 24
def ZrM:Zar:=rs 3 [.J 0]<|rs 5 [.M 0,.c 61 [6],.M 1,.c 61 [8],.b .add 7 9,.s 5]<|rr 10 [.M 5,.M 5,.c 65 [12],.b .add 11 13,.s 4]
def cf46:=kf0 46 ZrM [.tmp 4] 15
def c47_0:Zar:=rs 0 [.K 2]<|rr 2 [.M 0,.O (.bin .leq (ik 16) (.t 3)),.y 4,.i .leq 0 4096,.z,.s 2]
def cf47:=kf0 47 c47_0 [.tmp 2] 9
def c48_1:Zar:=rv 0 33 [.M 8,.R 7,.b .lss 34 36] 37<|.blk 1<|rd 37 [.M 8,.M 7,.M 8,.O (.slc 1 (.t 39) (some (.t 40)) none none),.M 7,.M 8,.O (.slc 1 (.t 42) none (some (.t 43)) none),.O (.cpy 1 (.t 41) (.t 44)),.b .add 38 45,.s 8]
def ZeF:Zar:=rs 0 [.D 4]<|ri 8 [.i .lss 1 0] 10 (ry 10 [.O .bad,.w .bad])<|rs 12 [.R 0,.O (.cnv .u64 (.t 14)),.M 1,.O (.cnv .u64 (.t 16)),.c 98 [15,17],.s 12,.e 12 0,.e 12 1,.m 5 19,.s 6]<|ri 20 [.M 5,.O (.bin .gtr (.t 21) (.c (.sc (.int .u64 0)))),.h 22,.M 6,.O (.bin .gtr (.t 24) (.c (.sc (.int .u64 9223372036854775807)))),.z] 26 (ry 26 [.O .bad,.w .bad])<|rs 27 [.M 6,.O (.cnv .i64 (.t 28)),.O (.mks 9 1 16 [.sc (.string ⟨#[]⟩)] (.t 29) (.t 29)),.s 7]<|rs 30 [.M 7,.M 0,.O (.cpy 1 (.t 31) (.t 32)),.s 8]<|.seq c48_1<|rr 46 [.M 7,.s 4]
def cf48:=kf0 48 ZeF [.tmp 4] 48
def ZmE:Zar:=rs 0 [.o 0 (.mv (.c (.sc (.string ⟨#[]⟩))))]<|rr 0 [.C 99 [.c (.sc (.string ⟨#[0]⟩)),ik 128],.s 0]
def cf49:=kf0 49 ZmE [.tmp 0] 2
def ZeB:Zar:=rs 1 [.J 0]<|ri 2 [.M 0,.c 70 [3],.u 4] 5 (rr 1 [.J 0])<|rr 5 [.M 0,.k 6,.N 0 7,.s 2]
def cf50:=kf0 50 ZeB [.tmp 2] 11
def Zgb:Zar:=rs 1 [.O (.mv (.c (.sc (.string ⟨#[]⟩)))),.O (.mv (.c (.sc (.string ⟨#[]⟩)))),.J 0]<|.seq (rs 5 [.M 0,.C 100 [.t 6,ik 0],.s 5,.e 5 0,.e 5 1,.m 2 8,.s 4]<|rs 9 [.i .neq 4 0]<|.cond (.t 11) (rr 1 [.m 12 4,.O (.mv (.c (.sc (.string ⟨#[]⟩)))),.O (.mv (.c (.sc (.string ⟨#[]⟩)))),.M 12])<|.skip)<|.seq (rs 13 [.M 0,.C 100 [.t 14,ik 1],.s 13,.e 13 0,.e 13 1,.m 3 16,.s 4]<|rs 17 [.i .neq 4 0]<|.cond (.t 19) (rr 1 [.m 20 4,.O (.mv (.c (.sc (.string ⟨#[]⟩)))),.O (.mv (.c (.sc (.string ⟨#[]⟩)))),.M 20])<|.skip)<|rr 20 [.M 2,.M 3,.m 2 21,.s 3,.j 4 0]
def cf51:=kf0 51 Zgb [.tmp 2,.tmp 3,.tmp 4] 23
def Zjp:Zar:=rs 1 [.O (.mv (.c (.sc (.pointer none)))),.J 0]<|ri 3 [.i .lss 0 1,.h 5,.i .gtr 0 2047,.z] 9 (rr 1 [.O (.mv (.c (.sc (.pointer none)))),.J 2])<|rr 9 [.i .add 0 63,.B .quo 11 64,.O (.mks 149 1 8 [.sc (.int .u64 0)] (.t 12) (.t 12)),.M 0,.O (.bld [.sl .full [],.sc (.int .i64 0)] [(0,(1,.t 13)),(1,(1,.t 14))]),.O (.box 167 (.t 15)),.s 2,.j 3 0]
def cf52:=kf0 52 Zjp [.tmp 2,.tmp 3] 17
def Zdx:Zar:=rs 1 [.J 0]<|ri 2 [.i .lss 0 16,.h 4,.i .gtr 0 4096,.z] 8 (rr 1 [.J 0])<|rr 8 [.i .sub 0 2,.B .quo 10 2,.s 2]
def cf53:=kf0 53 Zdx [.tmp 2] 12
def Zdn:Zar:=rs 1 [.O (.mv (.c (.sc (.pointer none)))),.J 0]<|ri 3 [.i .lss 0 1,.h 5,.i .gtr 0 64,.z] 9 (rr 1 [.O (.mv (.c (.sc (.pointer none)))),.J 2])<|rr 1 [.m 10 0,.o 11 (.mkm (.one (.int .i64))),.o 12 (.bld zl10 [(0,(1,.t 10)),(2,(1,.t 11))]),.v 13 170 12,.M 13,.J 0]
def cf54:=kf0 54 Zdn [.tmp 2,.tmp 3] 14
def ZkZ:Zar:=rs 0 [.o 4 (.box 41 (.c za2)),.K 5]<|rs 10 [.M 0,.C 101 [ik 0,.t 11],.s 10,.e 10 0,.e 10 1,.o 6 (.box 41 (.c za2)),.Z 6 6 13,.s 7]<|rs 15 [.M 1,.C 101 [ik 1,.t 16],.s 15,.e 15 0,.e 15 1,.o 8 (.box 41 (.c za2)),.Z 6 8 18,.s 9]<|.seq (.blk 0<|rs 20 [.M 9,.y 21,.F 0 8,.F 0 6,.b .gtr 24 26,.z,.s 20]<|.cond (.t 20) (rr 28 [.L 6 8,.Z 6 4 29,.T 5])<|rs 30 [.M 7,.s 30]<|.cond (.t 30) (rr 31 [.L 6 6,.Z 6 4 32,.T 5])<|.skip)<|rr 32 [.O (.bld zl7 []),.Z 6 4 33,.K 5]
def cf55:=kf0 55 ZkZ [(.cell 6 true 4),.tmp 5] 34
def c56_1:Zar:=rl 0 23 24 (.t 22) 85<|.blk 1<|rs 24 [.M 23,.s 12]<|rs 26 [.M 2,.M 11,.M 12,.O (.call (.t 27) [.t 28,.t 29]),.s 26,.e 26 0,.e 26 1,.m 13 31,.s 14]<|ri 32 [.i .neq 14 0] 34 (rr 34 [.M 14,.D 6,.D 7,.s 8])<|rs 36 [.M 13,.c 103 [37],.s 36,.e 36 0,.e 36 1,.e 36 2,.m 15 39,.m 16 40,.s 14]<|ri 41 [.i .neq 14 0] 43 (rr 43 [.M 14,.D 6,.D 7,.s 8])<|rs 44 [.i .add 12 1,.M 1,.c 65 [47],.b .eql 46 48,.s 17]<|ri 49 [.M 10,.M 11,.S 1 51,.O (.call (.t 50) [.t 52]),.u 53,.h 54,.M 10,.M 16,.O (.call (.t 56) [.t 57]),.u 58,.z,.h 60,.R 16,.M 1,.R 7,.b .sub 64 66,.O (.mm false (.t 67) (ik 122)),.b .neq 63 68,.z,.h 70,.M 17,.i .lss 15 0,.O (.bnb true (.t 72) (.t 74)),.z] 76 (rr 7 [.D 6,.D 7,.J 15])<|ry 76 [.M 6,.M 11,.A 3 1 8 77 78,.M 7,.M 16,.a 3 1 8 81 82,.M 15,.m 6 80,.m 7 83,.s 11]
def Zfd:Zar:=rs 7 [.D 6,.D 7,.J 0]<|rs 8 [.o 18 (.mkm (.one (.int .i64))),.O (.box 172 (.c (.sc (.map none)))),.Z 1 9 18]<|rs 18 [.O (.mkf 102 [] [.t 9]),.s 10]<|rs 19 [.M 0,.s 11]<|.seq (rs 20 [.M 1,.c 65 [21],.J 0]<|c56_1)<|rr 85 [.M 6,.M 7,.m 6 86,.s 7,.j 8 0]
def cf56:=kf0 56 Zfd [.tmp 6,.tmp 7,.tmp 8] 88
def ZkX:Zar:=rs 5 [.O (.mv (.c (.sc (.string ⟨#[]⟩)))),.J 0]<|rs 10 [.M 0,.M 1,.c 104 [11,12],.s 10,.e 10 0,.e 10 1,.m 8 14,.s 9]<|ri 15 [.i .neq 9 0] 17 (rr 17 [.M 9,.o 6 (.mv (.c (.sc (.string ⟨#[]⟩)))),.s 7])<|rr 18 [.M 8,.M 2,.C 105 [.t 19,.c (.sc (.int .u8 77)),.t 20],.e 21 0,.e 21 1,.m 6 22,.s 7]
def cf57:=kf0 57 ZkX [.tmp 6,.tmp 7] 24
def c58_1:Zar:=rl 0 18 19 (.t 17) 25<|.blk 1<|rs 19 [.Y 1 16 18,.s 8]<|ry 21 [.M 6,.M 8,.O (.call (.t 22) [.t 23])]
def ZtC:Zar:=rs 3 [.J 0]<|rs 8 [.M 0,.M 1,.C 106 [.t 9,.t 10,ib false],.s 5]<|ri 11 [.i .eql 5 0] 13 (rs 13 [.M 0,.O (.mkf 107 [.t 14] []),.s 6]<|rs 15 [.R 1,.J 0]<|c58_1)<|rr 25 [.M 5,.s 4]
def cf58:=kf0 58 ZtC [.tmp 4] 27
def c59_1:Zar:=rl 0 11 12 (.t 10) 22<|.blk 1<|rs 12 [.Y 1 9 11,.s 5]<|rs 14 [.M 3,.R 5,.b .add 15 17,.s 3]<|rs 18 [.i .lss 3 0]<|.cond (.t 20) (ry 20 [.O .bad,.w .bad])<|.skip
def c59_2:Zar:=rl 2 27 28 (.t 26) 34<|.blk 3<|rs 28 [.Y 1 25 27,.s 8]<|ry 30 [.M 6,.M 8,.a 3 1 8 31 32,.s 6]
def Zqj:Zar:=rs 0 [.D 2]<|rs 2 [.J 0]<|.seq (rs 8 [.R 0,.J 0]<|c59_1)<|rs 22 [.M 3,.C 108 [jn,.t 23],.s 6]<|.seq (rs 24 [.R 0,.J 0]<|c59_2)<|rr 34 [.M 6,.s 2]
def cf59:=kf0 59 Zqj [.tmp 2] 36
def ZvP:Zar:=rs 1 [.J 0]<|.seq (.blk 0<|rs 3 [.M 0,.c 82 [4],.u 5,.s 3]<|.cond (.t 3) (rr 1 [.J 1])<|rs 7 [.M 0,.k 8,.F 12 9,.h 11,.M 0,.k 13,.F 0 14,.c 109 [16],.z,.s 7]<|.cond (.t 7) (rr 1 [.J 8])<|rs 19 [.M 0,.c 20 [20],.u 21,.s 19]<|.cond (.t 19) (rr 1 [.J 10])<|.skip)<|rr 1 [.J 0]
def cf60:=kf0 60 ZvP [.tmp 2] 23
def ZiF:Zar:=rs 1 [.J 0]<|ri 2 [.i .leq 0 0] 4 (rr 1 [.J 0])<|rr 4 [.i .sub 0 1,.B .quo 6 246,.B .add 7 1,.s 2]
def cf61:=kf0 61 ZiF [.tmp 2] 9
def c62_1:Zar:=rl 0 17 18 (.t 16) 25<|.blk 1<|rs 18 [.Y 1 15 17,.s 5]<|ry 20 [.M 3,.M 5,.c 110 [22],.b .sub 21 23,.s 3]
def c62_0:Zar:=rs 1 [.J 0]<|ri 5 [.M 0,.O (.eqn 0 false (.t 6) (.c (.sc (.pointer none))))] 7 (rr 1 [.J 0])<|rs 7 [.M 0,.k 8,.F 1 9,.s 3]<|.seq (rs 11 [.M 0,.k 12,.N 0 13,.J 0]<|c62_1)<|rr 25 [.M 3,.s 2]
def cf62:=kf0 62 c62_0 [.tmp 2] 27
def Zi8:Zar:=rs 1 [.v 1 41 0,.J 0]<|.seq (.blk 0<|rs 3 [.F 0 1,.B .lss 5 1,.h 6,.F 0 1,.B .gtr 9 1099511627776,.z,.s 3]<|.cond (.t 3) (rr 1 [.J 2])<|rs 12 [.F 3 1,.B .lss 14 1,.h 15,.F 3 1,.B .gtr 18 1048576,.z,.h 20,.F 4 1,.B .lss 23 0,.z,.h 25,.F 4 1,.B .gtr 28 1048576,.z,.s 12]<|.cond (.t 12) (rr 1 [.J 2])<|rs 31 [.F 5 1,.B .lss 33 0,.h 34,.F 5 1,.F 4 1,.O (.mm true (.t 39) (ik 1)),.b .geq 37 40,.z,.s 31]<|.cond (.t 31) (rr 1 [.J 2])<|.seq (.drw [ip (io 44 (.fla 1 (.t 1))),ip (io 45 (.ld 1 false (.t 44))),ip (io 46 (.fla 3 (.t 1))),ip (io 47 (.ld 1 false (.t 46))),ip (io 49 (.fla 4 (.t 1))),ip (io 50 (.ld 1 false (.t 49))),(io 48 (.call (jf 61) [.t 47]),[io 45 (.ld 1 false (.t 44)),io 50 (.ld 1 false (.t 49))]),(io 51 (.call (jf 61) [.t 50]),[io 45 (.ld 1 false (.t 44))]),ip (io 52 (.bin .add (.t 48) (.t 51))),ip (io 53 (.bin .neq (.t 45) (.t 52))),ip (im 54 53),ip (ih 54 55 (.fla 1 (.t 1))),ip (ih 54 56 (.ld 1 false (.t 55))),ip (ih 54 57 (.bin .gtr (.t 56) (ik 2047))),ip (io 58 (.pick (.t 54) (ib true) (.t 57))),ip (im 43 58)])<|.cond (.t 43) (rr 1 [.J 2])<|rs 59 [.F 2 1,.B .lss 61 0,.h 62,.F 2 1,.B .geq 65 2047,.z,.s 59]<|.cond (.t 59) (rr 1 [.J 2])<|.skip)<|rr 1 [.J 0]
def cf63:=kf0 63 Zi8 [.tmp 2] 68
def c64_1:Zar:=.blk 1<|.loop<|.seq (rs 25 [.R 6,.M 1,.b .lss 27 28]<|.cond (.t 29) .skip<|.exit 1)<|.seq (.blk 2<|rs 31 [.M 0,.M 7,.c 111 [32,33],.u 34]<|.cond (.t 35) (ry 35 [.M 6,.M 7,.A 3 1 8 36 37,.s 6])<|.skip)<|ry 29 [.i .add 7 1,.s 7]
def ZoS:Zar:=rs 4 [.D 4,.J 0]<|.seq (.blk 0<|rs 8 [.M 0,.O (.eqn 0 false (.t 9) (.c (.sc (.pointer none)))),.h 10,.M 0,.k 12,.F 1 13,.B .eql 15 0,.z,.s 8]<|.cond (.t 8) (rr 4 [.D 4,.J 1])<|rs 18 [.i .lss 1 0,.s 18]<|.cond (.t 18) (rr 4 [.D 4,.J 2])<|rs 21 [.M 1,.M 0,.c 62 [23],.b .gtr 22 24,.s 21]<|.cond (.t 21) (rr 4 [.D 4,.J 7])<|.skip)<|rs 0 [.D 6]<|.seq (rs 6 [.J 0]<|c64_1)<|rr 39 [.M 6,.s 4,.j 5 0]
def cf64:=kf0 64 ZoS [.tmp 4,.tmp 5] 41
def Zk1:Zar:=rs 1 [.J 0]<|ri 2 [.i .leq 0 0] 4 (rr 1 [.J 0])<|rr 4 [.i .sub 0 1,.B .quo 6 122,.B .add 7 1,.s 2]
def cf65:=kf0 65 Zk1 [.tmp 2] 9
def c66_1:Zar:=rl 0 45 46 (.t 44) 63<|.blk 1<|rs 46 [.M 45,.Y 1 43 45,.m 14 47,.s 15]<|rs 50 [.M 14,.M 15,.C 114 [.c (.sc (.int .u8 77)),.t 51,.t 52],.s 50,.e 50 0,.e 50 1,.m 16 54,.s 17]<|ri 55 [.i .neq 17 0] 57 (rr 57 [.M 17,.D 8,.D 9,.s 10])<|ry 58 [.M 9,.M 16,.A 9 1 16 59 60,.s 9]
def ZlH:Zar:=rs 9 [.D 8,.D 9,.J 0]<|rs 18 [.M 0,.C 112 [.c (.sc (.int .u8 67)),ik 0,.t 19],.s 18,.e 18 0,.e 18 1,.m 11 21,.s 10]<|ri 22 [.i .neq 10 0] 24 (rr 24 [.M 10,.D 8,.D 9,.s 10])<|rs 26 [.M 1,.C 112 [.c (.sc (.int .u8 78)),ik 0,.t 27],.s 26,.e 26 0,.e 26 1,.m 12 29,.s 10]<|ri 30 [.i .neq 10 0] 32 (rr 32 [.M 10,.D 8,.D 9,.s 10])<|rs 34 [.M 2,.M 3,.c 113 [35,36],.s 34,.e 34 0,.e 34 1,.m 13 38,.s 10]<|ri 39 [.i .neq 10 0] 41 (rr 41 [.M 10,.D 8,.D 9,.s 10])<|.seq (rs 42 [.R 13,.J 0]<|c66_1)<|rr 63 [.M 11,.M 12,.a 9 1 16 64 65,.M 9,.m 8 66,.s 9,.j 10 0]
def cf66:=kf0 66 ZlH [.tmp 8,.tmp 9,.tmp 10] 68
def Zks:Zar:=rs 11 [.v 7 41 1,.J 0]<|rs 19 [.L 6 7,.c 115 [20],.s 19,.e 19 0,.e 19 1,.m 13 22,.s 14]<|ri 23 [.i .neq 14 0] 25 (rr 25 [.M 14,.s 12])<|.seq (rs 26 [.M 0,.M 3,.M 4,.c 116 [27,28,29],.s 15]<|rs 30 [.i .neq 15 0]<|.cond (.t 32) (rr 32 [.M 15,.s 12])<|.skip)<|.seq (rs 33 [.M 0,.M 2,.M 5,.c 116 [34,35,36],.s 16]<|rs 37 [.i .neq 16 0]<|.cond (.t 39) (rr 39 [.M 16,.s 12])<|.skip)<|.seq (rs 40 [.M 0,.k 41,.F 0 42,.c 29 [44],.s 17]<|rs 45 [.i .neq 17 0]<|.cond (.t 47) (rr 47 [.M 17,.s 12])<|.skip)<|.seq (.seq (.drw [ip (im 49 0),ip (io 50 (.nck (.t 49))),ip (io 51 (.fla 0 (.t 50))),ip (io 52 (.ld 1 false (.t 51))),ip (io 53 (.fla 0 (.t 7))),ip (io 54 (.ld 1 false (.t 53))),ip (im 56 13),(io 55 (.call (jf 117) [.t 54]),[io 52 (.ld 1 false (.t 51))]),ip (io 57 (.call (jf 27) [.t 52,.t 55,.t 56])),ip (im 18 57)])<|rs 57 [.i .neq 18 0]<|.cond (.t 59) (rr 59 [.M 18,.s 12])<|.skip)<|rr 60 [.M 0,.k 61,.F 0 62,.c 29 [64],.s 12]
def cf67:=kf0 67 Zks [.tmp 12] 66
def c68_1:Zar:=rl 0 18 19 (.t 17) 25<|.blk 1<|rs 19 [.Y 1 16 18,.s 8]<|ry 21 [.M 6,.M 8,.O (.call (.t 22) [.t 23])]
def ZiL:Zar:=rs 3 [.J 0]<|rs 8 [.M 0,.M 1,.C 106 [.t 9,.t 10,ib true],.s 5]<|ri 11 [.i .eql 5 0] 13 (rs 13 [.M 0,.O (.mkf 107 [.t 14] []),.s 6]<|rs 15 [.R 1,.J 0]<|c68_1)<|rr 25 [.M 5,.s 4]
def cf68:=kf0 68 ZiL [.tmp 4] 27
def c69_0:Zar:=rs 1 [.M 0,.c 118 [2]]<|.cond (.t 3) (rs 3 [.M 0,.k 4,.F 2 5,.w (.clr (.t 7))]<|ry 7 [.M 0,.k 8,.f 1 9,.w (.st 1 (.t 10) jn)])<|.skip
def cf69:=kf0 69 c69_0 [] 11
def ZnP:Zar:=rs 0 [.K 2]<|rr 2 [.M 0,.O (.eqn 0 true (.t 3) (.c (.sc (.pointer none)))),.y 4,.M 0,.k 6,.N 0 7,.B .gtr 10 0,.z,.s 2]
def cf70:=kf0 70 ZnP [.tmp 2] 13
def ZHh:Zar:=rs 0 [.K 4]<|rr 4 [.M 0,.M 1,.c 119 [5,6],.B .geq 7 0,.s 4]
def cf71:=kf0 71 ZHh [.tmp 4] 9
def ZhM:Zar:=rs 0 [.v 3 125 1]<|rd 3 [.M 0,.k 4,.F 0 5,.F 0 3,.F 1 3,.x 1 7 9,.Z 1 12 11]
def cf72:=kf0 72 ZhM [] 13
def c73_0:Zar:=rs 1 [.O (.mv (.c (.sc (.string ⟨#[]⟩)))),.J 0]<|rr 3 [.M 0,.M 0,.c 21 [5],.O (.fld 4 1 false (.t 6)),.C 120 [.t 4,ik 0,.t 7],.e 8 0,.e 8 1,.m 2 9,.s 3]
def cf73:=kf0 73 c73_0 [.tmp 2,.tmp 3] 11
def Zt0:Zar:=rs 0 [.K 2]<|rr 2 [.M 0,.O (.eqn 0 true (.t 3) (.c (.sc (.pointer none)))),.y 4,.M 0,.k 6,.F 0 7,.O (.eqn 0 true (.t 9) (.c (.sc (.pointer none)))),.z,.y 11,.M 0,.k 13,.F 9 14,.O (.eqn 0 true (.t 16) (.c (.sc (.pointer none)))),.z,.y 18,.M 0,.k 20,.F 10 21,.O (.eqn 0 true (.t 23) (.c (.sc (.pointer none)))),.z,.s 2]
def cf82:=kf0 82 Zt0 [.tmp 2] 26
def ZRI:Zar:=rs 3 [.J 0]<|.seq (.blk 0<|rs 5 [.M 0,.c 70 [6],.u 7,.s 5]<|.cond (.t 5) (rr 3 [.J 1])<|rs 9 [.M 0,.k 10,.F 5 11,.s 9]<|.cond (.t 9) (rr 3 [.J 8])<|rs 14 [.i .lss 1 0,.h 16,.M 1,.M 0,.k 19,.N 0 20,.b .geq 18 23,.z,.s 14]<|.cond (.t 14) (rr 3 [.J 9])<|.skip)<|rr 3 [.J 0]
def cf83:=kf0 83 ZRI [.tmp 4] 26
def c84_0:Zar:=rs 1 [.J 0]<|ri 2 [.M 0,.k 3,.F 2 4,.B .eql 6 1] 7 (rs 7 [.M 0,.M 0,.k 8,.f 5 10,.w (.st 1 (.t 11) (ib true)),.k 9,.f 2 12,.w (.st 1 (.t 13) (ik 0))]<|rr 1 [.J 8])<|rs 13 [.M 0,.M 0,.k 15,.F 2 16,.B .sub 18 1,.O (.mm true (.t 19) (ik 0)),.k 14,.f 2 21,.Z 1 22 20]<|rs 22 [.M 0,.k 23,.F 4 24,.B .add 26 1,.k 23,.f 4 28,.Z 1 29 27]<|rr 1 [.J 0]
def cf84:=kf0 84 c84_0 [.tmp 2] 30
def c87_0:Zar:=rs 3 [.O (.mv (.c (.sc (.string ⟨#[]⟩)))),.J 0]<|rs 9 [.M 0,.M 0,.k 11,.F 8 12,.M 1,.Y 1 14 15,.c 104 [10,17],.s 9,.e 9 0,.e 9 1,.m 6 19,.s 7]<|ri 20 [.i .neq 7 0] 22 (rr 22 [.M 7,.o 4 (.mv (.c (.sc (.string ⟨#[]⟩)))),.s 5])<|.seq (rs 23 [.M 0,.k 24,.f 1 25,.F 3 26,.c 61 [28],.s 8]<|rs 29 [.M 1,.M 8,.b .geq 30 31]<|.cond (.t 32) (rr 32 [.M 6,.M 1,.M 8,.b .sub 34 35,.C 105 [.t 33,.c (.sc (.int .u8 78)),.t 36],.e 37 0,.e 37 1,.m 4 38,.s 5])<|.skip)<|rr 39 [.M 6,.M 1,.C 105 [.t 40,.c (.sc (.int .u8 67)),.t 41],.e 42 0,.e 42 1,.m 4 43,.s 5]
def cf87:=kf0 87 c87_0 [.tmp 4,.tmp 5] 45
def c97_1:Zar:=.blk 0<|.loop<|.seq (rs 34 [.M 12,.O (.len true (.t 35)),.M 4,.b .lss 36 37]<|.cond (.t 38) .skip<|.exit 0)<|.blk 1<|rs 38 [.M 3,.M 12,.O (.len true (.t 40)),.b .add 39 41,.s 13]<|rs 43 [.M 0,.M 1,.i .quo 13 246,.b .add 45 47,.c 128 [44,48],.s 43,.e 43 0,.e 43 1,.m 14 50,.s 15]<|ri 51 [.i .neq 15 0] 53 (rr 9 [.m 54 15,.O (.mv (.c (.sc (.string ⟨#[]⟩)))),.M 54])<|.seq (rs 54 [.M 2,.i .quo 13 246,.B .mul 57 246,.b .sub 55 58,.O (.mm false (ik 246) (.t 59)),.s 16]<|rs 60 [.M 14,.O (.len true (.t 61)),.M 16,.b .neq 62 63]<|.cond (.t 64) (rr 9 [.O (.mv (.c (.sc (.string ⟨#[]⟩)))),.J 15])<|.skip)<|rs 64 [.M 14,.i .rem 13 246,.O (.slS (.t 65) (some (.t 67)) none),.s 14]<|ry 68 [.M 12,.M 14,.M 14,.O (.len true (.t 71)),.M 4,.M 12,.O (.len true (.t 74)),.b .sub 73 75,.O (.mm false (.t 72) (.t 76)),.O (.slS (.t 70) none (some (.t 77))),.b .add 69 78,.s 12]
def ZvO:Zar:=rs 9 [.O (.mv (.c (.sc (.string ⟨#[]⟩)))),.J 0]<|ri 16 [.i .lss 3 0,.h 18,.i .lss 4 0,.z,.h 22,.M 3,.M 2,.b .gtr 24 25,.z,.h 27,.M 4,.M 2,.M 3,.b .sub 30 31,.b .gtr 29 32,.z] 34 (rr 9 [.O (.mv (.c (.sc (.string ⟨#[]⟩)))),.J 9])<|rs 11 [.O (.mv (.c (.sc (.string ⟨#[]⟩))))]<|.seq c97_1<|rr 9 [.m 80 12,.M 80,.J 0]
def cf97:=kf0 97 ZvO [.tmp 10,.tmp 11] 81
def c100_1:Zar:=rv 0 26 [.i .geq 7 0] 28<|.seq (.blk 1<|rs 30 [.M 0,.k 31,.F 1 32,.M 7,.x 2 34 35,.F 0 36,.M 1,.b .eql 38 39]<|.cond (.t 40) (rr 40 [.M 0,.k 41,.F 1 42,.M 7,.x 2 44 45,.F 1 46,.s 4,.j 5 0])<|.skip)<|ry 28 [.i .sub 7 1,.s 7]
def Zck:Zar:=rs 3 [.O (.mv (.c (.sc (.string ⟨#[]⟩)))),.J 0]<|.seq (rs 7 [.M 0,.M 1,.c 83 [8,9],.s 6]<|rs 10 [.i .neq 6 0]<|.cond (.t 12) (rr 12 [.M 6,.o 4 (.mv (.c (.sc (.string ⟨#[]⟩)))),.s 5])<|.skip)<|rs 13 [.M 0,.k 14,.F 3 15,.B .add 17 1,.k 14,.f 3 19,.Z 1 20 18]<|.seq (rs 20 [.M 0,.k 21,.N 1 22,.B .sub 25 1,.s 7]<|c100_1)<|rr 48 [.M 0,.k 49,.F 0 50,.M 1,.Y 1 52 53,.s 4,.j 5 0]
def ZkE:=kf0 100 Zck [.tmp 4,.tmp 5] 56
def ZmV:Zar:=rs 0 [.o 4 (.box 41 (.c za2)),.K 5]<|rs 8 [.M 1,.c 155 [9],.s 8,.e 8 0,.e 8 1,.o 6 (.box 41 (.c za2)),.Z 6 6 11,.s 7]<|ri 12 [.i .neq 7 0,.h 14,.F 0 6,.c 117 [17],.M 0,.b .neq 18 19,.z] 21 (rr 21 [.O (.bld zl7 []),.Z 6 4 22,.K 5])<|rr 22 [.L 6 6,.Z 6 4 23,.T 5]
def cf101:=kf0 101 ZmV [(.cell 6 true 4),.tmp 5] 24
def c102_1:Zar:=rl 0 8 9 (.t 7) 20<|.blk 1<|rs 9 [.Y 1 6 8,.s 5]<|rs 11 [.l 1 1,.M 5,.O (.lkp (.one (.int .i64)) (.sc (.int .i64 0)) false (.t 12) (.t 13)),.B .add 14 1,.w (.mup (.one (.int .i64)) (.t 12) (.t 13) (.t 15))]<|rs 15 [.l 1 1,.M 5,.O (.lkp (.one (.int .i64)) (.sc (.int .i64 0)) false (.t 16) (.t 17)),.B .gtr 18 1]<|.cond (.t 19) (rr 0 [.K 3])<|.skip
def Zdc:Zar:=rs 0 [.K 3]<|.seq (rs 5 [.R 0,.J 0]<|c102_1)<|rr 0 [.T 3]
def cf102:=kf0 102 Zdc [.tmp 3] 21
def c103_1:Zar:=rv 0 22 [.M 6,.M 0,.O (.len true (.t 24)),.b .lss 23 25] 26<|.seq (.blk 1<|rt 28 [.M 0,.M 6,.O (.ixs (.t 29) (.t 30)),.O (.cnv .i64 (.t 31)),.O (.bin .shl (.t 32) (.c (.sc (.int .u64 8)))),.M 0,.i .add 6 1,.O (.ixs (.t 34) (.t 36)),.O (.cnv .i64 (.t 37)),.b .or 33 38,.s 7]<|.blk 2<|rs 40 [.i .eql 6 0,.y 42,.i .leq 7 2047,.z,.s 40]<|.cond (.t 40) (ry 46 [.i .sub 7 1,.f 0 5,.Z 1 49 48])<|rs 50 [.i .gtr 6 0,.y 52,.M 7,.c 156 [54],.z,.s 50]<|.cond (.t 50) (ry 56 [.F 1 5,.M 7,.A 3 1 8 58 59,.f 1 5,.Z 1 62 61])<|rr 3 [.j 2 0,.D 3,.J 15])<|ry 26 [.i .add 6 2,.s 6]
def Zuf:Zar:=rs 3 [.j 2 0,.D 3,.J 0]<|ri 7 [.M 0,.O (.len true (.t 8)),.B .lss 9 2,.h 10,.M 0,.O (.len true (.t 12)),.B .rem 13 2,.B .neq 14 0,.z,.h 16,.M 0,.O (.len true (.t 18)),.B .gtr 19 246,.z] 21 (rr 3 [.j 2 0,.D 3,.J 15])<|rs 4 [.o 22 (.bld [.sc (.int .i64 0),.sl .full []] []),.O (.box 233 (.c (.agg [.sc (.int .i64 0),.sl .full []]))),.Z 2 5 22]<|.seq (rs 5 [.J 0]<|c103_1)<|rt 62 [.F 0 5,.F 1 5,.m 2 64,.s 3,.j 4 0]<|.ret
def cf103:=kf0 103 Zuf [.tmp 2,.tmp 3,.tmp 4] 67
def c104_1:Zar:=rl 0 25 26 (ik 2) 45<|.blk 1<|rs 26 [.M 25,.s 8]<|rs 28 [.M 0,.k 29,.F 0 30,.M 6,.M 8,.b .add 33 34,.c 100 [32,35],.s 28,.e 28 0,.e 28 1,.m 9 37,.s 10]<|ri 38 [.i .neq 10 0] 40 (rr 40 [.M 10,.o 4 (.mv (.c (.sc (.string ⟨#[]⟩)))),.s 5])<|ry 41 [.M 7,.M 9,.b .add 42 43,.s 7]
def Zt4:Zar:=rs 3 [.O (.mv (.c (.sc (.string ⟨#[]⟩)))),.J 0]<|ri 10 [.i .lss 1 0,.h 12,.M 1,.M 0,.k 15,.F 0 16,.c 50 [18],.c 53 [19],.b .geq 14 20,.z] 22 (rr 3 [.O (.mv (.c (.sc (.string ⟨#[]⟩)))),.J 15])<|rs 22 [.M 1,.c 157 [23],.s 6]<|rs 6 [.O (.mv (.c (.sc (.string ⟨#[]⟩))))]<|.seq (rs 24 [.J 0]<|c104_1)<|rs 45 [.M 0,.k 46,.F 11 47,.B .add 49 1,.k 46,.f 11 51,.Z 1 52 50]<|rr 52 [.M 7,.s 4,.j 5 0]
def cf104:=kf0 104 Zt4 [.tmp 4,.tmp 5] 54
def ZtP:Zar:=rs 5 [.O (.mv (.c (.sc (.string ⟨#[]⟩)))),.J 0]<|rs 12 [.M 0,.c 158 [13],.s 12,.e 12 0,.e 12 1,.e 12 2,.e 12 3,.m 8 15,.m 9 16,.m 10 17,.s 11]<|ri 18 [.i .neq 11 0,.h 20,.M 8,.M 1,.b .neq 22 23,.z,.h 25,.M 9,.M 2,.b .neq 27 28,.z] 30 (rr 5 [.O (.mv (.c (.sc (.string ⟨#[]⟩)))),.J 15])<|rr 30 [.M 10,.s 6,.j 7 0]
def cf105:=kf0 105 ZtP [.tmp 6,.tmp 7] 32
def c106_1:Zar:=rl 0 22 23 (.t 21) 44<|.blk 1<|rs 23 [.Y 1 20 22,.s 9]<|ri 25 [.M 0,.M 9,.c 159 [26,27],.u 28] 29 (rr 5 [.J 9])<|ri 29 [.M 7,.M 9,.O (.lkp (.one (.int .i64)) (.sc (.int .i64 0)) false (.t 30) (.t 31)),.B .eql 32 1,.h 33,.M 0,.M 9,.c 111 [35,36],.M 2,.O (.bnb true (.t 37) (.t 38)),.z] 40 (ri 40 [.M 2] 41 (rr 5 [.J 10])<|rr 5 [.J 11])<|ry 41 [.M 7,.M 9,.w (.mup (.one (.int .i64)) (.t 42) (.t 43) (ik 1))]
def Zic:Zar:=rs 5 [.J 0]<|ri 9 [.M 0,.O (.eqn 0 false (.t 10) (.c (.sc (.pointer none)))),.h 11,.M 0,.k 13,.F 1 14,.B .eql 16 0,.z] 18 (rr 5 [.J 1])<|rs 18 [.O (.mkm (.one (.int .i64))),.s 7]<|.seq (rs 19 [.R 1,.J 0]<|c106_1)<|rr 5 [.J 0]
def cf106:=kf0 106 Zic [.tmp 6] 45
def Zcf:Zar:=rd 3 [.M 0,.k 4,.F 0 5,.i .quo 1 64,.Y 1 7 9,.i .rem 1 64,.O (.bin .shl (.c (.sc (.int .u64 1))) (.t 13)),.b .xor 11 14,.x 1 7 9,.Z 1 16 15]
def cf107:=kf0 107 Zcf [] 17
def ZfJ:Zar:=rs 0 [.K 2]<|rr 2 [.M 0,.c 70 [3],.y 4,.M 0,.k 6,.F 5 7,.z,.s 2]
def cf109:=kf0 109 ZfJ [.tmp 2] 11
def Zpi:Zar:=rs 1 [.J 0]<|rs 2 [.M 0,.O (.bin .shr (.t 3) (.c (.sc (.int .u64 1)))),.O (.bin .and (.t 4) (.c (.sc (.int .u64 6148914691236517205)))),.M 0,.O (.bin .and (.t 6) (.c (.sc (.int .u64 6148914691236517205)))),.b .add 5 7,.s 0]<|rs 8 [.M 0,.O (.bin .shr (.t 9) (.c (.sc (.int .u64 2)))),.O (.bin .and (.t 10) (.c (.sc (.int .u64 3689348814741910323)))),.M 0,.O (.bin .and (.t 12) (.c (.sc (.int .u64 3689348814741910323)))),.b .add 11 13,.s 0]<|rs 14 [.M 0,.O (.bin .shr (.t 15) (.c (.sc (.int .u64 4)))),.M 0,.b .add 16 17,.O (.bin .and (.t 18) (.c (.sc (.int .u64 1085102592571150095)))),.s 0]<|rs 19 [.M 0,.M 0,.O (.bin .shr (.t 21) (.c (.sc (.int .u64 8)))),.b .add 20 22,.s 0]<|rs 23 [.M 0,.M 0,.O (.bin .shr (.t 25) (.c (.sc (.int .u64 16)))),.b .add 24 26,.s 0]<|rs 27 [.M 0,.M 0,.O (.bin .shr (.t 29) (.c (.sc (.int .u64 32)))),.b .add 28 30,.s 0]<|rr 31 [.M 0,.O (.cnv .i64 (.t 32)),.B .and 33 127,.s 2]
def cf110:=kf0 110 Zpi [.tmp 2] 35
def Zfr:Zar:=rs 0 [.K 4]<|rr 4 [.M 0,.M 1,.c 159 [5,6],.y 7,.M 0,.k 9,.F 0 10,.i .quo 1 64,.Y 1 12 14,.i .rem 1 64,.b .shr 16 18,.O (.bin .and (.t 19) (.c (.sc (.int .u64 1)))),.O (.bin .eql (.t 20) (.c (.sc (.int .u64 1)))),.z,.s 4]
def cf111:=kf0 111 Zfr [.tmp 4] 23
def c112_1:Zar:=rv 0 11 [.M 2,.O (.bin .neq (.t 12) (.c (.sc (.string ⟨#[]⟩))))] 13<|.blk 1<|rs 13 [.M 2,.O (.len true (.t 14)),.O (.mm false (.t 15) (ik 246)),.s 9]<|rs 17 [.M 0,.M 1,.M 2,.M 9,.O (.slS (.t 20) none (some (.t 21))),.c 114 [18,19,22],.s 17,.e 17 0,.e 17 1,.m 10 24,.s 11]<|ri 25 [.i .neq 11 0] 27 (rr 27 [.M 11,.D 6,.s 7])<|rd 28 [.M 8,.M 10,.S 1 30,.m 33 2,.m 34 9,.o 35 (.slS (.t 33) (some (.t 34)) none),.m 36 1,.o 37 (.bin .add (.t 36) (ik 1)),.a 9 1 16 29 31,.s 8,.m 2 35,.m 1 37]
def Zpf:Zar:=rs 6 [.D 6,.J 0]<|rs 0 [.D 8]<|.seq c112_1<|rr 37 [.M 8,.s 6,.j 7 0]
def ZIH:=kf0 112 Zpf [.tmp 6,.tmp 7] 39
def c113_1:Zar:=rl 0 20 21 (.t 19) 54<|.blk 1<|rs 21 [.M 20,.s 7]<|rs 7 [.J (-1)]<|ri 22 [.i .add 7 1,.R 0,.b .lss 24 26] 27 (ry 27 [.M 0,.i .add 7 1,.Y 1 28 30,.s 8])<|rs 32 [.R 1,.O (.mm false (.t 34) (ik 122)),.s 9]<|rs 36 [.M 8,.M 1,.M 9,.O (.slc 1 (.t 38) none (some (.t 39)) none),.c 160 [37,40],.s 36,.e 36 0,.e 36 1,.m 10 42,.s 11]<|ri 43 [.i .neq 11 0] 45 (rr 45 [.M 11,.D 4,.s 5])<|rd 46 [.M 6,.M 10,.S 1 48,.m 51 1,.m 52 9,.o 53 (.slc 1 (.t 51) (some (.t 52)) none none),.a 9 1 16 47 49,.s 6,.m 1 53]
def ZpX:Zar:=rs 4 [.D 4,.J 0]<|ri 11 [.R 0,.R 1,.c 65 [15],.b .neq 13 16] 17 (rr 4 [.D 4,.J 2])<|rs 0 [.D 6]<|.seq (rs 17 [.R 0,.J 0]<|c113_1)<|rr 54 [.M 6,.s 4,.j 5 0]
def ZKB:=kf0 113 ZpX [.tmp 4,.tmp 5] 56
def ZpQ:Zar:=rs 5 [.O (.mv (.c (.sc (.string ⟨#[]⟩)))),.J 0]<|.seq (.blk 0<|rs 9 [.M 0,.c 161 [10],.u 11,.h 12,.i .lss 1 0,.z,.h 16,.i .gtr 1 16777215,.z,.s 9]<|.cond (.t 9) (rr 5 [.O (.mv (.c (.sc (.string ⟨#[]⟩)))),.J 2])<|rs 21 [.M 2,.O (.len true (.t 22)),.B .gtr 23 246,.s 21]<|.cond (.t 21) (rr 5 [.O (.mv (.c (.sc (.string ⟨#[]⟩)))),.J 5])<|.skip)<|rs 24 [.M 0,.M 1,.O (.bin .shr (.t 26) (.c (.sc (.int .u64 16)))),.O (.cnv .u8 (.t 27)),.M 1,.O (.bin .shr (.t 29) (.c (.sc (.int .u64 8)))),.O (.cnv .u8 (.t 30)),.M 1,.O (.cnv .u8 (.t 32)),.M 2,.O (.len true (.t 34)),.O (.bin .shr (.t 35) (.c (.sc (.int .u64 8)))),.O (.cnv .u8 (.t 36)),.M 2,.O (.len true (.t 38)),.O (.cnv .u8 (.t 39)),.O (.bsl 1 [.t 25,.t 28,.t 31,.t 33,.t 37,.t 40]),.O (.sob (.t 41)),.M 2,.b .add 42 43,.s 8]<|rr 44 [.M 8,.M 8,.O (.len true (.t 46)),.O (.bin .sub (ik 252) (.t 47)),.C 99 [.c (.sc (.string ⟨#[0]⟩)),.t 48],.b .add 45 49,.c 162 [50],.s 6,.j 7 0]
def cf114:=kf0 114 ZpQ [.tmp 6,.tmp 7] 52
def c115_1:Zar:=rl 0 32 33 (ik 5) 39<|.blk 1<|rs 33 [.O (.ixv 5 1 false (.t 31) (.t 32)),.s 8]<|ry 34 [.M 6,.M 8,.c 164 [36],.b .add 35 37,.s 6]
def Zno:Zar:=rs 1 [.v 1 41 0,.O (.mv (.c (.sc (.string ⟨#[]⟩)))),.J 0]<|.seq (rs 8 [.L 6 1,.c 63 [9],.s 4]<|rs 10 [.i .neq 4 0]<|.cond (.t 12) (rr 12 [.M 4,.o 2 (.mv (.c (.sc (.string ⟨#[]⟩)))),.s 3])<|.skip)<|rs 13 [.F 0 1,.c 163 [15],.s 5]<|rs 16 [.O (.bsl 1 [.c (.sc (.int .u8 86))]),.O (.sob (.t 17)),.M 5,.b .add 18 19,.s 6]<|.seq (rs 20 [.F 1 1,.F 2 1,.F 3 1,.F 4 1,.F 5 1,.O (.bld zl13 [(0,(1,.t 22)),(1,(1,.t 24)),(2,(1,.t 26)),(3,(1,.t 28)),(4,(1,.t 30))]),.J 0]<|c115_1)<|rr 39 [.M 6,.M 6,.O (.len true (.t 41)),.O (.bin .sub (ik 118) (.t 42)),.C 99 [.c (.sc (.string ⟨#[0]⟩)),.t 43],.b .add 40 44,.c 162 [45],.M 5,.b .add 46 47,.s 2,.j 3 0]
def cf115:=kf0 115 Zno [.tmp 2,.tmp 3] 49
def c116_2:Zar:=rl 2 21 22 (ik 2) 41<|.blk 3<|rs 22 [.M 21,.O (.ixv 2 1 false (.t 20) (.t 21)),.m 9 23,.s 10]<|.seq (.drw [ip (im 25 0),ip (io 26 (.nck (.t 25))),ip (io 27 (.fla 0 (.t 26))),ip (io 28 (.ld 1 false (.t 27))),ip (im 29 1),ip (im 30 7),ip (io 31 (.ixa 1 (.t 29) (.t 30))),ip (io 32 (.ld 1 false (.t 31))),ip (im 34 9),ip (im 36 10),(io 33 (.call (jf 157) [.t 32]),[io 28 (.ld 1 false (.t 27))]),ip (io 35 (.bin .add (.t 33) (.t 34))),ip (io 37 (.call (jf 27) [.t 28,.t 35,.t 36])),ip (im 11 37)])<|rs 37 [.i .neq 11 0]<|.cond (.t 39) (rr 39 [.M 11,.s 6])<|.skip
def c116_1:Zar:=rl 0 14 15 (.t 13) 42<|.blk 1<|rs 15 [.M 14,.Y 1 12 14,.m 7 16,.s 8]<|rs 18 [.M 8,.c 165 [19],.J 0]<|c116_2
def ZqY:Zar:=rs 5 [.J 0]<|.seq (rs 11 [.R 2,.J 0]<|c116_1)<|rr 5 [.J 0]
def cf116:=kf0 116 ZqY [.tmp 6] 43
def ZnZ:Zar:=rs 1 [.J 0]<|rr 2 [.i .and 0 1,.s 2]
def cf117:=kf0 117 ZnZ [.tmp 2] 5
def ZJg:Zar:=rs 0 [.K 2]<|rr 2 [.M 0,.O (.eqn 0 true (.t 3) (.c (.sc (.pointer none)))),.y 4,.M 0,.k 6,.F 0 7,.B .gtr 9 0,.z,.s 2]
def ZFS:=kf0 118 ZJg [.tmp 2] 12
def c119_1:Zar:=rl 0 8 9 (.t 7) 18<|.blk 1<|rs 9 [.M 8,.s 5]<|rs 10 [.M 1,.M 0,.M 5,.Y 1 12 13,.b .eql 11 15]<|.cond (.t 16) (rr 16 [.M 5,.s 4])<|.skip
def Zuv:Zar:=rs 3 [.J 0]<|.seq (rs 5 [.R 0,.J 0]<|c119_1)<|rr 3 [.J (-1)]
def cf119:=kf0 119 Zuv [.tmp 4] 19
def ZvF:Zar:=rs 5 [.O (.mv (.c (.sc (.string ⟨#[]⟩)))),.J 0]<|.seq (rs 8 [.M 0,.c 60 [9],.s 8]<|rs 10 [.i .neq 8 0]<|.cond (.t 12) (rr 12 [.M 8,.o 6 (.mv (.c (.sc (.string ⟨#[]⟩)))),.s 7])<|.skip)<|.seq (.drw [ip (im 14 0),ip (im 15 0),ip (io 16 (.nck (.t 15))),ip (io 17 (.fla 1 (.t 16))),ip (io 18 (.fla 3 (.t 17))),ip (io 19 (.ld 1 false (.t 18))),ip (im 21 0),ip (io 22 (.nck (.t 21))),ip (io 23 (.fla 1 (.t 22))),ip (io 24 (.fla 4 (.t 23))),ip (io 25 (.ld 1 false (.t 24))),ip (im 26 1),ip (im 27 2),(io 20 (.call (jf 61) [.t 19]),[io 25 (.ld 1 false (.t 24))]),ip (io 28 (.call (jf 97) [.t 14,.t 20,.t 25,.t 26,.t 27])),ip (io 29 (.ext (.t 28) 0)),ip (io 30 (.ext (.t 28) 1)),ip (im 6 29),ip (im 7 30)])<|.ret
def cf120:=kf0 120 ZvF [.tmp 6,.tmp 7] 31
def ZrW:Zar:=rs 3 [.O (.mv (.c (.sc (.string ⟨#[]⟩)))),.J 0]<|.seq (rs 6 [.M 0,.c 60 [7],.s 6]<|rs 8 [.i .neq 6 0]<|.cond (.t 10) (rr 10 [.M 6,.o 4 (.mv (.c (.sc (.string ⟨#[]⟩)))),.s 5])<|.skip)<|ri 11 [.i .lss 1 0,.h 13,.M 1,.M 0,.k 16,.N 8 17,.b .geq 15 20,.z] 22 (rr 3 [.O (.mv (.c (.sc (.string ⟨#[]⟩)))),.J 9])<|rr 22 [.M 0,.k 23,.F 10 24,.M 1,.M 0,.O (.mkf 87 [.t 28] []),.c 179 [26,27,29],.e 30 0,.e 30 1,.m 4 31,.s 5]
def ZLD:=kf0 128 ZrW [.tmp 4,.tmp 5] 33
def Zrw:Zar:=rs 1 [.O (.box 41 (.c za2)),.J 0]<|ri 8 [.M 0,.O (.len true (.t 9)),.B .neq 10 128] 11 (rr 2 [.o 12 (.bld zl7 []),.Z 6 2 12,.J 3])<|rs 12 [.M 0,.O (.len true (.t 13)),.B .sub 14 6,.s 4]<|rs 16 [.M 0,.M 4,.O (.slS (.t 17) none (some (.t 18))),.c 196 [19],.s 16,.e 16 0,.e 16 1,.m 5 21,.s 6]<|rk 22 [.M 6,.u 23,.h 24,.M 5,.O (.ixs (.t 26) (ik 0)),.O (.bin .neq (.t 27) (.c (.sc (.int .u8 86)))),.z,.h 29,.M 5,.O (.slS (.t 31) (some (ik 1)) (some (ik 7))),.M 0,.M 4,.O (.slS (.t 33) (some (.t 34)) none),.b .neq 32 35,.z] 37 (rr 2 [.o 38 (.bld zl7 []),.Z 6 2 38,.J 3])<|rs 6 [.O (.box 41 (.c za2))]<|rs 38 [.M 5,.O (.slS (.t 39) (some (ik 7)) none),.O (.mkf 197 [] [.t 7]),.c 185 [40,41],.s 8]<|rs 42 [.M 0,.M 4,.O (.slS (.t 43) (some (.t 44)) none),.c 203 [45],.f 0 7,.Z 1 47 46]<|ri 47 [.i .neq 8 0,.h 49,.L 6 7,.c 63 [51],.B .neq 52 0,.z] 54 (rr 2 [.o 55 (.bld zl7 []),.Z 6 2 55,.J 3])<|rr 55 [.L 6 7,.Z 6 2 56,.j 3 0]
def ZSg:=kf0 155 Zrw [(.cell 6 true 2),.tmp 3] 57
def Zr2:Zar:=rs 0 [.K 2]<|rr 2 [.i .geq 0 0,.y 4,.i .lss 0 2047,.z,.s 2]
def cf156:=kf0 156 Zr2 [.tmp 2] 9
def ZdN:Zar:=rs 1 [.J 0]<|ri 2 [.i .lss 0 0,.h 4,.i .gtr 0 2047,.z] 8 (rr 1 [.J 0])<|rr 8 [.M 0,.O (.bin .mul (ik 2) (.t 9)),.O (.bin .add (ik 2) (.t 10)),.s 2]
def cf157:=kf0 157 ZdN [.tmp 2] 12
def ZeY:Zar:=rs 1 [.O (.mv (.c (.sc (.int .u8 0)))),.J 0,.O (.mv (.c (.sc (.string ⟨#[]⟩)))),.J 0]<|rs 9 [.M 0,.c 196 [10],.s 9,.e 9 0,.e 9 1,.m 6 12,.s 7]<|ri 13 [.M 7,.u 14,.h 15,.M 0,.O (.len true (.t 17)),.B .neq 18 256,.z,.h 20,.M 6,.O (.ixs (.t 22) (ik 0)),.c 161 [23],.u 24,.z] 26 (rr 1 [.O (.mv (.c (.sc (.int .u8 0)))),.J 0,.O (.mv (.c (.sc (.string ⟨#[]⟩)))),.J 15])<|rt 26 [.M 6,.O (.ixs (.t 27) (ik 4)),.O (.cnv .i64 (.t 28)),.O (.bin .shl (.t 29) (.c (.sc (.int .u64 8)))),.M 6,.O (.ixs (.t 31) (ik 5)),.O (.cnv .i64 (.t 32)),.b .or 30 33,.s 8]<|ri 34 [.i .gtr 8 246,.h 36,.M 6,.M 8,.O (.bin .add (ik 6) (.t 39)),.O (.slS (.t 38) (some (.t 40)) none),.C 200 [.t 41,.c (.sc (.string ⟨#[0]⟩))],.O (.bin .neq (.t 42) (.c (.sc (.string ⟨#[]⟩)))),.z] 44 (rr 1 [.O (.mv (.c (.sc (.int .u8 0)))),.J 0,.O (.mv (.c (.sc (.string ⟨#[]⟩)))),.J 15])<|rt 44 [.M 6,.O (.ixs (.t 45) (ik 0)),.M 6,.O (.ixs (.t 47) (ik 1)),.O (.cnv .i64 (.t 48)),.O (.bin .shl (.t 49) (.c (.sc (.int .u64 16)))),.M 6,.O (.ixs (.t 51) (ik 2)),.O (.cnv .i64 (.t 52)),.O (.bin .shl (.t 53) (.c (.sc (.int .u64 8)))),.b .or 50 54,.M 6,.O (.ixs (.t 56) (ik 3)),.O (.cnv .i64 (.t 57)),.b .or 55 58,.M 6,.M 8,.O (.bin .add (ik 6) (.t 61)),.O (.slS (.t 60) (some (ik 6)) (some (.t 62))),.m 2 46,.m 3 59,.s 4,.j 5 0]<|.ret
def ZKA:=kf0 158 ZeY [.tmp 2,.tmp 3,.tmp 4,.tmp 5] 64
def Zj3:Zar:=rs 0 [.K 4]<|rr 4 [.M 0,.O (.eqn 0 true (.t 5) (.c (.sc (.pointer none)))),.y 6,.i .geq 1 0,.z,.y 10,.M 1,.M 0,.k 13,.F 1 14,.b .lss 12 16,.z,.s 4]
def cf159:=kf0 159 Zj3 [.tmp 4] 19
def c160_1:Zar:=rl 0 20 21 (.t 19) 31<|.blk 1<|rs 21 [.Y 1 18 20,.s 8]<|ri 23 [.M 8,.c 156 [24],.u 25] 26 (rr 3 [.O (.mv (.c (.sc (.string ⟨#[]⟩)))),.J 2])<|ry 26 [.M 6,.M 8,.c 204 [28],.b .add 27 29,.s 6]
def ZGs:Zar:=rs 3 [.O (.mv (.c (.sc (.string ⟨#[]⟩)))),.J 0]<|ri 8 [.R 1,.B .gtr 10 122] 11 (rr 3 [.O (.mv (.c (.sc (.string ⟨#[]⟩)))),.J 5])<|ri 11 [.i .geq 0 2047] 13 (rr 3 [.O (.mv (.c (.sc (.string ⟨#[]⟩)))),.J 2])<|rs 13 [.M 0,.O (.mm true (.t 14) (ik (-1))),.B .add 15 1,.c 204 [16],.s 6]<|.seq (rs 17 [.R 1,.J 0]<|c160_1)<|rr 31 [.M 6,.s 4,.j 5 0]
def cf160:=kf0 160 ZGs [.tmp 4,.tmp 5] 33
def ZDG:Zar:=rs 0 [.K 2]<|.seq (rs 0 [.s 3]<|.blk 0<|.seq (rs 4 [.O (.bin .eql (.t 3) (.c (.sc (.int .u8 67)))),.s 4]<|.cond (.t 4) .skip<|rs 5 [.O (.bin .eql (.t 3) (.c (.sc (.int .u8 78)))),.s 4]<|.cond (.t 4) .skip<|ry 6 [.O (.bin .eql (.t 3) (.c (.sc (.int .u8 77)))),.s 4])<|.cond (.t 4) (rr 0 [.T 2])<|.skip)<|rr 0 [.K 2]
def cf161:=kf0 161 ZDG [.tmp 2] 8
def ZHn:Zar:=rs 1 [.O (.mv (.c (.sc (.string ⟨#[]⟩))))]<|rr 2 [.M 0,.M 0,.S 1 4,.c 206 [5],.c 205 [6],.b .add 3 7,.s 2]
def cf162:=kf0 162 ZHn [.tmp 2] 9
def c163_1:Zar:=rl 0 5 6 (ik 6) 15<|.blk 1<|rs 6 [.M 5,.s 4]<|rs 7 [.M 4,.O (.bin .sub (ik 5) (.t 8)),.M 0,.O (.cnv .u8 (.t 10)),.O (.ixA 6 1 (.t 3) (.t 9)),.Z 1 12 11]<|ry 12 [.M 0,.O (.bin .shr (.t 13) (.c (.sc (.int .u64 8)))),.s 0]
def ZvQ:Zar:=rs 1 [.O (.mv (.c (.sc (.string ⟨#[]⟩))))]<|rs 2 [.O (.box 270 (.c za14))]<|.seq (rs 4 [.J 0]<|c163_1)<|rr 15 [.O (.sla 6 1 (.t 3) none none none),.O (.sob (.t 16)),.s 2]
def cf163:=kf0 163 ZvQ [.tmp 2] 18
def ZhA:Zar:=rs 1 [.O (.mv (.c (.sc (.string ⟨#[]⟩))))]<|rr 2 [.M 0,.O (.mm true (.t 3) (ik 0)),.O (.cnv .u64 (.t 4)),.c 207 [5],.s 2]
def cf164:=kf0 164 ZhA [.tmp 2] 7
def Zeo:Zar:=rs 1 [.O (.box 239 (.c (.agg [.sc (.string ⟨#[]⟩),.sc (.string ⟨#[]⟩)])))]<|ri 2 [.M 0,.O (.len true (.t 3)),.B .neq 4 256] 5 (rr 5 [.O (.bld [.sc (.string ⟨#[]⟩),.sc (.string ⟨#[]⟩)] []),.Z 2 2 6])<|rt 6 [.M 0,.O (.slS (.t 7) none (some (ik 128))),.M 0,.O (.slS (.t 9) (some (ik 128)) none),.O (.bld [.sc (.string ⟨#[]⟩),.sc (.string ⟨#[]⟩)] [(0,(1,.t 8)),(1,(1,.t 10))]),.Z 2 2 11]<|.ret
def cf165:=kf0 165 Zeo [(.cell 2 true 2)] 12
def c179_0:Zar:=rs 5 [.O (.mv (.c (.sc (.string ⟨#[]⟩)))),.J 0]<|.seq (rs 12 [.M 0,.M 1,.c 216 [13,14],.s 12,.e 12 0,.e 12 1,.m 8 16,.s 9]<|rs 17 [.M 9]<|.cond (.t 18) (rr 18 [.M 8,.s 6,.j 7 0])<|.skip)<|rs 20 [.M 2,.M 1,.O (.call (.t 21) [.t 22]),.s 20,.e 20 0,.e 20 1,.m 10 24,.s 11]<|ri 25 [.i .neq 11 0] 27 (rr 27 [.M 11,.o 6 (.mv (.c (.sc (.string ⟨#[]⟩)))),.s 7])<|rs 28 [.M 0,.M 1,.M 10,.c 217 [29,30,31]]<|rr 32 [.M 10,.s 6,.j 7 0]
def cf179:=kf0 179 c179_0 [.tmp 6,.tmp 7] 34
def c184_1:Zar:=rv 0 25 [.M 7,.M 5,.b .lss 26 27] 28<|.seq (.blk 1<|ry 30 [.M 6,.O (.bin .shl (.t 31) (.c (.sc (.int .u64 8)))),.M 0,.M 7,.O (.ixs (.t 33) (.t 34)),.O (.cnv .u64 (.t 35)),.b .or 32 36,.s 6])<|ry 28 [.i .add 7 1,.s 7]
def ZKV:Zar:=rs 0 [.o 2 (.mv (.c (.sc (.int .u64 0)))),.j 3 0,.K 4]<|ri 7 [.M 0,.O (.bin .eql (.t 8) (.c (.sc (.string ⟨#[]⟩))))] 9 (rr 0 [.o 2 (.mv (.c (.sc (.int .u64 0)))),.j 3 0,.K 4])<|rs 9 [.M 0,.O (.ixs (.t 10) (ik 0)),.c 219 [11],.B .add 12 1,.s 5]<|ri 13 [.M 0,.O (.len true (.t 14)),.M 5,.b .lss 15 16] 17 (rr 0 [.o 2 (.mv (.c (.sc (.int .u64 0)))),.j 3 0,.K 4])<|rt 17 [.M 0,.O (.ixs (.t 18) (ik 0)),.M 5,.c 220 [20],.b .andNot 19 21,.O (.cnv .u64 (.t 22)),.s 6]<|ri 23 [.i .eql 5 9] 25 (ry 5 [.O (.mv (.c (.sc (.int .u64 0))))])<|.seq (rs 6 [.J 1]<|c184_1)<|ri 37 [.M 6,.c 221 [38],.M 5,.b .neq 39 40] 41 (rr 0 [.o 2 (.mv (.c (.sc (.int .u64 0)))),.j 3 0,.K 4])<|rr 41 [.M 6,.M 5,.m 2 42,.s 3,.T 4]
def ZQ8:=kf0 184 ZKV [.tmp 2,.tmp 3,.tmp 4] 44
def ZNU:Zar:=rs 0 [.o 2 (.mv (.c (.sc (.string ⟨#[]⟩)))),.K 3]<|rs 4 [.M 0,.O (.len true (.t 5)),.B .sub 6 4,.s 4]<|.seq (.seq (.drw [ip (im 8 4),ip (io 9 (.bin .lss (.t 8) (ik 0))),ip (im 10 9),ip (ih 10 11 (.mv (.t 0))),ip (ih 10 12 (.mv (.t 4))),ip (ih 10 13 (.slS (.t 11) none (some (.t 12)))),ip (ih 10 14 (.bsl 1 [.t 13])),ip (ih 10 17 (.mv (.t 0))),ip (ih 10 18 (.mv (.t 4))),ip (ih 10 19 (.slS (.t 17) (some (.t 18)) none)),ip (ih 10 15 (.call (jf 206) [.t 14])),ip (ih 10 16 (.call (jf 205) [.t 15])),ip (ih 10 20 (.bin .neq (.t 16) (.t 19))),ip (io 21 (.pick (.t 10) (ib true) (.t 20)))])<|.cond (.t 21) (rr 0 [.o 2 (.mv (.c (.sc (.string ⟨#[]⟩)))),.K 3])<|.skip)<|rr 21 [.M 0,.M 4,.O (.slS (.t 22) none (some (.t 23))),.s 2,.T 3]
def cf196:=kf0 196 ZNU [.tmp 2,.tmp 3] 25
def ZQg:Zar:=rs 3 [.M 0,.O (.mkf 198 [.t 4] []),.s 3]<|rs 5 [.M 3,.O (.call (.t 6) [ik 2047]),.M 3,.O (.call (.t 8) [ik 2047]),.M 3,.O (.call (.t 10) [ik 1048576]),.M 3,.O (.call (.t 12) [ik 1048576]),.M 3,.O (.call (.t 14) [ik 1048576]),.O (.bld zl7 [(1,(1,.t 7)),(2,(1,.t 9)),(3,(1,.t 11)),(4,(1,.t 13)),(5,(1,.t 15))]),.Z 6 1 16]<|ry 16 [.M 0,.M 0,.M 0,.c 202 [19],.c 201 [18,20],.C 200 [.t 21,.c (.sc (.string ⟨#[0]⟩))],.O (.bin .eql (.t 22) (.c (.sc (.string ⟨#[]⟩)))),.C 199 [.t 17,.t 23,ik 3]]
def cf197:=kf0 197 ZQg [] 25
def ZLt:Zar:=rs 3 [.J 0]<|ri 5 [.M 0,.c 231 [6],.u 7] 8 (rr 3 [.J 0])<|rs 8 [.M 0,.c 232 [9],.s 5]<|ri 10 [.i .lss 1 0,.h 12,.M 5,.M 1,.O (.cnv .u64 (.t 15)),.b .gtr 14 16,.z] 18 (ry 18 [.M 0,.C 233 [.t 19,ik 5]])<|rr 20 [.M 5,.O (.cnv .i64 (.t 21)),.s 4]
def cf198:=kf0 198 ZLt [.tmp 4] 23
def ZLQ:Zar:=rs 5 [.M 0,.c 231 [6],.y 7,.M 1,.u 9,.z]<|.cond (.t 11) (ri 11 [.i .eql 2 0] 13 (ry 1 [.J 3])<|ry 13 [.M 0,.M 2,.c 233 [14,15]])<|.skip
def cf199:=kf0 199 ZLQ [] 17
def ZQB:Zar:=rs 3 [.O (.mv (.c (.sc (.string ⟨#[]⟩))))]<|ri 6 [.M 0,.O (.bin .eql (.t 7) (.c (.sc (.string ⟨#[]⟩)))),.h 8,.M 1,.O (.bin .eql (.t 10) (.c (.sc (.string ⟨#[]⟩)))),.z] 12 (rr 12 [.M 0,.s 4])<|ri 13 [.M 1,.O (.len true (.t 14)),.B .eql 15 1,.y 16,.M 1,.O (.ixs (.t 18) (ik 0)),.O (.bin .lss (.t 19) (.c (.sc (.int .u8 128)))),.z] 21 (rt 21 [.M 0,.M 1,.O (.ixs (.t 23) (ik 0)),.m 26 1,.o 27 (.ixs (.t 26) (ik 0)),.c 235 [22,24],.o 28 (.call (jf 234) [.t 25,.t 27]),.m 4 28]<|.ret)<|.seq (rs 29 [.M 1,.c 236 [30],.s 29,.e 29 0,.e 29 1,.o 5 (.box 297 (.c za15)),.Z 256 5 32,.s 6]<|rs 33 [.M 6]<|.cond (.t 34) (rr 34 [.M 0,.c 238 [35,5],.c 237 [36,5],.s 4])<|.skip)<|rr 37 [.M 0,.M 1,.c 240 [38,39],.M 1,.c 239 [40,41],.s 4]
def cf200:=kf0 200 ZQB [.tmp 4] 43
def ZLq:Zar:=rs 3 [.O (.mv (.c (.sc (.string ⟨#[]⟩))))]<|ri 5 [.M 0,.c 231 [6],.u 7] 8 (rr 3 [.O (.mv (.c (.sc (.string ⟨#[]⟩))))])<|rk 8 [.i .lss 1 0,.h 10,.M 0,.k 12,.F 0 13,.O (.len true (.t 15)),.M 0,.k 17,.F 1 18,.b .sub 16 20,.M 1,.b .lss 21 22,.z] 24 (ry 24 [.M 0,.C 233 [.t 25,ik 3]])<|rt 26 [.M 0,.k 27,.F 0 28,.M 0,.k 31,.F 1 32,.M 0,.k 35,.F 1 36,.M 1,.b .add 38 39,.O (.slS (.t 30) (some (.t 34)) (some (.t 40))),.s 5]<|rs 41 [.M 0,.k 42,.F 1 43,.M 1,.b .add 45 46,.k 42,.f 1 48,.Z 1 49 47]<|rr 49 [.M 5,.s 4]
def cf201:=kf0 201 ZLq [.tmp 4] 51
def ZKM:Zar:=rs 1 [.J 0]<|ri 2 [.M 0,.c 231 [3],.u 4] 5 (rr 1 [.J 0])<|rt 5 [.M 0,.k 6,.F 0 7,.O (.len true (.t 9)),.M 0,.k 11,.F 1 12,.b .sub 10 14,.s 2]<|.ret
def cf202:=kf0 202 ZKM [.tmp 2] 16
def c203_1:Zar:=rl 0 7 8 (.t 6) 17<|.blk 1<|rs 8 [.M 7,.s 4]<|ry 9 [.M 3,.O (.bin .shl (.t 10) (.c (.sc (.int .u64 8)))),.M 0,.M 4,.O (.ixs (.t 12) (.t 13)),.O (.cnv .i64 (.t 14)),.b .or 11 15,.s 3]
def ZLa:Zar:=rs 1 [.J 0]<|rs 2 [.J 0]<|.seq (rs 4 [.M 0,.O (.len true (.t 5)),.J 0]<|c203_1)<|rr 17 [.M 3,.s 2]
def cf203:=kf0 203 ZLa [.tmp 2] 19
def ZLw:Zar:=rs 1 [.O (.mv (.c (.sc (.string ⟨#[]⟩))))]<|rr 2 [.M 0,.O (.bin .shr (.t 3) (.c (.sc (.int .u64 8)))),.O (.cnv .u8 (.t 4)),.M 0,.O (.cnv .u8 (.t 6)),.O (.bsl 1 [.t 5,.t 7]),.O (.sob (.t 8)),.s 2]
def cf204:=kf0 204 ZLw [.tmp 2] 10
def ZK9:Zar:=rs 1 [.O (.mv (.c (.sc (.string ⟨#[]⟩))))]<|rr 2 [.M 0,.O (.cnv .u8 (.t 3)),.M 0,.O (.bin .shr (.t 5) (.c (.sc (.int .u64 8)))),.O (.cnv .u8 (.t 6)),.M 0,.O (.bin .shr (.t 8) (.c (.sc (.int .u64 16)))),.O (.cnv .u8 (.t 9)),.M 0,.O (.bin .shr (.t 11) (.c (.sc (.int .u64 24)))),.O (.cnv .u8 (.t 12)),.O (.bsl 1 [.t 4,.t 7,.t 10,.t 13]),.O (.sob (.t 14)),.s 2]
def cf205:=kf0 205 ZK9 [.tmp 2] 16
def c206_1:Zar:=rl 0 8 9 (.t 7) 15<|.blk 1<|rs 9 [.Y 1 6 8,.s 5]<|ry 11 [.M 3,.M 5,.c 241 [12,13],.s 3]
def c206_0:Zar:=rs 1 [.O (.mv (.c (.sc (.int .u32 0))))]<|rs 2 [.O (.mv (.c (.sc (.int .u32 0))))]<|.seq (rs 5 [.R 0,.J 0]<|c206_1)<|rr 15 [.M 3,.s 2]
def cf206:=kf0 206 c206_0 [.tmp 2] 17
def c207_1:Zar:=rv 0 9 [.i .geq 5 0] 11<|.seq (.blk 1<|rs 13 [.M 5,.M 0,.O (.cnv .u8 (.t 15)),.O (.ixA 9 1 (.t 4) (.t 14)),.Z 1 17 16]<|ry 17 [.M 0,.O (.bin .shr (.t 18) (.c (.sc (.int .u64 8)))),.s 0])<|ry 11 [.i .sub 5 1,.s 5]
def c207_0:Zar:=rs 1 [.O (.mv (.c (.sc (.string ⟨#[]⟩))))]<|rs 5 [.M 0,.c 221 [6],.s 3]<|rs 3 [.O (.box 303 (.c za16))]<|.seq (rs 7 [.i .sub 3 1,.s 5]<|c207_1)<|.seq (rs 19 [.i .lss 3 9]<|.cond (.t 21) (.drw [ip (io 22 (.ixA 9 1 (.t 4) (ik 0))),ip (io 23 (.ld 1 false (.t 22))),ip (im 24 3),(io 25 (.call (jf 220) [.t 24]),[io 23 (.ld 1 false (.t 22))]),ip (io 26 (.bin .or (.t 23) (.t 25))),ip (io 27 (.ixA 9 1 (.t 4) (ik 0))),ip (iz (.st 1 (.t 27) (.t 26)))])<|ry 27 [.M 3,.c 220 [28],.O (.ixA 9 1 (.t 4) (ik 0)),.Z 1 30 29])<|rr 30 [.M 3,.O (.sla 9 1 (.t 4) none (some (.t 31)) none),.O (.sob (.t 32)),.s 2]
def cf207:=kf0 207 c207_0 [.tmp 2] 34
def c216_0:Zar:=rs 0 [.o 4 (.mv (.c (.sc (.string ⟨#[]⟩)))),.K 5]<|ri 7 [.M 0,.c 118 [8],.u 9] 10 (rr 0 [.o 4 (.mv (.c (.sc (.string ⟨#[]⟩)))),.K 5])<|rs 11 [.M 0,.k 12,.F 2 13,.M 1,.O (.lkp (.one (.int .i64)) (.sc (.string ⟨#[]⟩)) true (.t 15) (.t 16)),.s 11,.e 11 0,.e 11 1,.m 6 18,.s 7]<|ri 19 [.M 7,.u 20] 21 (rs 21 [.M 0,.k 22,.F 4 23,.B .add 25 1,.k 22,.f 4 27,.Z 1 28 26]<|rr 0 [.o 4 (.mv (.c (.sc (.string ⟨#[]⟩)))),.K 5])<|rs 28 [.M 0,.k 29,.F 3 30,.B .add 32 1,.k 29,.f 3 34,.Z 1 35 33]<|rs 35 [.M 0,.M 1,.c 245 [36,37]]<|rr 38 [.M 6,.s 4,.T 5]
def cf216:=kf0 216 c216_0 [.tmp 4,.tmp 5] 40
def c219_1:Zar:=rv 0 3 [.M 0,.O (.bin .and (.t 4) (.c (.sc (.int .u8 128)))),.O (.bin .neq (.t 5) (.c (.sc (.int .u8 0))))] 6<|.seq (.blk 1<|ry 8 [.i .add 3 1,.s 3])<|ry 6 [.M 0,.O (.bin .shl (.t 7) (.c (.sc (.int .u64 1)))),.s 0]
def c219_0:Zar:=rs 1 [.J 0]<|rs 2 [.J 0]<|.seq c219_1<|rr 10 [.M 3,.s 2]
def cf219:=kf0 219 c219_0 [.tmp 2] 12
def c220_0:Zar:=rs 1 [.O (.mv (.c (.sc (.int .u8 0))))]<|rr 2 [.M 0,.O (.bin .sub (ik 9) (.t 3)),.O (.bin .shl (.c (.sc (.int .u8 255))) (.t 4)),.s 2]
def cf220:=kf0 220 c220_0 [.tmp 2] 6
def c221_1:Zar:=rv 0 3 [.i .lss 3 9] 5<|.seq (.blk 1<|rs 7 [.M 0,.M 3,.O (.bin .mul (ik 7) (.t 9)),.b .shr 8 10,.O (.bin .eql (.t 11) (.c (.sc (.int .u64 0))))]<|.cond (.t 12) (rr 12 [.M 3,.s 2])<|.skip)<|ry 5 [.i .add 3 1,.s 3]
def c221_0:Zar:=rs 1 [.J 0]<|.seq (rs 2 [.J 1]<|c221_1)<|rr 1 [.J 9]
def cf221:=kf0 221 c221_0 [.tmp 2] 14
def c231_0:Zar:=rs 0 [.K 2]<|rr 2 [.M 0,.O (.eqn 0 true (.t 3) (.c (.sc (.pointer none)))),.y 4,.M 0,.k 6,.F 2 7,.z,.s 2]
def cf231:=kf0 231 c231_0 [.tmp 2] 11
def c232_0:Zar:=rs 1 [.O (.mv (.c (.sc (.int .u64 0))))]<|rt 6 [.M 0,.k 7,.F 0 8,.M 0,.k 11,.F 1 12,.O (.slS (.t 10) (some (.t 14)) none),.c 184 [15],.s 6,.e 6 0,.e 6 1,.e 6 2,.m 3 17,.m 4 18,.s 5]<|ri 19 [.M 5,.u 20] 21 (ry 21 [.M 0,.C 233 [.t 22,ik 3]])<|rs 23 [.M 0,.k 24,.F 1 25,.M 4,.b .add 27 28,.k 24,.f 1 30,.Z 1 31 29]<|rr 31 [.M 3,.s 2]
def cf232:=kf0 232 c232_0 [.tmp 2] 33
def c234_1:Zar:=rv 0 4 [.M 0,.O (.len true (.t 5)),.B .gtr 6 0,.y 7,.M 0,.O (.ixs (.t 9) (ik 0)),.M 1,.b .eql 10 11,.z] 13<|.blk 1<|ry 13 [.M 0,.O (.slS (.t 14) (some (ik 1)) none),.s 0]
def ZPl:Zar:=rs 3 [.O (.mv (.c (.sc (.string ⟨#[]⟩))))]<|.seq c234_1<|rr 15 [.M 0,.s 4]
def cf234:=kf0 234 ZPl [.tmp 4] 17
def c235_1:Zar:=rv 0 4 [.M 0,.O (.len true (.t 5)),.B .gtr 6 0,.y 7,.M 0,.M 0,.O (.len true (.t 10)),.B .sub 11 1,.O (.ixs (.t 9) (.t 12)),.M 1,.b .eql 13 14,.z] 16<|.blk 1<|ry 16 [.M 0,.M 0,.O (.len true (.t 18)),.B .sub 19 1,.O (.slS (.t 17) none (some (.t 20))),.s 0]
def ZPc:Zar:=rs 3 [.O (.mv (.c (.sc (.string ⟨#[]⟩))))]<|.seq c235_1<|rr 21 [.M 0,.s 4]
def cf235:=kf0 235 ZPc [.tmp 4] 23
def c241_1:Zar:=rl 0 13 14 (.t 12) 36<|.blk 1<|rs 14 [.M 13,.s 7]<|rs 15 [.M 6,.M 1,.M 7,.O (.ixs (.t 17) (.t 18)),.O (.cnv .u32 (.t 19)),.b .xor 16 20,.s 6]<|rs 21 [.M 6,.O (.bin .shr (.t 22) (.c (.sc (.int .u64 4)))),.M 6,.O (.bin .and (.t 24) (.c (.sc (.int .u32 15)))),.O (.ixA 16 1 (.t 5) (.t 25)),.l 1 26,.b .xor 23 27,.s 6]<|ry 28 [.M 6,.O (.bin .shr (.t 29) (.c (.sc (.int .u64 4)))),.M 6,.O (.bin .and (.t 31) (.c (.sc (.int .u32 15)))),.O (.ixA 16 1 (.t 5) (.t 32)),.l 1 33,.b .xor 30 34,.s 6]
def c241_0:Zar:=rs 3 [.O (.mv (.c (.sc (.int .u32 0))))]<|rs 7 [.c 252 [],.o 5 (.box 308 (.c za17)),.Z 16 5 8]<|rs 8 [.M 0,.O (.un .xor (.t 9)),.s 6]<|.seq (rs 10 [.M 1,.O (.len true (.t 11)),.J 0]<|c241_1)<|rr 36 [.M 6,.O (.un .xor (.t 37)),.s 4]
def cf241:=kf0 241 c241_0 [.tmp 4] 39
def c252_1:Zar:=rl 0 3 4 (ik 16) 11<|.blk 1<|rs 4 [.M 3,.s 2]<|ry 5 [.M 2,.M 2,.O (.cnv .u32 (.t 7)),.c 260 [8],.O (.ixA 16 1 (.t 1) (.t 6)),.Z 1 10 9]
def c252_0:Zar:=rs 0 [.o 0 (.box 308 (.c za17))]<|rs 0 [.O (.box 308 (.c za17))]<|.seq (rs 2 [.J 0]<|c252_1)<|rr 11 [.L 16 1,.Z 16 0 12]
def cf252:=kf0 252 c252_0 [(.cell 16 true 0)] 13
def c253_1:Zar:=rv 0 9 [.i .lss 6 8] 11<|.seq (.blk 1<|rs 13 [.M 0,.c 261 [14],.M 5,.c 261 [16],.b .neq 15 17,.s 7]<|rs 18 [.M 0,.O (.bin .quo (.t 19) (.c (.sc (.int .u32 2)))),.s 0]<|rs 20 [.M 5,.O (.bin .quo (.t 21) (.c (.sc (.int .u32 2)))),.s 5]<|rs 22 [.M 7]<|.cond (.t 23) (ry 23 [.M 0,.O (.bin .xor (.t 24) (.c (.sc (.int .u32 2197175160)))),.s 0])<|.skip)<|ry 11 [.i .add 6 1,.s 6]
def ZPz:Zar:=rs 3 [.O (.mv (.c (.sc (.int .u32 0))))]<|rs 7 [.M 1,.O (.cnv .u32 (.t 8)),.s 5]<|.seq (rs 5 [.J 0]<|c253_1)<|rr 25 [.M 0,.s 4]
def cf253:=kf0 253 ZPz [.tmp 4] 27
def c260_1:Zar:=rl 0 4 5 (ik 4) 14<|.blk 1<|rs 5 [.M 0,.O (.bin .and (.t 6) (.c (.sc (.int .u32 1)))),.s 3]<|rs 7 [.M 0,.O (.bin .shr (.t 8) (.c (.sc (.int .u64 1)))),.s 0]<|rs 9 [.M 3,.O (.bin .eql (.t 10) (.c (.sc (.int .u32 1))))]<|.cond (.t 11) (ry 11 [.M 0,.O (.bin .xor (.t 12) (.c (.sc (.int .u32 2197175160)))),.s 0])<|.skip
def c260_0:Zar:=rs 1 [.O (.mv (.c (.sc (.int .u32 0))))]<|.seq (rs 3 [.J 0]<|c260_1)<|rr 14 [.M 0,.s 2]
def cf260:=kf0 260 c260_0 [.tmp 2] 16
def c261_0:Zar:=rs 1 [.O (.mv (.c (.sc (.int .u32 0))))]<|rr 2 [.M 0,.O (.bin .rem (.t 3) (.c (.sc (.int .u32 2)))),.s 2]
def cf261:=kf0 261 c261_0 [.tmp 2] 5
open Go.RowKit Go.Lib
theorem Zxg {g:Gh} {H:Zaa} {w w':World} (hW:WR g H w) (hb:Below w.heap.size w w'):WR g H w'/\Stp g H w g H w':=by
 have hle:g.le g w w':=⟨fun _ _ h=>h,fun _ _ _ _ h=>⟨_,_,_,h,.inr ⟨rfl,rfl,rfl⟩⟩,fun _ _ _ h=>h,fun _ _ h=>h,fun b j h=>Zcb (hb.block b (hW.ro b j h)) j,Zyf hb.block,rfl⟩
 exact⟨⟨fun id o h=>(hW.obj id o h).mono hle (fun b h2=>hb.block b (hW.bd id o b h h2)) (fun _ _ _ h=>h) rfl rfl (fun _=>rfl),hW.inj,hW.dom,fun id o b h1 h2=>zaM (hW.bd id o b h1 h2) hb.size,fun b j h=>zaM (hW.ro b j h) hb.size⟩,
  ⟨hle,zad _,hb.os,hb.tape,hb.output,hb.size,fun b h _=>hb.block b h,fun _ _ h=>h,fun _ _ _ h=>.inl h⟩⟩
theorem ZGy {g:Gh} {w:World} (a b:Value):VR g w (.tup [.sc a,.sc b]) (.tuple #[a,b]) :=
 .tup _ _ rfl fun i x u hx hu=>(VRs.scs (g:=g) (w:=w) [a,b]).2 i x u (by simpa using hx) (by simpa using hu)
end Go.Proofs.YtfjjpndoeppbhaaGreatDoor
