/- Texts of the walk, joined: Aa Ak Ab Ag Ac. -/
import Derived.Test.YtjflognbeehccaaGreatDoorMd
import Derived.Test.YtjflognbeehccaaGreatDoorProg
import Derived.Shelf.Strings.Repeat
import Derived.Below
import Derived.Lib.AppendZerosOnto
import Derived.Test.YtjflognbeehccaaGreatDoorMe
namespace Go.Proofs.YtjflognbeehccaaGreatDoor
set_option linter.unusedSimpArgs false
set_option linter.unusedVariables false
open Go.RowKit
def eqE:TypeId→Option (List SK):=fun t=>if t=36 then some (List.replicate 6 (.int .i64)) else if t=112 then some [.str,.int .i64] else if t=27 then some (List.replicate 2 (.int .i64)) else none
def eqT:EqT:=⟨eqE,fun t=>Nat.beq t 192⟩
theorem ZcL:∀{n:Nat} {xs:List Value},xs.length=n→(∀(i:Nat) (k:SK) (x:Value),(List.replicate n (SK.int .i64))[i]?=some k→xs[i]?=some x→k.is x=true)→∃l:List Int,xs=l.map (Value.int .i64)∧l.length=n
 | 0,xs,h,_=>⟨[],by simpa using h,rfl⟩
 | n+1,[],h,_=>by simp at h
 | n+1,x :: xs,h,hk=>by
  obtain⟨l,h1,h2⟩:=ZcL (n:=n) (xs:=xs) (by simpa using h) (fun i k y a b=>hk (i+1) k y (by simpa [List.replicate_succ] using a) (by simpa using b))
  have:=hk 0 (.int .i64) x (by simp[List.replicate_succ]) (by simp)
  cases x with
  | int k a =>
   simp[SK.is]at this
   subst this
   exact⟨a :: l,by simp[h1],by simp[h2]⟩
  | _=>simp[SK.is]at this
theorem Zda:∀{l m:List Int},l.length=m.length→ZgE (l.map (Value.int .i64)) (m.map (Value.int .i64))=decide (l=m)
 | [],[],_=>rfl
 | a :: l,b :: m,h=>by
  have ih:=Zda (l:=l) (m:=m) (by simpa using h)
  simp only[List.map_cons,ZgE,vEq,ih]
  by_cases h1:a=b<;>by_cases h2:l=m<;>simp[h1,h2]
 | [],_ :: _,h=>by simp at h
 | _ :: _,[],h=>by simp at h
theorem ZfM (b:Bool) (d:Nat) (w:World) (a:Int):(Instr.checkKey b (d+1) 3 (.int .i64 a)).run Tryz.prog w=.ok () w:=by
 unfold Instr.checkKey
 simp[run_underlying Tryz.underlying3]
theorem ZfQ (b:Bool) (d:Nat) (w:World) (a:Int):(Instr.checkKey b (d+1) 2 (.int .i64 a)).run Tryz.prog w=.ok () w:=by
 unfold Instr.checkKey
 simp[run_underlying Tryz.underlying2]
set_option maxHeartbeats 1000000 in
set_option maxRecDepth 100000 in
theorem eq_root (d:Nat) (w:World) (a0 a1 a2 a3 a4 a5 b0 b1 b2 b3 b4 b5:Int):(Op.equalIn (d+2) 36 (.agg #[.int .i64 a0,.int .i64 a1,.int .i64 a2,.int .i64 a3,.int .i64 a4,.int .i64 a5]) (.agg #[.int .i64 b0,.int .i64 b1,.int .i64 b2,.int .i64 b3,.int .i64 b4,.int .i64 b5])).run Tryz.prog w=.ok (decide (a0=b0∧a1=b1∧a2=b2∧a3=b3∧a4=b4∧a5=b5)) w:=by
 rw[run_equalIn_struct w (d+1) _ _ _ (by kernel_rfl) (by kernel_rfl)]
 by_cases h0:a0=b0<;>by_cases h1:a1=b1<;>by_cases h2:a2=b2<;>by_cases h3:a3=b3<;>by_cases h4:a4=b4<;>by_cases h5:a5=b5<;>simp[go_sem,h0,h1,h2,h3,h4,h5]
set_option maxHeartbeats 1000000 in
set_option maxRecDepth 100000 in
theorem chk_root (b:Bool) (d:Nat) (w:World) (a0 a1 a2 a3 a4 a5:Int):(Instr.checkKey b (d+2) 36 (.agg #[.int .i64 a0,.int .i64 a1,.int .i64 a2,.int .i64 a3,.int .i64 a4,.int .i64 a5])).run Tryz.prog w=.ok () w:=by
 unfold Instr.checkKey
 simp[run_underlying Tryz.underlying36,go_sem,ZfM,ZfQ]
theorem list6 {l:List Int} (h:l.length=6):∃a b c d e f,l=[a,b,c,d,e,f]:=by
 match l,h with
 | [a,b,c,d,e,f],_=>exact⟨a,b,c,d,e,f,rfl⟩
set_option maxHeartbeats 1000000 in
set_option maxRecDepth 100000 in
theorem eq_total (d:Nat) (w:World) (a0 a1 b0 b1:Int):(Op.equalIn (d+2) 27 (.agg #[.int .i64 a0,.int .i64 a1]) (.agg #[.int .i64 b0,.int .i64 b1])).run Tryz.prog w=.ok (decide (a0=b0∧a1=b1)) w:=by
 rw[run_equalIn_struct w (d+1) _ _ _ (by kernel_rfl) (by kernel_rfl)]
 by_cases h0:a0=b0<;>by_cases h1:a1=b1<;>simp[go_sem,h0,h1]
set_option maxHeartbeats 1000000 in
set_option maxRecDepth 100000 in
theorem Zw7 (b:Bool) (d:Nat) (w:World) (a0 a1:Int):(Instr.checkKey b (d+2) 27 (.agg #[.int .i64 a0,.int .i64 a1])).run Tryz.prog w=.ok () w:=by
 unfold Instr.checkKey
 simp[run_underlying Tryz.underlying27,go_sem,ZfM,ZfQ]
theorem ba_dec (a b:ByteArray):(a == b)=decide (a=b):=by rw[Bool.eq_iff_iff,Zmh];simp
theorem ba_tl (a b:ByteArray):(a.toList=b.toList)=(a=b):=propext ⟨fun h=>by rw[ByteArray.toList_eq,ByteArray.toList_eq]at h;exact ByteArray.ext (Array.toList_inj.1 h),fun h=>by rw[h]⟩
theorem chk_str (b:Bool) (d:Nat) (w:World) (a:ByteArray):(Instr.checkKey b (d+1) 9 (.string a)).run Tryz.prog w=.ok () w:=by
 unfold Instr.checkKey
 simp[run_underlying Tryz.underlying9]
set_option maxHeartbeats 1000000 in
set_option maxRecDepth 100000 in
theorem eq_fault (d:Nat) (w:World) (a0 b0:ByteArray) (a1 b1:Int):(Op.equalIn (d+2) 112 (.agg #[.string a0,.int .i64 a1]) (.agg #[.string b0,.int .i64 b1])).run Tryz.prog w=.ok ((a0 == b0)&&(a1 == b1)) w:=by
 rw[run_equalIn_struct w (d+1) _ _ _ (by kernel_rfl) (by kernel_rfl)]
 by_cases h0:a0=b0<;>by_cases h1:a1=b1<;>simp[go_sem,h0,h1,ba_dec,ba_tl]
set_option maxHeartbeats 1000000 in
set_option maxRecDepth 100000 in
theorem Zw1 (b:Bool) (d:Nat) (w:World) (a0:ByteArray) (a1:Int):(Instr.checkKey b (d+2) 112 (.agg #[.string a0,.int .i64 a1])).run Tryz.prog w=.ok () w:=by
 unfold Instr.checkKey
 simp[run_underlying Tryz.underlying112,go_sem,ZfM,chk_str]
theorem list2 {l:List Int} (h:l.length=2):∃a b,l=[a,b]:=by
 match l,h with
 | [a,b],_=>exact⟨a,b,rfl⟩
theorem hE:∀t ks,eqT t=some ks→Ziv Tryz.prog t ks:=by
 intro t ks h
 have h:eqE t=some ks:=h
 unfold eqE at h
 split at h
 ·rename_i e
  subst e
  injection h with h
  subst h
  intro xs ys h1 h2 h3 h4 w
  obtain⟨l,rfl,hl⟩:=ZcL (by simpa using h1) h3
  obtain⟨m,rfl,hm⟩:=ZcL (by simpa using h2) h4
  obtain⟨a0,a1,a2,a3,a4,a5,rfl⟩:=list6 hl
  obtain⟨c0,c1,c2,c3,c4,c5,rfl⟩:=list6 hm
  refine⟨?_,fun b=>chk_root b 9998 w a0 a1 a2 a3 a4 a5⟩
  rw[Zda (by simp)]
  refine(eq_root 9998 w a0 a1 a2 a3 a4 a5 c0 c1 c2 c3 c4 c5).trans ?_
  congr 1
  simp
 ·split at h
  ·rename_i e
   subst e
   injection h with h
   subst h
   intro xs ys h1 h2 h3 h4 w
   obtain⟨x0,x1,rfl⟩:∃a b,xs=[a,b]:=by
    match xs,h1 with
    | [a,b],_=>exact⟨a,b,rfl⟩
   obtain⟨y0,y1,rfl⟩:∃a b,ys=[a,b]:=by
    match ys,h2 with
    | [a,b],_=>exact⟨a,b,rfl⟩
   obtain⟨a0,rfl⟩:∃s,x0=.string s:=by
    have:=h3 0 .str x0 rfl rfl
    cases x0<;>simp[SK.is]at this
    exact⟨_,rfl⟩
   obtain⟨b0,rfl⟩:∃s,y0=.string s:=by
    have:=h4 0 .str y0 rfl rfl
    cases y0<;>simp[SK.is]at this
    exact⟨_,rfl⟩
   obtain⟨a1,rfl⟩:∃s,x1=.int .i64 s:=by
    have:=h3 1 (.int .i64) x1 rfl rfl
    cases x1<;>simp[SK.is]at this
    subst this
    exact⟨_,rfl⟩
   obtain⟨b1,rfl⟩:∃s,y1=.int .i64 s:=by
    have:=h4 1 (.int .i64) y1 rfl rfl
    cases y1<;>simp[SK.is]at this
    subst this
    exact⟨_,rfl⟩
   refine⟨?_,fun b=>Zw1 b 9998 w a0 a1⟩
   refine(eq_fault 9998 w a0 b0 a1 b1).trans ?_
   simp[ZgE,vEq]
  ·split at h
   ·rename_i e
    subst e
    injection h with h
    subst h
    intro xs ys h1 h2 h3 h4 w
    obtain⟨l,rfl,hl⟩:=ZcL (by simpa using h1) h3
    obtain⟨m,rfl,hm⟩:=ZcL (by simpa using h2) h4
    obtain⟨a0,a1,rfl⟩:=list2 hl
    obtain⟨c0,c1,rfl⟩:=list2 hm
    refine⟨?_,fun b=>Zw7 b 9998 w a0 a1⟩
    rw[Zda (by simp)]
    refine(eq_total 9998 w a0 a1 c0 c1).trans ?_
    congr 1
    simp
   ·cases h
def zl0:List AV:=[.sc (.pointer none),.sl .full [],.sl .full [],.sc (.int .i64 0),.sc (.int .i64 0),.sc (.int .i64 0),.sc (.int .i64 0),.sc (.int .i64 0),.sc (.int .i64 0),.sc (.int .i64 0),.sc (.bool false),.sc (.bool false)]
def zl1:List AV:=[.sl .full [],.sl .full [],.sc (.int .i64 0),.sc (.int .i64 0),.sc (.int .i64 0),.sc (.bool false)]
def za2:AV:=.agg [.sl .full [],.sl .full [],.sc (.int .i64 0),.sc (.int .i64 0),.sc (.int .i64 0),.sc (.int .i64 0),.sc (.int .i64 0),.sc (.int .i64 0),.sc (.int .i64 0)]
def zl3:List AV:=[.sl .full [],.sl .full [],.sc (.int .i64 0),.sc (.int .i64 0),.sc (.int .i64 0),.sc (.int .i64 0),.sc (.int .i64 0),.sc (.int .i64 0),.sc (.int .i64 0)]
def zl4:List AV:=[.sl .full [],.sl .full [],.sc (.int .i64 0),.sc (.int .i64 0),.sc (.int .i64 0),.sc (.int .i64 0),.sc (.int .i64 0),.sc (.int .i64 0),.sc (.int .i64 0),.sc (.pointer none),.sc (.int .i64 0),.sc (.int .i64 0),.sc (.int .i64 0),.sc (.int .i64 0),.sc (.int .i64 0),.sc (.int .i64 0),.sc (.int .i64 0),.sc (.int .i64 0),.sc (.int .i64 0),.sc (.int .i64 0)]
def za5:AV:=.agg [.sl .full [],.sl .full [],.sc (.int .i64 0),.sc (.int .i64 0),.sc (.int .i64 0),.sc (.int .i64 0),.sc (.int .i64 0),.sc (.int .i64 0),.sc (.int .i64 0),.sc (.pointer none),.sc (.int .i64 0),.sc (.int .i64 0),.sc (.int .i64 0),.sc (.int .i64 0),.sc (.int .i64 0),.sc (.int .i64 0),.sc (.int .i64 0),.sc (.int .i64 0),.sc (.int .i64 0),.sc (.int .i64 0)]
def za6:AV:=.agg [.sc (.int .i64 0),.sc (.int .i64 0),.sc (.int .i64 0)]
def za7:AV:=.agg [.sc (.int .i64 0),.sc (.int .i64 0),.sc (.int .i64 0),.sc (.int .i64 0),.sc (.int .i64 0),.sc (.int .i64 0)]
def zl8:List AV:=[.sc (.pointer none),.sc (.int .i64 0),.sc (.int .i64 0),.sc (.int .i64 0),.sc (.int .i64 0),.sc (.int .i64 0),.sc (.int .i64 0),.sl .full [],.sl .full [],.sc (.pointer none),.sc (.pointer none),.sc (.int .i64 0),.sc (.bool false)]
def zl9:List AV:=[.sc (.int .i64 0),.sc (.int .i64 0),.sc (.int .i64 0),.sc (.int .i64 0),.sc (.int .i64 0),.sc (.int .i64 0)]
def zl10:List AV:=[.sc (.int .i64 0),.sl .full [],.sc (.map none),.sc (.int .i64 0),.sc (.int .i64 0)]
def zl11:List AV:=[.sc (.int .i64 0),.sc (.int .i64 0),.sc (.int .i64 0),.sc (.int .i64 0),.sc (.int .i64 0)]
def za12:AV:=.agg [.sc (.int .u8 0),.sc (.int .u8 0),.sc (.int .u8 0),.sc (.int .u8 0),.sc (.int .u8 0),.sc (.int .u8 0),.sc (.int .u8 0),.sc (.int .u8 0),.sc (.int .u8 0)]
def za13:AV:=.agg [.sc (.int .u8 0),.sc (.int .u8 0),.sc (.int .u8 0),.sc (.int .u8 0),.sc (.int .u8 0),.sc (.int .u8 0)]
def za14:AV:=.agg [.sc (.bool false),.sc (.bool false),.sc (.bool false),.sc (.bool false),.sc (.bool false),.sc (.bool false),.sc (.bool false),.sc (.bool false),.sc (.bool false),.sc (.bool false),.sc (.bool false),.sc (.bool false),.sc (.bool false),.sc (.bool false),.sc (.bool false),.sc (.bool false),.sc (.bool false),.sc (.bool false),.sc (.bool false),.sc (.bool false),.sc (.bool false),.sc (.bool false),.sc (.bool false),.sc (.bool false),.sc (.bool false),.sc (.bool false),.sc (.bool false),.sc (.bool false),.sc (.bool false),.sc (.bool false),.sc (.bool false),.sc (.bool false),.sc (.bool false),.sc (.bool false),.sc (.bool false),.sc (.bool false),.sc (.bool false),.sc (.bool false),.sc (.bool false),.sc (.bool false),.sc (.bool false),.sc (.bool false),.sc (.bool false),.sc (.bool false),.sc (.bool false),.sc (.bool false),.sc (.bool false),.sc (.bool false),.sc (.bool false),.sc (.bool false),.sc (.bool false),.sc (.bool false),.sc (.bool false),.sc (.bool false),.sc (.bool false),.sc (.bool false),.sc (.bool false),.sc (.bool false),.sc (.bool false),.sc (.bool false),.sc (.bool false),.sc (.bool false),.sc (.bool false),.sc (.bool false),.sc (.bool false),.sc (.bool false),.sc (.bool false),.sc (.bool false),.sc (.bool false),.sc (.bool false),.sc (.bool false),.sc (.bool false),.sc (.bool false),.sc (.bool false),.sc (.bool false),.sc (.bool false),.sc (.bool false),.sc (.bool false),.sc (.bool false),.sc (.bool false),.sc (.bool false),.sc (.bool false),.sc (.bool false),.sc (.bool false),.sc (.bool false),.sc (.bool false),.sc (.bool false),.sc (.bool false),.sc (.bool false),.sc (.bool false),.sc (.bool false),.sc (.bool false),.sc (.bool false),.sc (.bool false),.sc (.bool false),.sc (.bool false),.sc (.bool false),.sc (.bool false),.sc (.bool false),.sc (.bool false),.sc (.bool false),.sc (.bool false),.sc (.bool false),.sc (.bool false),.sc (.bool false),.sc (.bool false),.sc (.bool false),.sc (.bool false),.sc (.bool false),.sc (.bool false),.sc (.bool false),.sc (.bool false),.sc (.bool false),.sc (.bool false),.sc (.bool false),.sc (.bool false),.sc (.bool false),.sc (.bool false),.sc (.bool false),.sc (.bool false),.sc (.bool false),.sc (.bool false),.sc (.bool false),.sc (.bool false),.sc (.bool false),.sc (.bool false),.sc (.bool false),.sc (.bool false),.sc (.bool false),.sc (.bool false),.sc (.bool false),.sc (.bool false),.sc (.bool false),.sc (.bool false),.sc (.bool false),.sc (.bool false),.sc (.bool false),.sc (.bool false),.sc (.bool false),.sc (.bool false),.sc (.bool false),.sc (.bool false),.sc (.bool false),.sc (.bool false),.sc (.bool false),.sc (.bool false),.sc (.bool false),.sc (.bool false),.sc (.bool false),.sc (.bool false),.sc (.bool false),.sc (.bool false),.sc (.bool false),.sc (.bool false),.sc (.bool false),.sc (.bool false),.sc (.bool false),.sc (.bool false),.sc (.bool false),.sc (.bool false),.sc (.bool false),.sc (.bool false),.sc (.bool false),.sc (.bool false),.sc (.bool false),.sc (.bool false),.sc (.bool false),.sc (.bool false),.sc (.bool false),.sc (.bool false),.sc (.bool false),.sc (.bool false),.sc (.bool false),.sc (.bool false),.sc (.bool false),.sc (.bool false),.sc (.bool false),.sc (.bool false),.sc (.bool false),.sc (.bool false),.sc (.bool false),.sc (.bool false),.sc (.bool false),.sc (.bool false),.sc (.bool false),.sc (.bool false),.sc (.bool false),.sc (.bool false),.sc (.bool false),.sc (.bool false),.sc (.bool false),.sc (.bool false),.sc (.bool false),.sc (.bool false),.sc (.bool false),.sc (.bool false),.sc (.bool false),.sc (.bool false),.sc (.bool false),.sc (.bool false),.sc (.bool false),.sc (.bool false),.sc (.bool false),.sc (.bool false),.sc (.bool false),.sc (.bool false),.sc (.bool false),.sc (.bool false),.sc (.bool false),.sc (.bool false),.sc (.bool false),.sc (.bool false),.sc (.bool false),.sc (.bool false),.sc (.bool false),.sc (.bool false),.sc (.bool false),.sc (.bool false),.sc (.bool false),.sc (.bool false),.sc (.bool false),.sc (.bool false),.sc (.bool false),.sc (.bool false),.sc (.bool false),.sc (.bool false),.sc (.bool false),.sc (.bool false),.sc (.bool false),.sc (.bool false),.sc (.bool false),.sc (.bool false),.sc (.bool false),.sc (.bool false),.sc (.bool false),.sc (.bool false),.sc (.bool false),.sc (.bool false),.sc (.bool false),.sc (.bool false),.sc (.bool false),.sc (.bool false),.sc (.bool false),.sc (.bool false),.sc (.bool false),.sc (.bool false),.sc (.bool false),.sc (.bool false),.sc (.bool false),.sc (.bool false),.sc (.bool false),.sc (.bool false),.sc (.bool false),.sc (.bool false),.sc (.bool false),.sc (.bool false)]
def za15:AV:=.agg [.sc (.int .u32 0),.sc (.int .u32 0),.sc (.int .u32 0),.sc (.int .u32 0),.sc (.int .u32 0),.sc (.int .u32 0),.sc (.int .u32 0),.sc (.int .u32 0),.sc (.int .u32 0),.sc (.int .u32 0),.sc (.int .u32 0),.sc (.int .u32 0),.sc (.int .u32 0),.sc (.int .u32 0),.sc (.int .u32 0),.sc (.int .u32 0)]
def c4_0:Zar:=.seq (.reg [io 2 (.mv (ib false))]) (.seq (.reg [io 3 (.mv (.c (.sc (.pointer none))))]) (.seq (.reg [io 4 (.mv (.c (.sc (.pointer none))))]) (.seq (.seq (.reg [im 9 0]) (.cond (.t 9) (.reg [io 10 (.bld zl0 []),io 11 (.box 53 (.t 10)),io 12 (.bld zl1 []),io 13 (.box 56 (.t 12)),im 3 11,im 4 13]) .skip)) (.seq (.reg [im 15 4,io 16 (.call (jf 10) [.t 15]),im 14 16,io 17 (.ext (.t 14) 0),io 18 (.ext (.t 14) 1),im 5 17,im 6 18]) (.seq (.reg [im 20 4,io 21 (.call (jf 11) [.t 20]),im 19 21,io 22 (.ext (.t 19) 0),io 23 (.ext (.t 19) 1),im 7 22,im 8 23]) (.seq (.reg [im 24 6,io 25 (.bin .eql (.t 24) (ik 1)),im 26 25,ig 26 27 (.mv (.t 8)),ig 26 28 (.bin .eql (.t 27) (ik 1)),io 29 (.pick (.t 26) (.t 28) (ib false)),im 30 29,ig 30 31 (.mv (.t 5)),ig 30 32 (.len false (.t 31)),ig 30 33 (.mv (.t 7)),ig 30 34 (.len false (.t 33)),ig 30 35 (.bin .add (.t 32) (.t 34)),ig 30 36 (.mv (.t 3)),ig 30 37 (.call (jf 12) [.t 36]),ig 30 38 (.len false (.t 37)),ig 30 39 (.bin .add (.t 35) (.t 38)),ig 30 40 (.mv (.t 3)),ig 30 41 (.call (jf 13) [.t 40]),ig 30 42 (.len false (.t 41)),ig 30 43 (.bin .add (.t 39) (.t 42)),ig 30 44 (.bin .eql (.t 43) (ik 0)),io 45 (.pick (.t 30) (.t 44) (ib false)),im 46 45,ig 46 47 (.call (jf 14) []),io 48 (.pick (.t 46) (.t 47) (ib false)),im 2 48]) .ret))))))
theorem cf4:cFn Tryz.prog eqT 4=some (c4_0,[(.tmp 2)],49):=by kernel_rfl
def c7_0:Zar:=.seq (.reg [io 2 (.box 30 (.c za2)),jm 3 0]) (.seq (.reg [im 8 0,io 9 (.call (jf 26) [.t 8]),im 7 9,io 10 (.ext (.t 7) 0),io 11 (.ext (.t 7) 1),im 4 10,im 5 11]) (.seq (.seq (.reg [im 12 5,io 13 (.bin .neq (.t 12) (ik 0))]) (.cond (.t 13) (.seq (.reg [io 14 (.bld zl3 []),im 15 5,io 16 (.call (jf 27) [.t 15]),iz (.st 9 (.t 2) (.t 14)),im 3 16]) .ret) .skip)) (.seq (.reg [im 18 4,io 19 (.call (jf 28) [.t 18]),im 17 19,io 20 (.ext (.t 17) 0),io 21 (.ext (.t 17) 1),io 6 (.box 30 (.c za2)),iz (.st 9 (.t 6) (.t 20)),im 5 21]) (.seq (.drw [ip (io 22 (.ld 9 true (.t 6))),ip (im 23 5),(io 24 (.call (jf 27) [.t 23]),[io 22 (.ld 9 true (.t 6))]),ip (iz (.st 9 (.t 2) (.t 22))),ip (im 3 24)]) .ret))))
theorem cf7:cFn Tryz.prog eqT 7=some (c7_0,[(.cell 9 true 2),(.tmp 3)],25):=by kernel_rfl
def c10_1:Zar:=.blk 1 (.loop (.seq (.reg [io 29 (.bin .lss (.t 28) (.t 27))]) (.seq (.cond (.t 29) .skip (.exit 1)) (.seq (.blk 2 (.seq (.reg [im 30 28,im 7 30]) (.seq (.reg [im 32 4,im 33 7,io 34 (.call (jf 35) [.t 32,.t 33]),im 31 34,io 35 (.ext (.t 31) 0),io 36 (.ext (.t 31) 1),im 8 35,im 9 36]) (.seq (.reg [im 37 9,io 38 (.bin .neq (.t 37) (ik 0))]) (.cond (.t 38) (.reg [im 39 6,im 40 7,io 41 (.call (jf 33) [.c (.sc (.string ⟨#[112,97,103,101]⟩)),.t 40]),io 42 (.app 112 2 24 (.t 39) (.t 41)),im 6 42]) .skip))))) (.reg [io 43 (.bin .add (.t 28) (ik 1)),im 28 43])))))
def ZkB:Zar:=.seq (.reg [io 2 (.mv jn),jm 3 0]) (.seq (.reg [im 11 0,io 12 (.call (jf 21) [.t 11]),im 10 12,io 13 (.ext (.t 10) 0),io 14 (.ext (.t 10) 1),im 4 13,im 5 14]) (.seq (.blk 0 (.seq (.reg [im 16 5,io 17 (.bin .eql (.t 16) (ik 15)),im 15 17]) (.cond (.t 15) (.seq (.reg [im 18 0,io 19 (.call (jf 34) [.t 18]),io 20 (.call (jf 33) [.c (.sc (.string ⟨#[108,105,115,116]⟩)),.t 19]),im 2 20,jm 3 0]) .ret) (.seq (.reg [im 22 5,io 23 (.bin .neq (.t 22) (ik 0)),im 21 23]) (.cond (.t 21) (.seq (.reg [im 24 5,io 2 (.mv jn),im 3 24]) .ret) .skip))))) (.seq (.reg [io 6 (.mv jn)]) (.seq (.seq (.reg [im 25 4,io 26 (.call (jf 32) [.t 25]),io 27 (.fld 1 1 false (.t 26)),jm 28 0]) c10_1) (.seq (.reg [im 44 6,im 2 44,jm 3 0]) .ret)))))
theorem cf10:cFn Tryz.prog eqT 10=some (ZkB,[(.tmp 2),(.tmp 3)],45):=by kernel_rfl
def ZlE:Zar:=.seq (.reg [io 2 (.mv jn),jm 3 0]) (.seq (.reg [im 8 0,io 9 (.call (jf 10) [.t 8]),im 7 9,io 10 (.ext (.t 7) 0),io 11 (.ext (.t 7) 1),im 4 10,im 5 11]) (.seq (.seq (.reg [im 12 5,io 13 (.bin .neq (.t 12) (ik 0)),im 14 13,ih 14 15 (.mv (.t 4)),ih 14 16 (.len false (.t 15)),ih 14 17 (.bin .gtr (.t 16) (ik 0)),io 18 (.pick (.t 14) (ib true) (.t 17))]) (.cond (.t 18) (.seq (.reg [im 19 4,im 20 5,im 2 19,im 3 20]) .ret) .skip)) (.seq (.reg [im 22 0,io 23 (.call (jf 36) [.t 22]),im 21 23,io 24 (.ext (.t 21) 0),io 25 (.ext (.t 21) 1),im 6 24,im 5 25]) (.seq (.seq (.reg [im 26 5,io 27 (.bin .neq (.t 26) (ik 0))]) (.cond (.t 27) (.seq (.reg [io 28 (.call (jf 33) [.c (.sc (.string ⟨#[99,97,116,97,108,111,103]⟩)),ik 0]),im 2 28,jm 3 0]) .ret) .skip)) (.seq (.reg [im 29 6,io 30 (.call (jf 12) [.t 29]),im 2 30,jm 3 0]) .ret)))))
theorem cf11:cFn Tryz.prog eqT 11=some (ZlE,[(.tmp 2),(.tmp 3)],31):=by kernel_rfl
def c12_1:Zar:=.blk 0 (.loop (.seq (.reg [io 46 (.bin .lss (.t 45) (.t 44))]) (.seq (.cond (.t 46) .skip (.exit 0)) (.seq (.blk 1 (.seq (.reg [im 47 45,im 7 47]) (.seq (.reg [im 48 7,io 49 (.fla 0 (.t 5)),io 50 (.fla 3 (.t 49)),io 51 (.ixA 3 2 (.t 50) (.t 48)),io 52 (.ld 2 true (.t 51)),io 8 (.box 27 (.c (.agg [.sc (.int .i64 0),.sc (.int .i64 0)]))),iz (.st 2 (.t 8) (.t 52))]) (.seq (.drw [ip (io 53 (.fla 0 (.t 8))),ip (io 54 (.ld 1 false (.t 53))),ip (io 55 (.fla 1 (.t 8))),ip (io 56 (.ld 1 false (.t 55))),ip (io 57 (.bin .add (.t 54) (.t 56))),ip (im 58 7),ip (io 59 (.fla 10 (.t 5))),ip (io 60 (.fla 1 (.t 59))),ip (io 61 (.ixA 3 3 (.t 60) (.t 58))),ip (io 62 (.fla 0 (.t 61))),ip (io 63 (.ld 1 false (.t 62))),ip (io 64 (.bin .neq (.t 57) (.t 63)))]) (.cond (.t 64) (.reg [im 65 6,im 66 7,io 67 (.call (jf 33) [.c (.sc (.string ⟨#[115,117,109]⟩)),.t 66]),io 68 (.app 112 2 24 (.t 65) (.t 67)),im 6 68]) .skip))))) (.reg [io 69 (.bin .add (.t 45) (ik 1)),im 45 69])))))
def Zca:Zar:=.seq (.reg [io 2 (.mv jn)]) (.seq (.seq (.reg [im 9 0,io 10 (.call (jf 37) [.t 9]),io 11 (.un .not (.t 10))]) (.cond (.t 11) (.seq (.reg [io 2 (.mv jn)]) .ret) .skip)) (.seq (.reg [im 13 0,io 14 (.call (jf 38) [.t 13]),im 12 14,io 15 (.ext (.t 12) 0),io 16 (.ext (.t 12) 1),im 3 15,im 4 16]) (.seq (.seq (.reg [im 17 4,io 18 (.bin .neq (.t 17) (ik 0))]) (.cond (.t 18) (.seq (.reg [io 19 (.call (jf 33) [.c (.sc (.string ⟨#[110,111,100,101,115]⟩)),ik 0]),im 2 19]) .ret) .skip)) (.seq (.reg [im 20 0,io 21 (.call (jf 39) [.t 20]),im 22 3,io 23 (.bld zl4 [(0,(9,.t 21)),(9,(1,.t 22))]),io 5 (.box 98 (.c za5)),iz (.st 20 (.t 5) (.t 23))]) (.seq (.reg [im 25 3,io 26 (.call (jf 40) [.t 25]),im 24 26,io 27 (.ext (.t 24) 0),io 28 (.ext (.t 24) 1),io 29 (.fla 10 (.t 5)),iz (.st 10 (.t 29) (.t 27))]) (.seq (.reg [io 30 (.ld 20 true (.t 5)),io 31 (.call (jf 41) [.t 30,.c (.sc (.string ⟨#[117,110,115,111,117,110,100]⟩)),jf 42]),im 6 31]) (.seq (.reg [im 32 6,io 33 (.ld 20 true (.t 5)),io 34 (.call (jf 41) [.t 33,.c (.sc (.string ⟨#[111,114,100,101,114]⟩)),jf 43]),io 35 (.app 112 2 24 (.t 32) (.t 34)),im 6 35]) (.seq (.reg [im 36 6,io 37 (.ld 20 true (.t 5)),io 38 (.call (jf 41) [.t 37,.c (.sc (.string ⟨#[114,111,119,115]⟩)),jf 44]),io 39 (.app 112 2 24 (.t 36) (.t 38)),im 6 39]) (.seq (.seq (.reg [io 40 (.fla 0 (.t 5)),io 41 (.fla 0 (.t 40)),io 42 (.fla 1 (.t 41)),io 43 (.ld 1 false (.t 42)),io 44 (.len false (.t 43)),jm 45 0]) c12_1) (.seq (.reg [im 70 6,im 2 70]) .ret))))))))))
theorem cf12:cFn Tryz.prog eqT 12=some (Zca,[(.tmp 2)],71):=by kernel_rfl
def ZcW:Zar:=.seq (.reg [io 2 (.mv jn)]) (.seq (.seq (.reg [im 11 0,io 12 (.call (jf 37) [.t 11]),io 13 (.un .not (.t 12))]) (.cond (.t 13) (.seq (.reg [io 2 (.mv jn)]) .ret) .skip)) (.seq (.reg [im 15 0,io 16 (.call (jf 38) [.t 15]),im 14 16,io 17 (.ext (.t 14) 0),io 18 (.ext (.t 14) 1),im 3 17,im 4 18]) (.seq (.seq (.reg [im 19 4,io 20 (.bin .neq (.t 19) (ik 0))]) (.cond (.t 20) (.seq (.reg [io 2 (.mv jn)]) .ret) .skip)) (.seq (.reg [im 21 3,io 22 (.call (jf 45) [.t 21]),io 5 (.box 104 (.c za6)),iz (.st 3 (.t 5) (.t 22))]) (.seq (.reg [im 24 0,io 25 (.call (jf 46) [.t 24]),im 23 25,io 26 (.ext (.t 23) 0),io 27 (.ext (.t 23) 1),im 6 26,im 7 27]) (.seq (.reg [im 29 6,io 30 (.call (jf 47) [.t 29]),im 28 30,io 31 (.ext (.t 28) 0),io 32 (.ext (.t 28) 1),im 8 31,im 9 32]) (.seq (.reg [im 33 0,io 34 (.call (jf 48) [.t 33]),io 10 (.box 36 (.c za7)),iz (.st 6 (.t 10) (.t 34))]) (.seq (.drw [ip (io 35 (.fla 0 (.t 5))),ip (io 36 (.ld 1 false (.t 35))),ip (io 37 (.fla 1 (.t 5))),ip (io 38 (.ld 1 false (.t 37))),ip (io 39 (.fla 2 (.t 5))),ip (io 40 (.ld 1 false (.t 39))),ip (im 41 6),ip (io 42 (.len true (.t 41))),ip (im 43 8),ip (io 44 (.bsl 1 [ik 0])),ip (io 47 (.fla 3 (.t 10))),ip (io 48 (.ld 1 false (.t 47))),ip (io 49 (.fla 4 (.t 10))),ip (io 50 (.ld 1 false (.t 49))),(io 45 (.app 3 1 8 (.t 43) (.t 44)),[io 36 (.ld 1 false (.t 35)),io 38 (.ld 1 false (.t 37)),io 40 (.ld 1 false (.t 39)),io 48 (.ld 1 false (.t 47)),io 50 (.ld 1 false (.t 49))]),(io 46 (.call (jf 49) [.t 45]),[io 36 (.ld 1 false (.t 35)),io 38 (.ld 1 false (.t 37)),io 40 (.ld 1 false (.t 39)),io 48 (.ld 1 false (.t 47)),io 50 (.ld 1 false (.t 49))]),(io 51 (.call (jf 50) [.t 48,.t 50]),[io 36 (.ld 1 false (.t 35)),io 38 (.ld 1 false (.t 37)),io 40 (.ld 1 false (.t 39))]),ip (io 52 (.bsl 1 [.t 36,.t 38,.t 40,.t 42,.t 46,.t 51])),ip (im 2 52)]) .ret))))))))
theorem cf13:cFn Tryz.prog eqT 13=some (ZcW,[(.tmp 2)],53):=by kernel_rfl
def Zew:Zar:=.seq (.reg [io 0 (.mv (ib false))]) (.seq (.reg [io 8 (.call (jf 20) [ik 16]),im 7 8,io 9 (.ext (.t 7) 0),io 10 (.ext (.t 7) 1),im 1 9,im 2 10]) (.seq (.reg [im 12 1,io 13 (.call (jf 11) [.t 12]),im 11 13,io 14 (.ext (.t 11) 0),io 15 (.ext (.t 11) 1),im 3 14,im 4 15]) (.seq (.reg [im 17 1,io 18 (.call (jf 21) [.t 17]),im 16 18,io 19 (.ext (.t 16) 0),io 20 (.ext (.t 16) 1),im 5 19,im 6 20]) (.seq (.seq (.reg [im 21 3,io 22 (.len false (.t 21)),io 23 (.bin .gtr (.t 22) (ik 0)),im 24 23,ih 24 25 (.mv (.t 4)),ih 24 26 (.bin .neq (.t 25) (ik 0)),io 27 (.pick (.t 24) (ib true) (.t 26)),im 28 27,ih 28 29 (.mv (.t 5)),ih 28 30 (.eqn 0 false (.t 29) (.c (.sc (.pointer none)))),io 31 (.pick (.t 28) (ib true) (.t 30)),im 32 31,ih 32 33 (.mv (.t 5)),ih 32 34 (.call (jf 51) [.t 33,.c (.sc (.string ⟨#[99]⟩)),.c (.sc (.string ⟨#[]⟩)),ik 0]),ih 32 35 (.bin .neq (.t 34) (ik 0)),io 36 (.pick (.t 32) (ib true) (.t 35))]) (.cond (.t 36) (.seq (.reg [io 0 (.mv (ib false))]) .ret) .skip)) (.seq (.reg [im 38 1,io 39 (.call (jf 11) [.t 38]),im 37 39,io 40 (.ext (.t 37) 0),io 41 (.ext (.t 37) 1),im 3 40,im 4 41]) (.seq (.reg [im 42 3,io 43 (.len false (.t 42)),io 44 (.bin .eql (.t 43) (ik 1)),im 45 44,ig 45 46 (.mv (.t 3)),ig 45 47 (.ixa 2 (.t 46) (ik 0)),ig 45 48 (.ld 2 true (.t 47)),ig 45 49 (.bld [.sc (.string ⟨#[]⟩),.sc (.int .i64 0)] [(0,(1,.c (.sc (.string ⟨#[99,97,116,97,108,111,103]⟩))))]),ig 45 50 (.eqf [.str,.int .i64] false (.t 48) (.t 49)),io 51 (.pick (.t 45) (.t 50) (ib false)),im 52 51,ig 52 53 (.mv (.t 4)),ig 52 54 (.bin .eql (.t 53) (ik 0)),io 55 (.pick (.t 52) (.t 54) (ib false)),im 0 55]) .ret))))))
theorem cf14:cFn Tryz.prog eqT 14=some (Zew,[(.tmp 0)],56):=by kernel_rfl
def Zf9:Zar:=.seq (.reg [io 2 (.mv (.c (.sc (.pointer none)))),jm 3 0]) (.seq (.seq (.reg [im 4 0,io 5 (.call (jf 57) [.t 4]),io 6 (.un .not (.t 5))]) (.cond (.t 6) (.seq (.reg [io 2 (.mv (.c (.sc (.pointer none)))),jm 3 2]) .ret) .skip)) (.seq (.reg [io 7 (.call (jf 59) []),io 8 (.bsl 1 [.t 7]),im 9 0,io 10 (.call (jf 58) [.t 8,.t 9]),io 11 (.bld zl1 [(0,(1,.t 10))]),io 12 (.box 56 (.t 11)),im 2 12,jm 3 0]) .ret))
theorem cf20:cFn Tryz.prog eqT 20=some (Zf9,[(.tmp 2),(.tmp 3)],13):=by kernel_rfl
def Zeb:Zar:=.seq (.reg [io 2 (.mv (.c (.sc (.pointer none)))),jm 3 0]) (.seq (.seq (.reg [im 10 0,io 11 (.call (jf 60) [.t 10]),io 12 (.bin .eql (.t 11) (ik 0))]) (.cond (.t 12) (.seq (.reg [io 2 (.mv (.c (.sc (.pointer none)))),jm 3 1]) .ret) .skip)) (.seq (.reg [im 14 0,io 15 (.call (jf 61) [.t 14]),im 13 15,io 16 (.ext (.t 13) 0),io 17 (.ext (.t 13) 1),io 18 (.ext (.t 13) 2),im 4 16,im 5 17,im 6 18]) (.seq (.seq (.reg [im 19 6,io 20 (.bin .neq (.t 19) (ik 0))]) (.cond (.t 20) (.seq (.reg [im 21 6,io 2 (.mv (.c (.sc (.pointer none)))),im 3 21]) .ret) .skip)) (.seq (.reg [im 22 0,io 23 (.bld zl8 [(0,(1,.t 22))]),io 24 (.box 41 (.t 23)),im 7 24]) (.seq (.reg [im 26 7,im 27 0,io 28 (.call (jf 60) [.t 27]),io 29 (.call (jf 63) [.t 28]),io 30 (.call (jf 62) [.t 29]),im 25 30,io 31 (.ext (.t 25) 0),io 32 (.ext (.t 25) 1),io 33 (.nck (.t 26)),io 34 (.fla 9 (.t 33)),iz (.st 1 (.t 34) (.t 31))]) (.seq (.reg [im 36 7,io 37 (.call (jf 64) [ik 8]),im 35 37,io 38 (.ext (.t 35) 0),io 39 (.ext (.t 35) 1),io 40 (.nck (.t 36)),io 41 (.fla 10 (.t 40)),iz (.st 1 (.t 41) (.t 38))]) (.seq (.reg [im 43 4,im 44 5,io 45 (.call (jf 65) [.t 43,.t 44]),im 42 45,io 46 (.ext (.t 42) 0),io 47 (.ext (.t 42) 1),io 8 (.box 36 (.c za7)),iz (.st 6 (.t 8) (.t 46)),im 9 47]) (.seq (.seq (.reg [im 48 9,io 49 (.un .not (.t 48))]) (.cond (.t 49) (.seq (.reg [im 50 7,im 2 50,jm 3 0]) .ret) .skip)) (.seq (.reg [im 51 7,io 52 (.ld 6 true (.t 8)),io 53 (.nck (.t 51)),io 54 (.fla 1 (.t 53)),iz (.st 6 (.t 54) (.t 52))]) (.seq (.seq (.reg [im 56 7,im 57 7,io 58 (.fla 2 (.t 8)),io 59 (.ld 1 false (.t 58)),io 60 (.fla 1 (.t 8)),io 61 (.ld 1 false (.t 60)),im 62 7,io 63 (.mkf 67 [.t 62] []),io 64 (.call (jf 66) [.t 59,.t 61,.t 63]),im 55 64,io 65 (.ext (.t 55) 0),io 66 (.ext (.t 55) 1),io 67 (.ext (.t 55) 2),io 68 (.nck (.t 56)),io 69 (.fla 7 (.t 68)),iz (.st 1 (.t 69) (.t 65)),io 70 (.nck (.t 57)),io 71 (.fla 8 (.t 70)),iz (.st 1 (.t 71) (.t 66)),im 6 67]) (.seq (.reg [im 72 6,io 73 (.bin .neq (.t 72) (ik 0))]) (.cond (.t 73) (.seq (.reg [im 74 6,io 2 (.mv (.c (.sc (.pointer none)))),im 3 74]) .ret) .skip))) (.seq (.seq (.drw [ip (im 75 7),ip (io 76 (.nck (.t 75))),ip (io 77 (.fla 9 (.t 76))),ip (io 78 (.ld 1 false (.t 77))),ip (im 79 7),ip (io 80 (.nck (.t 79))),ip (io 81 (.fla 7 (.t 80))),ip (io 82 (.ld 1 false (.t 81))),ip (im 83 7),ip (io 84 (.nck (.t 83))),ip (io 85 (.fla 8 (.t 84))),ip (io 86 (.ld 1 false (.t 85))),ip (io 87 (.bsl 1 [.t 82,.t 86])),(io 88 (.call (jf 69) [.t 87]),[io 78 (.ld 1 false (.t 77))]),ip (io 89 (.call (jf 68) [.t 78,.t 88])),ip (io 90 (.bin .neq (.t 89) (ik 0)))]) (.cond (.t 90) (.seq (.reg [io 2 (.mv (.c (.sc (.pointer none)))),jm 3 15]) .ret) .skip)) (.seq (.reg [im 91 7,im 2 91,jm 3 0]) .ret))))))))))))
theorem cf21:cFn Tryz.prog eqT 21=some (Zeb,[(.tmp 2),(.tmp 3)],92):=by kernel_rfl
def c26_0:Zar:=.seq (.reg [io 2 (.mv (.c (.sc (.string ⟨#[]⟩)))),jm 3 0]) (.seq (.seq (.reg [im 5 0,io 6 (.call (jf 72) [.t 5]),im 4 6]) (.seq (.reg [im 7 4,io 8 (.bin .neq (.t 7) (ik 0))]) (.cond (.t 8) (.seq (.reg [im 9 4,io 2 (.mv (.c (.sc (.string ⟨#[]⟩)))),im 3 9]) .ret) .skip))) (.seq (.drw [ip (im 10 0),ip (im 11 0),ip (io 12 (.nck (.t 11))),ip (io 13 (.fla 1 (.t 12))),ip (io 14 (.fla 3 (.t 13))),ip (io 15 (.ld 1 false (.t 14))),ip (im 16 0),ip (io 17 (.nck (.t 16))),ip (io 18 (.fla 1 (.t 17))),ip (io 19 (.fla 3 (.t 18))),ip (io 20 (.ld 1 false (.t 19))),ip (io 21 (.call (jf 73) [.t 10,ik 0,.t 15,ik 0,.t 20])),ip (io 22 (.ext (.t 21) 0)),ip (io 23 (.ext (.t 21) 1)),ip (im 2 22),ip (im 3 23)]) .ret))
theorem cf26:cFn Tryz.prog eqT 26=some (c26_0,[(.tmp 2),(.tmp 3)],24):=by kernel_rfl
def Zdp:Zar:=.seq (.reg [jm 2 0]) (.seq (.seq (.reg [im 3 0]) (.blk 0 (.seq (.seq (.reg [io 5 (.bin .eql (.t 3) (ik 0)),im 4 5]) (.cond (.t 4) .skip (.seq (.reg [io 6 (.bin .eql (.t 3) (ik 1)),im 4 6]) (.cond (.t 4) .skip (.seq (.reg [io 7 (.bin .eql (.t 3) (ik 8)),im 4 7]) (.cond (.t 4) .skip (.reg [io 8 (.bin .eql (.t 3) (ik 10)),im 4 8]))))))) (.cond (.t 4) (.seq (.reg [im 9 0,im 2 9]) .ret) .skip)))) (.seq (.reg [jm 2 15]) .ret))
theorem cf27:cFn Tryz.prog eqT 27=some (Zdp,[(.tmp 2)],10):=by kernel_rfl
def Zl6:Zar:=.seq (.reg [io 2 (.box 30 (.c za2)),jm 3 0]) (.seq (.reg [io 4 (.box 30 (.c za2))]) (.seq (.reg [im 6 0,io 7 (.mkf 75 [] [.t 4]),io 8 (.call (jf 74) [.t 6,.t 7]),im 5 8]) (.seq (.seq (.reg [im 9 5,io 10 (.bin .neq (.t 9) (ik 0))]) (.cond (.t 10) (.seq (.reg [io 11 (.bld zl3 []),im 12 5,iz (.st 9 (.t 2) (.t 11)),im 3 12]) .ret) .skip)) (.seq (.reg [io 13 (.ld 9 true (.t 4)),iz (.st 9 (.t 2) (.t 13)),jm 3 0]) .ret))))
theorem cf28:cFn Tryz.prog eqT 28=some (Zl6,[(.cell 9 true 2),(.tmp 3)],14):=by kernel_rfl
def Znk:Zar:=.seq (.reg [io 2 (.box 36 (.c za7))]) (.seq (.seq (.reg [im 3 0,io 4 (.call (jf 88) [.t 3]),io 5 (.un .not (.t 4))]) (.cond (.t 5) (.seq (.reg [io 6 (.bld zl9 []),iz (.st 6 (.t 2) (.t 6))]) .ret) .skip)) (.seq (.reg [im 7 0,io 8 (.nck (.t 7)),io 9 (.fla 1 (.t 8)),io 10 (.ld 6 true (.t 9)),iz (.st 6 (.t 2) (.t 10))]) .ret))
theorem cf32:cFn Tryz.prog eqT 32=some (Znk,[(.cell 6 true 2)],11):=by kernel_rfl
def c33_0:Zar:=.seq (.reg [io 4 (.mv jn)]) (.seq (.reg [im 5 0,im 6 1,io 7 (.bld [.sc (.string ⟨#[]⟩),.sc (.int .i64 0)] [(0,(1,.t 5)),(1,(1,.t 6))]),io 8 (.bsl 2 [.t 7]),im 4 8]) .ret)
theorem cf33:cFn Tryz.prog eqT 33=some (c33_0,[(.tmp 4)],9):=by kernel_rfl
def Zvl:Zar:=.seq (.reg [io 4 (.mv (.c (.sc (.string ⟨#[]⟩)))),jm 5 0]) (.seq (.seq (.reg [im 7 0,io 8 (.call (jf 72) [.t 7]),im 6 8]) (.seq (.reg [im 9 6,io 10 (.bin .neq (.t 9) (ik 0))]) (.cond (.t 10) (.seq (.reg [im 11 6,io 4 (.mv (.c (.sc (.string ⟨#[]⟩)))),im 5 11]) .ret) .skip))) (.seq (.seq (.reg [im 12 1,io 13 (.bin .lss (.t 12) (ik 0)),im 14 13,ih 14 15 (.mv (.t 1)),ih 14 16 (.mv (.t 0)),ih 14 17 (.nck (.t 16)),ih 14 18 (.fla 8 (.t 17)),ih 14 19 (.ld 1 false (.t 18)),ih 14 20 (.len false (.t 19)),ih 14 21 (.bin .geq (.t 15) (.t 20)),io 22 (.pick (.t 14) (ib true) (.t 21))]) (.cond (.t 22) (.seq (.reg [io 4 (.mv (.c (.sc (.string ⟨#[]⟩)))),jm 5 9]) .ret) .skip)) (.seq (.reg [im 23 0,io 24 (.nck (.t 23)),io 25 (.fla 10 (.t 24)),io 26 (.ld 1 false (.t 25)),im 27 1,im 28 0,io 29 (.mkf 91 [.t 28] []),io 30 (.call (jf 90) [.t 26,.t 27,.t 29]),io 31 (.ext (.t 30) 0),io 32 (.ext (.t 30) 1),im 4 31,im 5 32]) .ret)))
theorem cf35:cFn Tryz.prog eqT 35=some (Zvl,[(.tmp 4),(.tmp 5)],33):=by kernel_rfl
def ZnS:Zar:=.seq (.reg [io 2 (.mv (.c (.sc (.pointer none)))),jm 3 0]) (.seq (.reg [im 9 0,io 10 (.call (jf 21) [.t 9]),im 8 10,io 11 (.ext (.t 8) 0),io 12 (.ext (.t 8) 1),im 4 11,im 5 12]) (.seq (.seq (.reg [im 13 5,io 14 (.bin .neq (.t 13) (ik 0))]) (.cond (.t 14) (.seq (.reg [im 15 5,io 2 (.mv (.c (.sc (.pointer none)))),im 3 15]) .ret) .skip)) (.seq (.reg [im 16 4,io 17 (.bld zl0 [(0,(1,.t 16))]),io 18 (.box 53 (.t 17)),im 6 18]) (.seq (.seq (.reg [im 19 4,io 20 (.call (jf 92) [.t 19]),io 21 (.un .not (.t 20))]) (.cond (.t 21) (.seq (.reg [im 22 6,im 2 22,jm 3 0]) .ret) .skip)) (.seq (.seq (.reg [im 23 4,io 24 (.call (jf 93) [.t 23]),im 7 24]) (.seq (.reg [im 25 7,io 26 (.bin .neq (.t 25) (ik 0))]) (.cond (.t 26) (.seq (.reg [im 27 7,io 2 (.mv (.c (.sc (.pointer none)))),im 3 27]) .ret) .skip))) (.seq (.seq (.reg [im 29 6,im 30 4,io 31 (.call (jf 7) [.t 30]),im 28 31,io 32 (.ext (.t 28) 0),io 33 (.ext (.t 28) 1),io 34 (.nck (.t 29)),io 35 (.fla 1 (.t 34)),iz (.st 9 (.t 35) (.t 32)),im 5 33]) (.seq (.reg [im 36 5,io 37 (.bin .neq (.t 36) (ik 0))]) (.cond (.t 37) (.seq (.reg [im 38 5,io 2 (.mv (.c (.sc (.pointer none)))),im 3 38]) .ret) .skip))) (.seq (.reg [im 39 6,im 2 39,jm 3 0]) .ret)))))))
theorem cf36:cFn Tryz.prog eqT 36=some (ZnS,[(.tmp 2),(.tmp 3)],40):=by kernel_rfl
def ZtL:Zar:=.seq (.reg [io 2 (.mv (ib false))]) (.seq (.reg [im 3 0,io 4 (.call (jf 94) [.t 3]),im 5 4,ig 5 6 (.mv (.t 0)),ig 5 7 (.nck (.t 6)),ig 5 8 (.fla 0 (.t 7)),ig 5 9 (.ld 1 false (.t 8)),ig 5 10 (.call (jf 92) [.t 9]),io 11 (.pick (.t 5) (.t 10) (ib false)),im 2 11]) .ret)
theorem cf37:cFn Tryz.prog eqT 37=some (ZtL,[(.tmp 2)],12):=by kernel_rfl
def ZeB:Zar:=.seq (.reg [jm 4 0]) (.seq (.reg [im 6 0,io 7 (.call (jf 103) [.t 6]),im 8 1,io 9 (.call (jf 103) [.t 8]),io 10 (.bin .add (.t 7) (.t 9)),im 5 10]) (.seq (.reg [im 11 5,im 12 5,io 13 (.call (jf 104) [.t 12]),io 14 (.bin .add (.t 11) (.t 13)),im 4 14]) .ret))
theorem cf50:cFn Tryz.prog eqT 50=some (ZeB,[(.tmp 4)],15):=by kernel_rfl
def Zgb:Zar:=.seq (.reg [jm 8 0]) (.seq (.seq (.reg [im 20 0,io 21 (.call (jf 72) [.t 20]),im 9 21]) (.seq (.reg [im 22 9,io 23 (.bin .neq (.t 22) (ik 0)),im 24 23,ig 24 25 (.mv (.t 9)),ig 24 26 (.bin .neq (.t 25) (ik 10)),io 27 (.pick (.t 24) (.t 26) (ib false))]) (.cond (.t 27) (.seq (.reg [im 28 9,im 8 28]) .ret) .skip))) (.seq (.drw [ip (im 29 0),ip (io 30 (.nck (.t 29))),ip (io 31 (.fla 1 (.t 30))),ip (io 32 (.fla 0 (.t 31))),ip (io 33 (.ld 1 false (.t 32))),ip (io 34 (.bin .add (.t 33) (ik 1))),ip (im 35 1),ip (io 36 (.len true (.t 35))),ip (im 38 2),ip (io 39 (.len true (.t 38))),ip (im 42 1),ip (io 43 (.len true (.t 42))),ip (im 44 2),ip (io 45 (.len true (.t 44))),ip (im 46 3),(io 37 (.call (jf 103) [.t 36]),[io 33 (.ld 1 false (.t 32))]),(io 40 (.call (jf 103) [.t 39]),[io 33 (.ld 1 false (.t 32))]),ip (io 41 (.bin .add (.t 37) (.t 40))),ip (io 47 (.bld zl9 [(0,(1,.t 34)),(1,(1,.t 41)),(3,(1,.t 43)),(4,(1,.t 45)),(5,(1,.t 46))])),ip (io 10 (.box 36 (.c za7))),ip (iz (.st 6 (.t 10) (.t 47)))]) (.seq (.blk 0 (.seq (.reg [io 49 (.fla 0 (.t 10)),io 50 (.ld 1 false (.t 49)),io 51 (.bin .gtr (.t 50) (ik 1099511627776)),im 48 51]) (.cond (.t 48) (.seq (.reg [jm 8 5]) .ret) (.seq (.drw [ip (im 53 1),ip (io 54 (.len true (.t 53))),ip (im 55 2),ip (io 56 (.len true (.t 55))),ip (im 58 0),ip (io 59 (.nck (.t 58))),ip (io 60 (.fla 9 (.t 59))),ip (io 61 (.ld 1 false (.t 60))),(io 57 (.call (jf 50) [.t 54,.t 56]),[io 61 (.ld 1 false (.t 60))]),ip (io 62 (.call (jf 105) [.t 61])),ip (io 63 (.bin .gtr (.t 57) (.t 62))),ip (im 52 63)]) (.cond (.t 52) (.seq (.reg [jm 8 7]) .ret) (.seq (.reg [io 65 (.ld 6 true (.t 10)),io 66 (.call (jf 106) [.t 65]),io 67 (.bin .neq (.t 66) (ik 0)),im 64 67]) (.cond (.t 64) (.seq (.reg [jm 8 2]) .ret) .skip))))))) (.seq (.drw [ip (im 69 0),ip (io 70 (.nck (.t 69))),ip (io 71 (.fla 9 (.t 70))),ip (io 72 (.ld 1 false (.t 71))),ip (im 73 1),ip (io 74 (.len true (.t 73))),ip (im 75 2),ip (io 76 (.len true (.t 75))),(io 77 (.call (jf 50) [.t 74,.t 76]),[io 72 (.ld 1 false (.t 71))]),ip (io 78 (.call (jf 107) [.t 72,.t 77])),ip (im 68 78),ip (io 79 (.ext (.t 68) 0)),ip (io 80 (.ext (.t 68) 1)),ip (im 11 79),ip (im 12 80)]) (.seq (.reg [io 81 (.fla 1 (.t 10)),io 82 (.ld 1 false (.t 81)),io 83 (.call (jf 104) [.t 82]),im 13 83]) (.seq (.drw [ip (im 84 11),ip (im 85 13),ip (im 86 13),ip (io 87 (.slc 1 (.t 84) none (some (.t 85)) (some (.t 86)))),ip (im 88 11),ip (im 89 13),ip (io 90 (.slc 1 (.t 88) (some (.t 89)) none none)),ip (im 14 87),ip (im 15 90)]) (.seq (.reg [im 91 14,io 92 (.ixa 1 (.t 91) (ik 0)),io 93 (.ld 1 false (.t 92)),io 94 (.fla 2 (.t 10)),iz (.st 1 (.t 94) (.t 93))]) (.seq (.reg [im 96 1,im 97 2,im 98 14,im 99 15,io 100 (.call (jf 108) [.t 96,.t 97,.t 98,.t 99]),im 95 100,io 101 (.ext (.t 95) 0),io 102 (.ext (.t 95) 1),io 103 (.ext (.t 95) 2),im 16 101,im 17 102,im 18 103]) (.seq (.seq (.reg [im 104 18,io 105 (.bin .neq (.t 104) (ik 0))]) (.cond (.t 105) (.seq (.reg [im 106 18,im 8 106]) .ret) .skip)) (.seq (.seq (.reg [im 107 0,io 108 (.ld 6 true (.t 10)),im 109 14,im 110 15,im 111 16,im 112 17,io 113 (.call (jf 109) [.t 107,.t 108,.t 109,.t 110,.t 111,.t 112]),im 19 113]) (.seq (.reg [im 114 19,io 115 (.bin .neq (.t 114) (ik 0))]) (.cond (.t 115) (.seq (.reg [im 116 0,io 117 (.nck (.t 116)),io 118 (.fla 12 (.t 117)),iz (.st 1 (.t 118) (ib true))]) (.seq (.reg [im 119 19,im 8 119]) .ret)) .skip))) (.seq (.reg [im 120 0,io 121 (.nck (.t 120)),io 122 (.fla 9 (.t 121)),io 123 (.ld 1 false (.t 122)),im 124 11,io 125 (.call (jf 68) [.t 123,.t 124])]) (.seq (.drw [ip (im 126 0),ip (io 127 (.nck (.t 126))),ip (io 128 (.fla 9 (.t 127))),ip (io 129 (.ld 1 false (.t 128))),ip (im 130 0),ip (io 131 (.nck (.t 130))),ip (io 132 (.fla 7 (.t 131))),ip (io 133 (.ld 1 false (.t 132))),ip (im 134 0),ip (io 135 (.nck (.t 134))),ip (io 136 (.fla 8 (.t 135))),ip (io 137 (.ld 1 false (.t 136))),ip (io 138 (.bsl 1 [.t 133,.t 137])),(io 139 (.call (jf 69) [.t 138]),[io 129 (.ld 1 false (.t 128))]),ip (io 140 (.call (jf 110) [.t 129,.t 139]))]) (.seq (.reg [im 141 0,im 142 0,im 143 0,io 144 (.ld 6 true (.t 10)),im 145 14,im 146 15,io 147 (.nck (.t 141)),io 148 (.fla 1 (.t 147)),iz (.st 6 (.t 148) (.t 144)),io 149 (.nck (.t 142)),io 150 (.fla 7 (.t 149)),iz (.st 1 (.t 150) (.t 145)),io 151 (.nck (.t 143)),io 152 (.fla 8 (.t 151)),iz (.st 1 (.t 152) (.t 146))]) (.seq (.reg [im 153 0,io 154 (.nck (.t 153)),io 155 (.fla 10 (.t 154)),io 156 (.ld 1 false (.t 155)),io 157 (.call (jf 111) [.t 156])]) (.seq (.reg [jm 8 0]) .ret)))))))))))))))
theorem cf51:cFn Tryz.prog eqT 51=some (Zgb,[(.tmp 8)],158):=by kernel_rfl
def ZkX:Zar:=.seq (.reg [io 2 (.mv (ib false))]) (.seq (.reg [im 3 0,io 4 (.bin .leq (ik 16) (.t 3)),im 5 4,ig 5 6 (.mv (.t 0)),ig 5 7 (.bin .leq (.t 6) (ik 4096)),io 8 (.pick (.t 5) (.t 7) (ib false)),im 2 8]) .ret)
theorem cf57:cFn Tryz.prog eqT 57=some (ZkX,[(.tmp 2)],9):=by kernel_rfl
def c58_1:Zar:=.blk 0 (.loop (.seq (.seq (.reg [im 34 8,im 35 7,io 36 (.len false (.t 35)),io 37 (.bin .lss (.t 34) (.t 36))]) (.cond (.t 37) .skip (.exit 0))) (.blk 1 (.drw [ip (im 38 8),ip (im 39 7),ip (im 40 8),ip (io 41 (.slc 1 (.t 39) (some (.t 40)) none none)),ip (im 42 7),ip (im 43 8),ip (io 44 (.slc 1 (.t 42) none (some (.t 43)) none)),ip (io 45 (.cpy 1 (.t 41) (.t 44))),ip (io 46 (.bin .add (.t 38) (.t 45))),ip (im 8 46)]))))
def ZtC:Zar:=.seq (.reg [io 4 (.mv jn)]) (.seq (.seq (.reg [im 9 1,io 10 (.bin .lss (.t 9) (ik 0))]) (.cond (.t 10) (.reg [io 11 .bad,iz .bad]) .skip)) (.seq (.reg [im 13 0,io 14 (.len false (.t 13)),io 15 (.cnv .u64 (.t 14)),im 16 1,io 17 (.cnv .u64 (.t 16)),io 18 (.call (jf 121) [.t 15,.t 17]),im 12 18,io 19 (.ext (.t 12) 0),io 20 (.ext (.t 12) 1),im 5 19,im 6 20]) (.seq (.seq (.reg [im 21 5,io 22 (.bin .gtr (.t 21) (.c (.sc (.int .u64 0)))),im 23 22,ih 23 24 (.mv (.t 6)),ih 23 25 (.bin .gtr (.t 24) (.c (.sc (.int .u64 9223372036854775807)))),io 26 (.pick (.t 23) (ib true) (.t 25))]) (.cond (.t 26) (.reg [io 27 .bad,iz .bad]) .skip)) (.seq (.reg [im 28 6,io 29 (.cnv .i64 (.t 28)),io 30 (.mks 9 1 16 [.sc (.string ⟨#[]⟩)] (.t 29) (.t 29)),im 7 30]) (.seq (.reg [im 31 7,im 32 0,io 33 (.cpy 1 (.t 31) (.t 32)),im 8 33]) (.seq c58_1 (.seq (.reg [im 47 7,im 4 47]) .ret)))))))
theorem cf58:cFn Tryz.prog eqT 58=some (ZtC,[(.tmp 4)],48):=by kernel_rfl
def Zqj:Zar:=.seq (.reg [io 0 (.mv (.c (.sc (.string ⟨#[]⟩))))]) (.seq (.reg [io 1 (.call (jf 122) [.c (.sc (.string ⟨#[0]⟩)),ik 128]),im 0 1]) .ret)
theorem cf59:cFn Tryz.prog eqT 59=some (Zqj,[(.tmp 0)],2):=by kernel_rfl
def ZvP:Zar:=.seq (.reg [jm 2 0]) (.seq (.seq (.reg [im 3 0,io 4 (.call (jf 123) [.t 3]),io 5 (.un .not (.t 4))]) (.cond (.t 5) (.seq (.reg [jm 2 0]) .ret) .skip)) (.seq (.reg [im 6 0,io 7 (.nck (.t 6)),io 8 (.fla 0 (.t 7)),io 9 (.ld 1 false (.t 8)),io 10 (.len false (.t 9)),im 2 10]) .ret))
theorem cf60:cFn Tryz.prog eqT 60=some (ZvP,[(.tmp 2)],11):=by kernel_rfl
def ZiF:Zar:=.seq (.reg [io 2 (.mv (.c (.sc (.string ⟨#[]⟩)))),io 3 (.mv (.c (.sc (.string ⟨#[]⟩)))),jm 4 0]) (.seq (.seq (.reg [im 6 0,io 7 (.call (jf 89) [.t 6,ik 0]),im 5 7,io 8 (.ext (.t 5) 0),io 9 (.ext (.t 5) 1),im 2 8,im 4 9]) (.seq (.reg [im 10 4,io 11 (.bin .neq (.t 10) (ik 0))]) (.cond (.t 11) (.seq (.reg [im 12 4,io 2 (.mv (.c (.sc (.string ⟨#[]⟩)))),io 3 (.mv (.c (.sc (.string ⟨#[]⟩)))),im 4 12]) .ret) .skip))) (.seq (.seq (.reg [im 14 0,io 15 (.call (jf 89) [.t 14,ik 1]),im 13 15,io 16 (.ext (.t 13) 0),io 17 (.ext (.t 13) 1),im 3 16,im 4 17]) (.seq (.reg [im 18 4,io 19 (.bin .neq (.t 18) (ik 0))]) (.cond (.t 19) (.seq (.reg [im 20 4,io 2 (.mv (.c (.sc (.string ⟨#[]⟩)))),io 3 (.mv (.c (.sc (.string ⟨#[]⟩)))),im 4 20]) .ret) .skip))) (.seq (.reg [im 21 2,im 22 3,im 2 21,im 3 22,jm 4 0]) .ret)))
theorem cf61:cFn Tryz.prog eqT 61=some (ZiF,[(.tmp 2),(.tmp 3),(.tmp 4)],23):=by kernel_rfl
def c62_0:Zar:=.seq (.reg [io 2 (.mv (.c (.sc (.pointer none)))),jm 3 0]) (.seq (.seq (.reg [im 4 0,io 5 (.bin .lss (.t 4) (ik 1)),im 6 5,ih 6 7 (.mv (.t 0)),ih 6 8 (.bin .gtr (.t 7) (ik 2047)),io 9 (.pick (.t 6) (ib true) (.t 8))]) (.cond (.t 9) (.seq (.reg [io 2 (.mv (.c (.sc (.pointer none)))),jm 3 2]) .ret) .skip)) (.seq (.reg [im 10 0,io 11 (.bin .add (.t 10) (ik 63)),io 12 (.bin .quo (.t 11) (ik 64)),io 13 (.mks 222 1 8 [.sc (.int .u64 0)] (.t 12) (.t 12)),im 14 0,io 15 (.bld [.sl .full [],.sc (.int .i64 0)] [(0,(1,.t 13)),(1,(1,.t 14))]),io 16 (.box 204 (.t 15)),im 2 16,jm 3 0]) .ret))
theorem cf62:cFn Tryz.prog eqT 62=some (c62_0,[(.tmp 2),(.tmp 3)],17):=by kernel_rfl
def Zi8:Zar:=.seq (.reg [jm 2 0]) (.seq (.seq (.reg [im 3 0,io 4 (.bin .lss (.t 3) (ik 16)),im 5 4,ih 5 6 (.mv (.t 0)),ih 5 7 (.bin .gtr (.t 6) (ik 4096)),io 8 (.pick (.t 5) (ib true) (.t 7))]) (.cond (.t 8) (.seq (.reg [jm 2 0]) .ret) .skip)) (.seq (.reg [im 9 0,io 10 (.bin .sub (.t 9) (ik 2)),io 11 (.bin .quo (.t 10) (ik 2)),im 2 11]) .ret))
theorem cf63:cFn Tryz.prog eqT 63=some (Zi8,[(.tmp 2)],12):=by kernel_rfl
def ZoS:Zar:=.seq (.reg [io 2 (.mv (.c (.sc (.pointer none)))),jm 3 0]) (.seq (.seq (.reg [im 4 0,io 5 (.bin .lss (.t 4) (ik 1)),im 6 5,ih 6 7 (.mv (.t 0)),ih 6 8 (.bin .gtr (.t 7) (ik 64)),io 9 (.pick (.t 6) (ib true) (.t 8))]) (.cond (.t 9) (.seq (.reg [io 2 (.mv (.c (.sc (.pointer none)))),jm 3 2]) .ret) .skip)) (.seq (.reg [im 10 0,io 11 (.mkm (.one (.int .i64))),io 12 (.bld zl10 [(0,(1,.t 10)),(2,(1,.t 11))]),io 13 (.box 207 (.t 12)),im 2 13,jm 3 0]) .ret))
theorem cf64:cFn Tryz.prog eqT 64=some (ZoS,[(.tmp 2),(.tmp 3)],14):=by kernel_rfl
def Zk1:Zar:=.seq (.reg [io 4 (.box 36 (.c za7)),io 5 (.mv (ib false))]) (.seq (.reg [im 11 0,io 12 (.call (jf 124) [ik 0,.t 11]),im 10 12,io 13 (.ext (.t 10) 0),io 14 (.ext (.t 10) 1),io 6 (.box 36 (.c za7)),iz (.st 6 (.t 6) (.t 13)),im 7 14]) (.seq (.reg [im 16 1,io 17 (.call (jf 124) [ik 1,.t 16]),im 15 17,io 18 (.ext (.t 15) 0),io 19 (.ext (.t 15) 1),io 8 (.box 36 (.c za7)),iz (.st 6 (.t 8) (.t 18)),im 9 19]) (.seq (.blk 0 (.seq (.reg [im 21 9,im 22 21,ig 22 23 (.fla 0 (.t 8)),ig 22 24 (.ld 1 false (.t 23)),ig 22 25 (.fla 0 (.t 6)),ig 22 26 (.ld 1 false (.t 25)),ig 22 27 (.bin .gtr (.t 24) (.t 26)),io 28 (.pick (.t 22) (.t 27) (ib false)),im 20 28]) (.cond (.t 20) (.seq (.reg [io 29 (.ld 6 true (.t 8)),iz (.st 6 (.t 4) (.t 29)),io 5 (.mv (ib true))]) .ret) (.seq (.reg [im 31 7,im 30 31]) (.cond (.t 30) (.seq (.reg [io 32 (.ld 6 true (.t 6)),iz (.st 6 (.t 4) (.t 32)),io 5 (.mv (ib true))]) .ret) .skip))))) (.seq (.reg [io 33 (.bld zl9 []),iz (.st 6 (.t 4) (.t 33)),io 5 (.mv (ib false))]) .ret))))
theorem cf65:cFn Tryz.prog eqT 65=some (Zk1,[(.cell 6 true 4),(.tmp 5)],34):=by kernel_rfl
def c66_1:Zar:=.blk 0 (.loop (.seq (.reg [io 24 (.bin .lss (.t 23) (.t 22))]) (.seq (.cond (.t 24) .skip (.exit 0)) (.seq (.blk 1 (.seq (.reg [im 25 23,im 12 25]) (.seq (.reg [im 27 2,im 28 11,im 29 12,io 30 (.call (.t 27) [.t 28,.t 29]),im 26 30,io 31 (.ext (.t 26) 0),io 32 (.ext (.t 26) 1),im 13 31,im 14 32]) (.seq (.seq (.reg [im 33 14,io 34 (.bin .neq (.t 33) (ik 0))]) (.cond (.t 34) (.seq (.reg [im 35 14,io 6 (.mv jn),io 7 (.mv jn),im 8 35]) .ret) .skip)) (.seq (.reg [im 37 13,io 38 (.call (jf 126) [.t 37]),im 36 38,io 39 (.ext (.t 36) 0),io 40 (.ext (.t 36) 1),io 41 (.ext (.t 36) 2),im 15 39,im 16 40,im 14 41]) (.seq (.seq (.reg [im 42 14,io 43 (.bin .neq (.t 42) (ik 0))]) (.cond (.t 43) (.seq (.reg [im 44 14,io 6 (.mv jn),io 7 (.mv jn),im 8 44]) .ret) .skip)) (.seq (.reg [im 45 12,io 46 (.bin .add (.t 45) (ik 1)),im 47 1,io 48 (.call (jf 104) [.t 47]),io 49 (.bin .eql (.t 46) (.t 48)),im 17 49]) (.seq (.seq (.reg [im 50 10,im 51 11,io 52 (.bsl 1 [.t 51]),io 53 (.call (.t 50) [.t 52]),io 54 (.un .not (.t 53)),im 55 54,ih 55 56 (.mv (.t 10)),ih 55 57 (.mv (.t 16)),ih 55 58 (.call (.t 56) [.t 57]),ih 55 59 (.un .not (.t 58)),io 60 (.pick (.t 55) (ib true) (.t 59)),im 61 60,ih 61 62 (.mv (.t 16)),ih 61 63 (.len false (.t 62)),ih 61 64 (.mv (.t 1)),ih 61 65 (.mv (.t 7)),ih 61 66 (.len false (.t 65)),ih 61 67 (.bin .sub (.t 64) (.t 66)),ih 61 68 (.mm false (.t 67) (ik 122)),ih 61 69 (.bin .neq (.t 63) (.t 68)),io 70 (.pick (.t 61) (ib true) (.t 69)),im 71 70,ih 71 72 (.mv (.t 17)),ih 71 73 (.mv (.t 15)),ih 71 74 (.bin .lss (.t 73) (ik 0)),ih 71 75 (.bnb true (.t 72) (.t 74)),io 76 (.pick (.t 71) (ib true) (.t 75))]) (.cond (.t 76) (.seq (.reg [io 6 (.mv jn),io 7 (.mv jn),jm 8 15]) .ret) .skip)) (.reg [im 77 6,im 78 11,io 79 (.bsl 1 [.t 78]),io 80 (.app 3 1 8 (.t 77) (.t 79)),im 81 7,im 82 16,io 83 (.app 3 1 8 (.t 81) (.t 82)),im 84 15,im 6 80,im 7 83,im 11 84]))))))))) (.reg [io 85 (.bin .add (.t 23) (ik 1)),im 23 85])))))
def ZlH:Zar:=.seq (.reg [io 6 (.mv jn),io 7 (.mv jn),jm 8 0]) (.seq (.reg [io 18 (.mkm (.one (.int .i64))),io 9 (.box 153 (.c (.sc (.map none)))),iz (.st 1 (.t 9) (.t 18))]) (.seq (.reg [io 19 (.mkf 125 [] [.t 9]),im 10 19]) (.seq (.reg [im 20 0,im 11 20]) (.seq (.seq (.reg [im 21 1,io 22 (.call (jf 104) [.t 21]),jm 23 0]) c66_1) (.seq (.reg [im 86 6,im 87 7,im 6 86,im 7 87,jm 8 0]) .ret)))))
theorem cf66:cFn Tryz.prog eqT 66=some (ZlH,[(.tmp 6),(.tmp 7),(.tmp 8)],88):=by kernel_rfl
def Zks:Zar:=.seq (.reg [io 6 (.mv (.c (.sc (.string ⟨#[]⟩)))),jm 7 0]) (.seq (.reg [im 11 0,im 12 1,io 13 (.call (jf 127) [.t 11,.t 12]),im 10 13,io 14 (.ext (.t 10) 0),io 15 (.ext (.t 10) 1),im 8 14,im 9 15]) (.seq (.seq (.reg [im 16 9,io 17 (.bin .neq (.t 16) (ik 0))]) (.cond (.t 17) (.seq (.reg [im 18 9,io 6 (.mv (.c (.sc (.string ⟨#[]⟩)))),im 7 18]) .ret) .skip)) (.seq (.reg [im 19 8,im 20 2,io 21 (.call (jf 128) [.t 19,.c (.sc (.int .u8 77)),.t 20]),io 22 (.ext (.t 21) 0),io 23 (.ext (.t 21) 1),im 6 22,im 7 23]) .ret)))
theorem cf67:cFn Tryz.prog eqT 67=some (Zks,[(.tmp 6),(.tmp 7)],24):=by kernel_rfl
def c68_1:Zar:=.blk 0 (.loop (.seq (.reg [io 19 (.bin .lss (.t 18) (.t 17))]) (.seq (.cond (.t 19) .skip (.exit 0)) (.seq (.blk 1 (.seq (.reg [io 20 (.ixa 1 (.t 16) (.t 18)),io 21 (.ld 1 false (.t 20)),im 8 21]) (.reg [im 22 6,im 23 8,io 24 (.call (.t 22) [.t 23])]))) (.reg [io 25 (.bin .add (.t 18) (ik 1)),im 18 25])))))
def ZiL:Zar:=.seq (.reg [jm 4 0]) (.seq (.reg [im 9 0,im 10 1,io 11 (.call (jf 129) [.t 9,.t 10,ib false]),im 5 11]) (.seq (.seq (.reg [im 12 5,io 13 (.bin .eql (.t 12) (ik 0))]) (.cond (.t 13) (.seq (.reg [im 14 0,io 15 (.mkf 130 [.t 14] []),im 6 15]) (.seq (.reg [im 16 1,io 17 (.len false (.t 16)),jm 18 0]) c68_1)) .skip)) (.seq (.reg [im 26 5,im 4 26]) .ret)))
theorem cf68:cFn Tryz.prog eqT 68=some (ZiL,[(.tmp 4)],27):=by kernel_rfl
def c69_1:Zar:=.blk 0 (.loop (.seq (.reg [io 12 (.bin .lss (.t 11) (.t 10))]) (.seq (.cond (.t 12) .skip (.exit 0)) (.seq (.blk 1 (.seq (.reg [io 13 (.ixa 1 (.t 9) (.t 11)),io 14 (.ld 1 false (.t 13)),im 5 14]) (.seq (.reg [im 15 3,im 16 5,io 17 (.len false (.t 16)),io 18 (.bin .add (.t 15) (.t 17)),im 3 18]) (.seq (.reg [im 19 3,io 20 (.bin .lss (.t 19) (ik 0))]) (.cond (.t 20) (.reg [io 21 .bad,iz .bad]) .skip))))) (.reg [io 22 (.bin .add (.t 11) (ik 1)),im 11 22])))))
def c69_2:Zar:=.blk 2 (.loop (.seq (.reg [io 28 (.bin .lss (.t 27) (.t 26))]) (.seq (.cond (.t 28) .skip (.exit 2)) (.seq (.blk 3 (.seq (.reg [io 29 (.ixa 1 (.t 25) (.t 27)),io 30 (.ld 1 false (.t 29)),im 8 30]) (.reg [im 31 6,im 32 8,io 33 (.app 3 1 8 (.t 31) (.t 32)),im 6 33]))) (.reg [io 34 (.bin .add (.t 27) (ik 1)),im 27 34])))))
def c69_0:Zar:=.seq (.reg [io 2 (.mv jn)]) (.seq (.reg [jm 3 0]) (.seq (.seq (.reg [im 9 0,io 10 (.len false (.t 9)),jm 11 0]) c69_1) (.seq (.reg [im 23 3,io 24 (.call (jf 131) [jn,.t 23]),im 6 24]) (.seq (.seq (.reg [im 25 0,io 26 (.len false (.t 25)),jm 27 0]) c69_2) (.seq (.reg [im 35 6,im 2 35]) .ret)))))
theorem cf69:cFn Tryz.prog eqT 69=some (c69_0,[(.tmp 2)],36):=by kernel_rfl
def ZhM:Zar:=.seq (.reg [jm 2 0]) (.seq (.blk 0 (.seq (.reg [im 4 0,io 5 (.call (jf 88) [.t 4]),io 6 (.un .not (.t 5)),im 3 6]) (.cond (.t 3) (.seq (.reg [jm 2 1]) .ret) (.seq (.reg [im 8 0,io 9 (.nck (.t 8)),io 10 (.fla 12 (.t 9)),io 11 (.ld 1 false (.t 10)),im 12 11,ih 12 13 (.mv (.t 0)),ih 12 14 (.nck (.t 13)),ih 12 15 (.fla 0 (.t 14)),ih 12 16 (.ld 1 false (.t 15)),ih 12 17 (.call (jf 132) [.t 16]),io 18 (.pick (.t 12) (ib true) (.t 17)),im 7 18]) (.cond (.t 7) (.seq (.reg [jm 2 8]) .ret) (.seq (.reg [im 20 0,io 21 (.call (jf 92) [.t 20]),io 22 (.un .not (.t 21)),im 19 22]) (.cond (.t 19) (.seq (.reg [jm 2 10]) .ret) .skip))))))) (.seq (.reg [jm 2 0]) .ret))
theorem cf72:cFn Tryz.prog eqT 72=some (ZhM,[(.tmp 2)],23):=by kernel_rfl
def c73_1:Zar:=.blk 0 (.loop (.seq (.seq (.reg [im 35 12,io 36 (.len true (.t 35)),im 37 4,io 38 (.bin .lss (.t 36) (.t 37))]) (.cond (.t 38) .skip (.exit 0))) (.blk 1 (.seq (.reg [im 39 3,im 40 12,io 41 (.len true (.t 40)),io 42 (.bin .add (.t 39) (.t 41)),im 13 42]) (.seq (.reg [im 44 0,im 45 1,im 46 13,io 47 (.bin .quo (.t 46) (ik 246)),io 48 (.bin .add (.t 45) (.t 47)),io 49 (.call (jf 35) [.t 44,.t 48]),im 43 49,io 50 (.ext (.t 43) 0),io 51 (.ext (.t 43) 1),im 14 50,im 15 51]) (.seq (.seq (.reg [im 52 15,io 53 (.bin .neq (.t 52) (ik 0))]) (.cond (.t 53) (.seq (.reg [im 54 15,io 10 (.mv (.c (.sc (.string ⟨#[]⟩)))),im 11 54]) .ret) .skip)) (.seq (.seq (.reg [im 55 2,im 56 13,io 57 (.bin .quo (.t 56) (ik 246)),io 58 (.bin .mul (.t 57) (ik 246)),io 59 (.bin .sub (.t 55) (.t 58)),io 60 (.mm false (ik 246) (.t 59)),im 16 60]) (.seq (.reg [im 61 14,io 62 (.len true (.t 61)),im 63 16,io 64 (.bin .neq (.t 62) (.t 63))]) (.cond (.t 64) (.seq (.reg [io 10 (.mv (.c (.sc (.string ⟨#[]⟩)))),jm 11 15]) .ret) .skip))) (.seq (.reg [im 65 14,im 66 13,io 67 (.bin .rem (.t 66) (ik 246)),io 68 (.slS (.t 65) (some (.t 67)) none),im 14 68]) (.reg [im 69 12,im 70 14,im 71 14,io 72 (.len true (.t 71)),im 73 4,im 74 12,io 75 (.len true (.t 74)),io 76 (.bin .sub (.t 73) (.t 75)),io 77 (.mm false (.t 72) (.t 76)),io 78 (.slS (.t 70) none (some (.t 77))),io 79 (.bin .add (.t 69) (.t 78)),im 12 79])))))))))
def c73_0:Zar:=.seq (.reg [io 10 (.mv (.c (.sc (.string ⟨#[]⟩)))),jm 11 0]) (.seq (.seq (.reg [im 17 3,io 18 (.bin .lss (.t 17) (ik 0)),im 19 18,ih 19 20 (.mv (.t 4)),ih 19 21 (.bin .lss (.t 20) (ik 0)),io 22 (.pick (.t 19) (ib true) (.t 21)),im 23 22,ih 23 24 (.mv (.t 3)),ih 23 25 (.mv (.t 2)),ih 23 26 (.bin .gtr (.t 24) (.t 25)),io 27 (.pick (.t 23) (ib true) (.t 26)),im 28 27,ih 28 29 (.mv (.t 4)),ih 28 30 (.mv (.t 2)),ih 28 31 (.mv (.t 3)),ih 28 32 (.bin .sub (.t 30) (.t 31)),ih 28 33 (.bin .gtr (.t 29) (.t 32)),io 34 (.pick (.t 28) (ib true) (.t 33))]) (.cond (.t 34) (.seq (.reg [io 10 (.mv (.c (.sc (.string ⟨#[]⟩)))),jm 11 9]) .ret) .skip)) (.seq (.reg [io 12 (.mv (.c (.sc (.string ⟨#[]⟩))))]) (.seq c73_1 (.seq (.reg [im 80 12,im 10 80,jm 11 0]) .ret))))
theorem cf73:cFn Tryz.prog eqT 73=some (c73_0,[(.tmp 10),(.tmp 11)],81):=by kernel_rfl
def c75_1:Zar:=.blk 0 (.loop (.seq (.reg [io 16 (.bin .lss (.t 15) (.t 14))]) (.seq (.cond (.t 16) .skip (.exit 0)) (.seq (.blk 1 (.seq (.reg [im 17 15,im 3 17]) (.reg [im 18 3,im 19 0,io 20 (.call (jf 78) [.t 19]),im 21 0,io 22 (.call (jf 78) [.t 21]),io 23 (.bld [.sc (.int .i64 0),.sc (.int .i64 0)] [(0,(1,.t 20)),(1,(1,.t 22))]),io 24 (.fla 3 (.t 1)),io 25 (.ixA 3 2 (.t 24) (.t 18)),iz (.st 2 (.t 25) (.t 23))]))) (.reg [io 26 (.bin .add (.t 15) (ik 1)),im 15 26])))))
def c75_0:Zar:=.seq (.reg [im 5 0,io 6 (.call (jf 76) [.t 5]),io 7 (.fla 0 (.t 1)),iz (.st 2 (.t 7) (.t 6))]) (.seq (.reg [im 8 0,io 9 (.call (jf 77) [.t 8,ik 4000]),io 10 (.fla 2 (.t 1)),iz (.st 1 (.t 10) (.t 9))]) (.seq (.seq (.reg [io 11 (.fla 0 (.t 1)),io 12 (.fla 1 (.t 11)),io 13 (.ld 1 false (.t 12)),io 14 (.len false (.t 13)),jm 15 0]) c75_1) (.seq (.reg [io 27 (.ld 9 true (.t 1)),io 28 (.call (jf 79) [.t 27]),im 4 28]) (.reg [im 29 0,im 30 4,io 31 (.bin .eql (.t 30) (ik 0)),im 32 4,io 33 (.call (jf 80) [.t 29,.t 31,.t 32])]))))
theorem cf75:cFn Tryz.prog eqT 75=some (c75_0,[],34):=by kernel_rfl
def c76_1:Zar:=.blk 0 (.loop (.seq (.reg [io 8 (.bin .lss (.t 7) (.t 6))]) (.seq (.cond (.t 8) .skip (.exit 0)) (.seq (.blk 1 (.drw [ip (io 9 (.fla 0 (.t 3))),ip (io 10 (.ld 1 false (.t 9))),ip (im 11 0),(io 12 (.call (jf 135) [.t 11]),[io 10 (.ld 1 false (.t 9))]),ip (io 13 (.bsl 2 [.t 12])),ip (io 14 (.app 116 2 40 (.t 10) (.t 13))),ip (io 15 (.fla 0 (.t 3))),ip (iz (.st 1 (.t 15) (.t 14)))])) (.reg [io 16 (.bin .add (.t 7) (ik 1)),im 7 16])))))
def c76_2:Zar:=.blk 2 (.loop (.seq (.reg [io 20 (.bin .lss (.t 19) (.t 18))]) (.seq (.cond (.t 20) .skip (.exit 2)) (.seq (.blk 3 (.drw [ip (io 21 (.fla 1 (.t 3))),ip (io 22 (.ld 1 false (.t 21))),ip (im 23 0),(io 24 (.call (jf 136) [.t 23,ik 12]),[io 22 (.ld 1 false (.t 21))]),ip (io 25 (.bsl 1 [.t 24])),ip (io 26 (.app 9 1 16 (.t 22) (.t 25))),ip (io 27 (.fla 1 (.t 3))),ip (iz (.st 1 (.t 27) (.t 26)))])) (.reg [io 28 (.bin .add (.t 19) (ik 1)),im 19 28])))))
def Zuo:Zar:=.seq (.reg [io 2 (.box 25 (.c (.agg [.sl .full [],.sl .full []])))]) (.seq (.reg [io 3 (.box 25 (.c (.agg [.sl .full [],.sl .full []])))]) (.seq (.seq (.reg [im 5 0,io 6 (.call (jf 77) [.t 5,ik 16]),jm 7 0]) c76_1) (.seq (.seq (.reg [im 17 0,io 18 (.call (jf 77) [.t 17,ik 3]),jm 19 0]) c76_2) (.seq (.reg [io 29 (.ld 2 true (.t 3)),io 30 (.call (jf 137) [.t 29]),im 4 30]) (.seq (.reg [im 31 0,im 32 4,io 33 (.bin .eql (.t 32) (ik 0)),im 34 4,io 35 (.call (jf 80) [.t 31,.t 33,.t 34])]) (.seq (.reg [io 36 (.ld 2 true (.t 3)),iz (.st 2 (.t 2) (.t 36))]) .ret))))))
theorem cf76:cFn Tryz.prog eqT 76=some (Zuo,[(.cell 2 true 2)],37):=by kernel_rfl
def ZdC:Zar:=.seq (.reg [jm 4 0]) (.seq (.seq (.reg [im 6 0,io 7 (.call (jf 138) [.t 6]),io 8 (.un .not (.t 7))]) (.cond (.t 8) (.seq (.reg [jm 4 0]) .ret) .skip)) (.seq (.reg [im 9 0,io 10 (.call (jf 139) [.t 9]),im 5 10]) (.seq (.seq (.reg [im 11 1,io 12 (.bin .lss (.t 11) (ik 0)),im 13 12,ih 13 14 (.mv (.t 5)),ih 13 15 (.mv (.t 1)),ih 13 16 (.cnv .u64 (.t 15)),ih 13 17 (.bin .gtr (.t 14) (.t 16)),io 18 (.pick (.t 13) (ib true) (.t 17))]) (.cond (.t 18) (.reg [im 19 0,io 20 (.call (jf 140) [.t 19,ik 5])]) .skip)) (.seq (.reg [im 21 5,io 22 (.cnv .i64 (.t 21)),im 4 22]) .ret))))
theorem cf77:cFn Tryz.prog eqT 77=some (ZdC,[(.tmp 4)],23):=by kernel_rfl
def ZuL:Zar:=.seq (.reg [im 6 0,io 7 (.call (jf 138) [.t 6]),im 8 7,ig 8 9 (.mv (.t 1)),ig 8 10 (.un .not (.t 9)),io 11 (.pick (.t 8) (.t 10) (ib false))]) (.cond (.t 11) (.seq (.seq (.reg [im 12 2,io 13 (.bin .eql (.t 12) (ik 0))]) (.cond (.t 13) (.reg [jm 2 3]) .skip)) (.reg [im 14 0,im 15 2,io 16 (.call (jf 140) [.t 14,.t 15])])) .skip)
theorem cf80:cFn Tryz.prog eqT 80=some (ZuL,[],17):=by kernel_rfl
def ZdA:Zar:=.seq (.reg [io 2 (.mv (ib false))]) (.seq (.reg [im 3 0,io 4 (.eqn 0 true (.t 3) (.c (.sc (.pointer none)))),im 5 4,ig 5 6 (.mv (.t 0)),ig 5 7 (.nck (.t 6)),ig 5 8 (.fla 0 (.t 7)),ig 5 9 (.ld 1 false (.t 8)),ig 5 10 (.eqn 0 true (.t 9) (.c (.sc (.pointer none)))),io 11 (.pick (.t 5) (.t 10) (ib false)),im 12 11,ig 12 13 (.mv (.t 0)),ig 12 14 (.nck (.t 13)),ig 12 15 (.fla 9 (.t 14)),ig 12 16 (.ld 1 false (.t 15)),ig 12 17 (.eqn 0 true (.t 16) (.c (.sc (.pointer none)))),io 18 (.pick (.t 12) (.t 17) (ib false)),im 19 18,ig 19 20 (.mv (.t 0)),ig 19 21 (.nck (.t 20)),ig 19 22 (.fla 10 (.t 21)),ig 19 23 (.ld 1 false (.t 22)),ig 19 24 (.eqn 0 true (.t 23) (.c (.sc (.pointer none)))),io 25 (.pick (.t 19) (.t 24) (ib false)),im 2 25]) .ret)
theorem cf88:cFn Tryz.prog eqT 88=some (ZdA,[(.tmp 2)],26):=by kernel_rfl
def c89_1:Zar:=.blk 0 (.loop (.seq (.seq (.reg [im 27 7,io 28 (.bin .geq (.t 27) (ik 0))]) (.cond (.t 28) .skip (.exit 0))) (.seq (.blk 1 (.seq (.reg [im 31 0,io 32 (.nck (.t 31)),io 33 (.fla 1 (.t 32)),io 34 (.ld 1 false (.t 33)),im 35 7,io 36 (.ixa 2 (.t 34) (.t 35)),io 37 (.fla 0 (.t 36)),io 38 (.ld 1 false (.t 37)),im 39 1,io 40 (.bin .eql (.t 38) (.t 39))]) (.cond (.t 40) (.seq (.reg [im 41 0,io 42 (.nck (.t 41)),io 43 (.fla 1 (.t 42)),io 44 (.ld 1 false (.t 43)),im 45 7,io 46 (.ixa 2 (.t 44) (.t 45)),io 47 (.fla 1 (.t 46)),io 48 (.ld 1 false (.t 47)),im 4 48,jm 5 0]) .ret) .skip))) (.reg [im 29 7,io 30 (.bin .sub (.t 29) (ik 1)),im 7 30]))))
def c89_0:Zar:=.seq (.reg [io 4 (.mv (.c (.sc (.string ⟨#[]⟩)))),jm 5 0]) (.seq (.seq (.reg [im 8 0,im 9 1,io 10 (.call (jf 153) [.t 8,.t 9]),im 6 10]) (.seq (.reg [im 11 6,io 12 (.bin .neq (.t 11) (ik 0))]) (.cond (.t 12) (.seq (.reg [im 13 6,io 4 (.mv (.c (.sc (.string ⟨#[]⟩)))),im 5 13]) .ret) .skip))) (.seq (.reg [im 14 0,io 15 (.nck (.t 14)),io 16 (.fla 3 (.t 15)),io 17 (.ld 1 false (.t 16)),io 18 (.bin .add (.t 17) (ik 1)),io 19 (.nck (.t 14)),io 20 (.fla 3 (.t 19)),iz (.st 1 (.t 20) (.t 18))]) (.seq (.seq (.reg [im 21 0,io 22 (.nck (.t 21)),io 23 (.fla 1 (.t 22)),io 24 (.ld 1 false (.t 23)),io 25 (.len false (.t 24)),io 26 (.bin .sub (.t 25) (ik 1)),im 7 26]) c89_1) (.seq (.reg [im 49 0,io 50 (.nck (.t 49)),io 51 (.fla 0 (.t 50)),io 52 (.ld 1 false (.t 51)),im 53 1,io 54 (.ixa 1 (.t 52) (.t 53)),io 55 (.ld 1 false (.t 54)),im 4 55,jm 5 0]) .ret))))
theorem cf89:cFn Tryz.prog eqT 89=some (c89_0,[(.tmp 4),(.tmp 5)],56):=by kernel_rfl
def Ze1:Zar:=.seq (.reg [io 6 (.mv (.c (.sc (.string ⟨#[]⟩)))),jm 7 0]) (.seq (.seq (.reg [im 13 0,im 14 1,io 15 (.call (jf 154) [.t 13,.t 14]),im 12 15,io 16 (.ext (.t 12) 0),io 17 (.ext (.t 12) 1),im 8 16,im 9 17]) (.seq (.reg [im 18 9]) (.cond (.t 18) (.seq (.reg [im 19 8,im 6 19,jm 7 0]) .ret) .skip))) (.seq (.reg [im 21 2,im 22 1,io 23 (.call (.t 21) [.t 22]),im 20 23,io 24 (.ext (.t 20) 0),io 25 (.ext (.t 20) 1),im 10 24,im 11 25]) (.seq (.seq (.reg [im 26 11,io 27 (.bin .neq (.t 26) (ik 0))]) (.cond (.t 27) (.seq (.reg [im 28 11,io 6 (.mv (.c (.sc (.string ⟨#[]⟩)))),im 7 28]) .ret) .skip)) (.seq (.reg [im 29 0,im 30 1,im 31 10,io 32 (.call (jf 155) [.t 29,.t 30,.t 31])]) (.seq (.reg [im 33 10,im 6 33,jm 7 0]) .ret)))))
theorem cf90:cFn Tryz.prog eqT 90=some (Ze1,[(.tmp 6),(.tmp 7)],34):=by kernel_rfl
def c91_0:Zar:=.seq (.reg [io 4 (.mv (.c (.sc (.string ⟨#[]⟩)))),jm 5 0]) (.seq (.reg [im 10 0,im 11 0,io 12 (.nck (.t 11)),io 13 (.fla 8 (.t 12)),io 14 (.ld 1 false (.t 13)),im 15 1,io 16 (.ixa 1 (.t 14) (.t 15)),io 17 (.ld 1 false (.t 16)),io 18 (.call (jf 127) [.t 10,.t 17]),im 9 18,io 19 (.ext (.t 9) 0),io 20 (.ext (.t 9) 1),im 6 19,im 7 20]) (.seq (.seq (.reg [im 21 7,io 22 (.bin .neq (.t 21) (ik 0))]) (.cond (.t 22) (.seq (.reg [im 23 7,io 4 (.mv (.c (.sc (.string ⟨#[]⟩)))),im 5 23]) .ret) .skip)) (.seq (.seq (.reg [im 24 0,io 25 (.nck (.t 24)),io 26 (.fla 1 (.t 25)),io 27 (.fla 3 (.t 26)),io 28 (.ld 1 false (.t 27)),io 29 (.call (jf 103) [.t 28]),im 8 29]) (.seq (.reg [im 30 1,im 31 8,io 32 (.bin .geq (.t 30) (.t 31))]) (.cond (.t 32) (.seq (.reg [im 33 6,im 34 1,im 35 8,io 36 (.bin .sub (.t 34) (.t 35)),io 37 (.call (jf 128) [.t 33,.c (.sc (.int .u8 78)),.t 36]),io 38 (.ext (.t 37) 0),io 39 (.ext (.t 37) 1),im 4 38,im 5 39]) .ret) .skip))) (.seq (.reg [im 40 6,im 41 1,io 42 (.call (jf 128) [.t 40,.c (.sc (.int .u8 67)),.t 41]),io 43 (.ext (.t 42) 0),io 44 (.ext (.t 42) 1),im 4 43,im 5 44]) .ret))))
theorem cf91:cFn Tryz.prog eqT 91=some (c91_0,[(.tmp 4),(.tmp 5)],45):=by kernel_rfl
def ZfU:Zar:=.seq (.reg [io 2 (.mv (ib false))]) (.seq (.reg [im 3 0,io 4 (.call (jf 88) [.t 3]),im 5 4,ig 5 6 (.mv (.t 0)),ig 5 7 (.nck (.t 6)),ig 5 8 (.fla 1 (.t 7)),ig 5 9 (.fla 0 (.t 8)),ig 5 10 (.ld 1 false (.t 9)),ig 5 11 (.bin .gtr (.t 10) (ik 0)),io 12 (.pick (.t 5) (.t 11) (ib false)),im 2 12]) .ret)
theorem cf92:cFn Tryz.prog eqT 92=some (ZfU,[(.tmp 2)],13):=by kernel_rfl
def c93_1:Zar:=.blk 0 (.loop (.seq (.reg [io 18 (.bin .lss (.t 17) (.t 16))]) (.seq (.cond (.t 18) .skip (.exit 0)) (.seq (.blk 1 (.seq (.reg [im 19 17,im 4 19]) (.seq (.reg [im 21 0,im 22 4,io 23 (.call (jf 91) [.t 21,.t 22]),im 20 23,io 24 (.ext (.t 20) 0),io 25 (.ext (.t 20) 1),im 5 24,im 6 25]) (.seq (.reg [im 26 6,io 27 (.bin .neq (.t 26) (ik 0))]) (.cond (.t 27) (.seq (.reg [im 28 6,im 2 28]) .ret) .skip))))) (.reg [io 29 (.bin .add (.t 17) (ik 1)),im 17 29])))))
def c93_0:Zar:=.seq (.reg [jm 2 0]) (.seq (.seq (.reg [im 7 0,io 8 (.call (jf 72) [.t 7]),im 3 8]) (.seq (.reg [im 9 3,io 10 (.bin .neq (.t 9) (ik 0))]) (.cond (.t 10) (.seq (.reg [im 11 3,im 2 11]) .ret) .skip))) (.seq (.seq (.reg [im 12 0,io 13 (.nck (.t 12)),io 14 (.fla 8 (.t 13)),io 15 (.ld 1 false (.t 14)),io 16 (.len false (.t 15)),jm 17 0]) c93_1) (.seq (.reg [jm 2 0]) .ret)))
theorem cf93:cFn Tryz.prog eqT 93=some (c93_0,[(.tmp 2)],30):=by kernel_rfl
def ZdX:Zar:=.seq (.reg [io 2 (.mv (ib false))]) (.seq (.reg [im 3 0,io 4 (.eqn 0 true (.t 3) (.c (.sc (.pointer none)))),im 5 4,ig 5 6 (.mv (.t 0)),ig 5 7 (.nck (.t 6)),ig 5 8 (.fla 0 (.t 7)),ig 5 9 (.ld 1 false (.t 8)),ig 5 10 (.eqn 0 true (.t 9) (.c (.sc (.pointer none)))),io 11 (.pick (.t 5) (.t 10) (ib false)),im 2 11]) .ret)
theorem cf94:cFn Tryz.prog eqT 94=some (ZdX,[(.tmp 2)],12):=by kernel_rfl
def Zuf:Zar:=.seq (.reg [jm 2 0]) (.seq (.seq (.reg [im 3 0,io 4 (.bin .leq (.t 3) (ik 0))]) (.cond (.t 4) (.seq (.reg [jm 2 0]) .ret) .skip)) (.seq (.reg [im 5 0,io 6 (.bin .sub (.t 5) (ik 1)),io 7 (.bin .quo (.t 6) (ik 246)),io 8 (.bin .add (.t 7) (ik 1)),im 2 8]) .ret))
theorem cf103:cFn Tryz.prog eqT 103=some (Zuf,[(.tmp 2)],9):=by kernel_rfl
def Zt4:Zar:=.seq (.reg [jm 2 0]) (.seq (.seq (.reg [im 3 0,io 4 (.bin .leq (.t 3) (ik 0))]) (.cond (.t 4) (.seq (.reg [jm 2 0]) .ret) .skip)) (.seq (.reg [im 5 0,io 6 (.bin .sub (.t 5) (ik 1)),io 7 (.bin .quo (.t 6) (ik 122)),io 8 (.bin .add (.t 7) (ik 1)),im 2 8]) .ret))
theorem cf104:cFn Tryz.prog eqT 104=some (Zt4,[(.tmp 2)],9):=by kernel_rfl
def c105_1:Zar:=.blk 0 (.loop (.seq (.reg [io 18 (.bin .lss (.t 17) (.t 16))]) (.seq (.cond (.t 18) .skip (.exit 0)) (.seq (.blk 1 (.seq (.reg [io 19 (.ixa 1 (.t 15) (.t 17)),io 20 (.ld 1 false (.t 19)),im 5 20]) (.reg [im 21 3,im 22 5,io 23 (.call (jf 165) [.t 22]),io 24 (.bin .sub (.t 21) (.t 23)),im 3 24]))) (.reg [io 25 (.bin .add (.t 17) (ik 1)),im 17 25])))))
def ZtP:Zar:=.seq (.reg [jm 2 0]) (.seq (.seq (.reg [im 6 0,io 7 (.eqn 0 false (.t 6) (.c (.sc (.pointer none))))]) (.cond (.t 7) (.seq (.reg [jm 2 0]) .ret) .skip)) (.seq (.reg [im 8 0,io 9 (.nck (.t 8)),io 10 (.fla 1 (.t 9)),io 11 (.ld 1 false (.t 10)),im 3 11]) (.seq (.seq (.reg [im 12 0,io 13 (.nck (.t 12)),io 14 (.fla 0 (.t 13)),io 15 (.ld 1 false (.t 14)),io 16 (.len false (.t 15)),jm 17 0]) c105_1) (.seq (.reg [im 26 3,im 2 26]) .ret))))
theorem cf105:cFn Tryz.prog eqT 105=some (ZtP,[(.tmp 2)],27):=by kernel_rfl
def Zic:Zar:=.seq (.reg [io 1 (.box 36 (.t 0)),jm 2 0]) (.seq (.blk 0 (.seq (.reg [io 4 (.fla 0 (.t 1)),io 5 (.ld 1 false (.t 4)),io 6 (.bin .lss (.t 5) (ik 1)),im 7 6,ih 7 8 (.fla 0 (.t 1)),ih 7 9 (.ld 1 false (.t 8)),ih 7 10 (.bin .gtr (.t 9) (ik 1099511627776)),io 11 (.pick (.t 7) (ib true) (.t 10)),im 3 11]) (.cond (.t 3) (.seq (.reg [jm 2 2]) .ret) (.seq (.reg [io 13 (.fla 3 (.t 1)),io 14 (.ld 1 false (.t 13)),io 15 (.bin .lss (.t 14) (ik 1)),im 16 15,ih 16 17 (.fla 3 (.t 1)),ih 16 18 (.ld 1 false (.t 17)),ih 16 19 (.bin .gtr (.t 18) (ik 1048576)),io 20 (.pick (.t 16) (ib true) (.t 19)),im 21 20,ih 21 22 (.fla 4 (.t 1)),ih 21 23 (.ld 1 false (.t 22)),ih 21 24 (.bin .lss (.t 23) (ik 0)),io 25 (.pick (.t 21) (ib true) (.t 24)),im 26 25,ih 26 27 (.fla 4 (.t 1)),ih 26 28 (.ld 1 false (.t 27)),ih 26 29 (.bin .gtr (.t 28) (ik 1048576)),io 30 (.pick (.t 26) (ib true) (.t 29)),im 12 30]) (.cond (.t 12) (.seq (.reg [jm 2 2]) .ret) (.seq (.reg [io 32 (.fla 5 (.t 1)),io 33 (.ld 1 false (.t 32)),io 34 (.bin .lss (.t 33) (ik 0)),im 35 34,ih 35 36 (.fla 5 (.t 1)),ih 35 37 (.ld 1 false (.t 36)),ih 35 38 (.fla 4 (.t 1)),ih 35 39 (.ld 1 false (.t 38)),ih 35 40 (.mm true (.t 39) (ik 1)),ih 35 41 (.bin .geq (.t 37) (.t 40)),io 42 (.pick (.t 35) (ib true) (.t 41)),im 31 42]) (.cond (.t 31) (.seq (.reg [jm 2 2]) .ret) (.seq (.drw [ip (io 44 (.fla 1 (.t 1))),ip (io 45 (.ld 1 false (.t 44))),ip (io 46 (.fla 3 (.t 1))),ip (io 47 (.ld 1 false (.t 46))),ip (io 49 (.fla 4 (.t 1))),ip (io 50 (.ld 1 false (.t 49))),(io 48 (.call (jf 103) [.t 47]),[io 45 (.ld 1 false (.t 44)),io 50 (.ld 1 false (.t 49))]),(io 51 (.call (jf 103) [.t 50]),[io 45 (.ld 1 false (.t 44))]),ip (io 52 (.bin .add (.t 48) (.t 51))),ip (io 53 (.bin .neq (.t 45) (.t 52))),ip (im 54 53),ip (ih 54 55 (.fla 1 (.t 1))),ip (ih 54 56 (.ld 1 false (.t 55))),ip (ih 54 57 (.bin .gtr (.t 56) (ik 2047))),ip (io 58 (.pick (.t 54) (ib true) (.t 57))),ip (im 43 58)]) (.cond (.t 43) (.seq (.reg [jm 2 2]) .ret) (.seq (.reg [io 60 (.fla 2 (.t 1)),io 61 (.ld 1 false (.t 60)),io 62 (.bin .lss (.t 61) (ik 0)),im 63 62,ih 63 64 (.fla 2 (.t 1)),ih 63 65 (.ld 1 false (.t 64)),ih 63 66 (.bin .geq (.t 65) (ik 2047)),io 67 (.pick (.t 63) (ib true) (.t 66)),im 59 67]) (.cond (.t 59) (.seq (.reg [jm 2 2]) .ret) .skip))))))))))) (.seq (.reg [jm 2 0]) .ret))
theorem cf106:cFn Tryz.prog eqT 106=some (Zic,[(.tmp 2)],68):=by kernel_rfl
def c107_1:Zar:=.blk 1 (.loop (.seq (.seq (.reg [im 26 6,io 27 (.len false (.t 26)),im 28 1,io 29 (.bin .lss (.t 27) (.t 28))]) (.cond (.t 29) .skip (.exit 1))) (.seq (.blk 2 (.seq (.reg [im 32 0,im 33 7,io 34 (.call (jf 166) [.t 32,.t 33]),io 35 (.un .not (.t 34))]) (.cond (.t 35) (.reg [im 36 6,im 37 7,io 38 (.bsl 1 [.t 37]),io 39 (.app 3 1 8 (.t 36) (.t 38)),im 6 39]) .skip))) (.reg [im 30 7,io 31 (.bin .add (.t 30) (ik 1)),im 7 31]))))
def Zcf:Zar:=.seq (.reg [io 4 (.mv jn),jm 5 0]) (.seq (.blk 0 (.seq (.reg [im 9 0,io 10 (.eqn 0 false (.t 9) (.c (.sc (.pointer none)))),im 11 10,ih 11 12 (.mv (.t 0)),ih 11 13 (.nck (.t 12)),ih 11 14 (.fla 1 (.t 13)),ih 11 15 (.ld 1 false (.t 14)),ih 11 16 (.bin .eql (.t 15) (ik 0)),io 17 (.pick (.t 11) (ib true) (.t 16)),im 8 17]) (.cond (.t 8) (.seq (.reg [io 4 (.mv jn),jm 5 1]) .ret) (.seq (.reg [im 19 1,io 20 (.bin .lss (.t 19) (ik 0)),im 18 20]) (.cond (.t 18) (.seq (.reg [io 4 (.mv jn),jm 5 2]) .ret) (.seq (.reg [im 22 1,im 23 0,io 24 (.call (jf 105) [.t 23]),io 25 (.bin .gtr (.t 22) (.t 24)),im 21 25]) (.cond (.t 21) (.seq (.reg [io 4 (.mv jn),jm 5 7]) .ret) .skip))))))) (.seq (.reg [io 6 (.mv jn)]) (.seq (.seq (.reg [jm 7 0]) c107_1) (.seq (.reg [im 40 6,im 4 40,jm 5 0]) .ret))))
theorem cf107:cFn Tryz.prog eqT 107=some (Zcf,[(.tmp 4),(.tmp 5)],41):=by kernel_rfl
def c108_1:Zar:=.blk 0 (.loop (.seq (.reg [io 46 (.bin .lss (.t 45) (.t 44))]) (.seq (.cond (.t 46) .skip (.exit 0)) (.seq (.blk 1 (.seq (.reg [im 47 45,io 48 (.ixa 1 (.t 43) (.t 45)),io 49 (.ld 1 false (.t 48)),im 14 47,im 15 49]) (.seq (.reg [im 51 14,im 52 15,io 53 (.call (jf 169) [.c (.sc (.int .u8 77)),.t 51,.t 52]),im 50 53,io 54 (.ext (.t 50) 0),io 55 (.ext (.t 50) 1),im 16 54,im 17 55]) (.seq (.seq (.reg [im 56 17,io 57 (.bin .neq (.t 56) (ik 0))]) (.cond (.t 57) (.seq (.reg [im 58 17,io 8 (.mv jn),io 9 (.mv jn),im 10 58]) .ret) .skip)) (.reg [im 59 9,im 60 16,io 61 (.bsl 1 [.t 60]),io 62 (.app 9 1 16 (.t 59) (.t 61)),im 9 62]))))) (.reg [io 63 (.bin .add (.t 45) (ik 1)),im 45 63])))))
def Zeq:Zar:=.seq (.reg [io 8 (.mv jn),io 9 (.mv jn),jm 10 0]) (.seq (.reg [im 19 0,io 20 (.call (jf 167) [.c (.sc (.int .u8 67)),ik 0,.t 19]),im 18 20,io 21 (.ext (.t 18) 0),io 22 (.ext (.t 18) 1),im 11 21,im 10 22]) (.seq (.seq (.reg [im 23 10,io 24 (.bin .neq (.t 23) (ik 0))]) (.cond (.t 24) (.seq (.reg [im 25 10,io 8 (.mv jn),io 9 (.mv jn),im 10 25]) .ret) .skip)) (.seq (.reg [im 27 1,io 28 (.call (jf 167) [.c (.sc (.int .u8 78)),ik 0,.t 27]),im 26 28,io 29 (.ext (.t 26) 0),io 30 (.ext (.t 26) 1),im 12 29,im 10 30]) (.seq (.seq (.reg [im 31 10,io 32 (.bin .neq (.t 31) (ik 0))]) (.cond (.t 32) (.seq (.reg [im 33 10,io 8 (.mv jn),io 9 (.mv jn),im 10 33]) .ret) .skip)) (.seq (.reg [im 35 2,im 36 3,io 37 (.call (jf 168) [.t 35,.t 36]),im 34 37,io 38 (.ext (.t 34) 0),io 39 (.ext (.t 34) 1),im 13 38,im 10 39]) (.seq (.seq (.reg [im 40 10,io 41 (.bin .neq (.t 40) (ik 0))]) (.cond (.t 41) (.seq (.reg [im 42 10,io 8 (.mv jn),io 9 (.mv jn),im 10 42]) .ret) .skip)) (.seq (.seq (.reg [im 43 13,io 44 (.len false (.t 43)),jm 45 0]) c108_1) (.seq (.reg [im 64 11,im 65 12,io 66 (.app 9 1 16 (.t 64) (.t 65)),im 67 9,im 8 66,im 9 67,jm 10 0]) .ret))))))))
theorem cf108:cFn Tryz.prog eqT 108=some (Zeq,[(.tmp 8),(.tmp 9),(.tmp 10)],68):=by kernel_rfl
def ZfJ:Zar:=.seq (.reg [io 7 (.box 36 (.t 1)),jm 12 0]) (.seq (.reg [io 20 (.ld 6 true (.t 7)),io 21 (.call (jf 170) [.t 20]),im 19 21,io 22 (.ext (.t 19) 0),io 23 (.ext (.t 19) 1),im 13 22,im 14 23]) (.seq (.seq (.reg [im 24 14,io 25 (.bin .neq (.t 24) (ik 0))]) (.cond (.t 25) (.seq (.reg [im 26 14,im 12 26]) .ret) .skip)) (.seq (.seq (.reg [im 27 0,im 28 3,im 29 4,io 30 (.call (jf 171) [.t 27,.t 28,.t 29]),im 15 30]) (.seq (.reg [im 31 15,io 32 (.bin .neq (.t 31) (ik 0))]) (.cond (.t 32) (.seq (.reg [im 33 15,im 12 33]) .ret) .skip))) (.seq (.seq (.reg [im 34 0,im 35 2,im 36 5,io 37 (.call (jf 171) [.t 34,.t 35,.t 36]),im 16 37]) (.seq (.reg [im 38 16,io 39 (.bin .neq (.t 38) (ik 0))]) (.cond (.t 39) (.seq (.reg [im 40 16,im 12 40]) .ret) .skip))) (.seq (.seq (.reg [im 41 0,io 42 (.nck (.t 41)),io 43 (.fla 0 (.t 42)),io 44 (.ld 1 false (.t 43)),io 45 (.call (jf 172) [.t 44]),im 17 45]) (.seq (.reg [im 46 17,io 47 (.bin .neq (.t 46) (ik 0))]) (.cond (.t 47) (.seq (.reg [im 48 17,im 12 48]) .ret) .skip))) (.seq (.seq (.drw [ip (im 49 0),ip (io 50 (.nck (.t 49))),ip (io 51 (.fla 0 (.t 50))),ip (io 52 (.ld 1 false (.t 51))),ip (io 53 (.fla 0 (.t 7))),ip (io 54 (.ld 1 false (.t 53))),ip (im 56 13),(io 55 (.call (jf 174) [.t 54]),[io 52 (.ld 1 false (.t 51))]),ip (io 57 (.call (jf 173) [.t 52,.t 55,.t 56])),ip (im 18 57)]) (.seq (.reg [im 58 18,io 59 (.bin .neq (.t 58) (ik 0))]) (.cond (.t 59) (.seq (.reg [im 60 18,im 12 60]) .ret) .skip))) (.seq (.reg [im 61 0,io 62 (.nck (.t 61)),io 63 (.fla 0 (.t 62)),io 64 (.ld 1 false (.t 63)),io 65 (.call (jf 172) [.t 64]),im 12 65]) .ret)))))))
theorem cf109:cFn Tryz.prog eqT 109=some (ZfJ,[(.tmp 12)],66):=by kernel_rfl
def c110_1:Zar:=.blk 0 (.loop (.seq (.reg [io 19 (.bin .lss (.t 18) (.t 17))]) (.seq (.cond (.t 19) .skip (.exit 0)) (.seq (.blk 1 (.seq (.reg [io 20 (.ixa 1 (.t 16) (.t 18)),io 21 (.ld 1 false (.t 20)),im 8 21]) (.reg [im 22 6,im 23 8,io 24 (.call (.t 22) [.t 23])]))) (.reg [io 25 (.bin .add (.t 18) (ik 1)),im 18 25])))))
def Zpi:Zar:=.seq (.reg [jm 4 0]) (.seq (.reg [im 9 0,im 10 1,io 11 (.call (jf 129) [.t 9,.t 10,ib true]),im 5 11]) (.seq (.seq (.reg [im 12 5,io 13 (.bin .eql (.t 12) (ik 0))]) (.cond (.t 13) (.seq (.reg [im 14 0,io 15 (.mkf 130 [.t 14] []),im 6 15]) (.seq (.reg [im 16 1,io 17 (.len false (.t 16)),jm 18 0]) c110_1)) .skip)) (.seq (.reg [im 26 5,im 4 26]) .ret)))
theorem cf110:cFn Tryz.prog eqT 110=some (Zpi,[(.tmp 4)],27):=by kernel_rfl
def Zfr:Zar:=.seq (.reg [im 2 0,io 3 (.call (jf 175) [.t 2])]) (.cond (.t 3) (.seq (.reg [im 4 0,io 5 (.nck (.t 4)),io 6 (.fla 2 (.t 5)),io 7 (.ld 1 false (.t 6)),iz (.clr (.t 7))]) (.reg [im 8 0,io 9 (.nck (.t 8)),io 10 (.fla 1 (.t 9)),iz (.st 1 (.t 10) jn)])) .skip)
theorem cf111:cFn Tryz.prog eqT 111=some (Zfr,[],11):=by kernel_rfl
def ZpQ:Zar:=.seq (.reg [io 2 (.mv (.c (.sc (.string ⟨#[]⟩))))]) (.seq (.reg [im 3 0,io 4 (.mm true (.t 3) (ik 0)),io 5 (.cnv .u64 (.t 4)),io 6 (.call (jf 178) [.t 5]),im 2 6]) .ret)
theorem cf114:cFn Tryz.prog eqT 114=some (ZpQ,[(.tmp 2)],7):=by kernel_rfl
def Zcv:Zar:=.seq (.reg [io 4 (.mv (.c (.sc (.int .u64 0)))),io 5 (.mv (.c (.sc (.int .u64 0))))]) (.seq (.cond (ib false) (.seq (.reg [im 11 0,io 12 (.cnv .u32 (.t 11)),im 13 1,io 14 (.cnv .u32 (.t 13)),io 15 (.call (jf 182) [.t 12,.t 14]),im 10 15,io 16 (.ext (.t 10) 0),io 17 (.ext (.t 10) 1),im 6 16,im 7 17]) (.seq (.reg [im 18 6,io 19 (.cnv .u64 (.t 18)),im 20 7,io 21 (.cnv .u64 (.t 20)),im 4 19,im 5 21]) .ret)) .skip) (.seq (.reg [im 23 0,im 24 1,io 25 (.call (jf 183) [.t 23,.t 24]),im 22 25,io 26 (.ext (.t 22) 0),io 27 (.ext (.t 22) 1),im 8 26,im 9 27]) (.seq (.reg [im 28 8,im 29 9,im 4 28,im 5 29]) .ret)))
theorem cf121:cFn Tryz.prog eqT 121=some (Zcv,[(.tmp 4),(.tmp 5)],30):=by kernel_rfl
def Ztv:Zar:=.seq (.reg [io 2 (.mv (ib false))]) (.seq (.reg [im 3 0,io 4 (.eqn 0 true (.t 3) (.c (.sc (.pointer none)))),im 5 4,ig 5 6 (.mv (.t 0)),ig 5 7 (.nck (.t 6)),ig 5 8 (.fla 0 (.t 7)),ig 5 9 (.ld 1 false (.t 8)),ig 5 10 (.len false (.t 9)),ig 5 11 (.bin .gtr (.t 10) (ik 0)),io 12 (.pick (.t 5) (.t 11) (ib false)),im 2 12]) .ret)
theorem cf123:cFn Tryz.prog eqT 123=some (Ztv,[(.tmp 2)],13):=by kernel_rfl
def Ztm:Zar:=.seq (.reg [io 4 (.box 36 (.c za7)),io 5 (.mv (ib false))]) (.seq (.reg [im 9 1,io 10 (.call (jf 186) [.t 9]),im 8 10,io 11 (.ext (.t 8) 0),io 12 (.ext (.t 8) 1),io 6 (.box 36 (.c za7)),iz (.st 6 (.t 6) (.t 11)),im 7 12]) (.seq (.seq (.reg [im 13 7,io 14 (.bin .neq (.t 13) (ik 0)),im 15 14,ih 15 16 (.fla 0 (.t 6)),ih 15 17 (.ld 1 false (.t 16)),ih 15 18 (.call (jf 174) [.t 17]),ih 15 19 (.mv (.t 0)),ih 15 20 (.bin .neq (.t 18) (.t 19)),io 21 (.pick (.t 15) (ib true) (.t 20))]) (.cond (.t 21) (.seq (.reg [io 22 (.bld zl9 []),iz (.st 6 (.t 4) (.t 22)),io 5 (.mv (ib false))]) .ret) .skip)) (.seq (.reg [io 23 (.ld 6 true (.t 6)),iz (.st 6 (.t 4) (.t 23)),io 5 (.mv (ib true))]) .ret)))
theorem cf124:cFn Tryz.prog eqT 124=some (Ztm,[(.cell 6 true 4),(.tmp 5)],24):=by kernel_rfl
def c125_1:Zar:=.blk 0 (.loop (.seq (.reg [io 9 (.bin .lss (.t 8) (.t 7))]) (.seq (.cond (.t 9) .skip (.exit 0)) (.seq (.blk 1 (.seq (.reg [io 10 (.ixa 1 (.t 6) (.t 8)),io 11 (.ld 1 false (.t 10)),im 5 11]) (.seq (.reg [io 12 (.ld 1 false (.t 1)),im 13 5,io 14 (.lkp (.one (.int .i64)) (.sc (.int .i64 0)) false (.t 12) (.t 13)),io 15 (.bin .add (.t 14) (ik 1)),iz (.mup (.one (.int .i64)) (.t 12) (.t 13) (.t 15))]) (.seq (.reg [io 16 (.ld 1 false (.t 1)),im 17 5,io 18 (.lkp (.one (.int .i64)) (.sc (.int .i64 0)) false (.t 16) (.t 17)),io 19 (.bin .gtr (.t 18) (ik 1))]) (.cond (.t 19) (.seq (.reg [io 3 (.mv (ib false))]) .ret) .skip))))) (.reg [io 20 (.bin .add (.t 8) (ik 1)),im 8 20])))))
def c125_0:Zar:=.seq (.reg [io 3 (.mv (ib false))]) (.seq (.seq (.reg [im 6 0,io 7 (.len false (.t 6)),jm 8 0]) c125_1) (.seq (.reg [io 3 (.mv (ib true))]) .ret))
theorem cf125:cFn Tryz.prog eqT 125=some (c125_0,[(.tmp 3)],21):=by kernel_rfl
def c126_1:Zar:=.blk 0 (.loop (.seq (.seq (.reg [im 23 6,im 24 0,io 25 (.len true (.t 24)),io 26 (.bin .lss (.t 23) (.t 25))]) (.cond (.t 26) .skip (.exit 0))) (.seq (.blk 1 (.seq (.drw [ip (im 29 0),ip (im 30 6),ip (io 31 (.ixs (.t 29) (.t 30))),ip (io 32 (.cnv .i64 (.t 31))),ip (io 33 (.bin .shl (.t 32) (.c (.sc (.int .u64 8))))),ip (im 34 0),ip (im 35 6),ip (io 36 (.bin .add (.t 35) (ik 1))),ip (io 37 (.ixs (.t 34) (.t 36))),ip (io 38 (.cnv .i64 (.t 37))),ip (io 39 (.bin .or (.t 33) (.t 38))),ip (im 7 39)]) (.blk 2 (.seq (.reg [im 41 6,io 42 (.bin .eql (.t 41) (ik 0)),im 43 42,ig 43 44 (.mv (.t 7)),ig 43 45 (.bin .leq (.t 44) (ik 2047)),io 46 (.pick (.t 43) (.t 45) (ib false)),im 40 46]) (.cond (.t 40) (.reg [im 47 7,io 48 (.bin .sub (.t 47) (ik 1)),io 49 (.fla 0 (.t 5)),iz (.st 1 (.t 49) (.t 48))]) (.seq (.reg [im 51 6,io 52 (.bin .gtr (.t 51) (ik 0)),im 53 52,ig 53 54 (.mv (.t 7)),ig 53 55 (.call (jf 187) [.t 54]),io 56 (.pick (.t 53) (.t 55) (ib false)),im 50 56]) (.cond (.t 50) (.reg [io 57 (.fla 1 (.t 5)),io 58 (.ld 1 false (.t 57)),im 59 7,io 60 (.bsl 1 [.t 59]),io 61 (.app 3 1 8 (.t 58) (.t 60)),io 62 (.fla 1 (.t 5)),iz (.st 1 (.t 62) (.t 61))]) (.seq (.reg [jm 2 0,io 3 (.mv jn),jm 4 15]) .ret)))))))) (.reg [im 27 6,io 28 (.bin .add (.t 27) (ik 2)),im 6 28]))))
def Zre:Zar:=.seq (.reg [jm 2 0,io 3 (.mv jn),jm 4 0]) (.seq (.seq (.reg [im 8 0,io 9 (.len true (.t 8)),io 10 (.bin .lss (.t 9) (ik 2)),im 11 10,ih 11 12 (.mv (.t 0)),ih 11 13 (.len true (.t 12)),ih 11 14 (.bin .rem (.t 13) (ik 2)),ih 11 15 (.bin .neq (.t 14) (ik 0)),io 16 (.pick (.t 11) (ib true) (.t 15)),im 17 16,ih 17 18 (.mv (.t 0)),ih 17 19 (.len true (.t 18)),ih 17 20 (.bin .gtr (.t 19) (ik 246)),io 21 (.pick (.t 17) (ib true) (.t 20))]) (.cond (.t 21) (.seq (.reg [jm 2 0,io 3 (.mv jn),jm 4 15]) .ret) .skip)) (.seq (.reg [io 22 (.bld [.sc (.int .i64 0),.sl .full []] []),io 5 (.box 276 (.c (.agg [.sc (.int .i64 0),.sl .full []]))),iz (.st 2 (.t 5) (.t 22))]) (.seq (.seq (.reg [jm 6 0]) c126_1) (.seq (.drw [ip (io 63 (.fla 0 (.t 5))),ip (io 64 (.ld 1 false (.t 63))),ip (io 65 (.fla 1 (.t 5))),ip (io 66 (.ld 1 false (.t 65))),ip (im 2 64),ip (im 3 66),ip (jm 4 0)]) .ret))))
theorem cf126:cFn Tryz.prog eqT 126=some (Zre,[(.tmp 2),(.tmp 3),(.tmp 4)],67):=by kernel_rfl
def c127_1:Zar:=.blk 0 (.loop (.seq (.reg [io 26 (.bin .lss (.t 25) (ik 2))]) (.seq (.cond (.t 26) .skip (.exit 0)) (.seq (.blk 1 (.seq (.reg [im 27 25,im 8 27]) (.seq (.reg [im 29 0,io 30 (.nck (.t 29)),io 31 (.fla 0 (.t 30)),io 32 (.ld 1 false (.t 31)),im 33 6,im 34 8,io 35 (.bin .add (.t 33) (.t 34)),io 36 (.call (jf 89) [.t 32,.t 35]),im 28 36,io 37 (.ext (.t 28) 0),io 38 (.ext (.t 28) 1),im 9 37,im 10 38]) (.seq (.seq (.reg [im 39 10,io 40 (.bin .neq (.t 39) (ik 0))]) (.cond (.t 40) (.seq (.reg [im 41 10,io 4 (.mv (.c (.sc (.string ⟨#[]⟩)))),im 5 41]) .ret) .skip)) (.reg [im 42 7,im 43 9,io 44 (.bin .add (.t 42) (.t 43)),im 7 44]))))) (.reg [io 45 (.bin .add (.t 25) (ik 1)),im 25 45])))))
def Zsn:Zar:=.seq (.reg [io 4 (.mv (.c (.sc (.string ⟨#[]⟩)))),jm 5 0]) (.seq (.seq (.reg [im 11 1,io 12 (.bin .lss (.t 11) (ik 0)),im 13 12,ih 13 14 (.mv (.t 1)),ih 13 15 (.mv (.t 0)),ih 13 16 (.nck (.t 15)),ih 13 17 (.fla 0 (.t 16)),ih 13 18 (.ld 1 false (.t 17)),ih 13 19 (.call (jf 60) [.t 18]),ih 13 20 (.call (jf 63) [.t 19]),ih 13 21 (.bin .geq (.t 14) (.t 20)),io 22 (.pick (.t 13) (ib true) (.t 21))]) (.cond (.t 22) (.seq (.reg [io 4 (.mv (.c (.sc (.string ⟨#[]⟩)))),jm 5 15]) .ret) .skip)) (.seq (.reg [im 23 1,io 24 (.call (jf 188) [.t 23]),im 6 24]) (.seq (.reg [io 7 (.mv (.c (.sc (.string ⟨#[]⟩))))]) (.seq (.seq (.reg [jm 25 0]) c127_1) (.seq (.reg [im 46 0,io 47 (.nck (.t 46)),io 48 (.fla 11 (.t 47)),io 49 (.ld 1 false (.t 48)),io 50 (.bin .add (.t 49) (ik 1)),io 51 (.nck (.t 46)),io 52 (.fla 11 (.t 51)),iz (.st 1 (.t 52) (.t 50))]) (.seq (.reg [im 53 7,im 4 53,jm 5 0]) .ret))))))
theorem cf127:cFn Tryz.prog eqT 127=some (Zsn,[(.tmp 4),(.tmp 5)],54):=by kernel_rfl
def ZrW:Zar:=.seq (.reg [io 6 (.mv (.c (.sc (.string ⟨#[]⟩)))),jm 7 0]) (.seq (.reg [im 13 0,io 14 (.call (jf 189) [.t 13]),im 12 14,io 15 (.ext (.t 12) 0),io 16 (.ext (.t 12) 1),io 17 (.ext (.t 12) 2),io 18 (.ext (.t 12) 3),im 8 15,im 9 16,im 10 17,im 11 18]) (.seq (.seq (.reg [im 19 11,io 20 (.bin .neq (.t 19) (ik 0)),im 21 20,ih 21 22 (.mv (.t 8)),ih 21 23 (.mv (.t 1)),ih 21 24 (.bin .neq (.t 22) (.t 23)),io 25 (.pick (.t 21) (ib true) (.t 24)),im 26 25,ih 26 27 (.mv (.t 9)),ih 26 28 (.mv (.t 2)),ih 26 29 (.bin .neq (.t 27) (.t 28)),io 30 (.pick (.t 26) (ib true) (.t 29))]) (.cond (.t 30) (.seq (.reg [io 6 (.mv (.c (.sc (.string ⟨#[]⟩)))),jm 7 15]) .ret) .skip)) (.seq (.reg [im 31 10,im 6 31,jm 7 0]) .ret)))
theorem cf128:cFn Tryz.prog eqT 128=some (ZrW,[(.tmp 6),(.tmp 7)],32):=by kernel_rfl
def c129_1:Zar:=.blk 0 (.loop (.seq (.reg [io 23 (.bin .lss (.t 22) (.t 21))]) (.seq (.cond (.t 23) .skip (.exit 0)) (.seq (.blk 1 (.seq (.reg [io 24 (.ixa 1 (.t 20) (.t 22)),io 25 (.ld 1 false (.t 24)),im 9 25]) (.seq (.seq (.reg [im 26 0,im 27 9,io 28 (.call (jf 190) [.t 26,.t 27]),io 29 (.un .not (.t 28))]) (.cond (.t 29) (.seq (.reg [jm 6 9]) .ret) .skip)) (.seq (.seq (.reg [im 30 7,im 31 9,io 32 (.lkp (.one (.int .i64)) (.sc (.int .i64 0)) false (.t 30) (.t 31)),io 33 (.bin .eql (.t 32) (ik 1)),im 34 33,ih 34 35 (.mv (.t 0)),ih 34 36 (.mv (.t 9)),ih 34 37 (.call (jf 166) [.t 35,.t 36]),ih 34 38 (.mv (.t 2)),ih 34 39 (.bnb true (.t 37) (.t 38)),io 40 (.pick (.t 34) (ib true) (.t 39))]) (.cond (.t 40) (.seq (.seq (.reg [im 41 2]) (.cond (.t 41) (.seq (.reg [jm 6 10]) .ret) .skip)) (.seq (.reg [jm 6 11]) .ret)) .skip)) (.reg [im 42 7,im 43 9,iz (.mup (.one (.int .i64)) (.t 42) (.t 43) (ik 1))]))))) (.reg [io 44 (.bin .add (.t 22) (ik 1)),im 22 44])))))
def c129_0:Zar:=.seq (.reg [jm 6 0]) (.seq (.seq (.reg [im 10 0,io 11 (.eqn 0 false (.t 10) (.c (.sc (.pointer none)))),im 12 11,ih 12 13 (.mv (.t 0)),ih 12 14 (.nck (.t 13)),ih 12 15 (.fla 1 (.t 14)),ih 12 16 (.ld 1 false (.t 15)),ih 12 17 (.bin .eql (.t 16) (ik 0)),io 18 (.pick (.t 12) (ib true) (.t 17))]) (.cond (.t 18) (.seq (.reg [jm 6 1]) .ret) .skip)) (.seq (.reg [io 19 (.mkm (.one (.int .i64))),im 7 19]) (.seq (.seq (.reg [im 20 1,io 21 (.len false (.t 20)),jm 22 0]) c129_1) (.seq (.reg [jm 6 0]) .ret))))
theorem cf129:cFn Tryz.prog eqT 129=some (c129_0,[(.tmp 6)],45):=by kernel_rfl
def Zgs:Zar:=.drw [ip (im 4 0),ip (io 5 (.nck (.t 4))),ip (io 6 (.fla 0 (.t 5))),ip (io 7 (.ld 1 false (.t 6))),ip (im 8 1),ip (io 9 (.bin .quo (.t 8) (ik 64))),ip (io 10 (.ixa 1 (.t 7) (.t 9))),ip (io 11 (.ld 1 false (.t 10))),ip (im 12 1),ip (io 13 (.bin .rem (.t 12) (ik 64))),ip (io 14 (.bin .shl (.c (.sc (.int .u64 1))) (.t 13))),ip (io 15 (.bin .xor (.t 11) (.t 14))),ip (io 16 (.ixa 1 (.t 7) (.t 9))),ip (iz (.st 1 (.t 16) (.t 15)))]
theorem cf130:cFn Tryz.prog eqT 130=some (Zgs,[],17):=by kernel_rfl
def ZmU:Zar:=.seq (.reg [io 2 (.mv (ib false))]) (.seq (.reg [im 3 0,io 4 (.call (jf 123) [.t 3]),im 5 4,ig 5 6 (.mv (.t 0)),ig 5 7 (.nck (.t 6)),ig 5 8 (.fla 5 (.t 7)),ig 5 9 (.ld 1 false (.t 8)),io 10 (.pick (.t 5) (.t 9) (ib false)),im 2 10]) .ret)
theorem cf132:cFn Tryz.prog eqT 132=some (ZmU,[(.tmp 2)],11):=by kernel_rfl
def Zed:Zar:=.seq (.reg [jm 2 0]) (.seq (.seq (.reg [im 3 0,io 4 (.call (jf 138) [.t 3]),io 5 (.un .not (.t 4))]) (.cond (.t 5) (.seq (.reg [jm 2 0]) .ret) .skip)) (.seq (.drw [ip (im 6 0),ip (io 7 (.nck (.t 6))),ip (io 8 (.fla 0 (.t 7))),ip (io 9 (.ld 1 false (.t 8))),ip (io 10 (.len true (.t 9))),ip (im 11 0),ip (io 12 (.nck (.t 11))),ip (io 13 (.fla 1 (.t 12))),ip (io 14 (.ld 1 false (.t 13))),ip (io 15 (.bin .sub (.t 10) (.t 14))),ip (im 2 15)]) .ret))
theorem cf134:cFn Tryz.prog eqT 134=some (Zed,[(.tmp 2)],16):=by kernel_rfl
def c138_0:Zar:=.seq (.reg [io 2 (.mv (ib false))]) (.seq (.reg [im 3 0,io 4 (.eqn 0 true (.t 3) (.c (.sc (.pointer none)))),im 5 4,ig 5 6 (.mv (.t 0)),ig 5 7 (.nck (.t 6)),ig 5 8 (.fla 2 (.t 7)),ig 5 9 (.ld 1 false (.t 8)),io 10 (.pick (.t 5) (.t 9) (ib false)),im 2 10]) .ret)
theorem cf138:cFn Tryz.prog eqT 138=some (c138_0,[(.tmp 2)],11):=by kernel_rfl
def Zka:Zar:=.seq (.reg [io 2 (.mv (.c (.sc (.int .u64 0))))]) (.seq (.drw [ip (im 7 0),ip (io 8 (.nck (.t 7))),ip (io 9 (.fla 0 (.t 8))),ip (io 10 (.ld 1 false (.t 9))),ip (im 11 0),ip (io 12 (.nck (.t 11))),ip (io 13 (.fla 1 (.t 12))),ip (io 14 (.ld 1 false (.t 13))),ip (io 15 (.slS (.t 10) (some (.t 14)) none)),ip (io 16 (.call (jf 143) [.t 15])),ip (im 6 16),ip (io 17 (.ext (.t 6) 0)),ip (io 18 (.ext (.t 6) 1)),ip (io 19 (.ext (.t 6) 2)),ip (im 3 17),ip (im 4 18),ip (im 5 19)]) (.seq (.seq (.reg [im 20 5,io 21 (.un .not (.t 20))]) (.cond (.t 21) (.reg [im 22 0,io 23 (.call (jf 140) [.t 22,ik 3])]) .skip)) (.seq (.reg [im 24 0,io 25 (.nck (.t 24)),io 26 (.fla 1 (.t 25)),io 27 (.ld 1 false (.t 26)),im 28 4,io 29 (.bin .add (.t 27) (.t 28)),io 30 (.nck (.t 24)),io 31 (.fla 1 (.t 30)),iz (.st 1 (.t 31) (.t 29))]) (.seq (.reg [im 32 3,im 2 32]) .ret))))
theorem cf139:cFn Tryz.prog eqT 139=some (Zka,[(.tmp 2)],33):=by kernel_rfl
def c143_1:Zar:=.blk 0 (.loop (.seq (.seq (.reg [im 26 7,im 27 5,io 28 (.bin .lss (.t 26) (.t 27))]) (.cond (.t 28) .skip (.exit 0))) (.seq (.blk 1 (.reg [im 31 6,io 32 (.bin .shl (.t 31) (.c (.sc (.int .u64 8)))),im 33 0,im 34 7,io 35 (.ixs (.t 33) (.t 34)),io 36 (.cnv .u64 (.t 35)),io 37 (.bin .or (.t 32) (.t 36)),im 6 37])) (.reg [im 29 7,io 30 (.bin .add (.t 29) (ik 1)),im 7 30]))))
def c143_0:Zar:=.seq (.reg [io 2 (.mv (.c (.sc (.int .u64 0)))),jm 3 0,io 4 (.mv (ib false))]) (.seq (.seq (.reg [im 8 0,io 9 (.bin .eql (.t 8) (.c (.sc (.string ⟨#[]⟩))))]) (.cond (.t 9) (.seq (.reg [io 2 (.mv (.c (.sc (.int .u64 0)))),jm 3 0,io 4 (.mv (ib false))]) .ret) .skip)) (.seq (.reg [im 10 0,io 11 (.ixs (.t 10) (ik 0)),io 12 (.call (jf 196) [.t 11]),io 13 (.bin .add (.t 12) (ik 1)),im 5 13]) (.seq (.seq (.reg [im 14 0,io 15 (.len true (.t 14)),im 16 5,io 17 (.bin .lss (.t 15) (.t 16))]) (.cond (.t 17) (.seq (.reg [io 2 (.mv (.c (.sc (.int .u64 0)))),jm 3 0,io 4 (.mv (ib false))]) .ret) .skip)) (.seq (.drw [ip (im 18 0),ip (io 19 (.ixs (.t 18) (ik 0))),ip (im 20 5),ip (io 21 (.call (jf 197) [.t 20])),ip (io 22 (.bin .andNot (.t 19) (.t 21))),ip (io 23 (.cnv .u64 (.t 22))),ip (im 6 23)]) (.seq (.seq (.reg [im 24 5,io 25 (.bin .eql (.t 24) (ik 9))]) (.cond (.t 25) (.reg [io 6 (.mv (.c (.sc (.int .u64 0))))]) .skip)) (.seq (.seq (.reg [jm 7 1]) c143_1) (.seq (.seq (.reg [im 38 6,io 39 (.call (jf 198) [.t 38]),im 40 5,io 41 (.bin .neq (.t 39) (.t 40))]) (.cond (.t 41) (.seq (.reg [io 2 (.mv (.c (.sc (.int .u64 0)))),jm 3 0,io 4 (.mv (ib false))]) .ret) .skip)) (.seq (.reg [im 42 6,im 43 5,im 2 42,im 3 43,io 4 (.mv (ib true))]) .ret))))))))
theorem cf143:cFn Tryz.prog eqT 143=some (c143_0,[(.tmp 2),(.tmp 3),(.tmp 4)],44):=by kernel_rfl
def c152_1:Zar:=.blk 0 (.loop (.seq (.reg [io 9 (.bin .lss (.t 8) (.t 7))]) (.seq (.cond (.t 9) .skip (.exit 0)) (.seq (.blk 1 (.seq (.reg [im 10 8,im 5 10]) (.seq (.reg [im 11 1,im 12 0,im 13 5,io 14 (.ixa 1 (.t 12) (.t 13)),io 15 (.ld 1 false (.t 14)),io 16 (.bin .eql (.t 11) (.t 15))]) (.cond (.t 16) (.seq (.reg [im 17 5,im 4 17]) .ret) .skip)))) (.reg [io 18 (.bin .add (.t 8) (ik 1)),im 8 18])))))
def ZhO:Zar:=.seq (.reg [jm 4 0]) (.seq (.seq (.reg [im 6 0,io 7 (.len false (.t 6)),jm 8 0]) c152_1) (.seq (.reg [jm 4 (-1)]) .ret))
theorem cf152:cFn Tryz.prog eqT 152=some (ZhO,[(.tmp 4)],19):=by kernel_rfl
def ZuD:Zar:=.seq (.reg [jm 4 0]) (.seq (.blk 0 (.seq (.reg [im 6 0,io 7 (.call (jf 123) [.t 6]),io 8 (.un .not (.t 7)),im 5 8]) (.cond (.t 5) (.seq (.reg [jm 4 1]) .ret) (.seq (.reg [im 10 0,io 11 (.nck (.t 10)),io 12 (.fla 5 (.t 11)),io 13 (.ld 1 false (.t 12)),im 9 13]) (.cond (.t 9) (.seq (.reg [jm 4 8]) .ret) (.seq (.reg [im 15 1,io 16 (.bin .lss (.t 15) (ik 0)),im 17 16,ih 17 18 (.mv (.t 1)),ih 17 19 (.mv (.t 0)),ih 17 20 (.nck (.t 19)),ih 17 21 (.fla 0 (.t 20)),ih 17 22 (.ld 1 false (.t 21)),ih 17 23 (.len false (.t 22)),ih 17 24 (.bin .geq (.t 18) (.t 23)),io 25 (.pick (.t 17) (ib true) (.t 24)),im 14 25]) (.cond (.t 14) (.seq (.reg [jm 4 9]) .ret) .skip))))))) (.seq (.reg [jm 4 0]) .ret))
theorem cf153:cFn Tryz.prog eqT 153=some (ZuD,[(.tmp 4)],26):=by kernel_rfl
def c154_0:Zar:=.seq (.reg [io 4 (.mv (.c (.sc (.string ⟨#[]⟩)))),io 5 (.mv (ib false))]) (.seq (.seq (.reg [im 8 0,io 9 (.call (jf 175) [.t 8]),io 10 (.un .not (.t 9))]) (.cond (.t 10) (.seq (.reg [io 4 (.mv (.c (.sc (.string ⟨#[]⟩)))),io 5 (.mv (ib false))]) .ret) .skip)) (.seq (.reg [im 12 0,io 13 (.nck (.t 12)),io 14 (.fla 2 (.t 13)),io 15 (.ld 1 false (.t 14)),im 16 1,io 17 (.lkp (.one (.int .i64)) (.sc (.string ⟨#[]⟩)) true (.t 15) (.t 16)),im 11 17,io 18 (.ext (.t 11) 0),io 19 (.ext (.t 11) 1),im 6 18,im 7 19]) (.seq (.seq (.reg [im 20 7,io 21 (.un .not (.t 20))]) (.cond (.t 21) (.seq (.reg [im 22 0,io 23 (.nck (.t 22)),io 24 (.fla 4 (.t 23)),io 25 (.ld 1 false (.t 24)),io 26 (.bin .add (.t 25) (ik 1)),io 27 (.nck (.t 22)),io 28 (.fla 4 (.t 27)),iz (.st 1 (.t 28) (.t 26))]) (.seq (.reg [io 4 (.mv (.c (.sc (.string ⟨#[]⟩)))),io 5 (.mv (ib false))]) .ret)) .skip)) (.seq (.reg [im 29 0,io 30 (.nck (.t 29)),io 31 (.fla 3 (.t 30)),io 32 (.ld 1 false (.t 31)),io 33 (.bin .add (.t 32) (ik 1)),io 34 (.nck (.t 29)),io 35 (.fla 3 (.t 34)),iz (.st 1 (.t 35) (.t 33))]) (.seq (.reg [im 36 0,im 37 1,io 38 (.call (jf 205) [.t 36,.t 37])]) (.seq (.reg [im 39 6,im 4 39,io 5 (.mv (ib true))]) .ret))))))
theorem cf154:cFn Tryz.prog eqT 154=some (c154_0,[(.tmp 4),(.tmp 5)],40):=by kernel_rfl
def Zrw:Zar:=.seq (.seq (.reg [im 7 0,io 8 (.call (jf 175) [.t 7]),io 9 (.un .not (.t 8))]) (.cond (.t 9) .ret .skip)) (.seq (.reg [im 10 0,io 11 (.nck (.t 10)),io 12 (.fla 2 (.t 11)),io 13 (.ld 1 false (.t 12)),im 14 1,im 15 2,iz (.mup (.one (.int .i64)) (.t 13) (.t 14) (.t 15))]) (.seq (.reg [im 16 0,im 17 1,io 18 (.call (jf 205) [.t 16,.t 17])]) (.seq (.drw [ip (im 19 0),ip (io 20 (.nck (.t 19))),ip (io 21 (.fla 1 (.t 20))),ip (io 22 (.ld 1 false (.t 21))),ip (io 23 (.len false (.t 22))),ip (im 24 0),ip (io 25 (.nck (.t 24))),ip (io 26 (.fla 0 (.t 25))),ip (io 27 (.ld 1 false (.t 26))),ip (io 28 (.bin .gtr (.t 23) (.t 27)))]) (.cond (.t 28) (.seq (.drw [ip (im 29 0),ip (io 30 (.nck (.t 29))),ip (io 31 (.fla 1 (.t 30))),ip (io 32 (.ld 1 false (.t 31))),ip (im 33 0),ip (io 34 (.nck (.t 33))),ip (io 35 (.fla 0 (.t 34))),ip (io 36 (.ld 1 false (.t 35))),ip (io 37 (.ixa 1 (.t 32) (.t 36))),ip (io 38 (.ld 1 false (.t 37))),ip (im 6 38)]) (.seq (.drw [ip (im 39 0),ip (im 40 0),ip (io 41 (.nck (.t 40))),ip (io 42 (.fla 1 (.t 41))),ip (io 43 (.ld 1 false (.t 42))),ip (im 44 0),ip (io 45 (.nck (.t 44))),ip (io 46 (.fla 0 (.t 45))),ip (io 47 (.ld 1 false (.t 46))),ip (io 48 (.slc 1 (.t 43) none (some (.t 47)) none)),ip (io 49 (.nck (.t 39))),ip (io 50 (.fla 1 (.t 49))),ip (iz (.st 1 (.t 50) (.t 48)))]) (.reg [im 51 0,io 52 (.nck (.t 51)),io 53 (.fla 2 (.t 52)),io 54 (.ld 1 false (.t 53)),im 55 6,iz (.del (.one (.int .i64)) (.t 54) (.t 55))]))) .skip))))
theorem cf155:cFn Tryz.prog eqT 155=some (Zrw,[],56):=by kernel_rfl
def Zeo:Zar:=.seq (.reg [jm 2 0]) (.seq (.reg [im 3 0,io 4 (.bin .shr (.t 3) (.c (.sc (.int .u64 1)))),io 5 (.bin .and (.t 4) (.c (.sc (.int .u64 6148914691236517205)))),im 6 0,io 7 (.bin .and (.t 6) (.c (.sc (.int .u64 6148914691236517205)))),io 8 (.bin .add (.t 5) (.t 7)),im 0 8]) (.seq (.reg [im 9 0,io 10 (.bin .shr (.t 9) (.c (.sc (.int .u64 2)))),io 11 (.bin .and (.t 10) (.c (.sc (.int .u64 3689348814741910323)))),im 12 0,io 13 (.bin .and (.t 12) (.c (.sc (.int .u64 3689348814741910323)))),io 14 (.bin .add (.t 11) (.t 13)),im 0 14]) (.seq (.reg [im 15 0,io 16 (.bin .shr (.t 15) (.c (.sc (.int .u64 4)))),im 17 0,io 18 (.bin .add (.t 16) (.t 17)),io 19 (.bin .and (.t 18) (.c (.sc (.int .u64 1085102592571150095)))),im 0 19]) (.seq (.reg [im 20 0,im 21 0,io 22 (.bin .shr (.t 21) (.c (.sc (.int .u64 8)))),io 23 (.bin .add (.t 20) (.t 22)),im 0 23]) (.seq (.reg [im 24 0,im 25 0,io 26 (.bin .shr (.t 25) (.c (.sc (.int .u64 16)))),io 27 (.bin .add (.t 24) (.t 26)),im 0 27]) (.seq (.reg [im 28 0,im 29 0,io 30 (.bin .shr (.t 29) (.c (.sc (.int .u64 32)))),io 31 (.bin .add (.t 28) (.t 30)),im 0 31]) (.seq (.reg [im 32 0,io 33 (.cnv .i64 (.t 32)),io 34 (.bin .and (.t 33) (ik 127)),im 2 34]) .ret)))))))
theorem cf165:cFn Tryz.prog eqT 165=some (Zeo,[(.tmp 2)],35):=by kernel_rfl
def Zk7:Zar:=.seq (.reg [io 4 (.mv (ib false))]) (.seq (.reg [im 5 0,im 6 1,io 7 (.call (jf 190) [.t 5,.t 6]),im 8 7,ig 8 9 (.mv (.t 0)),ig 8 10 (.nck (.t 9)),ig 8 11 (.fla 0 (.t 10)),ig 8 12 (.ld 1 false (.t 11)),ig 8 13 (.mv (.t 1)),ig 8 14 (.bin .quo (.t 13) (ik 64)),ig 8 15 (.ixa 1 (.t 12) (.t 14)),ig 8 16 (.ld 1 false (.t 15)),ig 8 17 (.mv (.t 1)),ig 8 18 (.bin .rem (.t 17) (ik 64)),ig 8 19 (.bin .shr (.t 16) (.t 18)),ig 8 20 (.bin .and (.t 19) (.c (.sc (.int .u64 1)))),ig 8 21 (.bin .eql (.t 20) (.c (.sc (.int .u64 1)))),io 22 (.pick (.t 8) (.t 21) (ib false)),im 4 22]) .ret)
theorem cf166:cFn Tryz.prog eqT 166=some (Zk7,[(.tmp 4)],23):=by kernel_rfl
def c167_1:Zar:=.blk 0 (.loop (.seq (.seq (.reg [im 12 2,io 13 (.bin .neq (.t 12) (.c (.sc (.string ⟨#[]⟩))))]) (.cond (.t 13) .skip (.exit 0))) (.blk 1 (.seq (.reg [im 14 2,io 15 (.len true (.t 14)),io 16 (.mm false (.t 15) (ik 246)),im 9 16]) (.seq (.reg [im 18 0,im 19 1,im 20 2,im 21 9,io 22 (.slS (.t 20) none (some (.t 21))),io 23 (.call (jf 169) [.t 18,.t 19,.t 22]),im 17 23,io 24 (.ext (.t 17) 0),io 25 (.ext (.t 17) 1),im 10 24,im 11 25]) (.seq (.seq (.reg [im 26 11,io 27 (.bin .neq (.t 26) (ik 0))]) (.cond (.t 27) (.seq (.reg [im 28 11,io 6 (.mv jn),im 7 28]) .ret) .skip)) (.drw [ip (im 29 8),ip (im 30 10),ip (io 31 (.bsl 1 [.t 30])),ip (im 33 2),ip (im 34 9),ip (io 35 (.slS (.t 33) (some (.t 34)) none)),ip (im 36 1),ip (io 37 (.bin .add (.t 36) (ik 1))),ip (io 32 (.app 9 1 16 (.t 29) (.t 31))),ip (im 8 32),ip (im 2 35),ip (im 1 37)])))))))
def ZgH:Zar:=.seq (.reg [io 6 (.mv jn),jm 7 0]) (.seq (.reg [io 8 (.mv jn)]) (.seq c167_1 (.seq (.reg [im 38 8,im 6 38,jm 7 0]) .ret)))
theorem cf167:cFn Tryz.prog eqT 167=some (ZgH,[(.tmp 6),(.tmp 7)],39):=by kernel_rfl
def c168_1:Zar:=.blk 0 (.loop (.seq (.reg [io 21 (.bin .lss (.t 20) (.t 19))]) (.seq (.cond (.t 21) .skip (.exit 0)) (.seq (.blk 1 (.seq (.reg [im 22 20,im 7 22]) (.seq (.reg [jm 8 (-1)]) (.seq (.seq (.reg [im 23 7,io 24 (.bin .add (.t 23) (ik 1)),im 25 0,io 26 (.len false (.t 25)),io 27 (.bin .lss (.t 24) (.t 26))]) (.cond (.t 27) (.reg [im 28 0,im 29 7,io 30 (.bin .add (.t 29) (ik 1)),io 31 (.ixa 1 (.t 28) (.t 30)),io 32 (.ld 1 false (.t 31)),im 8 32]) .skip)) (.seq (.reg [im 33 1,io 34 (.len false (.t 33)),io 35 (.mm false (.t 34) (ik 122)),im 9 35]) (.seq (.reg [im 37 8,im 38 1,im 39 9,io 40 (.slc 1 (.t 38) none (some (.t 39)) none),io 41 (.call (jf 217) [.t 37,.t 40]),im 36 41,io 42 (.ext (.t 36) 0),io 43 (.ext (.t 36) 1),im 10 42,im 11 43]) (.seq (.seq (.reg [im 44 11,io 45 (.bin .neq (.t 44) (ik 0))]) (.cond (.t 45) (.seq (.reg [im 46 11,io 4 (.mv jn),im 5 46]) .ret) .skip)) (.drw [ip (im 47 6),ip (im 48 10),ip (io 49 (.bsl 1 [.t 48])),ip (im 51 1),ip (im 52 9),ip (io 53 (.slc 1 (.t 51) (some (.t 52)) none none)),ip (io 50 (.app 9 1 16 (.t 47) (.t 49))),ip (im 6 50),ip (im 1 53)])))))))) (.reg [io 54 (.bin .add (.t 20) (ik 1)),im 20 54])))))
def ZlK:Zar:=.seq (.reg [io 4 (.mv jn),jm 5 0]) (.seq (.seq (.reg [im 12 0,io 13 (.len false (.t 12)),im 14 1,io 15 (.len false (.t 14)),io 16 (.call (jf 104) [.t 15]),io 17 (.bin .neq (.t 13) (.t 16))]) (.cond (.t 17) (.seq (.reg [io 4 (.mv jn),jm 5 2]) .ret) .skip)) (.seq (.reg [io 6 (.mv jn)]) (.seq (.seq (.reg [im 18 0,io 19 (.len false (.t 18)),jm 20 0]) c168_1) (.seq (.reg [im 55 6,im 4 55,jm 5 0]) .ret))))
theorem cf168:cFn Tryz.prog eqT 168=some (ZlK,[(.tmp 4),(.tmp 5)],56):=by kernel_rfl
def c169_0:Zar:=.seq (.reg [io 6 (.mv (.c (.sc (.string ⟨#[]⟩)))),jm 7 0]) (.seq (.blk 0 (.seq (.reg [im 10 0,io 11 (.call (jf 218) [.t 10]),io 12 (.un .not (.t 11)),im 13 12,ih 13 14 (.mv (.t 1)),ih 13 15 (.bin .lss (.t 14) (ik 0)),io 16 (.pick (.t 13) (ib true) (.t 15)),im 17 16,ih 17 18 (.mv (.t 1)),ih 17 19 (.bin .gtr (.t 18) (ik 16777215)),io 20 (.pick (.t 17) (ib true) (.t 19)),im 9 20]) (.cond (.t 9) (.seq (.reg [io 6 (.mv (.c (.sc (.string ⟨#[]⟩)))),jm 7 2]) .ret) (.seq (.reg [im 22 2,io 23 (.len true (.t 22)),io 24 (.bin .gtr (.t 23) (ik 246)),im 21 24]) (.cond (.t 21) (.seq (.reg [io 6 (.mv (.c (.sc (.string ⟨#[]⟩)))),jm 7 5]) .ret) .skip))))) (.seq (.reg [im 25 0,im 26 1,io 27 (.bin .shr (.t 26) (.c (.sc (.int .u64 16)))),io 28 (.cnv .u8 (.t 27)),im 29 1,io 30 (.bin .shr (.t 29) (.c (.sc (.int .u64 8)))),io 31 (.cnv .u8 (.t 30)),im 32 1,io 33 (.cnv .u8 (.t 32)),im 34 2,io 35 (.len true (.t 34)),io 36 (.bin .shr (.t 35) (.c (.sc (.int .u64 8)))),io 37 (.cnv .u8 (.t 36)),im 38 2,io 39 (.len true (.t 38)),io 40 (.cnv .u8 (.t 39)),io 41 (.bsl 1 [.t 25,.t 28,.t 31,.t 33,.t 37,.t 40]),io 42 (.sob (.t 41)),im 43 2,io 44 (.bin .add (.t 42) (.t 43)),im 8 44]) (.seq (.reg [im 45 8,im 46 8,io 47 (.len true (.t 46)),io 48 (.bin .sub (ik 252) (.t 47)),io 49 (.call (jf 122) [.c (.sc (.string ⟨#[0]⟩)),.t 48]),io 50 (.bin .add (.t 45) (.t 49)),io 51 (.call (jf 219) [.t 50]),im 6 51,jm 7 0]) .ret)))
theorem cf169:cFn Tryz.prog eqT 169=some (c169_0,[(.tmp 6),(.tmp 7)],52):=by kernel_rfl
def c170_1:Zar:=.blk 0 (.loop (.seq (.reg [io 33 (.bin .lss (.t 32) (ik 5))]) (.seq (.cond (.t 33) .skip (.exit 0)) (.seq (.blk 1 (.seq (.reg [io 34 (.ixv 5 1 false (.t 31) (.t 32)),im 8 34]) (.reg [im 35 6,im 36 8,io 37 (.call (jf 114) [.t 36]),io 38 (.bin .add (.t 35) (.t 37)),im 6 38]))) (.reg [io 39 (.bin .add (.t 32) (ik 1)),im 32 39])))))
def Zln:Zar:=.seq (.reg [io 1 (.box 36 (.t 0)),io 2 (.mv (.c (.sc (.string ⟨#[]⟩)))),jm 3 0]) (.seq (.seq (.reg [io 9 (.ld 6 true (.t 1)),io 10 (.call (jf 106) [.t 9]),im 4 10]) (.seq (.reg [im 11 4,io 12 (.bin .neq (.t 11) (ik 0))]) (.cond (.t 12) (.seq (.reg [im 13 4,io 2 (.mv (.c (.sc (.string ⟨#[]⟩)))),im 3 13]) .ret) .skip))) (.seq (.reg [io 14 (.fla 0 (.t 1)),io 15 (.ld 1 false (.t 14)),io 16 (.call (jf 220) [.t 15]),im 5 16]) (.seq (.reg [io 17 (.bsl 1 [.c (.sc (.int .u8 86))]),io 18 (.sob (.t 17)),im 19 5,io 20 (.bin .add (.t 18) (.t 19)),im 6 20]) (.seq (.seq (.reg [io 21 (.fla 1 (.t 1)),io 22 (.ld 1 false (.t 21)),io 23 (.fla 2 (.t 1)),io 24 (.ld 1 false (.t 23)),io 25 (.fla 3 (.t 1)),io 26 (.ld 1 false (.t 25)),io 27 (.fla 4 (.t 1)),io 28 (.ld 1 false (.t 27)),io 29 (.fla 5 (.t 1)),io 30 (.ld 1 false (.t 29)),io 31 (.bld zl11 [(0,(1,.t 22)),(1,(1,.t 24)),(2,(1,.t 26)),(3,(1,.t 28)),(4,(1,.t 30))]),jm 32 0]) c170_1) (.seq (.reg [im 40 6,im 41 6,io 42 (.len true (.t 41)),io 43 (.bin .sub (ik 118) (.t 42)),io 44 (.call (jf 122) [.c (.sc (.string ⟨#[0]⟩)),.t 43]),io 45 (.bin .add (.t 40) (.t 44)),io 46 (.call (jf 219) [.t 45]),im 47 5,io 48 (.bin .add (.t 46) (.t 47)),im 2 48,jm 3 0]) .ret)))))
theorem cf170:cFn Tryz.prog eqT 170=some (Zln,[(.tmp 2),(.tmp 3)],49):=by kernel_rfl
def c171_2:Zar:=.blk 2 (.loop (.seq (.reg [io 22 (.bin .lss (.t 21) (ik 2))]) (.seq (.cond (.t 22) .skip (.exit 2)) (.seq (.blk 3 (.seq (.reg [im 23 21,io 24 (.ixv 2 1 false (.t 20) (.t 21)),im 9 23,im 10 24]) (.seq (.drw [ip (im 25 0),ip (io 26 (.nck (.t 25))),ip (io 27 (.fla 0 (.t 26))),ip (io 28 (.ld 1 false (.t 27))),ip (im 29 1),ip (im 30 7),ip (io 31 (.ixa 1 (.t 29) (.t 30))),ip (io 32 (.ld 1 false (.t 31))),ip (im 34 9),ip (im 36 10),(io 33 (.call (jf 188) [.t 32]),[io 28 (.ld 1 false (.t 27))]),ip (io 35 (.bin .add (.t 33) (.t 34))),ip (io 37 (.call (jf 173) [.t 28,.t 35,.t 36])),ip (im 11 37)]) (.seq (.reg [im 38 11,io 39 (.bin .neq (.t 38) (ik 0))]) (.cond (.t 39) (.seq (.reg [im 40 11,im 6 40]) .ret) .skip))))) (.reg [io 41 (.bin .add (.t 21) (ik 1)),im 21 41])))))
def c171_1:Zar:=.blk 0 (.loop (.seq (.reg [io 15 (.bin .lss (.t 14) (.t 13))]) (.seq (.cond (.t 15) .skip (.exit 0)) (.seq (.blk 1 (.seq (.reg [im 16 14,io 17 (.ixa 1 (.t 12) (.t 14)),io 18 (.ld 1 false (.t 17)),im 7 16,im 8 18]) (.seq (.reg [im 19 8,io 20 (.call (jf 221) [.t 19]),jm 21 0]) c171_2))) (.reg [io 42 (.bin .add (.t 14) (ik 1)),im 14 42])))))
def c171_0:Zar:=.seq (.reg [jm 6 0]) (.seq (.seq (.reg [im 12 2,io 13 (.len false (.t 12)),jm 14 0]) c171_1) (.seq (.reg [jm 6 0]) .ret))
theorem cf171:cFn Tryz.prog eqT 171=some (c171_0,[(.tmp 6)],43):=by kernel_rfl
def c172_1:Zar:=.blk 0 (.loop (.seq (.reg [io 23 (.bin .lss (.t 22) (.t 21))]) (.seq (.cond (.t 23) .skip (.exit 0)) (.seq (.blk 1 (.seq (.reg [io 24 (.ixa 2 (.t 20) (.t 22)),io 25 (.ld 2 true (.t 24)),io 6 (.box 239 (.c (.agg [.sc (.int .i64 0),.sc (.string ⟨#[]⟩)]))),iz (.st 2 (.t 6) (.t 25))]) (.reg [im 26 0,io 27 (.ld 2 true (.t 6)),io 28 (.call (jf 223) [.t 26,.t 27])]))) (.reg [io 29 (.bin .add (.t 22) (ik 1)),im 22 29])))))
def c172_0:Zar:=.seq (.reg [jm 2 0]) (.seq (.seq (.reg [im 7 0,io 8 (.call (jf 153) [.t 7,ik 0]),im 3 8]) (.seq (.reg [im 9 3,io 10 (.bin .neq (.t 9) (ik 0))]) (.cond (.t 10) (.seq (.reg [im 11 3,im 2 11]) .ret) .skip))) (.seq (.seq (.reg [im 12 0,io 13 (.call (jf 222) [.t 12]),im 4 13]) (.seq (.reg [im 14 4,io 15 (.bin .neq (.t 14) (ik 0))]) (.cond (.t 15) (.seq (.reg [im 16 4,im 2 16]) .ret) .skip))) (.seq (.seq (.reg [im 17 0,io 18 (.nck (.t 17)),io 19 (.fla 1 (.t 18)),io 20 (.ld 1 false (.t 19)),io 21 (.len false (.t 20)),jm 22 0]) c172_1) (.seq (.reg [im 30 0,io 31 (.nck (.t 30)),io 32 (.fla 1 (.t 31)),iz (.st 1 (.t 32) jn)]) (.seq (.reg [jm 2 0]) .ret)))))
theorem cf172:cFn Tryz.prog eqT 172=some (c172_0,[(.tmp 2)],33):=by kernel_rfl
def c173_0:Zar:=.seq (.reg [jm 6 0]) (.seq (.seq (.reg [im 9 0,im 10 1,io 11 (.call (jf 153) [.t 9,.t 10]),im 7 11]) (.seq (.reg [im 12 7,io 13 (.bin .neq (.t 12) (ik 0))]) (.cond (.t 13) (.seq (.reg [im 14 7,im 6 14]) .ret) .skip))) (.seq (.seq (.reg [im 15 2,io 16 (.len true (.t 15)),io 17 (.bin .neq (.t 16) (ik 128))]) (.cond (.t 17) (.seq (.reg [jm 6 2]) .ret) .skip)) (.seq (.seq (.reg [im 18 0,io 19 (.call (jf 222) [.t 18]),im 8 19]) (.seq (.reg [im 20 8,io 21 (.bin .neq (.t 20) (ik 0))]) (.cond (.t 21) (.seq (.reg [im 22 8,im 6 22]) .ret) .skip))) (.seq (.reg [im 23 0,im 24 0,io 25 (.nck (.t 24)),io 26 (.fla 1 (.t 25)),io 27 (.ld 1 false (.t 26)),im 28 1,im 29 2,io 30 (.bld [.sc (.int .i64 0),.sc (.string ⟨#[]⟩)] [(0,(1,.t 28)),(1,(1,.t 29))]),io 31 (.bsl 2 [.t 30]),io 32 (.app 239 2 24 (.t 27) (.t 31)),io 33 (.nck (.t 23)),io 34 (.fla 1 (.t 33)),iz (.st 1 (.t 34) (.t 32))]) (.seq (.reg [jm 6 0]) .ret)))))
theorem cf173:cFn Tryz.prog eqT 173=some (c173_0,[(.tmp 6)],35):=by kernel_rfl
def c174_0:Zar:=.seq (.reg [jm 2 0]) (.seq (.reg [im 3 0,io 4 (.bin .and (.t 3) (ik 1)),im 2 4]) .ret)
theorem cf174:cFn Tryz.prog eqT 174=some (c174_0,[(.tmp 2)],5):=by kernel_rfl
def c175_0:Zar:=.seq (.reg [io 2 (.mv (ib false))]) (.seq (.reg [im 3 0,io 4 (.eqn 0 true (.t 3) (.c (.sc (.pointer none)))),im 5 4,ig 5 6 (.mv (.t 0)),ig 5 7 (.nck (.t 6)),ig 5 8 (.fla 0 (.t 7)),ig 5 9 (.ld 1 false (.t 8)),ig 5 10 (.bin .gtr (.t 9) (ik 0)),io 11 (.pick (.t 5) (.t 10) (ib false)),im 2 11]) .ret)
theorem cf175:cFn Tryz.prog eqT 175=some (c175_0,[(.tmp 2)],12):=by kernel_rfl
def c178_1:Zar:=.blk 0 (.loop (.seq (.seq (.reg [im 10 5,io 11 (.bin .geq (.t 10) (ik 0))]) (.cond (.t 11) .skip (.exit 0))) (.seq (.blk 1 (.seq (.reg [im 14 5,im 15 0,io 16 (.cnv .u8 (.t 15)),io 17 (.ixA 9 1 (.t 4) (.t 14)),iz (.st 1 (.t 17) (.t 16))]) (.reg [im 18 0,io 19 (.bin .shr (.t 18) (.c (.sc (.int .u64 8)))),im 0 19]))) (.reg [im 12 5,io 13 (.bin .sub (.t 12) (ik 1)),im 5 13]))))
def c178_0:Zar:=.seq (.reg [io 2 (.mv (.c (.sc (.string ⟨#[]⟩))))]) (.seq (.reg [im 6 0,io 7 (.call (jf 198) [.t 6]),im 3 7]) (.seq (.reg [io 4 (.box 322 (.c za12))]) (.seq (.seq (.reg [im 8 3,io 9 (.bin .sub (.t 8) (ik 1)),im 5 9]) c178_1) (.seq (.seq (.reg [im 20 3,io 21 (.bin .lss (.t 20) (ik 9))]) (.cond (.t 21) (.drw [ip (io 22 (.ixA 9 1 (.t 4) (ik 0))),ip (io 23 (.ld 1 false (.t 22))),ip (im 24 3),(io 25 (.call (jf 197) [.t 24]),[io 23 (.ld 1 false (.t 22))]),ip (io 26 (.bin .or (.t 23) (.t 25))),ip (io 27 (.ixA 9 1 (.t 4) (ik 0))),ip (iz (.st 1 (.t 27) (.t 26)))]) (.reg [im 28 3,io 29 (.call (jf 197) [.t 28]),io 30 (.ixA 9 1 (.t 4) (ik 0)),iz (.st 1 (.t 30) (.t 29))]))) (.seq (.reg [im 31 3,io 32 (.sla 9 1 (.t 4) none (some (.t 31)) none),io 33 (.sob (.t 32)),im 2 33]) .ret)))))
theorem cf178:cFn Tryz.prog eqT 178=some (c178_0,[(.tmp 2)],34):=by kernel_rfl
def c183_0:Zar:=.seq (.reg [io 4 (.mv (.c (.sc (.int .u64 0)))),io 5 (.mv (.c (.sc (.int .u64 0))))]) (.seq (.reg [im 14 0,io 15 (.bin .and (.t 14) (.c (.sc (.int .u64 4294967295)))),im 6 15]) (.seq (.reg [im 16 0,io 17 (.bin .shr (.t 16) (.c (.sc (.int .u64 32)))),im 7 17]) (.seq (.reg [im 18 1,io 19 (.bin .and (.t 18) (.c (.sc (.int .u64 4294967295)))),im 8 19]) (.seq (.reg [im 20 1,io 21 (.bin .shr (.t 20) (.c (.sc (.int .u64 32)))),im 9 21]) (.seq (.reg [im 22 6,im 23 8,io 24 (.bin .mul (.t 22) (.t 23)),im 10 24]) (.seq (.reg [im 25 7,im 26 8,io 27 (.bin .mul (.t 25) (.t 26)),im 28 10,io 29 (.bin .shr (.t 28) (.c (.sc (.int .u64 32)))),io 30 (.bin .add (.t 27) (.t 29)),im 11 30]) (.seq (.reg [im 31 11,io 32 (.bin .and (.t 31) (.c (.sc (.int .u64 4294967295)))),im 12 32]) (.seq (.reg [im 33 11,io 34 (.bin .shr (.t 33) (.c (.sc (.int .u64 32)))),im 13 34]) (.seq (.reg [im 35 12,im 36 6,im 37 9,io 38 (.bin .mul (.t 36) (.t 37)),io 39 (.bin .add (.t 35) (.t 38)),im 12 39]) (.seq (.reg [im 40 7,im 41 9,io 42 (.bin .mul (.t 40) (.t 41)),im 43 13,io 44 (.bin .add (.t 42) (.t 43)),im 45 12,io 46 (.bin .shr (.t 45) (.c (.sc (.int .u64 32)))),io 47 (.bin .add (.t 44) (.t 46)),im 4 47]) (.seq (.reg [im 48 0,im 49 1,io 50 (.bin .mul (.t 48) (.t 49)),im 5 50]) .ret)))))))))))
theorem cf183:cFn Tryz.prog eqT 183=some (c183_0,[(.tmp 4),(.tmp 5)],51):=by kernel_rfl
def c186_0:Zar:=.seq (.reg [io 2 (.box 36 (.c za7)),jm 3 0]) (.seq (.seq (.reg [im 9 0,io 10 (.len true (.t 9)),io 11 (.bin .neq (.t 10) (ik 128))]) (.cond (.t 11) (.seq (.reg [io 12 (.bld zl9 []),iz (.st 6 (.t 2) (.t 12)),jm 3 3]) .ret) .skip)) (.seq (.reg [im 13 0,io 14 (.len true (.t 13)),io 15 (.bin .sub (.t 14) (ik 6)),im 4 15]) (.seq (.reg [im 17 0,im 18 4,io 19 (.slS (.t 17) none (some (.t 18))),io 20 (.call (jf 231) [.t 19]),im 16 20,io 21 (.ext (.t 16) 0),io 22 (.ext (.t 16) 1),im 5 21,im 6 22]) (.seq (.seq (.drw [ip (im 23 6),ip (io 24 (.un .not (.t 23))),ip (im 25 24),ip (ih 25 26 (.mv (.t 5))),ip (ih 25 27 (.ixs (.t 26) (ik 0))),ip (ih 25 28 (.bin .neq (.t 27) (.c (.sc (.int .u8 86))))),ip (io 29 (.pick (.t 25) (ib true) (.t 28))),ip (im 30 29),ip (ih 30 31 (.mv (.t 5))),ip (ih 30 32 (.slS (.t 31) (some (ik 1)) (some (ik 7)))),ip (ih 30 33 (.mv (.t 0))),ip (ih 30 34 (.mv (.t 4))),ip (ih 30 35 (.slS (.t 33) (some (.t 34)) none)),ip (ih 30 36 (.bin .neq (.t 32) (.t 35))),ip (io 37 (.pick (.t 30) (ib true) (.t 36)))]) (.cond (.t 37) (.seq (.reg [io 38 (.bld zl9 []),iz (.st 6 (.t 2) (.t 38)),jm 3 3]) .ret) .skip)) (.seq (.reg [io 7 (.box 36 (.c za7))]) (.seq (.reg [im 39 5,io 40 (.slS (.t 39) (some (ik 7)) none),io 41 (.mkf 232 [] [.t 7]),io 42 (.call (jf 74) [.t 40,.t 41]),im 8 42]) (.seq (.reg [im 43 0,im 44 4,io 45 (.slS (.t 43) (some (.t 44)) none),io 46 (.call (jf 234) [.t 45]),io 47 (.fla 0 (.t 7)),iz (.st 1 (.t 47) (.t 46))]) (.seq (.seq (.reg [im 48 8,io 49 (.bin .neq (.t 48) (ik 0)),im 50 49,ih 50 51 (.ld 6 true (.t 7)),ih 50 52 (.call (jf 106) [.t 51]),ih 50 53 (.bin .neq (.t 52) (ik 0)),io 54 (.pick (.t 50) (ib true) (.t 53))]) (.cond (.t 54) (.seq (.reg [io 55 (.bld zl9 []),iz (.st 6 (.t 2) (.t 55)),jm 3 3]) .ret) .skip)) (.seq (.reg [io 56 (.ld 6 true (.t 7)),iz (.st 6 (.t 2) (.t 56)),jm 3 0]) .ret)))))))))
theorem cf186:cFn Tryz.prog eqT 186=some (c186_0,[(.cell 6 true 2),(.tmp 3)],57):=by kernel_rfl
def c187_0:Zar:=.seq (.reg [io 2 (.mv (ib false))]) (.seq (.reg [im 3 0,io 4 (.bin .geq (.t 3) (ik 0)),im 5 4,ig 5 6 (.mv (.t 0)),ig 5 7 (.bin .lss (.t 6) (ik 2047)),io 8 (.pick (.t 5) (.t 7) (ib false)),im 2 8]) .ret)
theorem cf187:cFn Tryz.prog eqT 187=some (c187_0,[(.tmp 2)],9):=by kernel_rfl
def c188_0:Zar:=.seq (.reg [jm 2 0]) (.seq (.seq (.reg [im 3 0,io 4 (.bin .lss (.t 3) (ik 0)),im 5 4,ih 5 6 (.mv (.t 0)),ih 5 7 (.bin .gtr (.t 6) (ik 2047)),io 8 (.pick (.t 5) (ib true) (.t 7))]) (.cond (.t 8) (.seq (.reg [jm 2 0]) .ret) .skip)) (.seq (.reg [im 9 0,io 10 (.bin .mul (ik 2) (.t 9)),io 11 (.bin .add (ik 2) (.t 10)),im 2 11]) .ret))
theorem cf188:cFn Tryz.prog eqT 188=some (c188_0,[(.tmp 2)],12):=by kernel_rfl
def c189_0:Zar:=.seq (.reg [io 2 (.mv (.c (.sc (.int .u8 0)))),jm 3 0,io 4 (.mv (.c (.sc (.string ⟨#[]⟩)))),jm 5 0]) (.seq (.reg [im 10 0,io 11 (.call (jf 231) [.t 10]),im 9 11,io 12 (.ext (.t 9) 0),io 13 (.ext (.t 9) 1),im 6 12,im 7 13]) (.seq (.seq (.reg [im 14 7,io 15 (.un .not (.t 14)),im 16 15,ih 16 17 (.mv (.t 0)),ih 16 18 (.len true (.t 17)),ih 16 19 (.bin .neq (.t 18) (ik 256)),io 20 (.pick (.t 16) (ib true) (.t 19)),im 21 20,ih 21 22 (.mv (.t 6)),ih 21 23 (.ixs (.t 22) (ik 0)),ih 21 24 (.call (jf 218) [.t 23]),ih 21 25 (.un .not (.t 24)),io 26 (.pick (.t 21) (ib true) (.t 25))]) (.cond (.t 26) (.seq (.reg [io 2 (.mv (.c (.sc (.int .u8 0)))),jm 3 0,io 4 (.mv (.c (.sc (.string ⟨#[]⟩)))),jm 5 15]) .ret) .skip)) (.seq (.drw [ip (im 27 6),ip (io 28 (.ixs (.t 27) (ik 4))),ip (io 29 (.cnv .i64 (.t 28))),ip (io 30 (.bin .shl (.t 29) (.c (.sc (.int .u64 8))))),ip (im 31 6),ip (io 32 (.ixs (.t 31) (ik 5))),ip (io 33 (.cnv .i64 (.t 32))),ip (io 34 (.bin .or (.t 30) (.t 33))),ip (im 8 34)]) (.seq (.seq (.reg [im 35 8,io 36 (.bin .gtr (.t 35) (ik 246)),im 37 36,ih 37 38 (.mv (.t 6)),ih 37 39 (.mv (.t 8)),ih 37 40 (.bin .add (ik 6) (.t 39)),ih 37 41 (.slS (.t 38) (some (.t 40)) none),ih 37 42 (.call (jf 233) [.t 41,.c (.sc (.string ⟨#[0]⟩))]),ih 37 43 (.bin .neq (.t 42) (.c (.sc (.string ⟨#[]⟩)))),io 44 (.pick (.t 37) (ib true) (.t 43))]) (.cond (.t 44) (.seq (.reg [io 2 (.mv (.c (.sc (.int .u8 0)))),jm 3 0,io 4 (.mv (.c (.sc (.string ⟨#[]⟩)))),jm 5 15]) .ret) .skip)) (.seq (.drw [ip (im 45 6),ip (io 46 (.ixs (.t 45) (ik 0))),ip (im 47 6),ip (io 48 (.ixs (.t 47) (ik 1))),ip (io 49 (.cnv .i64 (.t 48))),ip (io 50 (.bin .shl (.t 49) (.c (.sc (.int .u64 16))))),ip (im 51 6),ip (io 52 (.ixs (.t 51) (ik 2))),ip (io 53 (.cnv .i64 (.t 52))),ip (io 54 (.bin .shl (.t 53) (.c (.sc (.int .u64 8))))),ip (io 55 (.bin .or (.t 50) (.t 54))),ip (im 56 6),ip (io 57 (.ixs (.t 56) (ik 3))),ip (io 58 (.cnv .i64 (.t 57))),ip (io 59 (.bin .or (.t 55) (.t 58))),ip (im 60 6),ip (im 61 8),ip (io 62 (.bin .add (ik 6) (.t 61))),ip (io 63 (.slS (.t 60) (some (ik 6)) (some (.t 62)))),ip (im 2 46),ip (im 3 59),ip (im 4 63),ip (jm 5 0)]) .ret)))))
theorem cf189:cFn Tryz.prog eqT 189=some (c189_0,[(.tmp 2),(.tmp 3),(.tmp 4),(.tmp 5)],64):=by kernel_rfl
def c190_0:Zar:=.seq (.reg [io 4 (.mv (ib false))]) (.seq (.reg [im 5 0,io 6 (.eqn 0 true (.t 5) (.c (.sc (.pointer none)))),im 7 6,ig 7 8 (.mv (.t 1)),ig 7 9 (.bin .geq (.t 8) (ik 0)),io 10 (.pick (.t 7) (.t 9) (ib false)),im 11 10,ig 11 12 (.mv (.t 1)),ig 11 13 (.mv (.t 0)),ig 11 14 (.nck (.t 13)),ig 11 15 (.fla 1 (.t 14)),ig 11 16 (.ld 1 false (.t 15)),ig 11 17 (.bin .lss (.t 12) (.t 16)),io 18 (.pick (.t 11) (.t 17) (ib false)),im 4 18]) .ret)
theorem cf190:cFn Tryz.prog eqT 190=some (c190_0,[(.tmp 4)],19):=by kernel_rfl
def c193_0:Zar:=.seq (.reg [io 4 (.mv (.c (.sc (.string ⟨#[]⟩))))]) (.seq (.seq (.reg [im 6 0,io 7 (.call (jf 138) [.t 6]),io 8 (.un .not (.t 7))]) (.cond (.t 8) (.seq (.reg [io 4 (.mv (.c (.sc (.string ⟨#[]⟩))))]) .ret) .skip)) (.seq (.seq (.drw [ip (im 9 1),ip (io 10 (.bin .lss (.t 9) (ik 0))),ip (im 11 10),ip (ih 11 12 (.mv (.t 0))),ip (ih 11 13 (.nck (.t 12))),ip (ih 11 14 (.fla 0 (.t 13))),ip (ih 11 15 (.ld 1 false (.t 14))),ip (ih 11 16 (.len true (.t 15))),ip (ih 11 17 (.mv (.t 0))),ip (ih 11 18 (.nck (.t 17))),ip (ih 11 19 (.fla 1 (.t 18))),ip (ih 11 20 (.ld 1 false (.t 19))),ip (ih 11 21 (.bin .sub (.t 16) (.t 20))),ip (ih 11 22 (.mv (.t 1))),ip (ih 11 23 (.bin .lss (.t 21) (.t 22))),ip (io 24 (.pick (.t 11) (ib true) (.t 23)))]) (.cond (.t 24) (.reg [im 25 0,io 26 (.call (jf 140) [.t 25,ik 3])]) .skip)) (.seq (.drw [ip (im 27 0),ip (io 28 (.nck (.t 27))),ip (io 29 (.fla 0 (.t 28))),ip (io 30 (.ld 1 false (.t 29))),ip (im 31 0),ip (io 32 (.nck (.t 31))),ip (io 33 (.fla 1 (.t 32))),ip (io 34 (.ld 1 false (.t 33))),ip (im 35 0),ip (io 36 (.nck (.t 35))),ip (io 37 (.fla 1 (.t 36))),ip (io 38 (.ld 1 false (.t 37))),ip (im 39 1),ip (io 40 (.bin .add (.t 38) (.t 39))),ip (io 41 (.slS (.t 30) (some (.t 34)) (some (.t 40)))),ip (im 5 41)]) (.seq (.reg [im 42 0,io 43 (.nck (.t 42)),io 44 (.fla 1 (.t 43)),io 45 (.ld 1 false (.t 44)),im 46 1,io 47 (.bin .add (.t 45) (.t 46)),io 48 (.nck (.t 42)),io 49 (.fla 1 (.t 48)),iz (.st 1 (.t 49) (.t 47))]) (.seq (.reg [im 50 5,im 4 50]) .ret)))))
theorem cf193:cFn Tryz.prog eqT 193=some (c193_0,[(.tmp 4)],51):=by kernel_rfl
def c196_1:Zar:=.blk 0 (.loop (.seq (.seq (.reg [im 4 0,io 5 (.bin .and (.t 4) (.c (.sc (.int .u8 128)))),io 6 (.bin .neq (.t 5) (.c (.sc (.int .u8 0))))]) (.cond (.t 6) .skip (.exit 0))) (.seq (.blk 1 (.reg [im 9 3,io 10 (.bin .add (.t 9) (ik 1)),im 3 10])) (.reg [im 7 0,io 8 (.bin .shl (.t 7) (.c (.sc (.int .u64 1)))),im 0 8]))))
def c196_0:Zar:=.seq (.reg [jm 2 0]) (.seq (.reg [jm 3 0]) (.seq c196_1 (.seq (.reg [im 11 3,im 2 11]) .ret)))
theorem cf196:cFn Tryz.prog eqT 196=some (c196_0,[(.tmp 2)],12):=by kernel_rfl
def c197_0:Zar:=.seq (.reg [io 2 (.mv (.c (.sc (.int .u8 0))))]) (.seq (.reg [im 3 0,io 4 (.bin .sub (ik 9) (.t 3)),io 5 (.bin .shl (.c (.sc (.int .u8 255))) (.t 4)),im 2 5]) .ret)
theorem cf197:cFn Tryz.prog eqT 197=some (c197_0,[(.tmp 2)],6):=by kernel_rfl
def c198_1:Zar:=.blk 0 (.loop (.seq (.seq (.reg [im 4 3,io 5 (.bin .lss (.t 4) (ik 9))]) (.cond (.t 5) .skip (.exit 0))) (.seq (.blk 1 (.seq (.reg [im 8 0,im 9 3,io 10 (.bin .mul (ik 7) (.t 9)),io 11 (.bin .shr (.t 8) (.t 10)),io 12 (.bin .eql (.t 11) (.c (.sc (.int .u64 0))))]) (.cond (.t 12) (.seq (.reg [im 13 3,im 2 13]) .ret) .skip))) (.reg [im 6 3,io 7 (.bin .add (.t 6) (ik 1)),im 3 7]))))
def c198_0:Zar:=.seq (.reg [jm 2 0]) (.seq (.seq (.reg [jm 3 1]) c198_1) (.seq (.reg [jm 2 9]) .ret))
theorem cf198:cFn Tryz.prog eqT 198=some (c198_0,[(.tmp 2)],14):=by kernel_rfl
def c205_0:Zar:=.seq (.seq (.reg [im 5 0,io 6 (.nck (.t 5)),io 7 (.fla 1 (.t 6)),io 8 (.ld 1 false (.t 7)),im 9 1,io 10 (.call (jf 152) [.t 8,.t 9]),im 4 10]) (.seq (.reg [im 11 4,io 12 (.bin .geq (.t 11) (ik 0))]) (.cond (.t 12) (.reg [im 13 0,im 14 0,io 15 (.nck (.t 14)),io 16 (.fla 1 (.t 15)),io 17 (.ld 1 false (.t 16)),im 18 4,im 19 4,io 20 (.bin .add (.t 19) (ik 1)),io 21 (.call (jf 241) [.t 17,.t 18,.t 20]),io 22 (.nck (.t 13)),io 23 (.fla 1 (.t 22)),iz (.st 1 (.t 23) (.t 21))]) .skip))) (.reg [im 24 0,im 25 0,io 26 (.nck (.t 25)),io 27 (.fla 1 (.t 26)),io 28 (.ld 1 false (.t 27)),im 29 1,io 30 (.bsl 1 [.t 29]),io 31 (.call (jf 242) [.t 28,ik 0,.t 30]),io 32 (.nck (.t 24)),io 33 (.fla 1 (.t 32)),iz (.st 1 (.t 33) (.t 31))])
theorem cf205:cFn Tryz.prog eqT 205=some (c205_0,[],34):=by kernel_rfl
def c217_1:Zar:=.blk 0 (.loop (.seq (.reg [io 21 (.bin .lss (.t 20) (.t 19))]) (.seq (.cond (.t 21) .skip (.exit 0)) (.seq (.blk 1 (.seq (.reg [io 22 (.ixa 1 (.t 18) (.t 20)),io 23 (.ld 1 false (.t 22)),im 8 23]) (.seq (.seq (.reg [im 24 8,io 25 (.call (jf 187) [.t 24]),io 26 (.un .not (.t 25))]) (.cond (.t 26) (.seq (.reg [io 4 (.mv (.c (.sc (.string ⟨#[]⟩)))),jm 5 2]) .ret) .skip)) (.reg [im 27 6,im 28 8,io 29 (.call (jf 253) [.t 28]),io 30 (.bin .add (.t 27) (.t 29)),im 6 30])))) (.reg [io 31 (.bin .add (.t 20) (ik 1)),im 20 31])))))
def c217_0:Zar:=.seq (.reg [io 4 (.mv (.c (.sc (.string ⟨#[]⟩)))),jm 5 0]) (.seq (.seq (.reg [im 9 1,io 10 (.len false (.t 9)),io 11 (.bin .gtr (.t 10) (ik 122))]) (.cond (.t 11) (.seq (.reg [io 4 (.mv (.c (.sc (.string ⟨#[]⟩)))),jm 5 5]) .ret) .skip)) (.seq (.seq (.reg [im 12 0,io 13 (.bin .geq (.t 12) (ik 2047))]) (.cond (.t 13) (.seq (.reg [io 4 (.mv (.c (.sc (.string ⟨#[]⟩)))),jm 5 2]) .ret) .skip)) (.seq (.reg [im 14 0,io 15 (.mm true (.t 14) (ik (-1))),io 16 (.bin .add (.t 15) (ik 1)),io 17 (.call (jf 253) [.t 16]),im 6 17]) (.seq (.seq (.reg [im 18 1,io 19 (.len false (.t 18)),jm 20 0]) c217_1) (.seq (.reg [im 32 6,im 4 32,jm 5 0]) .ret)))))
theorem cf217:cFn Tryz.prog eqT 217=some (c217_0,[(.tmp 4),(.tmp 5)],33):=by kernel_rfl
def c218_0:Zar:=.seq (.reg [io 2 (.mv (ib false))]) (.seq (.seq (.reg [im 3 0]) (.blk 0 (.seq (.seq (.reg [io 5 (.bin .eql (.t 3) (.c (.sc (.int .u8 67)))),im 4 5]) (.cond (.t 4) .skip (.seq (.reg [io 6 (.bin .eql (.t 3) (.c (.sc (.int .u8 78)))),im 4 6]) (.cond (.t 4) .skip (.reg [io 7 (.bin .eql (.t 3) (.c (.sc (.int .u8 77)))),im 4 7]))))) (.cond (.t 4) (.seq (.reg [io 2 (.mv (ib true))]) .ret) .skip)))) (.seq (.reg [io 2 (.mv (ib false))]) .ret))
theorem cf218:cFn Tryz.prog eqT 218=some (c218_0,[(.tmp 2)],8):=by kernel_rfl
def c219_0:Zar:=.seq (.reg [io 2 (.mv (.c (.sc (.string ⟨#[]⟩))))]) (.seq (.reg [im 3 0,im 4 0,io 5 (.bsl 1 [.t 4]),io 6 (.call (jf 255) [.t 5]),io 7 (.call (jf 254) [.t 6]),io 8 (.bin .add (.t 3) (.t 7)),im 2 8]) .ret)
theorem cf219:cFn Tryz.prog eqT 219=some (c219_0,[(.tmp 2)],9):=by kernel_rfl
def c220_1:Zar:=.blk 0 (.loop (.seq (.reg [io 6 (.bin .lss (.t 5) (ik 6))]) (.seq (.cond (.t 6) .skip (.exit 0)) (.seq (.blk 1 (.seq (.reg [im 7 5,im 4 7]) (.seq (.reg [im 8 4,io 9 (.bin .sub (ik 5) (.t 8)),im 10 0,io 11 (.cnv .u8 (.t 10)),io 12 (.ixA 6 1 (.t 3) (.t 9)),iz (.st 1 (.t 12) (.t 11))]) (.reg [im 13 0,io 14 (.bin .shr (.t 13) (.c (.sc (.int .u64 8)))),im 0 14])))) (.reg [io 15 (.bin .add (.t 5) (ik 1)),im 5 15])))))
def c220_0:Zar:=.seq (.reg [io 2 (.mv (.c (.sc (.string ⟨#[]⟩))))]) (.seq (.reg [io 3 (.box 358 (.c za13))]) (.seq (.seq (.reg [jm 5 0]) c220_1) (.seq (.reg [io 16 (.sla 6 1 (.t 3) none none none),io 17 (.sob (.t 16)),im 2 17]) .ret)))
theorem cf220:cFn Tryz.prog eqT 220=some (c220_0,[(.tmp 2)],18):=by kernel_rfl
def c221_0:Zar:=.seq (.reg [io 2 (.box 317 (.c (.agg [.sc (.string ⟨#[]⟩),.sc (.string ⟨#[]⟩)])))]) (.seq (.seq (.reg [im 3 0,io 4 (.len true (.t 3)),io 5 (.bin .neq (.t 4) (ik 256))]) (.cond (.t 5) (.seq (.reg [io 6 (.bld [.sc (.string ⟨#[]⟩),.sc (.string ⟨#[]⟩)] []),iz (.st 2 (.t 2) (.t 6))]) .ret) .skip)) (.seq (.drw [ip (im 7 0),ip (io 8 (.slS (.t 7) none (some (ik 128)))),ip (im 9 0),ip (io 10 (.slS (.t 9) (some (ik 128)) none)),ip (io 11 (.bld [.sc (.string ⟨#[]⟩),.sc (.string ⟨#[]⟩)] [(0,(1,.t 8)),(1,(1,.t 10))])),ip (iz (.st 2 (.t 2) (.t 11)))]) .ret))
theorem cf221:cFn Tryz.prog eqT 221=some (c221_0,[(.cell 2 true 2)],12):=by kernel_rfl
def c222_0:Zar:=.seq (.reg [jm 2 0]) (.seq (.seq (.reg [im 3 0,io 4 (.nck (.t 3)),io 5 (.fla 2 (.t 4)),io 6 (.ld 1 false (.t 5)),io 7 (.bin .eql (.t 6) (ik 1))]) (.cond (.t 7) (.seq (.reg [im 8 0,im 9 0,io 10 (.nck (.t 8)),io 11 (.fla 5 (.t 10)),iz (.st 1 (.t 11) (ib true)),io 12 (.nck (.t 9)),io 13 (.fla 2 (.t 12)),iz (.st 1 (.t 13) (ik 0))]) (.seq (.reg [jm 2 8]) .ret)) .skip)) (.seq (.reg [im 14 0,im 15 0,io 16 (.nck (.t 15)),io 17 (.fla 2 (.t 16)),io 18 (.ld 1 false (.t 17)),io 19 (.bin .sub (.t 18) (ik 1)),io 20 (.mm true (.t 19) (ik 0)),io 21 (.nck (.t 14)),io 22 (.fla 2 (.t 21)),iz (.st 1 (.t 22) (.t 20))]) (.seq (.reg [im 23 0,io 24 (.nck (.t 23)),io 25 (.fla 4 (.t 24)),io 26 (.ld 1 false (.t 25)),io 27 (.bin .add (.t 26) (ik 1)),io 28 (.nck (.t 23)),io 29 (.fla 4 (.t 28)),iz (.st 1 (.t 29) (.t 27))]) (.seq (.reg [jm 2 0]) .ret))))
theorem cf222:cFn Tryz.prog eqT 222=some (c222_0,[(.tmp 2)],30):=by kernel_rfl
def c223_0:Zar:=.seq (.reg [io 3 (.box 239 (.t 1))]) (.drw [ip (im 4 0),ip (io 5 (.nck (.t 4))),ip (io 6 (.fla 0 (.t 5))),ip (io 7 (.ld 1 false (.t 6))),ip (io 8 (.fla 0 (.t 3))),ip (io 9 (.ld 1 false (.t 8))),ip (io 10 (.fla 1 (.t 3))),ip (io 11 (.ld 1 false (.t 10))),ip (io 12 (.ixa 1 (.t 7) (.t 9))),ip (iz (.st 1 (.t 12) (.t 11)))])
theorem cf223:cFn Tryz.prog eqT 223=some (c223_0,[],13):=by kernel_rfl
def c231_0:Zar:=.seq (.reg [io 2 (.mv (.c (.sc (.string ⟨#[]⟩)))),io 3 (.mv (ib false))]) (.seq (.reg [im 5 0,io 6 (.len true (.t 5)),io 7 (.bin .sub (.t 6) (ik 4)),im 4 7]) (.seq (.seq (.drw [ip (im 8 4),ip (io 9 (.bin .lss (.t 8) (ik 0))),ip (im 10 9),ip (ih 10 11 (.mv (.t 0))),ip (ih 10 12 (.mv (.t 4))),ip (ih 10 13 (.slS (.t 11) none (some (.t 12)))),ip (ih 10 14 (.bsl 1 [.t 13])),ip (ih 10 17 (.mv (.t 0))),ip (ih 10 18 (.mv (.t 4))),ip (ih 10 19 (.slS (.t 17) (some (.t 18)) none)),ip (ih 10 15 (.call (jf 255) [.t 14])),ip (ih 10 16 (.call (jf 254) [.t 15])),ip (ih 10 20 (.bin .neq (.t 16) (.t 19))),ip (io 21 (.pick (.t 10) (ib true) (.t 20)))]) (.cond (.t 21) (.seq (.reg [io 2 (.mv (.c (.sc (.string ⟨#[]⟩)))),io 3 (.mv (ib false))]) .ret) .skip)) (.seq (.reg [im 22 0,im 23 4,io 24 (.slS (.t 22) none (some (.t 23))),im 2 24,io 3 (.mv (ib true))]) .ret)))
theorem cf231:cFn Tryz.prog eqT 231=some (c231_0,[(.tmp 2),(.tmp 3)],25):=by kernel_rfl
def c232_0:Zar:=.seq (.reg [im 4 0,io 5 (.mkf 77 [.t 4] []),im 3 5]) (.seq (.reg [im 6 3,io 7 (.call (.t 6) [ik 2047]),im 8 3,io 9 (.call (.t 8) [ik 2047]),im 10 3,io 11 (.call (.t 10) [ik 1048576]),im 12 3,io 13 (.call (.t 12) [ik 1048576]),im 14 3,io 15 (.call (.t 14) [ik 1048576]),io 16 (.bld zl9 [(1,(1,.t 7)),(2,(1,.t 9)),(3,(1,.t 11)),(4,(1,.t 13)),(5,(1,.t 15))]),iz (.st 6 (.t 1) (.t 16))]) (.reg [im 17 0,im 18 0,im 19 0,io 20 (.call (jf 134) [.t 19]),io 21 (.call (jf 193) [.t 18,.t 20]),io 22 (.call (jf 233) [.t 21,.c (.sc (.string ⟨#[0]⟩))]),io 23 (.bin .eql (.t 22) (.c (.sc (.string ⟨#[]⟩)))),io 24 (.call (jf 80) [.t 17,.t 23,ik 3])]))
theorem cf232:cFn Tryz.prog eqT 232=some (c232_0,[],25):=by kernel_rfl
def c233_0:Zar:=.seq (.reg [io 4 (.mv (.c (.sc (.string ⟨#[]⟩))))]) (.seq (.seq (.reg [im 7 0,io 8 (.bin .eql (.t 7) (.c (.sc (.string ⟨#[]⟩)))),im 9 8,ih 9 10 (.mv (.t 1)),ih 9 11 (.bin .eql (.t 10) (.c (.sc (.string ⟨#[]⟩)))),io 12 (.pick (.t 9) (ib true) (.t 11))]) (.cond (.t 12) (.seq (.reg [im 13 0,im 4 13]) .ret) .skip)) (.seq (.seq (.reg [im 14 1,io 15 (.len true (.t 14)),io 16 (.bin .eql (.t 15) (ik 1)),im 17 16,ig 17 18 (.mv (.t 1)),ig 17 19 (.ixs (.t 18) (ik 0)),ig 17 20 (.bin .lss (.t 19) (.c (.sc (.int .u8 128)))),io 21 (.pick (.t 17) (.t 20) (ib false))]) (.cond (.t 21) (.seq (.drw [ip (im 22 0),ip (im 23 1),ip (io 24 (.ixs (.t 23) (ik 0))),ip (im 26 1),ip (io 27 (.ixs (.t 26) (ik 0))),ip (io 25 (.call (jf 259) [.t 22,.t 24])),ip (io 28 (.call (jf 258) [.t 25,.t 27])),ip (im 4 28)]) .ret) .skip)) (.seq (.seq (.reg [im 30 1,io 31 (.call (jf 260) [.t 30]),im 29 31,io 32 (.ext (.t 29) 0),io 33 (.ext (.t 29) 1),io 5 (.box 364 (.c za14)),iz (.st 256 (.t 5) (.t 32)),im 6 33]) (.seq (.reg [im 34 6]) (.cond (.t 34) (.seq (.reg [im 35 0,io 36 (.call (jf 262) [.t 35,.t 5]),io 37 (.call (jf 261) [.t 36,.t 5]),im 4 37]) .ret) .skip))) (.seq (.reg [im 38 0,im 39 1,io 40 (.call (jf 264) [.t 38,.t 39]),im 41 1,io 42 (.call (jf 263) [.t 40,.t 41]),im 4 42]) .ret))))
theorem cf233:cFn Tryz.prog eqT 233=some (c233_0,[(.tmp 4)],43):=by kernel_rfl
def c234_1:Zar:=.blk 0 (.loop (.seq (.reg [io 8 (.bin .lss (.t 7) (.t 6))]) (.seq (.cond (.t 8) .skip (.exit 0)) (.seq (.blk 1 (.seq (.reg [im 9 7,im 4 9]) (.reg [im 10 3,io 11 (.bin .shl (.t 10) (.c (.sc (.int .u64 8)))),im 12 0,im 13 4,io 14 (.ixs (.t 12) (.t 13)),io 15 (.cnv .i64 (.t 14)),io 16 (.bin .or (.t 11) (.t 15)),im 3 16]))) (.reg [io 17 (.bin .add (.t 7) (ik 1)),im 7 17])))))
def c234_0:Zar:=.seq (.reg [jm 2 0]) (.seq (.reg [jm 3 0]) (.seq (.seq (.reg [im 5 0,io 6 (.len true (.t 5)),jm 7 0]) c234_1) (.seq (.reg [im 18 3,im 2 18]) .ret)))
theorem cf234:cFn Tryz.prog eqT 234=some (c234_0,[(.tmp 2)],19):=by kernel_rfl
def c242_0:Zar:=.seq (.reg [io 6 (.mv jn)]) (.seq (.reg [im 10 0,im 11 1,io 12 (.slc 1 (.t 10) (some (.t 11)) none none)]) (.seq (.reg [im 13 2,io 14 (.len false (.t 13)),im 7 14]) (.seq (.seq (.reg [im 15 7,io 16 (.bin .eql (.t 15) (ik 0))]) (.cond (.t 16) (.seq (.reg [im 17 0,im 6 17]) .ret) .skip)) (.seq (.reg [im 18 0,io 19 (.len false (.t 18)),im 8 19]) (.seq (.seq (.reg [im 20 1,im 21 8,io 22 (.bin .eql (.t 20) (.t 21))]) (.cond (.t 22) (.seq (.reg [im 23 0,im 24 2,io 25 (.app 3 1 8 (.t 23) (.t 24)),im 6 25]) .ret) .skip)) (.seq (.seq (.reg [im 26 8,im 27 7,io 28 (.bin .add (.t 26) (.t 27)),im 29 0,io 30 (.cap (.t 29)),io 31 (.bin .gtr (.t 28) (.t 30))]) (.cond (.t 31) (.seq (.reg [im 32 0,im 33 1,io 34 (.slc 1 (.t 32) none (some (.t 33)) none),im 35 8,im 36 7,io 37 (.bin .add (.t 35) (.t 36)),im 38 1,io 39 (.bin .sub (.t 37) (.t 38)),io 40 .bad,im 9 40]) (.seq (.reg [im 41 9,im 42 1,io 43 (.slc 1 (.t 41) (some (.t 42)) none none),im 44 2,io 45 (.cpy 1 (.t 43) (.t 44))]) (.seq (.drw [ip (im 46 9),ip (im 47 1),ip (im 48 7),ip (io 49 (.bin .add (.t 47) (.t 48))),ip (io 50 (.slc 1 (.t 46) (some (.t 49)) none none)),ip (im 51 0),ip (im 52 1),ip (io 53 (.slc 1 (.t 51) (some (.t 52)) none none)),ip (io 54 (.cpy 1 (.t 50) (.t 53)))]) (.seq (.reg [im 55 9,im 6 55]) .ret)))) .skip)) (.seq (.reg [im 56 0,im 57 8,im 58 7,io 59 (.bin .add (.t 57) (.t 58)),io 60 (.slc 1 (.t 56) none (some (.t 59)) none),im 0 60]) (.seq (.seq (.reg [im 61 2,im 62 0,im 63 1,im 64 7,io 65 (.bin .add (.t 63) (.t 64)),io 66 (.slc 1 (.t 62) (some (.t 65)) none none),io 67 (.call (jf 269) [.t 61,.t 66]),io 68 (.un .not (.t 67))]) (.cond (.t 68) (.seq (.drw [ip (im 69 0),ip (im 70 1),ip (im 71 7),ip (io 72 (.bin .add (.t 70) (.t 71))),ip (io 73 (.slc 1 (.t 69) (some (.t 72)) none none)),ip (im 74 0),ip (im 75 1),ip (io 76 (.slc 1 (.t 74) (some (.t 75)) none none)),ip (io 77 (.cpy 1 (.t 73) (.t 76)))]) (.seq (.reg [im 78 0,im 79 1,io 80 (.slc 1 (.t 78) (some (.t 79)) none none),im 81 2,io 82 (.cpy 1 (.t 80) (.t 81))]) (.seq (.reg [im 83 0,im 6 83]) .ret))) .skip)) (.seq (.reg [im 84 0,im 85 8,io 86 (.slc 1 (.t 84) (some (.t 85)) none none),im 87 2,io 88 (.cpy 1 (.t 86) (.t 87))]) (.seq (.reg [im 89 0,im 90 1,io 91 (.slc 1 (.t 89) (some (.t 90)) none none),im 92 7,io 93 (.call (jf 270) [.t 91,.t 92])]) (.seq (.reg [im 94 0,im 6 94]) .ret)))))))))))
theorem cf242:cFn Tryz.prog eqT 242=some (c242_0,[(.tmp 6)],95):=by kernel_rfl
def c253_0:Zar:=.seq (.reg [io 2 (.mv (.c (.sc (.string ⟨#[]⟩))))]) (.seq (.reg [im 3 0,io 4 (.bin .shr (.t 3) (.c (.sc (.int .u64 8)))),io 5 (.cnv .u8 (.t 4)),im 6 0,io 7 (.cnv .u8 (.t 6)),io 8 (.bsl 1 [.t 5,.t 7]),io 9 (.sob (.t 8)),im 2 9]) .ret)
theorem cf253:cFn Tryz.prog eqT 253=some (c253_0,[(.tmp 2)],10):=by kernel_rfl
def c254_0:Zar:=.seq (.reg [io 2 (.mv (.c (.sc (.string ⟨#[]⟩))))]) (.seq (.reg [im 3 0,io 4 (.cnv .u8 (.t 3)),im 5 0,io 6 (.bin .shr (.t 5) (.c (.sc (.int .u64 8)))),io 7 (.cnv .u8 (.t 6)),im 8 0,io 9 (.bin .shr (.t 8) (.c (.sc (.int .u64 16)))),io 10 (.cnv .u8 (.t 9)),im 11 0,io 12 (.bin .shr (.t 11) (.c (.sc (.int .u64 24)))),io 13 (.cnv .u8 (.t 12)),io 14 (.bsl 1 [.t 4,.t 7,.t 10,.t 13]),io 15 (.sob (.t 14)),im 2 15]) .ret)
theorem cf254:cFn Tryz.prog eqT 254=some (c254_0,[(.tmp 2)],16):=by kernel_rfl
def c255_1:Zar:=.blk 0 (.loop (.seq (.reg [io 9 (.bin .lss (.t 8) (.t 7))]) (.seq (.cond (.t 9) .skip (.exit 0)) (.seq (.blk 1 (.seq (.reg [io 10 (.ixa 1 (.t 6) (.t 8)),io 11 (.ld 1 false (.t 10)),im 5 11]) (.reg [im 12 3,im 13 5,io 14 (.call (jf 281) [.t 12,.t 13]),im 3 14]))) (.reg [io 15 (.bin .add (.t 8) (ik 1)),im 8 15])))))
def c255_0:Zar:=.seq (.reg [io 2 (.mv (.c (.sc (.int .u32 0))))]) (.seq (.reg [io 3 (.mv (.c (.sc (.int .u32 0))))]) (.seq (.seq (.reg [im 6 0,io 7 (.len false (.t 6)),jm 8 0]) c255_1) (.seq (.reg [im 16 3,im 2 16]) .ret)))
theorem cf255:cFn Tryz.prog eqT 255=some (c255_0,[(.tmp 2)],17):=by kernel_rfl
def c258_1:Zar:=.blk 0 (.loop (.seq (.seq (.reg [im 5 0,io 6 (.len true (.t 5)),io 7 (.bin .gtr (.t 6) (ik 0)),im 8 7,ig 8 9 (.mv (.t 0)),ig 8 10 (.ixs (.t 9) (ik 0)),ig 8 11 (.mv (.t 1)),ig 8 12 (.bin .eql (.t 10) (.t 11)),io 13 (.pick (.t 8) (.t 12) (ib false))]) (.cond (.t 13) .skip (.exit 0))) (.blk 1 (.reg [im 14 0,io 15 (.slS (.t 14) (some (ik 1)) none),im 0 15]))))
def c258_0:Zar:=.seq (.reg [io 4 (.mv (.c (.sc (.string ⟨#[]⟩))))]) (.seq c258_1 (.seq (.reg [im 16 0,im 4 16]) .ret))
theorem cf258:cFn Tryz.prog eqT 258=some (c258_0,[(.tmp 4)],17):=by kernel_rfl
def c259_1:Zar:=.blk 0 (.loop (.seq (.seq (.reg [im 5 0,io 6 (.len true (.t 5)),io 7 (.bin .gtr (.t 6) (ik 0)),im 8 7,ig 8 9 (.mv (.t 0)),ig 8 10 (.mv (.t 0)),ig 8 11 (.len true (.t 10)),ig 8 12 (.bin .sub (.t 11) (ik 1)),ig 8 13 (.ixs (.t 9) (.t 12)),ig 8 14 (.mv (.t 1)),ig 8 15 (.bin .eql (.t 13) (.t 14)),io 16 (.pick (.t 8) (.t 15) (ib false))]) (.cond (.t 16) .skip (.exit 0))) (.blk 1 (.reg [im 17 0,im 18 0,io 19 (.len true (.t 18)),io 20 (.bin .sub (.t 19) (ik 1)),io 21 (.slS (.t 17) none (some (.t 20))),im 0 21]))))
def c259_0:Zar:=.seq (.reg [io 4 (.mv (.c (.sc (.string ⟨#[]⟩))))]) (.seq c259_1 (.seq (.reg [im 22 0,im 4 22]) .ret))
theorem cf259:cFn Tryz.prog eqT 259=some (c259_0,[(.tmp 4)],23):=by kernel_rfl
def c281_1:Zar:=.blk 0 (.loop (.seq (.reg [io 14 (.bin .lss (.t 13) (.t 12))]) (.seq (.cond (.t 14) .skip (.exit 0)) (.seq (.blk 1 (.seq (.reg [im 15 13,im 7 15]) (.seq (.reg [im 16 6,im 17 1,im 18 7,io 19 (.ixs (.t 17) (.t 18)),io 20 (.cnv .u32 (.t 19)),io 21 (.bin .xor (.t 16) (.t 20)),im 6 21]) (.seq (.reg [im 22 6,io 23 (.bin .shr (.t 22) (.c (.sc (.int .u64 4)))),im 24 6,io 25 (.bin .and (.t 24) (.c (.sc (.int .u32 15)))),io 26 (.ixA 16 1 (.t 5) (.t 25)),io 27 (.ld 1 false (.t 26)),io 28 (.bin .xor (.t 23) (.t 27)),im 6 28]) (.reg [im 29 6,io 30 (.bin .shr (.t 29) (.c (.sc (.int .u64 4)))),im 31 6,io 32 (.bin .and (.t 31) (.c (.sc (.int .u32 15)))),io 33 (.ixA 16 1 (.t 5) (.t 32)),io 34 (.ld 1 false (.t 33)),io 35 (.bin .xor (.t 30) (.t 34)),im 6 35]))))) (.reg [io 36 (.bin .add (.t 13) (ik 1)),im 13 36])))))
def c281_0:Zar:=.seq (.reg [io 4 (.mv (.c (.sc (.int .u32 0))))]) (.seq (.reg [io 8 (.call (jf 292) []),io 5 (.box 391 (.c za15)),iz (.st 16 (.t 5) (.t 8))]) (.seq (.reg [im 9 0,io 10 (.un .xor (.t 9)),im 6 10]) (.seq (.seq (.reg [im 11 1,io 12 (.len true (.t 11)),jm 13 0]) c281_1) (.seq (.reg [im 37 6,io 38 (.un .xor (.t 37)),im 4 38]) .ret))))
theorem cf281:cFn Tryz.prog eqT 281=some (c281_0,[(.tmp 4)],39):=by kernel_rfl
def c292_1:Zar:=.blk 0 (.loop (.seq (.reg [io 4 (.bin .lss (.t 3) (ik 16))]) (.seq (.cond (.t 4) .skip (.exit 0)) (.seq (.blk 1 (.seq (.reg [im 5 3,im 2 5]) (.reg [im 6 2,im 7 2,io 8 (.cnv .u32 (.t 7)),io 9 (.call (jf 309) [.t 8]),io 10 (.ixA 16 1 (.t 1) (.t 6)),iz (.st 1 (.t 10) (.t 9))]))) (.reg [io 11 (.bin .add (.t 3) (ik 1)),im 3 11])))))
def c292_0:Zar:=.seq (.reg [io 0 (.box 391 (.c za15))]) (.seq (.reg [io 1 (.box 391 (.c za15))]) (.seq (.seq (.reg [jm 3 0]) c292_1) (.seq (.reg [io 12 (.ld 16 true (.t 1)),iz (.st 16 (.t 0) (.t 12))]) .ret)))
theorem cf292:cFn Tryz.prog eqT 292=some (c292_0,[(.cell 16 true 0)],13):=by kernel_rfl
def c309_1:Zar:=.blk 0 (.loop (.seq (.reg [io 5 (.bin .lss (.t 4) (ik 4))]) (.seq (.cond (.t 5) .skip (.exit 0)) (.seq (.blk 1 (.seq (.reg [im 6 0,io 7 (.bin .and (.t 6) (.c (.sc (.int .u32 1)))),im 3 7]) (.seq (.reg [im 8 0,io 9 (.bin .shr (.t 8) (.c (.sc (.int .u64 1)))),im 0 9]) (.seq (.reg [im 10 3,io 11 (.bin .eql (.t 10) (.c (.sc (.int .u32 1))))]) (.cond (.t 11) (.reg [im 12 0,io 13 (.bin .xor (.t 12) (.c (.sc (.int .u32 2197175160)))),im 0 13]) .skip))))) (.reg [io 14 (.bin .add (.t 4) (ik 1)),im 4 14])))))
def c309_0:Zar:=.seq (.reg [io 2 (.mv (.c (.sc (.int .u32 0))))]) (.seq (.seq (.reg [jm 4 0]) c309_1) (.seq (.reg [im 15 0,im 2 15]) .ret))
theorem cf309:cFn Tryz.prog eqT 309=some (c309_0,[(.tmp 2)],16):=by kernel_rfl
def Zwl {α:Type}:List (FuncId×α)→FuncId→Option α
 | [],_=>none
 | (k,x) :: l,f=>bif Nat.beq f k then some x else Zwl l f
def TabAll {α:Type} (Pr:FuncId→α→Prop):List (FuncId×α)→Prop
 | []=>True
 | (k,x) :: l=>Pr k x∧TabAll Pr l
theorem Zwh {α:Type} {Pr:FuncId→α→Prop}:∀{l:List (FuncId×α)} {f:FuncId} {x:α},TabAll Pr l→Zwl l f=some x→Pr f x
 | [],f,x,_,h=>by simp[Zwl]at h
 | (k,y) :: l,f,x,ha,h=>by
  simp only[Zwl,ZwR]at h
  by_cases e:f=k
  ·subst e
   simp only[decide_true,cond_true,Option.some.injEq]at h
   subst h
   exact ha.1
  ·simp only[e,decide_false,cond_false]at h
   exact Zwh ha.2 h
def LK:List (FuncId×Zar×List Zcq×Nat):=[(4,c4_0,[(.tmp 2)],49),(7,c7_0,[(.cell 9 true 2),(.tmp 3)],25),(10,ZkB,[(.tmp 2),(.tmp 3)],45),(11,ZlE,[(.tmp 2),(.tmp 3)],31),(12,Zca,[(.tmp 2)],71),(13,ZcW,[(.tmp 2)],53),(14,Zew,[(.tmp 0)],56),(20,Zf9,[(.tmp 2),(.tmp 3)],13),(21,Zeb,[(.tmp 2),(.tmp 3)],92),(26,c26_0,[(.tmp 2),(.tmp 3)],24),(27,Zdp,[(.tmp 2)],10),(28,Zl6,[(.cell 9 true 2),(.tmp 3)],14),(32,Znk,[(.cell 6 true 2)],11),(33,c33_0,[(.tmp 4)],9),(35,Zvl,[(.tmp 4),(.tmp 5)],33),(36,ZnS,[(.tmp 2),(.tmp 3)],40),(37,ZtL,[(.tmp 2)],12),(50,ZeB,[(.tmp 4)],15),(51,Zgb,[(.tmp 8)],158),(57,ZkX,[(.tmp 2)],9),(58,ZtC,[(.tmp 4)],48),(59,Zqj,[(.tmp 0)],2),(60,ZvP,[(.tmp 2)],11),(61,ZiF,[(.tmp 2),(.tmp 3),(.tmp 4)],23),(62,c62_0,[(.tmp 2),(.tmp 3)],17),(63,Zi8,[(.tmp 2)],12),(64,ZoS,[(.tmp 2),(.tmp 3)],14),(65,Zk1,[(.cell 6 true 4),(.tmp 5)],34),(66,ZlH,[(.tmp 6),(.tmp 7),(.tmp 8)],88),(67,Zks,[(.tmp 6),(.tmp 7)],24),(68,ZiL,[(.tmp 4)],27),(69,c69_0,[(.tmp 2)],36),(72,ZhM,[(.tmp 2)],23),(73,c73_0,[(.tmp 10),(.tmp 11)],81),(75,c75_0,[],34),(76,Zuo,[(.cell 2 true 2)],37),(77,ZdC,[(.tmp 4)],23),(80,ZuL,[],17),(88,ZdA,[(.tmp 2)],26),(89,c89_0,[(.tmp 4),(.tmp 5)],56),(90,Ze1,[(.tmp 6),(.tmp 7)],34),(91,c91_0,[(.tmp 4),(.tmp 5)],45),(92,ZfU,[(.tmp 2)],13),(93,c93_0,[(.tmp 2)],30),(94,ZdX,[(.tmp 2)],12),(103,Zuf,[(.tmp 2)],9),(104,Zt4,[(.tmp 2)],9),(105,ZtP,[(.tmp 2)],27),(106,Zic,[(.tmp 2)],68),(107,Zcf,[(.tmp 4),(.tmp 5)],41),(108,Zeq,[(.tmp 8),(.tmp 9),(.tmp 10)],68),(109,ZfJ,[(.tmp 12)],66),(110,Zpi,[(.tmp 4)],27),(111,Zfr,[],11),(114,ZpQ,[(.tmp 2)],7),(121,Zcv,[(.tmp 4),(.tmp 5)],30),(123,Ztv,[(.tmp 2)],13),(124,Ztm,[(.cell 6 true 4),(.tmp 5)],24),(125,c125_0,[(.tmp 3)],21),(126,Zre,[(.tmp 2),(.tmp 3),(.tmp 4)],67),(127,Zsn,[(.tmp 4),(.tmp 5)],54),(128,ZrW,[(.tmp 6),(.tmp 7)],32),(129,c129_0,[(.tmp 6)],45),(130,Zgs,[],17),(132,ZmU,[(.tmp 2)],11),(134,Zed,[(.tmp 2)],16),(138,c138_0,[(.tmp 2)],11),(139,Zka,[(.tmp 2)],33),(143,c143_0,[(.tmp 2),(.tmp 3),(.tmp 4)],44),(152,ZhO,[(.tmp 4)],19),(153,ZuD,[(.tmp 4)],26),(154,c154_0,[(.tmp 4),(.tmp 5)],40),(155,Zrw,[],56),(165,Zeo,[(.tmp 2)],35),(166,Zk7,[(.tmp 4)],23),(167,ZgH,[(.tmp 6),(.tmp 7)],39),(168,ZlK,[(.tmp 4),(.tmp 5)],56),(169,c169_0,[(.tmp 6),(.tmp 7)],52),(170,Zln,[(.tmp 2),(.tmp 3)],49),(171,c171_0,[(.tmp 6)],43),(172,c172_0,[(.tmp 2)],33),(173,c173_0,[(.tmp 6)],35),(174,c174_0,[(.tmp 2)],5),(175,c175_0,[(.tmp 2)],12),(178,c178_0,[(.tmp 2)],34),(183,c183_0,[(.tmp 4),(.tmp 5)],51),(186,c186_0,[(.cell 6 true 2),(.tmp 3)],57),(187,c187_0,[(.tmp 2)],9),(188,c188_0,[(.tmp 2)],12),(189,c189_0,[(.tmp 2),(.tmp 3),(.tmp 4),(.tmp 5)],64),(190,c190_0,[(.tmp 4)],19),(193,c193_0,[(.tmp 4)],51),(196,c196_0,[(.tmp 2)],12),(197,c197_0,[(.tmp 2)],6),(198,c198_0,[(.tmp 2)],14),(205,c205_0,[],34),(217,c217_0,[(.tmp 4),(.tmp 5)],33),(218,c218_0,[(.tmp 2)],8),(219,c219_0,[(.tmp 2)],9),(220,c220_0,[(.tmp 2)],18),(221,c221_0,[(.cell 2 true 2)],12),(222,c222_0,[(.tmp 2)],30),(223,c223_0,[],13),(231,c231_0,[(.tmp 2),(.tmp 3)],25),(232,c232_0,[],25),(233,c233_0,[(.tmp 4)],43),(234,c234_0,[(.tmp 2)],19),(242,c242_0,[(.tmp 6)],95),(253,c253_0,[(.tmp 2)],10),(254,c254_0,[(.tmp 2)],16),(255,c255_0,[(.tmp 2)],17),(258,c258_0,[(.tmp 4)],17),(259,c259_0,[(.tmp 4)],23),(281,c281_0,[(.tmp 4)],39),(292,c292_0,[(.cell 16 true 0)],13),(309,c309_0,[(.tmp 2)],16)]
def TK:FuncId→Option (Zar×List Zcq×Nat):=Zwl LK
theorem hTK:∀f x,TK f=some x→cFn Tryz.prog eqT f=some x:=fun f x h=>Zwh (Pr:=fun f x=>cFn Tryz.prog eqT f=some x) (l:=LK) ⟨cf4,cf7,cf10,cf11,cf12,cf13,cf14,cf20,cf21,cf26,cf27,cf28,cf32,cf33,cf35,cf36,cf37,cf50,cf51,cf57,cf58,cf59,cf60,cf61,cf62,cf63,cf64,cf65,cf66,cf67,cf68,cf69,cf72,cf73,cf75,cf76,cf77,cf80,cf88,cf89,cf90,cf91,cf92,cf93,cf94,cf103,cf104,cf105,cf106,cf107,cf108,cf109,cf110,cf111,cf114,cf121,cf123,cf124,cf125,cf126,cf127,cf128,cf129,cf130,cf132,cf134,cf138,cf139,cf143,cf152,cf153,cf154,cf155,cf165,cf166,cf167,cf168,cf169,cf170,cf171,cf172,cf173,cf174,cf175,cf178,cf183,cf186,cf187,cf188,cf189,cf190,cf193,cf196,cf197,cf198,cf205,cf217,cf218,cf219,cf220,cf221,cf222,cf223,cf231,cf232,cf233,cf234,cf242,cf253,cf254,cf255,cf258,cf259,cf281,cf292,cf309,trivial⟩ h
open Go.Shelf
def ZvY:Go.Shelf.Ren:=⟨fun|105=>122|212=>121|99=>184|165=>185|166=>119|170=>118|169=>120|263=>182|264=>183|206=>229|240=>181|241=>230|276=>228|277=>257|n=>n,fun|9=>9|3=>3|4=>4|20=>20|0=>0|46=>198|109=>199|5=>5|72=>192|76=>196|51=>267|146=>268|53=>222|148=>270|70=>189|37=>190|75=>195|127=>266|164=>325|80=>129|n=>n,fun|n=>n⟩
theorem lays105:Go.Proofs.Lays.n105 Tryz.prog ZvY:={
 mixed:=by kernel_rfl
 f99:=Tryz.func184.trans (congrArg some (by kernel_rfl))
 f105:=Tryz.func122.trans (congrArg some (by kernel_rfl))
 f165:=Tryz.func185.trans (congrArg some (by kernel_rfl))
 f166:=Tryz.func119.trans (congrArg some (by kernel_rfl))
 f169:=Tryz.func120.trans (congrArg some (by kernel_rfl))
 f170:=Tryz.func118.trans (congrArg some (by kernel_rfl))
 f206:=Tryz.func229.trans (congrArg some (by kernel_rfl))
 f212:=Tryz.func121.trans (congrArg some (by kernel_rfl))
 f240:=Tryz.func181.trans (congrArg some (by kernel_rfl))
 f241:=Tryz.func230.trans (congrArg some (by kernel_rfl))
 f263:=Tryz.func182.trans (congrArg some (by kernel_rfl))
 f264:=Tryz.func183.trans (congrArg some (by kernel_rfl))
 f276:=Tryz.func228.trans (congrArg some (by kernel_rfl))
 f277:=Tryz.func257.trans (congrArg some (by kernel_rfl))
 t0:=Tryz.underlying0
 a0:=Tryz.isAgg0
 z0:=Tryz.sizeOf0
 v0:=Tryz.zeroValue0
 t3:=Tryz.underlying3
 a3:=Tryz.isAgg3
 z3:=Tryz.sizeOf3
 v3:=Tryz.zeroValue3
 t4:=Tryz.underlying4
 a4:=Tryz.isAgg4
 z4:=Tryz.sizeOf4
 v4:=Tryz.zeroValue4
 t5:=Tryz.underlying5
 a5:=Tryz.isAgg5
 z5:=Tryz.sizeOf5
 v5:=Tryz.zeroValue5
 t9:=Tryz.underlying9
 a9:=Tryz.isAgg9
 z9:=Tryz.sizeOf9
 v9:=Tryz.zeroValue9
 t20:=Tryz.underlying20
 a20:=Tryz.isAgg20
 z20:=Tryz.sizeOf20
 v20:=Tryz.zeroValue20
 t37:=Tryz.underlying190
 a37:=Tryz.isAgg190
 z37:=Tryz.sizeOf190
 v37:=Tryz.zeroValue190
 t46:=Tryz.underlying198
 a46:=Tryz.isAgg198
 z46:=Tryz.sizeOf198
 v46:=Tryz.zeroValue198
 t51:=Tryz.underlying267
 a51:=Tryz.isAgg267
 z51:=Tryz.sizeOf267
 v51:=Tryz.zeroValue267
 t53:=Tryz.underlying222
 a53:=Tryz.isAgg222
 z53:=Tryz.sizeOf222
 v53:=Tryz.zeroValue222
 t70:=Tryz.underlying189
 a70:=Tryz.isAgg189
 z70:=Tryz.sizeOf189
 v70:=Tryz.zeroValue189
 t72:=Tryz.underlying192
 a72:=Tryz.isAgg192
 z72:=Tryz.sizeOf192
 v72:=Tryz.zeroValue192
 t75:=Tryz.underlying195
 a75:=Tryz.isAgg195
 z75:=Tryz.sizeOf195
 v75:=Tryz.zeroValue195
 t76:=Tryz.underlying196
 a76:=Tryz.isAgg196
 z76:=Tryz.sizeOf196
 v76:=Tryz.zeroValue196
 t109:=Tryz.underlying199
 a109:=Tryz.isAgg199
 z109:=Tryz.sizeOf199
 v109:=Tryz.zeroValue199
 t127:=Tryz.underlying266
 a127:=Tryz.isAgg266
 z127:=Tryz.sizeOf266
 v127:=Tryz.zeroValue266
 t146:=Tryz.underlying268
 a146:=Tryz.isAgg268
 z146:=Tryz.sizeOf268
 v146:=Tryz.zeroValue268
 t148:=Tryz.underlying270
 a148:=Tryz.isAgg270
 z148:=Tryz.sizeOf270
 v148:=Tryz.zeroValue270
 t164:=Tryz.underlying325
 a164:=Tryz.isAgg325
 z164:=Tryz.sizeOf325
 v164:=Tryz.zeroValue325 }
theorem extra105:Builder.Extra Tryz.prog ZvY:={
 sizeBuilder:=by kernel_rfl
 liesBuilder:=by kernel_rfl
 t5:=Tryz.underlying5
 a5:=Tryz.isAgg5
 z5:=Tryz.sizeOf5
 v5:=Tryz.zeroValue5
 infoByte:=by kernel_rfl
 cellsByte:=by kernel_rfl
 sizeByte:=by kernel_rfl
 neB5:=by decide }
open Go.RowKit Go.Lib
theorem below_ok {g:Gh} {H:Zaa} {w w':World} (hW:WR g H w) (hb:Below w.heap.size w w'):WR g H w'∧Stp g H w g H w':=by
 have hle:g.le g w w':=⟨fun _ _ h=>h,fun _ _ _ _ h=>⟨_,_,_,h,.inr ⟨rfl,rfl,rfl⟩⟩,fun _ _ _ h=>h,fun _ _ h=>h,fun b j h=>Zcb (hb.block b (hW.ro b j h)) j⟩
 exact⟨⟨fun id o h=>(hW.obj id o h).mono hle (fun b h2=>hb.block b (hW.bd id o b h h2)) (fun _ _ _ h=>h) rfl rfl (fun _=>rfl),hW.inj,hW.dom,fun id o b h1 h2=>Nat.lt_of_lt_of_le (hW.bd id o b h1 h2) hb.size,fun b j h=>Nat.lt_of_lt_of_le (hW.ro b j h) hb.size⟩,
  ⟨hle,Nat.le_refl _,hb.os,hb.tape,hb.output,hb.size,fun b h _=>hb.block b h,fun _ _ h=>h,fun _ _ _ h=>.inl h⟩⟩
theorem ok105:Zmq Tryz.prog (ZvY.f 105):=⟨_,Tryz.func122,by kernel_rfl,by kernel_rfl⟩
theorem Zwn (s:ByteArray) (c:Nat) (H:Zaa) (hc:c≤9223372036854775807) (hl:s.size * c≤140737488355328):Zay Tryz.prog 122 [.sc (.string s),.i (c:Int)] H (fun r H'=>r=.sc (.string ⟨⟨repeatL s.data.toList c⟩⟩)∧H'=H):=by
 refine⟨ok105,fun g w vs hW hV=>?_⟩
 obtain⟨v0,v1,rfl⟩:∃v0 v1,vs=[v0,v1]:=by
  match vs,hV.1 with
  | [v0,v1],_=>exact⟨v0,v1,rfl⟩
 have h1:=hV.2 0 _ _ rfl rfl
 have h2:=hV.2 1 _ _ rfl rfl
 cases h1
 cases h2
 refine(Any.strings_Repeat lays105 extra105 s c w hc hl).mono fun e w' ⟨he,hb⟩=>?_
 obtain⟨k1,k2⟩:=below_ok hW hb
 exact .inl ⟨_,_,_,g,he,⟨rfl,rfl⟩,.sc _,k1,k2⟩
theorem wpList_append_run {P:Program} {w w':World} {ops:Array Oper} {rest:List Oper} {o:Oper} {a:Act} {Q:Exit→Act→World→Prop} (hgd:o.guard=none) (s x:Operand) (t u:TypeId)
  (ho:o.op=.call { callee:=.builtin .append,args:=#[s,x],argTypes:=#[t,u] }) {vs vx v:Value} (hs:a.eval s=vs) (hx:a.eval x=vx)
  (hrun:(Builtin.append_ #[t,u] o.type #[vs,vx]).run P w=.ok v w') (h:wpList P ops Q rest (a.put o.dst v) w'):wpList P ops Q (o :: rest) a w :=
 wpList_plain hgd fun _ hK=>by
  unfold Oper.wp execOp
  simp only[ho,resolve,invoke,builtin,Sem.run_bind,Sem.run_pure,Result.andThen_ok,List.map_toArray,List.map_cons,List.map_nil,hs,hx,hrun]
  exact hK _ _ h
theorem ZfO (z:Array Value) (n:Nat):(Builtin.zeroCells z n).size=n * z.size:=by simp[Builtin.zeroCells]
theorem gcap (w:World) (need old:Nat) (e:TypeId) (h:need<9223372036854775808):need≤grownCap w need old e∧grownCap w need old e≤maxLen:=by
 have he:grownCap w need old e=need+(w.tape w.drawn (.appendCap need old e)) % (2 ^ 63 - need):=rfl
 rw[he]
 unfold maxLen
 have:(w.tape w.drawn (.appendCap need old e)) % (2 ^ 63 - need)<2 ^ 63 - need:=Nat.mod_lt _ (by omega)
 constructor
 ·exact Nat.le_add_right _ _
 ·omega
theorem cel_inf:(Tryz.prog.info? 3).map (fun i=>(i.zero,i.size,i.bytes))=some (some (.int .i64 0),1,8):=by kernel_rfl
def GrowQ (w:World) (e:Ending) (w':World):Prop:=∃cap carr,e=.returned (.slice (some ⟨w.heap.size,0,none⟩) 0 cap)∧w'=w.drew.alloc (.cells carr 3)∧carr.size=cap * 1∧cap≤maxLen
set_option maxHeartbeats 400000 in
set_option maxRecDepth 100000 in
theorem Zlx (A:Option Addr) (n:Nat) (w:World) (h0:0<n) (hn:n≤1000000):Calls Tryz.prog 131 #[.slice A 0 0,.int .i64 n] w (GrowQ w):=by
 obtain⟨i0,hi,hz0,hz1,hz2⟩:=info_parts cel_inf
 have hr:=Lib.run_append_grow_zeros (P:=Tryz.prog) w 37 3 37 3 i0 _ .i64 .i64 Tryz.underlying37 Tryz.underlying3 hi hz0 A 0 0 [] (by cases A<;>simp[Builtin.firstCells,loadCells,loadCellsFrom]) n (by omega) (by rw[hz1];omega) (by omega) (by omega) (by rw[hz2];omega) (by rw[hz2];unfold Builtin.nextslicecap;rw[if_pos (by omega)];omega)
 have hc:=gcap w (0+n) 0 3 (by omega)
 generalize grownCap w (0+n) 0 3=cap at hr hc
 have hp:0<n:=by omega
 have hpi:(0:Int)<n:=by omega
 simp only[Nat.zero_add]at hr hc
 have HR:=Lib.hid hr
 have hcc:n≤cap:=hc.1
 have ho:Hid (GrowQ w (.returned (.slice (some ⟨w.heap.size,0,none⟩) 0 cap)) (w.drew.alloc (.cells (#[]++Builtin.zeroCells (Value.int .i64 0).cells n++Builtin.zeroCells (Value.int .i64 0).cells (cap - n)) 3))):=by
  refine⟨cap,_,rfl,rfl,?_,hc.2⟩
  rw[Array.size_append,Array.size_append,ZfO,ZfO]
  simp[Value.cells]
  omega
 generalize w.drew.alloc _=w1 at HR ho
 clear hr hc
 cases A with
 | none =>
  go_enter Tryz.func131,Tryz.ntmps131
  go_wp2_with (at_builtin;refine wpList_append_run rfl (.tmp 20) (.tmp 21) _ _ rfl rfl rfl HR.out ?_)
  go_ret
  exact ho.out
 | some A =>
  go_enter Tryz.func131,Tryz.ntmps131
  go_wp2_with (at_builtin;refine wpList_append_run rfl (.tmp 20) (.tmp 21) _ _ rfl rfl rfl HR.out ?_)
  go_ret
  exact ho.out
set_option maxHeartbeats 400000 in
set_option maxRecDepth 100000 in
theorem Zl2 (A:Option Addr) (w:World):Calls Tryz.prog 131 #[.slice A 0 0,.int .i64 0] w (fun e w'=>e=.returned (.slice A 0 0)∧w'=w):=by
 cases A with
 | none =>
  go_enter Tryz.func131,Tryz.ntmps131
  go_wp2
  go_ret
  exact⟨rfl,rfl⟩
 | some A =>
  go_enter Tryz.func131,Tryz.ntmps131
  go_wp2
  go_ret
  exact⟨rfl,rfl⟩
theorem Zfv:Zmq Tryz.prog 131:=⟨_,Tryz.func131,by kernel_rfl,by kernel_rfl⟩
theorem Zko (n:Nat) (H:Zaa) (h0:0<n) (hn:n≤1000000):Zay Tryz.prog 131 [.sl .full [],.i n] H fun r H'=>r=.sl (.own H.next) []∧H'=H.alloc (.tok 0 3 1):=by
 refine⟨Zfv,fun g w vs hW hV=>?_⟩
 obtain⟨v0,v1,rfl⟩:∃v0 v1,vs=[v0,v1]:=by
  match vs,hV.1 with
  | [v0,v1],_=>exact⟨v0,v1,rfl⟩
 have h1:=hV.2 0 _ _ rfl rfl
 have h2:=hV.2 1 _ _ rfl rfl
 cases h2
 cases h1 with
 | sl _ _ A c sz b o f hc hm hA hsz hcell hv ht =>
  have ht':c=0:=ht
  subst ht'
  refine(Zlx A n w h0 hn).mono fun e w' ⟨cap,carr,he,hw',hs,hcm⟩=>?_
  subst hw'
  have hgr:w.grownBy (w.drew.alloc (.cells carr 3)) none:=⟨rfl,rfl,rfl,by simp,fun k hk _=>heap_alloc_old w.drew _ hk⟩
  obtain⟨k1,k2⟩:=Zjz (n:=0) hW hgr (Nat.le_refl _) (heap_alloc_new w.drew _) hs (Nat.zero_le _) hcm
  refine .inl ⟨_,_,_,_,he,⟨rfl,rfl⟩,?_,k1,k2⟩
  exact VR.sl (.own H.next) [] _ cap 0 0 0 (fun _ _=>undef) (Nat.zero_le _) hcm (fun h=>absurd rfl h) (fun r h=>by cases h) (fun i r j x h=>by simp at h) (fun i r j x h=>by simp at h) ⟨0,cap,w.heap.size,by simp[Gh.tok],Nat.le_refl _,fun _=>⟨rfl,fun _=>rfl⟩⟩
theorem ZiV (H:Zaa):Zay Tryz.prog 131 [.sl .full [],.i 0] H fun r H'=>r=.sl .full []∧H'=H:=by
 refine⟨Zfv,fun g w vs hW hV=>?_⟩
 obtain⟨v0,v1,rfl⟩:∃v0 v1,vs=[v0,v1]:=by
  match vs,hV.1 with
  | [v0,v1],_=>exact⟨v0,v1,rfl⟩
 have h1:=hV.2 0 _ _ rfl rfl
 have h2:=hV.2 1 _ _ rfl rfl
 cases h2
 cases h1 with
 | sl _ _ A c sz b o f hc hm hA hsz hcell hv ht =>
  have ht':c=0:=ht
  subst ht'
  refine(Zl2 A w).mono fun e w' ⟨he,hw'⟩=>?_
  subst hw'
  exact .inl ⟨_,_,_,g,he,⟨rfl,rfl⟩,VR.sl .full [] A 0 sz b o f hc hm hA hsz hcell hv rfl,hW,.refl _ _ _⟩
open Go.RowKit Go.Lib
def XR0 (f:FuncId) (args:List AV) (k:AV→TH→Nat→Bool) (M:TH) (n:Nat):Option Bool:=match args with
 | [.sc (.string s),.sc (.int .i64 c)]=>bif Nat.beq f 122 then (if 0≤c∧c≤100000∧s.data.toList.length≤1000 then some (fV (.sc (.string ⟨⟨repeatL s.data.toList c.toNat⟩⟩)) fun r=>k r M n) else none) else none
 | [.sl .full [],.sc (.int .i64 m)]=>bif Nat.beq f 131 then (if m=0 then some (k (.sl .full []) M n) else if 0<m∧m≤1000000 then some (Tr.put none (some (.tok 0 3 1)) 40 M n fun M'=>fN (n+1) fun n'=>k (.sl (.own n) []) M' n') else none) else none
 | _=>none
theorem hXR0:∀f args k M n,XR0 f args k M n=some true→Zay Tryz.prog f args (upT M n) fun r H'=>∃M' n',upT M' n'=H'∧k r M' n'=true:=by
 intro f args k M n h
 unfold XR0 at h
 split at h
 ·rename_i s c
  rw[ZwR]at h
  by_cases e:f=122
  ·subst e
   simp only[decide_true,cond_true]at h
   split at h
   ·rename_i hc
    simp only[Option.some.injEq]at h
    rw[ZwT]at h
    obtain⟨m,rfl⟩:∃m:Nat,c=m:=⟨c.toNat,by omega⟩
    have hs:s.size=s.data.toList.length:=rfl
    have hm:m≤100000:=by omega
    have hl:s.size * m≤1000 * 100000:=Nat.mul_le_mul (by omega) hm
    refine(Zwn s m (upT M n) (by omega) (by omega)).mono fun r H' ⟨h1,h2⟩=>⟨M,n,h2.symm,by rw[h1];exact h⟩
   ·cases h
  ·simp only[e,decide_false,cond_false]at h
   cases h
 ·rename_i m
  rw[ZwR]at h
  by_cases e:f=131
  ·subst e
   simp only[decide_true,cond_true]at h
   split at h
   ·rename_i e
    subst e
    simp only[Option.some.injEq]at h
    exact(ZiV _).mono fun r H' ⟨h1,h2⟩=>⟨M,n,h2.symm,by rw[h1];exact h⟩
   ·split at h
    ·rename_i hn
     simp only[Option.some.injEq]at h
     obtain⟨M',h1,h2⟩:=Tr.ZvT h
     rw[Zwf]at h1
     obtain⟨q,rfl⟩:∃q:Nat,m=q:=⟨m.toNat,by omega⟩
     refine(Zko q (upT M n) (by omega) (by omega)).mono fun r H' ⟨h3,h4⟩=>⟨M',n+1,?_,by rw[h3];exact h1⟩
     rw[h4,ZwI h2]
    ·cases h
  ·simp only[e,decide_false,cond_false]at h
   cases h
 ·cases h
def XR:Zwg→(Int→TH→Nat→Bool)→FuncId→List AV→(AV→TH→Nat→Bool)→TH→Nat→Option Bool:=fun call kp f args k M n=>match XT call kp f args k M n with
 | some b=>some b
 | none=>XR0 f args k M n
theorem hXR:∀call,Zv2 Tryz.prog call→∀kp f args k M n,XR call kp f args k M n=some true→Zay ⟨Tryz.prog,Zwi kp⟩ f args (upT M n) fun r H'=>∃M' n',upT M' n'=H'∧k r M' n'=true:=by
 intro call hc kp f args k M n h
 unfold XR at h
 split at h
 ·rename_i b hb
  simp only[Option.some.injEq]at h
  subst h
  exact hXT call hc kp f args k M n hb
 ·exact(hXR0 f args k M n h).up
abbrev noK:Int→TH→Nat→Bool:=fun _ _ _=>false
def isT2:AV→TH→Nat→Bool:=fun r _ _=>match r with
 | .sc (.bool true)=>true
 | _=>false
theorem Zw2 {r:AV} {M:TH} {n:Nat} (h:isT2 r M n=true):r=.sc (.bool true):=by
 unfold isT2 at h
 split at h
 ·rfl
 ·cases h
end Go.Proofs.YtjflognbeehccaaGreatDoor
