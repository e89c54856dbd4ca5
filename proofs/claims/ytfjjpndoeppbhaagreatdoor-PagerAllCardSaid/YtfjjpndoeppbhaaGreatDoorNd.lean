/- Texts of the walk. -/
import Derived.Test.YtfjjpndoeppbhaaGreatDoorNc
namespace Go.Proofs.YtfjjpndoeppbhaaGreatDoor
set_option linter.defProp false
set_option maxHeartbeats 64000000
set_option linter.unusedSimpArgs false
set_option linter.unusedVariables false
open Go.RowKit Go.Lib
structure Ac where
 k:Int
 n:Int
 m:Int
 a:Tx
 b:Tx
 keep:List Int
def eAc (x:Ac):List AV:=[.i x.k,.i x.n,.i x.m,eS x.a,eS x.b,.sl .no (rI x.keep)]
abbrev rAc (l:List Ac):List (List AV):=l.map eAc
def FewA (l:List Ac) (H:Zaa) (r:AV) (H':Zaa):Prop:=HX [] H H'/\∃b,r=.b b/\(b=true->l.length<=20)
theorem Zs8 (t:Tok) (l:List Ac) (H:Zaa):Zay Tryz.prog 8 [.sl t (rAc l)] H (FewA l H):=by
 refine fnQ cf8 fun Q qr qn=>?_
 refine Bz0 ?_
 refine Zcw [0] (σ:=Nat×Nat) (fun s=>s.1<=l.length/\s.1<=21/\s.2<=s.1 * 60000) (fun s=>l.length - s.1) (fun s=>[(3,.i (s.2:Int)),(4,.i (s.1:Int))]) (fun s=>[]) (0,0) (GStep.refl _ _) xV ?_ xT xU ?_
 ·exact⟨Xc,Xc,Xc⟩
 ·(rintro⟨i,n⟩ G ⟨h1,h2,h3⟩ hG hn;try simp only[nx]at hn)
  simp only at h1 h2 h3
  by_cases c1:i<l.length
  ·have d1:decide ((i:Int)<(l.length:Int))=true:=by simp;omega
   by_cases c2:i<=20
   ·have d2:decide ((i:Int)<=20)=true:=by simp;omega
    have e3:(eAc l[i])[3]?=some (eS l[i].a):=rfl
    have e4:(eAc l[i])[4]?=some (eS l[i].b):=rfl
    have e5:(eAc l[i])[5]?=some (.sl .no (rI l[i].keep)):=rfl
    have h0:(0:Int)<=(i:Int):=Xa
    have e1:(eAc l[i]).length=6:=rfl
    have hm1:(if (20000:Int)<(l[i].a.length:Int) then (20000:Int) else (l[i].a.length:Int))=((min l[i].a.length 20000:Nat):Int):=by split<;>omega
    have hm2:(if (20000:Int)<(l[i].b.length:Int) then (20000:Int) else (l[i].b.length:Int))=((min l[i].b.length 20000:Nat):Int):=by split<;>omega
    have hm3:(if (20000:Int)<(l[i].keep.length:Int) then (20000:Int) else (l[i].keep.length:Int))=((min l[i].keep.length 20000:Nat):Int):=by split<;>omega
    ((have hd:=tv;repeat' first|(first|apply Zad|apply Zac|apply Zab)<;>intro hd<;>try simp only[hd]|simp(disch:=first|assumption|omega|simp only[nx]<;>omega|fail)only[hd,qr,qn,Ztx,↓YA,YY,↓reduceIte,Nat.reduceEqDiff,Nat.reduceAdd,Nat.reduceMul,Nat.reduceLeDiff,Int.reduceToNat,Int.reduceLE,Int.reduceLT,Int.reduceGT,Int.reduceGE,Int.reduceAdd,Int.reduceSub,Int.reduceNeg,Int.reduceBEq,Int.reduceBNe,d1,d2,e3,e4,e5,e1,zam,h0,c1,hm1,hm2,hm3])<;>try revert hd;refine ttr ?_)
    refine⟨(i+1,n+min l[i].a.length 20000+min l[i].b.length 20000+min l[i].keep.length 20000),⟨by simp only;omega,by simp only;omega,by simp only;omega⟩,by simp only;omega,⟨congrArg AV.i (by push_cast;omega),congrArg AV.i (by push_cast;rfl)⟩,by exact HXT⟩
   ·have d2:decide ((i:Int)<=20)=false:=by simp;omega
    ((have hd:=tv;repeat' first|(first|apply Zad|apply Zac|apply Zab)<;>intro hd<;>try simp only[hd]|simp(disch:=first|assumption|omega|simp only[nx]<;>omega|fail)only[hd,qr,qn,Ztx,↓YA,YY,↓reduceIte,Nat.reduceEqDiff,Nat.reduceAdd,Nat.reduceMul,Nat.reduceLeDiff,Int.reduceToNat,Int.reduceLE,Int.reduceLT,Int.reduceGT,Int.reduceGE,Int.reduceAdd,Int.reduceSub,Int.reduceNeg,Int.reduceBEq,Int.reduceBNe,d1,d2,zam])<;>try revert hd;refine ttr ?_)
    ·exact Zaq ⟨hG,_,rfl,fun e=>by simp at hd;omega⟩
    ·exact Zaq ⟨hG,_,rfl,fun e=>by cases e⟩
  ·have d1:decide ((i:Int)<(l.length:Int))=false:=by simp;omega
   ((have hd:=tv;repeat' first|(first|apply Zad|apply Zac|apply Zab)<;>intro hd<;>try simp only[hd]|simp(disch:=first|assumption|omega|simp only[nx]<;>omega|fail)only[hd,qr,qn,Ztx,↓YA,YY,↓reduceIte,Nat.reduceEqDiff,Nat.reduceAdd,Nat.reduceMul,Nat.reduceLeDiff,Int.reduceToNat,Int.reduceLE,Int.reduceLT,Int.reduceGT,Int.reduceGE,Int.reduceAdd,Int.reduceSub,Int.reduceNeg,Int.reduceBEq,Int.reduceBNe,d1,zam])<;>try revert hd;refine ttr ?_)
   ·exact Zaq ⟨hG,_,rfl,fun e=>by simp at hd;omega⟩
   ·exact Zaq ⟨hG,_,rfl,fun e=>by cases e⟩
theorem ZSI (d:Dv):d.syn.1.sec.length=d.sec.length:=by
 obtain⟨h1,h2,_⟩:=ZMz d
 unfold Dv.syn
 split
 ·rfl
 ·split
  ·simp only[ZOE]
  ·rw[h1]
theorem ZMR {n:Nat} {x:Dv×Int} {f:Dv->Dv×Int} (h:x.1.sec.length=n) (hf:∀d:Dv,d.sec.length=n->(f d).1.sec.length=n):(ZL6 x f).1.sec.length=n:=by
 unfold ZL6
 split
 ·exact hf _ h
 ·exact h
theorem ZQy (d:Dv) (r:Rt) (own list:List Int) (data maps:List Tx):(ZMT d r own list data maps).1.sec.length=d.sec.length:=by
 unfold ZMT
 exact ZMR (ZMR (ZMR (ZMR (ZOA _ _) fun d hd=>(ZOA _ _).trans hd) fun d hd=>(ZSI _).trans hd) fun d hd=>(ZPV _ _ _).trans hd) fun d hd=>(ZSI _).trans hd
theorem ZQv (d:Dv) (p:Pg) (br:Bool) (its:Its) (c n:Tx) (top:Int):(ZNd d p br its c n top).d.sec.length=d.sec.length:=by
 unfold ZNd
 split
 ·rfl
 ·split
  ·rfl
  ·split
   ·exact ZQy ..
   ·exact ZQy ..
theorem ref16:ZOX (ZN6 16) .nil [99] [] 0=0:=Xb
theorem opn_new {n:Nat} (h1:16<=n) (h2:n<=4096):opeP (ZN6 n).sho (ofP (ZN6 n).sec.length)=some .nil:=(ZOK h1 h2).op
def AwkR (r:AV) (_:Zaa):Prop:=r=.b true
def aw3:Zar:=rr 35 [.C 46 [ik 1,ik 0],.B .eql 36 2,.y 37,.M 3,.c 22 [39],.B .eql 40 5,.z,.y 42,.M 5,.O (.bin .eql (.t 44) (.c (.sc (.string ⟨#[99]⟩)))),.z,.y 46,.i .eql 6 0,.z,.y 50,.M 3,.c 21 [52],.O (.fld 0 1 false (.t 53)),.B .eql 54 1,.z,.s 0]
def aw2:Zar:=rs 31 [.M 3,.c 45 [32],.s 31,.e 31 0,.e 31 1,.m 5 34,.s 6]<|aw3
def aw1:Zar:=ri 15 [.M 3,.O (.eqn 0 false (.t 16) (.c (.sc (.pointer none)))),.h 17,.i .neq 4 0,.z,.h 21,.M 3,.c 20 [23],.z,.h 25,.M 3,.C 12 [.t 27,.c (.sc (.string ⟨#[99]⟩)),.c (.sc (.string ⟨#[]⟩)),ik 0],.B .neq 28 0,.z] 30 (rr 0 [.K 0])<|aw2
set_option maxRecDepth 100000 in
theorem aw_split:Zq4=.seq (.reg [io 0 (.mv (ib false))]) (.seq (.reg [io 8 (.call (jf 10) [ik 16]),im 7 8,io 9 (.ext (.t 7) 0),io 10 (.ext (.t 7) 1),im 1 9,im 2 10]) (.seq (.reg [im 12 1,io 13 (.call (jf 11) [.t 12]),im 11 13,io 14 (.ext (.t 11) 0),io 15 (.ext (.t 11) 1),im 3 14,im 4 15]) aw1)):=rfl
section
variable {D P R C M:Nat} {F:Fr} {H G:Zaa} {Q:AEx->Fr->Zaa->Prop} {d:Dv} {p:Pg} {its:Its} {fet:Int}
theorem ZSN (qr:ZNG Q [.tmp 0] AwkR) (f3:Fr.get F 3=.ptr P 0) (f5:Fr.get F 5=eS [99]) (f6:Fr.get F 6=.i 0) (hp:PgB D P R C M p false its fet 7 G) (hu:p.used.length=2) (hg:p.root.gen=1):AW Tryz.prog aw3 Q F G:=by
 have qn:=trivial
 have hn:=fun K=>ZMM 1 0 K Xa Xa
 have e2:ZMh 1 0=2:=Xb
 rw[e2]at hn
 have x1:∀k,Zaa.Ext G (G.bump k):=fun k=>Zaa.Ext.bump (Zaa.Ext.refl G)
 have hf:=fun k=>ZPK (hp.ext (x1 k))
 have e5:((7:Nat):Int) - (p.used.length:Int)=5:=Xa
 rw[e5]at hf
 have hr:=fun k j=>ZMK (hp.ext ((x1 k).bump (k:=j)))
 unfold eRt at hr
 rw[hg]at hr
 have b1:((2:Int) == 2)=true:=rfl
 have b2:((5:Int) == 5)=true:=rfl
 have b3:((1:Int) == 1)=true:=rfl
 have b4:((0:Int) == 0)=true:=rfl
 unfold aw3
 refine Bz1 (X3 f3 f5 f6) ?_
 refine qcp (hn _) fun k1=>?_
 refine Bz1 (X4 b1 f3 f5 f6) ?_
 refine qcp (hf _) fun k2=>?_
 refine Bz1 (X5 b2 b4 f3 f5 f6) ?_
 refine qcp (hr _ _) fun k3=>?_
 refine Bz1 (X4 b3 f3 f5 f6) ?_
 exact Zaq rfl
theorem ZSK (qr:ZNG Q [.tmp 0] AwkR) (f3:Fr.get F 3=.ptr P 0) (h:Good d p 1 [99] [] 0) (hl:d.sec.length=16) (hd:DvX D d G) (hp:PgB D P R C M p false its fet 7 G) (hc:ZMe p d.sho 7 its) (hu:p.used.length=2):AW Tryz.prog aw2 Q F G:=by
 have qn:=trivial
 have hpu:d.puts.length<=1000000:=by rw[h.pu];simp
 have h7:ofP d.sec.length=7:=by rw[hl];rfl
 obtain⟨r1,r2,r3,r4⟩:=h.reads Xa
 have hk:=ZQp h7.symm hpu hd hp h.pg hc
 rw[h7]at r2
 rw[r2]at hk
 unfold isV at hk
 unfold aw2
 refine Bz1 (X1 f3) ?_
 refine Zap.use hk ?_
 refine fun u K w=>?_
 refine w.elim fun its4 w=>w.elim fun fet4 w=>?_
 obtain rfl:=w.2.1
 refine Bz0 ?_
 exact ZSN qr (by simpa [Fr.get] using f3) rfl rfl w.2.2.p hu h.g
theorem ZSL (qr:ZNG Q [.tmp 0] AwkR) (f3:Fr.get F 3=.ptr P 0) (f4:Fr.get F 4=.i 0) (hd:DvX D (ZN6 16) G) (hp:PgB D P R C M .nil false [] fet 7 G):AW Tryz.prog aw1 Q F G:=by
 have qn:=trivial
 have hg:=ZOK (n:=16) Xa Xa
 obtain⟨e1,hG,_⟩:=pub_on hg rfl ref16 []
 have hl:(ZNd (ZN6 16) .nil false [] [99] [] 0).d.sec.length=16:=ZQv ..
 have hu:(ZMf (ZN6 16) .nil [99] [] 0).used.length=2:=Xb
 have x1:∀k,Zaa.Ext G (G.bump k):=fun k=>Zaa.Ext.bump (Zaa.Ext.refl G)
 have hh:=ZMA hp
 have dg:decide (Pg.nil.root.gen > 0)=false:=rfl
 rw[dg]at hh
 have hpp:=fun k=>ZMH (np:=7) rfl (hd.ext (x1 k)) (hp.ext (x1 k)) [99] [] 0 ⟨Xb,Xb⟩ Xb Xb Xb Xb
 rw[e1]at hpp
 have n0:((0:Int) != 0)=false:=rfl
 generalize (ZNd (ZN6 16) .nil false [] [99] [] 0).d=d2 at *
 generalize ZMf (ZN6 16) .nil [99] [] 0=p2 at *
 unfold aw1
 refine Bz1 (X3 n0 f3 f4) ?_
 refine qcp (hh) fun k1=>?_
 refine Bz1 (X3 n0 f3 f4) ?_
 refine Zap.use (hpp _) ?_
 refine fun u K w=>?_
 obtain rfl:=w.1
 refine Bz1 (X3 n0 f3 f4) ?_
 exact ZSK qr (by simpa [Fr.get] using f3) hG hl w.2.d w.2.p (ZR9 _ _ _) hu
end
theorem ZPH (H:Zaa):Zay Tryz.prog 9 [] H AwkR:=by
 have hN:=fun K=>ZOr 16 K Xa Xa
 have hop:=fun(D:Nat) (K:Zaa) (hK:DvX D (ZN6 16) K)=>ZMq hK rfl Xb
 unfold OpnR at hop
 rw[opn_new Xa Xa]at hop
 refine fnQ cf9 fun Q qr qn=>?_
 rw[aw_split]
 refine Bz0 ?_
 refine Zap.use (hN _) ?_
 refine fun r G q=>?_
 refine q.elim fun D q=>q.elim fun S q=>?_
 obtain rfl:=q.1
 have hd:DvX D (ZN6 16) G:=⟨S,.full,0,q.2.1⟩
 refine Bz0 ?_
 refine Zap.use (hop _ _ hd) ?_
 refine fun r G2 q2=>?_
 refine q2.2.2.elim fun P q3=>q3.elim fun R q3=>q3.elim fun C q3=>q3.elim fun M q3=>q3.elim fun fet q3=>?_
 obtain rfl:=q3.1
 refine Bz0 ?_
 exact ZSL qr rfl rfl q2.1 q3.2
open Go.RowKit Go.Lib
def LpS (D n : Nat) (t : Tok) (l : List Ac) (i : Nat) (F : Fr) (H : Zaa) : Prop :=
  Fr.get F 5 = .ptr D 0 /\ Fr.get F 49 = .sl t (rAc l) /\ Fr.get F 50 = .i (l.length : Int) /\ Fr.get F 51 = .i (i : Int) /\ ∃ (d : Dv) (gen : Nat) (c s : Tx) (top : Int),
    d.sec.length = n /\ DvX D d H /\ Fr.get F 9 = eS c /\ Fr.get F 10 = eS s /\ Fr.get F 11 = .i top /\ Fr.get F 12 = .i (gen : Int) /\
    ((Fr.get F 13 = .sc (.pointer none) /\ ∃ p P R C M its fet, Fr.get F 7 = .ptr P 0 /\ Good d p gen c s top /\ PgB D P R C M p false its fet (ofP n) H) \/
     (∃ Y A B N, Fr.get F 13 = .ptr Y 0 /\ H.get Y = some (.cells [.i 0, .i N, .i 0, eS A, eS B, .sl .full []] 35) /\ Half d gen c s top A B N))
def pa4:Zar:=ri 162 [.M 20,.u 163,.h 164,.M 17,.M 9,.b .neq 166 167,.z,.h 169,.M 18,.M 10,.b .neq 171 172,.z,.h 174,.F 0 19,.M 12,.b .neq 177 178,.z,.h 180,.F 5 19,.M 11,.b .neq 183 184,.z] 186 (rr 0 [.K 4])<|rs 12 [.O (.mv (.c (.sc (.pointer none))))]<|rs 187 [.M 5,.c 11 [188],.s 187,.e 187 0,.e 187 1,.m 7 190,.s 8]<|rs 191 [.i .neq 8 0]<|.cond (.t 193) (rr 0 [.K 4])<|.skip
def pa3:Zar:=rk 119 [.M 13,.O (.eqn 0 true (.t 120) (.c (.sc (.pointer none)))),.y 121,.M 20,.z,.y 124,.F 0 19,.i .add 12 1,.b .eql 127 129,.z,.y 131,.M 17,.M 13,.k 134,.F 3 135,.b .eql 133 137,.z,.y 139,.M 18,.M 13,.k 142,.F 4 143,.b .eql 141 145,.z,.y 147,.F 5 19,.M 13,.k 151,.F 1 152,.b .eql 150 154,.z] 156 (rd 156 [.M 17,.M 18,.F 5 19,.F 0 19,.m 9 157,.m 10 158,.m 11 160,.s 12])<|pa4
def pa2:Zar:=rs 113 [.M 5,.c 16 [114],.s 113,.e 113 0,.e 113 1,.e 113 2,.e 113 3,.o 19 (.box 41 (.c za2)),.m 17 116,.m 18 117,.Z 6 19 118,.s 20]<|pa3
def paC:Zar:=rs 102 [.M 5,.F 5 15,.F 1 15,.F 2 15,.c 14 [103,105,107,109]]<|rs 110 [.M 5,.c 15 [111]]<|pa2
def paP:Zar:=rs 62 [.M 7,.F 3 15,.F 4 15,.F 1 15,.c 12 [63,65,67,69],.s 16]<|ri 70 [.i .eql 16 0] 72 (rd 72 [.F 3 15,.F 4 15,.F 1 15,.i .add 12 1,.m 9 74,.m 10 76,.m 11 78,.s 12])<|rs 80 [.i .eql 16 8]<|.cond (.t 82) (ry 82 [.F 3 15,.F 4 15,.F 1 15,.O (.bld zl1 [(3,(1,.t 84)),(4,(1,.t 86)),(1,(1,.t 88))]),.O (.box 35 (.t 89)),.s 13])<|.skip
set_option maxRecDepth 100000 in
theorem ZSE:c3_1=.blk 0 (.loop (.seq (.reg [io 52 (.bin .lss (.t 51) (.t 50))]) (.seq (.cond (.t 52) .skip (.exit 0)) (.seq (.blk 1 (.seq (.reg [io 53 (.ixa 6 (.t 49) (.t 51)),io 54 (.ld 6 true (.t 53)),io 15 (.box 35 (.c za0)),iz (.st 6 (.t 15) (.t 54))]) (.blk 2 (.seq (.reg [io 56 (.fla 0 (.t 15)),io 57 (.ld 1 false (.t 56)),io 58 (.bin .eql (.t 57) (ik 1)),im 59 58,ig 59 60 (.mv (.t 13)),ig 59 61 (.eqn 0 false (.t 60) (.c (.sc (.pointer none)))),io 62 (.pick (.t 59) (.t 61) (ib false)),im 55 62]) (.cond (.t 55) paP (.seq (.reg [io 92 (.fla 0 (.t 15)),io 93 (.ld 1 false (.t 92)),io 94 (.bin .eql (.t 93) (ik 5)),im 91 94]) (.cond (.t 91) (.reg [im 95 5,io 96 (.fla 1 (.t 15)),io 97 (.ld 1 false (.t 96)),io 98 (.call (jf 13) [.t 95,.t 97])]) (.seq (.reg [io 100 (.fla 0 (.t 15)),io 101 (.ld 1 false (.t 100)),io 102 (.bin .eql (.t 101) (ik 6)),im 99 102]) (.cond (.t 99) paC .skip))))))))) (.reg [io 194 (.bin .add (.t 51) (ik 1)),im 51 194]))))):=rfl
theorem akA (cs:List AV):kdO (.cells cs 35) ∉ AKs:=by show 35+3 ∉ AKs;decide
section
variable {D n i X Y gen:Nat} {t:Tok} {l:List Ac} {F:Fr} {H:Zaa} {Q:AEx->Fr->Zaa->Prop} {d:Dv} {p:Pg} {c s:Tx} {top:Int}
theorem Good.gb (h:Good d p gen c s top):gen<=1099511627776:=by
 have h1:=h.g
 have h2:=h.pg.g0.2
 omega
theorem ZNB (hN:∀F' H',LpS D n t l i F' H'->Q .normal F' H') (f5:Fr.get F 5=.ptr D 0) (f9:Fr.get F 9=eS c) (f10:Fr.get F 10=eS s) (f11:Fr.get F 11=.i top) (f12:Fr.get F 12=.i (gen:Int)) (f17:Fr.get F 17=eS c) (f18:Fr.get F 18=eS s) (f19:Fr.get F 19=.ptr Y 0) (f20:Fr.get F 20=.b true) (f49:Fr.get F 49=.sl t (rAc l)) (f50:Fr.get F 50=.i (l.length:Int)) (f51:Fr.get F 51=.i (i:Int)) (gY:H.get Y=some (.cells (eRt p.root) 41)) (h:Good d p gen c s top) (hd:DvX D d H) (hl:d.sec.length=n):AW Tryz.prog pa4 Q F H:=by
 have qr:=trivial
 have qn:=trivial
 have lY:=Zaa.lt gY
 have hpu:d.puts.length<=1000000:=by rw[h.pu];simp
 have hop:=fun(K:Zaa) (hK:DvX D d K)=>ZMq hK h.on hpu
 unfold OpnR at hop
 rw[h.op]at hop
 have n0:((0:Int) != 0)=false:=rfl
 have dc:decide (c=c)=true:=Xc
 have ds:decide (s=s)=true:=Xc
 have dg:((gen:Int) != (gen:Int))=false:=Xc
 have dt:(top != top)=false:=Xc
 have hg:=h.g
 have ht:=h.t
 unfold eRt at gY
 rw[hg,ht]at gY
 unfold pa4
 refine Bz1 (X12 f5 f9 f10 f11 f12 f17 f18 f19 f20 gY dc (X3 ds dg dt)) ?_
 refine Zap.use (hop _ (hd.ext (by exact AXT))) ?_
 refine fun r G q=>?_
 refine q.2.2.elim fun P q3=>q3.elim fun R q3=>q3.elim fun C q3=>q3.elim fun M q3=>q3.elim fun fet q3=>?_
 obtain rfl:=q3.1
 have hB:=q3.2
 rw[hl]at hB
 refine Bz1 (X1 n0) ?_
 exact hN _ _ ⟨by simpa [Fr.get] using f5,by simpa [Fr.get] using f49,by simpa [Fr.get] using f50,by simpa [Fr.get] using f51,d,gen,c,s,top,hl,q.1,by simpa [Fr.get] using f9,by simpa [Fr.get] using f10,by simpa [Fr.get] using f11,by simpa [Fr.get] using f12,.inl ⟨rfl,p,P,R,C,M,[],fet,rfl,h,hB⟩⟩
theorem pa3_same (hN:∀F' H',LpS D n t l i F' H'->Q .normal F' H') (f5:Fr.get F 5=.ptr D 0) (f9:Fr.get F 9=eS c) (f10:Fr.get F 10=eS s) (f11:Fr.get F 11=.i top) (f12:Fr.get F 12=.i (gen:Int)) (f13:Fr.get F 13=.sc (.pointer none)) (f17:Fr.get F 17=eS c) (f18:Fr.get F 18=eS s) (f19:Fr.get F 19=.ptr Y 0) (f20:Fr.get F 20=.b true) (f49:Fr.get F 49=.sl t (rAc l)) (f50:Fr.get F 50=.i (l.length:Int)) (f51:Fr.get F 51=.i (i:Int)) (gY:H.get Y=some (.cells (eRt p.root) 41)) (h:Good d p gen c s top) (hd:DvX D d H) (hl:d.sec.length=n):AW Tryz.prog pa3 Q F H:=by
 have qr:=trivial
 have qn:=trivial
 have lY:=Zaa.lt gY
 have gY':=gY
 unfold eRt at gY
 unfold pa3
 refine Bz1 (X4 f13 f20 f19 gY) ?_
 exact ZNB hN (by simpa [Fr.get] using f5) (by simpa [Fr.get] using f9) (by simpa [Fr.get] using f10) (by simpa [Fr.get] using f11) (by simpa [Fr.get] using f12) (by simpa [Fr.get] using f17) (by simpa [Fr.get] using f18) (by simpa [Fr.get] using f19) (by simpa [Fr.get] using f20) (by simpa [Fr.get] using f49) (by simpa [Fr.get] using f50) (by simpa [Fr.get] using f51) gY' h hd hl
theorem pa3_old {W:Nat} {A B:Tx} {N:Int} (hN:∀F' H',LpS D n t l i F' H'->Q .normal F' H') (f5:Fr.get F 5=.ptr D 0) (f9:Fr.get F 9=eS c) (f10:Fr.get F 10=eS s) (f11:Fr.get F 11=.i top) (f12:Fr.get F 12=.i (gen:Int)) (f13:Fr.get F 13=.ptr W 0) (f17:Fr.get F 17=eS c) (f18:Fr.get F 18=eS s) (f19:Fr.get F 19=.ptr Y 0) (f20:Fr.get F 20=.b true) (f49:Fr.get F 49=.sl t (rAc l)) (f50:Fr.get F 50=.i (l.length:Int)) (f51:Fr.get F 51=.i (i:Int)) (gW:H.get W=some (.cells [.i 0,.i N,.i 0,eS A,eS B,.sl .full []] 35)) (gY:H.get Y=some (.cells (eRt p.root) 41)) (h:Good d p gen c s top) (hd:DvX D d H) (hl:d.sec.length=n):AW Tryz.prog pa3 Q F H:=by
 have qr:=trivial
 have qn:=trivial
 have lY:=Zaa.lt gY
 have gY':=gY
 have hgb:=h.gb
 have w1:IntKind.i64.wrap ((gen:Int)+1)=(gen:Int)+1:=Zaw Xa Xa
 have d1:((gen:Int) == (gen:Int)+1)=false:=by simp only[beq_eq_false_iff_ne,ne_eq];omega
 have hg:=h.g
 unfold eRt at gY
 rw[hg]at gY
 unfold pa3
 ((have hd:=tv;repeat' first|(first|apply Zad|apply Zac|apply Zab)<;>intro hd<;>try simp only[hd]|simp(disch:=first|assumption|omega|simp only[nx]<;>omega|fail)only[hd,qr,qn,Zxe,↓YA,YY,↓reduceIte,Nat.reduceEqDiff,Nat.reduceAdd,Nat.reduceMul,Nat.reduceLeDiff,Int.reduceToNat,Int.reduceLE,Int.reduceLT,Int.reduceGT,Int.reduceGE,Int.reduceAdd,Int.reduceSub,Int.reduceNeg,Int.reduceBEq,Int.reduceBNe,f13,f20,f19,f12,gY,gW,w1,d1])<;>try revert hd;refine ttr ?_)
 exact ZNB hN (by simpa [Fr.get] using f5) (by simpa [Fr.get] using f9) (by simpa [Fr.get] using f10) (by simpa [Fr.get] using f11) (by simpa [Fr.get] using f12) (by simpa [Fr.get] using f17) (by simpa [Fr.get] using f18) (by simpa [Fr.get] using f19) (by simpa [Fr.get] using f20) (by simpa [Fr.get] using f49) (by simpa [Fr.get] using f50) (by simpa [Fr.get] using f51) gY' h hd hl
theorem pa3_new {W:Nat} {A B:Tx} {N:Int} (hN:∀F' H',LpS D n t l i F' H'->Q .normal F' H') (f5:Fr.get F 5=.ptr D 0) (f9:Fr.get F 9=eS c) (f10:Fr.get F 10=eS s) (f11:Fr.get F 11=.i top) (f12:Fr.get F 12=.i (gen:Int)) (f13:Fr.get F 13=.ptr W 0) (f17:Fr.get F 17=eS A) (f18:Fr.get F 18=eS B) (f19:Fr.get F 19=.ptr Y 0) (f20:Fr.get F 20=.b true) (f49:Fr.get F 49=.sl t (rAc l)) (f50:Fr.get F 50=.i (l.length:Int)) (f51:Fr.get F 51=.i (i:Int)) (gW:H.get W=some (.cells [.i 0,.i N,.i 0,eS A,eS B,.sl .full []] 35)) (gY:H.get Y=some (.cells (eRt p.root) 41)) (h:Good d p (gen+1) A B N) (hd:DvX D d H) (hl:d.sec.length=n):AW Tryz.prog pa3 Q F H:=by
 have qr:=trivial
 have qn:=trivial
 have lY:=Zaa.lt gY
 have lW:=Zaa.lt gW
 have gY':=gY
 have hgb:=h.gb
 have w1:IntKind.i64.wrap ((gen:Int)+1)=((gen+1:Nat):Int):=by rw[Zaw Xa Xa];omega
 have d1:(((gen+1:Nat):Int) == ((gen+1:Nat):Int))=true:=Xc
 have dA:decide (A=A)=true:=Xc
 have dB:decide (B=B)=true:=Xc
 have dN:(N == N)=true:=Xc
 have hg:=h.g
 have ht:=h.t
 unfold eRt at gY
 rw[hg,ht]at gY
 unfold pa3
 ((have hd:=tv;repeat' first|(first|apply Zad|apply Zac|apply Zab)<;>intro hd<;>try simp only[hd]|simp(disch:=first|assumption|omega|simp only[nx]<;>omega|fail)only[hd,qr,qn,Zxe,↓YA,YY,↓reduceIte,Nat.reduceEqDiff,Nat.reduceAdd,Nat.reduceMul,Nat.reduceLeDiff,Int.reduceToNat,Int.reduceLE,Int.reduceLT,Int.reduceGT,Int.reduceGE,Int.reduceAdd,Int.reduceSub,Int.reduceNeg,Int.reduceBEq,Int.reduceBNe,f13,f20,f19,f12,f17,f18,gY,gW,w1,d1,dA,dB,dN])<;>try revert hd;refine ttr ?_)
 exact ZNB hN (by simpa [Fr.get] using f5) rfl rfl rfl rfl (by simpa [Fr.get] using f17) (by simpa [Fr.get] using f18) (by simpa [Fr.get] using f19) (by simpa [Fr.get] using f20) (by simpa [Fr.get] using f49) (by simpa [Fr.get] using f50) (by simpa [Fr.get] using f51) gY' h hd hl
def DvC (D:Nat) (d':Dv) (H:Zaa) (v r:AV) (G:Zaa):Prop:=r=v/\DvX D d' G/\KD DKs H G
theorem dev_x {S:Nat} {rd:Int} {v:AV} {d':Dv} {f:FuncId} {args:List AV} (h:ZL5 D S t d rd H) (hs:Zay Tryz.prog f args H (ZL0 D S t H v d')):Zay Tryz.prog f args H (DvC D d' H v) :=
 Zay.mono hs fun r G ⟨e,⟨t',rd',k,_⟩,kf⟩=>⟨e,⟨S,t',rd',k⟩,h.kd kf⟩
theorem ZOl (hd:DvX D d H) (tk:Tok) (keep:List Int) (torn b:Int) (hp:d.puts.length<=1000000) (hk:keep.length<=9223372036854775807):Zay Tryz.prog 14 [.ptr D 0,.sl tk (rI keep),.i torn,.i b] H (DvC D (d.cut keep torn b) H (.i 0)):=by
 obtain⟨S,t,rd,h⟩:=hd
 exact dev_x h (ZRg h tk keep torn b hp hk)
theorem ZNM (hd:DvX D d H):Zay Tryz.prog 15 [.ptr D 0] H (DvC D d.bot H (.i 0)):=by
 obtain⟨S,t,rd,h⟩:=hd
 exact dev_x h (ZP1 h)
theorem ZNL (hd:DvX D d H) (k:Int) (hk:k<=9223372036854775807):Zay Tryz.prog 13 [.ptr D 0,.i k] H (DvC D (d.set k).1 H (.i (d.set k).2)):=by
 obtain⟨S,t,rd,h⟩:=hd
 exact dev_x h (ZPS h k hk)
theorem ZOa (f5:Fr.get F 5=.ptr D 0) (h:Good d p gen c s top) (hd:DvX D d H) (hk:∀F' G Y,Fr.get F' 5=Fr.get F 5/\Fr.get F' 9=Fr.get F 9/\Fr.get F' 10=Fr.get F 10/\Fr.get F' 11=Fr.get F 11/\Fr.get F' 12=Fr.get F 12/\Fr.get F' 13=Fr.get F 13/\Fr.get F' 49=Fr.get F 49/\Fr.get F' 50=Fr.get F 50/\Fr.get F' 51=Fr.get F 51->Fr.get F' 17=eS c->Fr.get F' 18=eS s->Fr.get F' 19=.ptr Y 0->Fr.get F' 20=.b true->G.get Y=some (.cells (eRt p.root) 41)->DvX D d G->KD AKs H G->AW Tryz.prog pa3 Q F' G):AW Tryz.prog pa2 Q F H:=by
 have qr:=trivial
 have qn:=trivial
 have hv:=ZOB h hd
 have hx6:(eRt p.root)=[.i p.root.gen,.i p.root.pages,.i p.root.map,.i p.root.cat,.i p.root.nodes,.i p.root.top]:=rfl
 unfold VerR at hv
 rw[hx6]at hv hk
 unfold pa2
 refine Bz1 (X1 f5) ?_
 refine Zap.use hv ?_
 refine fun r G q=>?_
 obtain rfl:=q.1
 ((have hd:=tv;repeat' first|(first|apply Zad|apply Zac|apply Zab)<;>intro hd<;>try simp only[hd]|simp(disch:=first|assumption|omega|simp only[nx]<;>omega|fail)only[hd,qr,qn,Zxe,↓YA,YY,↓reduceIte,Nat.reduceEqDiff,Nat.reduceAdd,Nat.reduceMul,Nat.reduceLeDiff,Int.reduceToNat,Int.reduceLE,Int.reduceLT,Int.reduceGT,Int.reduceGE,Int.reduceAdd,Int.reduceSub,Int.reduceNeg,Int.reduceBEq,Int.reduceBNe,za2])<;>try revert hd;refine ttr ?_)
 exact hk _ _ _ (by simp[Fr.get]) rfl rfl rfl rfl Zaa.Zae (q.2.1.ext (by exact AXT)) (q.2.2.trans (KD.ext (by exact AXT)))
structure AcIn (a:Ac):Prop where
 n:InI a.n
 m:InI a.m
 la:a.a.length<=9223372036854775807
 lb:a.b.length<=9223372036854775807
 lk:a.keep.length<=9223372036854775807
theorem ZOV (d:Dv) (keep:List Int) (torn b:Int):(d.cut keep torn b).bot.sec.length=d.sec.length:=ZMr _ _ _
theorem paC_good {a:Ac} (hN:∀F' H',LpS D n t l i F' H'->Q .normal F' H') (f5:Fr.get F 5=.ptr D 0) (f9:Fr.get F 9=eS c) (f10:Fr.get F 10=eS s) (f11:Fr.get F 11=.i top) (f12:Fr.get F 12=.i (gen:Int)) (f13:Fr.get F 13=.sc (.pointer none)) (f49:Fr.get F 49=.sl t (rAc l)) (f50:Fr.get F 50=.i (l.length:Int)) (f51:Fr.get F 51=.i (i:Int)) (f15:Fr.get F 15=.ptr X 0) (gX:H.get X=some (.cells (eAc a) 35)) (ha:AcIn a) (h:Good d p gen c s top) (hd:DvX D d H) (hl:d.sec.length=n):AW Tryz.prog paC Q F H:=by
 have hpu:d.puts.length<=1000000:=by rw[h.pu];simp
 have h2:=h.cut a.keep a.n a.m
 have qr:=trivial
 have qn:=trivial
 have hc:=ZOl hd .no a.keep a.n a.m hpu ha.lk
 have hb:=fun(G:Zaa) (hG:DvX D (d.cut a.keep a.n a.m) G)=>ZNM hG
 unfold eAc at gX
 unfold paC
 refine Bz1 (X3 f5 f15 gX) ?_
 refine Zap.use hc ?_
 refine fun r G q=>?_
 obtain rfl:=q.1
 refine Bz1 (X1 f5) ?_
 refine Zap.use (hb _ q.2.1) ?_
 refine fun r G2 q2=>?_
 obtain rfl:=q2.1
 refine Bz1 (X1 f5) ?_
 have kd:=(q.2.2.trans q2.2.2).mono (js:=DKs) (ks:=AKs) fun x hx=>zaJ _ hx
 refine ZOa (by simpa [Fr.get] using f5) h2 q2.2.1 fun F' G Y hf e17 e18 e19 e20 gY hd2 k2=>?_
 obtain⟨g5,g9,g10,g11,g12,g13,g49,g50,g51⟩:=hf
 simp only[Fr.get,↓reduceIte,Nat.reduceEqDiff]at g5 g9 g10 g11 g12 g13 g49 g50 g51
 exact pa3_same hN (g5.trans f5) (g9.trans f9) (g10.trans f10) (g11.trans f11) (g12.trans f12) (g13.trans f13) e17 e18 e19 e20 (g49.trans f49) (g50.trans f50) (g51.trans f51) gY h2 hd2 ((ZOV ..).trans hl)
theorem paC_half {a:Ac} {W:Nat} {A B:Tx} {N:Int} (hN:∀F' H',LpS D n t l i F' H'->Q .normal F' H') (f5:Fr.get F 5=.ptr D 0) (f9:Fr.get F 9=eS c) (f10:Fr.get F 10=eS s) (f11:Fr.get F 11=.i top) (f12:Fr.get F 12=.i (gen:Int)) (f13:Fr.get F 13=.ptr W 0) (gW:H.get W=some (.cells [.i 0,.i N,.i 0,eS A,eS B,.sl .full []] 35)) (f49:Fr.get F 49=.sl t (rAc l)) (f50:Fr.get F 50=.i (l.length:Int)) (f51:Fr.get F 51=.i (i:Int)) (f15:Fr.get F 15=.ptr X 0) (gX:H.get X=some (.cells (eAc a) 35)) (ha:AcIn a) (h:Half d gen c s top A B N) (hd:DvX D d H) (hl:d.sec.length=n):AW Tryz.prog paC Q F H:=by
 have hpu:d.puts.length<=1000000:=zaG h.pu Xa
 have qr:=trivial
 have qn:=trivial
 have hc:=ZOl hd .no a.keep a.n a.m hpu ha.lk
 have hb:=fun(G:Zaa) (hG:DvX D (d.cut a.keep a.n a.m) G)=>ZNM hG
 unfold eAc at gX
 unfold paC
 refine Bz1 (X3 f5 f15 gX) ?_
 refine Zap.use hc ?_
 refine fun r G q=>?_
 obtain rfl:=q.1
 refine Bz1 (X1 f5) ?_
 refine Zap.use (hb _ q.2.1) ?_
 refine fun r G2 q2=>?_
 obtain rfl:=q2.1
 refine Bz1 (X1 f5) ?_
 have kd:=(q.2.2.trans q2.2.2).mono (js:=DKs) (ks:=AKs) fun x hx=>zaJ _ hx
 have gW2:=kd.g _ _ (akA _) gW
 rcases h.cut a.keep a.n a.m with⟨p,h2⟩|⟨p,h2⟩
 ·refine ZOa (by simpa [Fr.get] using f5) h2 q2.2.1 fun F' G Y hf e17 e18 e19 e20 gY hd2 k2=>?_
  obtain⟨g5,g9,g10,g11,g12,g13,g49,g50,g51⟩:=hf
  simp only[Fr.get,↓reduceIte,Nat.reduceEqDiff]at g5 g9 g10 g11 g12 g13 g49 g50 g51
  exact pa3_old hN (g5.trans f5) (g9.trans f9) (g10.trans f10) (g11.trans f11) (g12.trans f12) (g13.trans f13) e17 e18 e19 e20 (g49.trans f49) (g50.trans f50) (g51.trans f51) (k2.g _ _ (akA _) gW2) gY h2 hd2 ((ZOV ..).trans hl)
 ·refine ZOa (by simpa [Fr.get] using f5) h2 q2.2.1 fun F' G Y hf e17 e18 e19 e20 gY hd2 k2=>?_
  obtain⟨g5,g9,g10,g11,g12,g13,g49,g50,g51⟩:=hf
  simp only[Fr.get,↓reduceIte,Nat.reduceEqDiff]at g5 g9 g10 g11 g12 g13 g49 g50 g51
  exact pa3_new hN (g5.trans f5) (g9.trans f9) (g10.trans f10) (g11.trans f11) (g12.trans f12) (g13.trans f13) e17 e18 e19 e20 (g49.trans f49) (g50.trans f50) (g51.trans f51) (k2.g _ _ (akA _) gW2) gY h2 hd2 ((ZOV ..).trans hl)
theorem ZRN {a:Ac} {P R C M:Nat} {its:Its} {fet:Int} (hN:∀F' H',LpS D n t l i F' H'->Q .normal F' H') (f5:Fr.get F 5=.ptr D 0) (f9:Fr.get F 9=eS c) (f10:Fr.get F 10=eS s) (f11:Fr.get F 11=.i top) (f12:Fr.get F 12=.i (gen:Int)) (f13:Fr.get F 13=.sc (.pointer none)) (f7:Fr.get F 7=.ptr P 0) (f49:Fr.get F 49=.sl t (rAc l)) (f50:Fr.get F 50=.i (l.length:Int)) (f51:Fr.get F 51=.i (i:Int)) (f15:Fr.get F 15=.ptr X 0) (gX:H.get X=some (.cells (eAc a) 35)) (ha:AcIn a) (h:Good d p gen c s top) (hd:DvX D d H) (hl:d.sec.length=n) (hp:PgB D P R C M p false its fet (ofP n) H):AW Tryz.prog paP Q F H:=by
 have qr:=trivial
 have qn:=trivial
 have hpu:d.puts.length<=900000:=by rw[h.pu];simp
 have hgb:=h.gb
 have hg:=h.g
 have hpp:=ZMH (by rw[hl]) hd hp a.a a.b a.n ha.n Xa ha.la ha.lb hpu
 have hsl:=ZQv d p false its a.a a.b a.n
 rw[hl]at hsl
 have w1:IntKind.i64.wrap ((gen:Int)+1)=((gen+1:Nat):Int):=by rw[Zaw Xa Xa];omega
 have b00:((0:Int) == 0)=true:=rfl
 have b08:((0:Int) == 8)=false:=rfl
 have b80:((8:Int) == 0)=false:=rfl
 have b88:((8:Int) == 8)=true:=rfl
 have lX:=Zaa.lt gX
 have gX0:=gX
 unfold eAc at gX
 rcases pub_law h a.a a.b a.n its with⟨p',its',e1,hG⟩|⟨p',br,its',e1,hH⟩|⟨e,e0,e8,e1⟩
 ·rw[e1]at hpp
  generalize (ZNd d p false its a.a a.b a.n).d=d2 at *
  unfold paP
  refine Bz1 (X3 f7 f15 gX) ?_
  refine Zap.use hpp ?_
  refine fun r G q=>?_
  have q1:=q.1
  have q2:=q.2
  obtain rfl:=q1
  have gX2:=q2.k.g _ _ (akA _) gX
  refine Bz1 (X6 f15 gX2 b00 b08 f12 w1) ?_
  exact hN _ _ ⟨by simpa [Fr.get] using f5,by simpa [Fr.get] using f49,by simpa [Fr.get] using f50,by simpa [Fr.get] using f51,d2,gen+1,a.a,a.b,a.n,hsl,q2.d,rfl,rfl,rfl,rfl,.inl ⟨by simpa [Fr.get] using f13,p',P,R,C,M,its',fet,by simpa [Fr.get] using f7,hG,q2.p⟩⟩
 ·rw[e1]at hpp
  generalize (ZNd d p false its a.a a.b a.n).d=d2 at *
  unfold paP
  refine Bz1 (X3 f7 f15 gX) ?_
  refine Zap.use hpp ?_
  refine fun r G q=>?_
  have q1:=q.1
  have q2:=q.2
  obtain rfl:=q1
  have gX2:=q2.k.g _ _ (akA _) gX
  ((have hd:=tv;repeat' first|(first|apply Zad|apply Zac|apply Zab)<;>intro hd<;>try simp only[hd]|simp(disch:=first|assumption|omega|simp only[nx]<;>omega|fail)only[hd,qr,qn,Zxe,↓YA,YY,↓reduceIte,Nat.reduceEqDiff,Nat.reduceAdd,Nat.reduceMul,Nat.reduceLeDiff,Int.reduceToNat,Int.reduceLE,Int.reduceLT,Int.reduceGT,Int.reduceGE,Int.reduceAdd,Int.reduceSub,Int.reduceNeg,Int.reduceBEq,Int.reduceBNe,f15,gX2,b80,b88,zl1])<;>try revert hd;refine ttr ?_)
  exact hN _ _ ⟨by simpa [Fr.get] using f5,by simpa [Fr.get] using f49,by simpa [Fr.get] using f50,by simpa [Fr.get] using f51,d2,gen,c,s,top,hsl,q2.d.ext (by exact AXT),by simpa [Fr.get] using f9,by simpa [Fr.get] using f10,by simpa [Fr.get] using f11,by simpa [Fr.get] using f12,.inr ⟨_,a.a,a.b,a.n,rfl,Zaa.Zae,hH⟩⟩
 ·have b0:(e == 0)=false:=by simpa using e0
  have b8:(e == 8)=false:=by simpa using e8
  rw[e1]at hpp
  unfold paP
  refine Bz1 (X3 f7 f15 gX) ?_
  refine Zap.use hpp ?_
  refine fun r G q=>?_
  have q1:=q.1
  have q2:=q.2
  obtain rfl:=q1
  refine Bz1 (X3 f15 b0 b8) ?_
  exact hN _ _ ⟨by simpa [Fr.get] using f5,by simpa [Fr.get] using f49,by simpa [Fr.get] using f50,by simpa [Fr.get] using f51,d,gen,c,s,top,hl,q2.d,by simpa [Fr.get] using f9,by simpa [Fr.get] using f10,by simpa [Fr.get] using f11,by simpa [Fr.get] using f12,.inl ⟨by simpa [Fr.get] using f13,p,P,R,C,M,its,fet,by simpa [Fr.get] using f7,h,q2.p⟩⟩
end
open Go.RowKit Go.Lib
section
variable {D n i j:Nat} {t:Tok} {l:List Ac} {F G:Fr} {H K:Zaa}
theorem LpS.mv (h:LpS D n t l i F H) (e:Fr.get G 5=Fr.get F 5/\Fr.get G 7=Fr.get F 7/\Fr.get G 9=Fr.get F 9/\Fr.get G 10=Fr.get F 10/\Fr.get G 11=Fr.get F 11/\Fr.get G 12=Fr.get F 12/\Fr.get G 13=Fr.get F 13/\Fr.get G 49=Fr.get F 49/\Fr.get G 50=Fr.get F 50) (e51:Fr.get G 51=.i (j:Int)):LpS D n t l j G H:=by
 obtain⟨g5,g7,g9,g10,g11,g12,g13,g49,g50⟩:=e
 obtain⟨h5,h49,h50,h51,d,gen,c,s,top,hl,hd,h9,h10,h11,h12,hw⟩:=h
 refine⟨g5.trans h5,g49.trans h49,g50.trans h50,e51,d,gen,c,s,top,hl,hd,g9.trans h9,g10.trans h10,g11.trans h11,g12.trans h12,?_⟩
 rw[g13,g7]
 exact hw
theorem LpS.ext (h:LpS D n t l i F H) (k:Zaa.Ext H K):LpS D n t l i F K:=by
 obtain⟨h5,h49,h50,h51,d,gen,c,s,top,hl,hd,h9,h10,h11,h12,hw⟩:=h
 refine⟨h5,h49,h50,h51,d,gen,c,s,top,hl,hd.ext k,h9,h10,h11,h12,?_⟩
 rcases hw with⟨h13,p,P,R,C,M,its,fet,h7,hG,hp⟩|⟨Y,A,B,N,h13,gY,hh⟩
 ·exact .inl ⟨h13,p,P,R,C,M,its,fet,h7,hG,hp.ext k⟩
 ·exact .inr ⟨Y,A,B,N,h13,k.get _ _ gY,hh⟩
end
theorem set_secs (d:Dv) (k:Int):(d.set k).1.sec=d.sec:=by
 unfold Dv.set
 split
 ·rfl
 ·split<;>rfl
theorem ZQ7 (n:Int) (t:Tok) (l:List Ac) (H:Zaa) (hl:∀a∈l,AcIn a):Zay Tryz.prog 3 [.i n,.sl t (rAc l)] H AwkR:=by
 have hfw:=fun K=>Zs8 t l K
 have haw:=fun K=>ZPH K
 have awk:∀(r:AV) (G:Zaa),AwkR r G->r=.b true:=fun r G h=>h
 by_cases c1:n<16
 ·have d1:decide (n<16)=true:=decide_eq_true c1
  refine fnQ cf3 fun Q qr qn=>?_
  ((have hd:=tv;repeat' first|(first|apply Zad|apply Zac|apply Zab)<;>intro hd<;>try simp only[hd]|simp(disch:=first|assumption|omega|simp only[nx]<;>omega|fail)only[hd,qr,qn,Zxe,↓YA,YY,↓reduceIte,Nat.reduceEqDiff,Nat.reduceAdd,Nat.reduceMul,Nat.reduceLeDiff,Int.reduceToNat,Int.reduceLE,Int.reduceLT,Int.reduceGT,Int.reduceGE,Int.reduceAdd,Int.reduceSub,Int.reduceNeg,Int.reduceBEq,Int.reduceBNe,d1])<;>try revert hd;refine ttr ?_)
  refine Zap.use (haw _) ?_
  refine fun r G q=>?_
  obtain rfl:=awk r G q
  refine Bz0 ?_
  exact Zaq rfl
 have d1:decide (n<16)=false:=decide_eq_false c1
 by_cases c2:n > 60
 ·have d2:decide (n > 60)=true:=decide_eq_true c2
  refine fnQ cf3 fun Q qr qn=>?_
  ((have hd:=tv;repeat' first|(first|apply Zad|apply Zac|apply Zab)<;>intro hd<;>try simp only[hd]|simp(disch:=first|assumption|omega|simp only[nx]<;>omega|fail)only[hd,qr,qn,Zxe,↓YA,YY,↓reduceIte,Nat.reduceEqDiff,Nat.reduceAdd,Nat.reduceMul,Nat.reduceLeDiff,Int.reduceToNat,Int.reduceLE,Int.reduceLT,Int.reduceGT,Int.reduceGE,Int.reduceAdd,Int.reduceSub,Int.reduceNeg,Int.reduceBEq,Int.reduceBNe,d1,d2])<;>try revert hd;refine ttr ?_)
  refine Zap.use (haw _) ?_
  refine fun r G q=>?_
  obtain rfl:=awk r G q
  refine Bz0 ?_
  exact Zaq rfl
 have d2:decide (n > 60)=false:=decide_eq_false c2
 obtain⟨m,rfl⟩:∃m:Nat,n=(m:Int):=⟨n.toNat,Xa⟩
 have hN:=fun K=>ZOr m K Xa Xa
 have hg0:=ZOK (n:=m) Xa Xa
 have hop:=fun(D:Nat) (K:Zaa) (hK:DvX D (ZN6 m) K)=>ZMq hK hg0.on (by rw[hg0.pu];simp)
 unfold OpnR at hop
 rw[hg0.op]at hop
 have hm0:(ZN6 m).sec.length=m:=zaZ
 have n0:((0:Int) != 0)=false:=rfl
 refine fnQ cf3 fun Q qr qn=>?_
 ((have hd:=tv;repeat' first|(first|apply Zad|apply Zac|apply Zab)<;>intro hd<;>try simp only[hd]|simp(disch:=first|assumption|omega|simp only[nx]<;>omega|fail)only[hd,qr,qn,Zxe,↓YA,YY,↓reduceIte,Nat.reduceEqDiff,Nat.reduceAdd,Nat.reduceMul,Nat.reduceLeDiff,Int.reduceToNat,Int.reduceLE,Int.reduceLT,Int.reduceGT,Int.reduceGE,Int.reduceAdd,Int.reduceSub,Int.reduceNeg,Int.reduceBEq,Int.reduceBNe,d1,d2])<;>try revert hd;refine ttr ?_)
 refine Zap.use (hfw _) ?_
 refine fun r G q=>?_
 refine q.2.elim fun b q2=>?_
 obtain rfl:=q2.1
 have hb:=q2.2
 clear q q2
 cases b with
 | false =>
  refine Bz0 ?_
  refine Zap.use (haw _) ?_
  refine fun r G q=>?_
  obtain rfl:=awk r G q
  refine Bz0 ?_
  exact Zaq rfl
 | true =>
 have hlen:=hb rfl
 refine Bz0 ?_
 refine Zap.use (hN _) ?_
 refine fun r G q=>?_
 refine q.elim fun D q=>q.elim fun S q=>?_
 obtain rfl:=q.1
 have hd:DvX D (ZN6 m) G:=⟨S,.full,0,q.2.1⟩
 refine Bz1 (X1 n0) ?_
 refine Zap.use (hop _ _ hd) ?_
 refine fun r G2 q2=>?_
 refine q2.2.2.elim fun P q3=>q3.elim fun R q3=>q3.elim fun C q3=>q3.elim fun M q3=>q3.elim fun fet q3=>?_
 obtain rfl:=q3.1
 have hB:=q3.2
 rw[hm0]at hB
 have hd2:=q2.1
 refine Bz3 (X1 n0) ?_
 rw[ZSE,Za8]
 refine Zg1 (fun k F K=>∃i:Nat,i<=l.length/\k=l.length - i/\LpS D m t l i F K) l.length (GStep.refl _ _) ⟨0,Xa,rfl,rfl,rfl,rfl,rfl,ZN6 m,0,[],[],0,hm0,hd2,rfl,rfl,rfl,rfl,.inl ⟨rfl,.nil,P,R,C,M,[],fet,rfl,hg0,hB⟩⟩ ?_
 rintro k F K ⟨i,hi,rfl,hs⟩
 have hs0:=hs
 obtain⟨f5,f49,f50,f51,d,gen,c,s,top,hl2,hdK,f9,f10,f11,f12,hw⟩:=hs
 by_cases hlt:i<l.length
 ·have d3:decide ((i:Int)<(l.length:Int))=true:=decide_eq_true Xa
  have ha:=hl _ (zau hlt)
  have w1:IntKind.i64.wrap ((i:Int)+1)=((i+1:Nat):Int):=by rw[Zaw Xa Xa];omega
  have e6:(eAc l[i]).length=6:=rfl
  have e0:(eAc l[i])[0]?=some (.i l[i].k):=rfl
  have h0:(0:Int)<=(i:Int):=Xa
  have t6:List.take 6 (eAc l[i])=eAc l[i]:=rfl
  have d6:List.drop 6 ([AV.sc (.int .i64 0),.sc (.int .i64 0),.sc (.int .i64 0),.sc (.string ⟨#[]⟩),.sc (.string ⟨#[]⟩),.sl .full []]:List AV)=[]:=rfl
  clear q q2 q3 hN hop hfw hg0 hB hd2
  have hx:Zaa.Ext K (K.alloc (.cells (eAc l[i]) 35)):=by exact AXT
  have gA:(K.alloc (.cells (eAc l[i]) 35)).get K.next=some (.cells (eAc l[i]) 35):=Zaa.Zae
  have hdA:=hdK.ext hx
  rcases hw with⟨f13,p,P,R,C,M,its,fet,f7,hG,hp⟩|⟨Y,A,B,N,f13,gY,hh⟩
  ·have hpA:=hp.ext hx
   by_cases k1:l[i].k=1
   ·have dk1:(l[i].k == 1)=true:=by simp only[beq_iff_eq];omega
    have dk5:(l[i].k == 5)=false:=by simp only[beq_eq_false_iff_ne,ne_eq];omega
    have dk6:(l[i].k == 6)=false:=by simp only[beq_eq_false_iff_ne,ne_eq];omega
    ((have hd:=tv;repeat' first|(first|apply Zad|apply Zac|apply Zab)<;>intro hd<;>try simp only[hd]|simp(disch:=first|assumption|omega|simp only[nx]<;>omega|fail)only[hd,qr,qn,Zxe,↓YA,YY,↓reduceIte,Nat.reduceEqDiff,Nat.reduceAdd,Nat.reduceMul,Nat.reduceLeDiff,Int.reduceToNat,Int.reduceLE,Int.reduceLT,Int.reduceGT,Int.reduceGE,Int.reduceAdd,Int.reduceSub,Int.reduceNeg,Int.reduceBEq,Int.reduceBNe,f5,f49,f50,f51,f13,d3,zam,e6,e0,t6,d6,zaI,h0,hlt,dk1,dk5,dk6,za0])<;>try revert hd;refine ttr ?_)
    refine ZRN (fun F' H' hs=>?_) (by simpa [Fr.get] using f5) (by simpa [Fr.get] using f9) (by simpa [Fr.get] using f10) (by simpa [Fr.get] using f11) (by simpa [Fr.get] using f12) (by simpa [Fr.get] using f13) (by simpa [Fr.get] using f7) (by simpa [Fr.get] using f49) (by simpa [Fr.get] using f50) (by simpa [Fr.get] using f51) rfl gA ha hG hdA hl2 hpA
    have g51:=hs.2.2.2.1
    refine Bz1 (X2 g51 w1) ?_
    exact⟨_,Xa,i+1,Xa,rfl,hs.mv ⟨by simp[Fr.get],by simp[Fr.get],by simp[Fr.get],by simp[Fr.get],by simp[Fr.get],by simp[Fr.get],by simp[Fr.get],by simp[Fr.get],by simp[Fr.get]⟩ rfl⟩
   ·by_cases k5:l[i].k=5
    ·have dk1:(l[i].k == 1)=false:=by simp only[beq_eq_false_iff_ne,ne_eq];omega
     have dk5:(l[i].k == 5)=true:=by simp only[beq_iff_eq];omega
     have dk6:(l[i].k == 6)=false:=by simp only[beq_eq_false_iff_ne,ne_eq];omega
     have e1:(eAc l[i])[1]?=some (.i l[i].n):=rfl
     ((have hd:=tv;repeat' first|(first|apply Zad|apply Zac|apply Zab)<;>intro hd<;>try simp only[hd]|simp(disch:=first|assumption|omega|simp only[nx]<;>omega|fail)only[hd,qr,qn,Zxe,↓YA,YY,↓reduceIte,Nat.reduceEqDiff,Nat.reduceAdd,Nat.reduceMul,Nat.reduceLeDiff,Int.reduceToNat,Int.reduceLE,Int.reduceLT,Int.reduceGT,Int.reduceGE,Int.reduceAdd,Int.reduceSub,Int.reduceNeg,Int.reduceBEq,Int.reduceBNe,f5,f49,f50,f51,f13,d3,zam,e6,e0,t6,d6,zaI,h0,hlt,dk1,dk5,dk6,za0,e1])<;>try revert hd;refine ttr ?_)
     refine Zap.use (ZNL hdA l[i].n ha.n.2) ?_
     refine fun r G2 q=>?_
     obtain rfl:=q.1
     have hG2:=hG.ZMg l[i].n ha.n.2
     have hd2:=q.2.1
     have hp2:=hpA.keep q.2.2 Xb
     have hl3:(d.set l[i].n).1.sec.length=m:=by rw[set_secs];exact hl2
     refine Bz1 (X2 f51 w1) ?_
     exact⟨_,Xa,i+1,Xa,rfl,by simpa [Fr.get] using f5,by simpa [Fr.get] using f49,by simpa [Fr.get] using f50,rfl,(d.set l[i].n).1,gen,c,s,top,hl3,hd2,by simpa [Fr.get] using f9,by simpa [Fr.get] using f10,by simpa [Fr.get] using f11,by simpa [Fr.get] using f12,.inl ⟨by simpa [Fr.get] using f13,p,P,R,C,M,its,fet,by simpa [Fr.get] using f7,hG2,hp2⟩⟩
    ·by_cases k6:l[i].k=6
     ·have dk1:(l[i].k == 1)=false:=by simp only[beq_eq_false_iff_ne,ne_eq];omega
      have dk5:(l[i].k == 5)=false:=by simp only[beq_eq_false_iff_ne,ne_eq];omega
      have dk6:(l[i].k == 6)=true:=by simp only[beq_iff_eq];omega
      ((have hd:=tv;repeat' first|(first|apply Zad|apply Zac|apply Zab)<;>intro hd<;>try simp only[hd]|simp(disch:=first|assumption|omega|simp only[nx]<;>omega|fail)only[hd,qr,qn,Zxe,↓YA,YY,↓reduceIte,Nat.reduceEqDiff,Nat.reduceAdd,Nat.reduceMul,Nat.reduceLeDiff,Int.reduceToNat,Int.reduceLE,Int.reduceLT,Int.reduceGT,Int.reduceGE,Int.reduceAdd,Int.reduceSub,Int.reduceNeg,Int.reduceBEq,Int.reduceBNe,f5,f49,f50,f51,f13,d3,zam,e6,e0,t6,d6,zaI,h0,hlt,dk1,dk5,dk6,za0])<;>try revert hd;refine ttr ?_)
      refine paC_good (fun F' H' hs=>?_) (by simpa [Fr.get] using f5) (by simpa [Fr.get] using f9) (by simpa [Fr.get] using f10) (by simpa [Fr.get] using f11) (by simpa [Fr.get] using f12) (by simpa [Fr.get] using f13) (by simpa [Fr.get] using f49) (by simpa [Fr.get] using f50) (by simpa [Fr.get] using f51) rfl gA ha hG hdA hl2
      have g51:=hs.2.2.2.1
      refine Bz1 (X2 g51 w1) ?_
      exact⟨_,Xa,i+1,Xa,rfl,hs.mv ⟨by simp[Fr.get],by simp[Fr.get],by simp[Fr.get],by simp[Fr.get],by simp[Fr.get],by simp[Fr.get],by simp[Fr.get],by simp[Fr.get],by simp[Fr.get]⟩ rfl⟩
     ·have dk1:(l[i].k == 1)=false:=by simp only[beq_eq_false_iff_ne,ne_eq];omega
      have dk5:(l[i].k == 5)=false:=by simp only[beq_eq_false_iff_ne,ne_eq];omega
      have dk6:(l[i].k == 6)=false:=by simp only[beq_eq_false_iff_ne,ne_eq];omega
      ((have hd:=tv;repeat' first|(first|apply Zad|apply Zac|apply Zab)<;>intro hd<;>try simp only[hd]|simp(disch:=first|assumption|omega|simp only[nx]<;>omega|fail)only[hd,qr,qn,Zxe,↓YA,YY,↓reduceIte,Nat.reduceEqDiff,Nat.reduceAdd,Nat.reduceMul,Nat.reduceLeDiff,Int.reduceToNat,Int.reduceLE,Int.reduceLT,Int.reduceGT,Int.reduceGE,Int.reduceAdd,Int.reduceSub,Int.reduceNeg,Int.reduceBEq,Int.reduceBNe,f5,f49,f50,f51,f13,d3,zam,e6,e0,t6,d6,zaI,h0,hlt,dk1,dk5,dk6,za0,w1])<;>try revert hd;refine ttr ?_)
      exact⟨_,Xa,i+1,Xa,rfl,(hs0.ext hx).mv ⟨by simp[Fr.get],by simp[Fr.get],by simp[Fr.get],by simp[Fr.get],by simp[Fr.get],by simp[Fr.get],by simp[Fr.get],by simp[Fr.get],by simp[Fr.get]⟩ rfl⟩
  ·have gYA:=hx.get _ _ gY
   by_cases k5:l[i].k=5
   ·have dk1:(l[i].k == 1)=false:=by simp only[beq_eq_false_iff_ne,ne_eq];omega
    have dk5:(l[i].k == 5)=true:=by simp only[beq_iff_eq];omega
    have dk6:(l[i].k == 6)=false:=by simp only[beq_eq_false_iff_ne,ne_eq];omega
    have e1:(eAc l[i])[1]?=some (.i l[i].n):=rfl
    ((have hd:=tv;repeat' first|(first|apply Zad|apply Zac|apply Zab)<;>intro hd<;>try simp only[hd]|simp(disch:=first|assumption|omega|simp only[nx]<;>omega|fail)only[hd,qr,qn,Zxe,↓YA,YY,↓reduceIte,Nat.reduceEqDiff,Nat.reduceAdd,Nat.reduceMul,Nat.reduceLeDiff,Int.reduceToNat,Int.reduceLE,Int.reduceLT,Int.reduceGT,Int.reduceGE,Int.reduceAdd,Int.reduceSub,Int.reduceNeg,Int.reduceBEq,Int.reduceBNe,f5,f49,f50,f51,f13,d3,zam,e6,e0,t6,d6,zaI,h0,hlt,dk1,dk5,dk6,za0,e1])<;>try revert hd;refine ttr ?_)
    refine Zap.use (ZNL hdA l[i].n ha.n.2) ?_
    refine fun r G2 q=>?_
    obtain rfl:=q.1
    have hd2:=q.2.1
    have hst:(d.set l[i].n).1=d:=by unfold Dv.set;rw[if_pos hh.off]
    rw[hst]at hd2
    have gY2:=q.2.2.g _ _ (fun h=>akA _ (zaJ _ h)) gYA
    refine Bz1 (X2 f51 w1) ?_
    exact⟨_,Xa,i+1,Xa,rfl,by simpa [Fr.get] using f5,by simpa [Fr.get] using f49,by simpa [Fr.get] using f50,rfl,d,gen,c,s,top,hl2,hd2,by simpa [Fr.get] using f9,by simpa [Fr.get] using f10,by simpa [Fr.get] using f11,by simpa [Fr.get] using f12,.inr ⟨Y,A,B,N,by simpa [Fr.get] using f13,gY2,hh⟩⟩
   ·by_cases k6:l[i].k=6
    ·have dk1:(l[i].k == 1)=false:=by simp only[beq_eq_false_iff_ne,ne_eq];omega
     have dk5:(l[i].k == 5)=false:=by simp only[beq_eq_false_iff_ne,ne_eq];omega
     have dk6:(l[i].k == 6)=true:=by simp only[beq_iff_eq];omega
     ((have hd:=tv;repeat' first|(first|apply Zad|apply Zac|apply Zab)<;>intro hd<;>try simp only[hd]|simp(disch:=first|assumption|omega|simp only[nx]<;>omega|fail)only[hd,qr,qn,Zxe,↓YA,YY,↓reduceIte,Nat.reduceEqDiff,Nat.reduceAdd,Nat.reduceMul,Nat.reduceLeDiff,Int.reduceToNat,Int.reduceLE,Int.reduceLT,Int.reduceGT,Int.reduceGE,Int.reduceAdd,Int.reduceSub,Int.reduceNeg,Int.reduceBEq,Int.reduceBNe,f5,f49,f50,f51,f13,d3,zam,e6,e0,t6,d6,zaI,h0,hlt,dk1,dk5,dk6,za0])<;>try revert hd;refine ttr ?_)
     refine paC_half (fun F' H' hs=>?_) (by simpa [Fr.get] using f5) (by simpa [Fr.get] using f9) (by simpa [Fr.get] using f10) (by simpa [Fr.get] using f11) (by simpa [Fr.get] using f12) (by simpa [Fr.get] using f13) gYA (by simpa [Fr.get] using f49) (by simpa [Fr.get] using f50) (by simpa [Fr.get] using f51) rfl gA ha hh hdA hl2
     have g51:=hs.2.2.2.1
     refine Bz1 (X2 g51 w1) ?_
     exact⟨_,Xa,i+1,Xa,rfl,hs.mv ⟨by simp[Fr.get],by simp[Fr.get],by simp[Fr.get],by simp[Fr.get],by simp[Fr.get],by simp[Fr.get],by simp[Fr.get],by simp[Fr.get],by simp[Fr.get]⟩ rfl⟩
    ·have dk5:(l[i].k == 5)=false:=by simp only[beq_eq_false_iff_ne,ne_eq];omega
     have dk6:(l[i].k == 6)=false:=by simp only[beq_eq_false_iff_ne,ne_eq];omega
     rcases bfb (l[i].k == 1)with dk1|dk1
     ·((have hd:=tv;repeat' first|(first|apply Zad|apply Zac|apply Zab)<;>intro hd<;>try simp only[hd]|simp(disch:=first|assumption|omega|simp only[nx]<;>omega|fail)only[hd,qr,qn,Zxe,↓YA,YY,↓reduceIte,Nat.reduceEqDiff,Nat.reduceAdd,Nat.reduceMul,Nat.reduceLeDiff,Int.reduceToNat,Int.reduceLE,Int.reduceLT,Int.reduceGT,Int.reduceGE,Int.reduceAdd,Int.reduceSub,Int.reduceNeg,Int.reduceBEq,Int.reduceBNe,f5,f49,f50,f51,f13,d3,zam,e6,e0,t6,d6,zaI,h0,hlt,dk1,dk5,dk6,za0,w1])<;>try revert hd;refine ttr ?_)
      exact⟨_,Xa,i+1,Xa,rfl,(hs0.ext hx).mv ⟨by simp[Fr.get],by simp[Fr.get],by simp[Fr.get],by simp[Fr.get],by simp[Fr.get],by simp[Fr.get],by simp[Fr.get],by simp[Fr.get],by simp[Fr.get]⟩ rfl⟩
     ·((have hd:=tv;repeat' first|(first|apply Zad|apply Zac|apply Zab)<;>intro hd<;>try simp only[hd]|simp(disch:=first|assumption|omega|simp only[nx]<;>omega|fail)only[hd,qr,qn,Zxe,↓YA,YY,↓reduceIte,Nat.reduceEqDiff,Nat.reduceAdd,Nat.reduceMul,Nat.reduceLeDiff,Int.reduceToNat,Int.reduceLE,Int.reduceLT,Int.reduceGT,Int.reduceGE,Int.reduceAdd,Int.reduceSub,Int.reduceNeg,Int.reduceBEq,Int.reduceBNe,f5,f49,f50,f51,f13,d3,zam,e6,e0,t6,d6,zaI,h0,hlt,dk1,dk5,dk6,za0,w1])<;>try revert hd;refine ttr ?_)
      exact⟨_,Xa,i+1,Xa,rfl,(hs0.ext hx).mv ⟨by simp[Fr.get],by simp[Fr.get],by simp[Fr.get],by simp[Fr.get],by simp[Fr.get],by simp[Fr.get],by simp[Fr.get],by simp[Fr.get],by simp[Fr.get]⟩ rfl⟩
 ·have d3:decide ((i:Int)<(l.length:Int))=false:=decide_eq_false Xa
  ((have hd:=tv;repeat' first|(first|apply Zad|apply Zac|apply Zab)<;>intro hd<;>try simp only[hd]|simp(disch:=first|assumption|omega|simp only[nx]<;>omega|fail)only[hd,qr,qn,Zxe,↓YA,YY,↓reduceIte,Nat.reduceEqDiff,Nat.reduceAdd,Nat.reduceMul,Nat.reduceLeDiff,Int.reduceToNat,Int.reduceLE,Int.reduceLT,Int.reduceGT,Int.reduceGE,Int.reduceAdd,Int.reduceSub,Int.reduceNeg,Int.reduceBEq,Int.reduceBNe,f50,f51,d3])<;>try revert hd;refine ttr ?_)
  refine Zap.use (haw _) ?_
  refine fun r G q=>?_
  obtain rfl:=awk r G q
  refine Bz0 ?_
  exact Zaq rfl
open Go.RowKit
def Zd9:Sh:=.int .i64
def ZNl:Sh:=.pair Zd9 (.pair Zd9 (.pair Zd9 (.pair .str (.pair .str (.pair (.slice Zd9) .unit)))))
theorem Zis:(Sh.slice Zd9).Fits Tryz.prog (.inl 33):=⟨3,Tryz.underlying33,Xg,Xb,Tryz.underlying3⟩
theorem fits_act:ZNl.Fits Tryz.prog (.inl 35) :=
 ⟨_,_,Tryz.underlying35,Xg,rfl,Xg,Tryz.underlying3,_,_,rfl,rfl,Xg,Tryz.underlying3,_,_,rfl,rfl,Xg,Tryz.underlying3,_,_,rfl,rfl,Xg,Tryz.underlying9,_,_,rfl,rfl,Xg,Tryz.underlying9,_,_,rfl,rfl,Xg,Zis,rfl⟩
theorem fits_acts:(Sh.slice ZNl).Fits Tryz.prog (.inl 22):=⟨35,Tryz.underlying22,Xg,Xb,fits_act⟩
theorem inI_wf {n:Int} (h:(Lit.int .i64 n).wf=true):InI n:=by
 simp[Lit.wf,IntKind.min,IntKind.max,IntKind.signed,IntKind.bits]at h
 exact h
theorem eS_of (s:ByteArray):eS s.data.toList=.sc (.string s):=by cases s;rfl
section
variable {w:World} {F:Nat->Prop}
theorem Zgi {s:Sh} {α:Type} {f:α->List AV} {p:α->Prop} (he:∀cs x,s.Is w F cs x->∃a,s.enc x=f a/\p a) {cs:List Value} {x:(Sh.slice s).D} (h:(Sh.slice s).Is w F cs x):∃l:List α,l.length<=maxLen/\(Sh.slice s).enc x=[.sl .no (l.map f)]/\∀a∈l,p a:=by
 obtain⟨A,c,css,_,h1,h2,h3,_,h5⟩:=h
 have:∀(y:List s.D),(∀z∈y,∃a,s.enc z=f a/\p a)->∃m:List α,m.length=y.length/\y.map s.enc=m.map f/\∀a∈m,p a:=by
  intro y
  induction y with
  | nil=>intro _;exact⟨[],rfl,rfl,Xc⟩
  | cons z y ih =>
   intro hz
   obtain⟨a,ha,hp⟩:=hz z zak
   obtain⟨m,hm,e,hq⟩:=ih fun u hu=>hz u (zar _ hu)
   exact⟨a :: m,by simp[hm],by simp[ha,e],fun b hb=>by
    rcases zay.1 hb with rfl|hb
    ·exact hp
    ·exact hq b hb⟩
 obtain⟨m,hm,e,hq⟩:=this x fun y hy=>by
  obtain⟨i,hi,rfl⟩:=zaK hy
  have hi2:i<css.length:=by rw[h3];exact hi
  exact he css[i] _ (h5 i _ _ (zab hi2) (zab hi))
 refine⟨m,by rw[hm];exact zaG h1 h2,?_,hq⟩
 show[AV.sl .no (List.map s.enc x)]=_
 rw[e]
theorem enc_act {cs:List Value} {x:ZNl.D} (h:ZNl.Is w F cs x):∃a:Ac,ZNl.enc x=eAc a/\AcIn a:=by
 obtain⟨k,n,m,s1,s2,ks,u⟩:=x
 obtain⟨_,_,_,⟨_,h1⟩,_,_,_,⟨_,h2⟩,_,_,_,⟨_,h3⟩,_,_,_,⟨_,h4⟩,_,_,_,⟨_,h5⟩,_,_,_,h6,_⟩:=h
 obtain⟨l,hl,el,_⟩:=Zgi (s:=Zd9) (f:=fun n=>[AV.i n]) (p:=fun _=>True) (fun cs x hx=>⟨x,rfl,trivial⟩) h6
 refine⟨⟨k,n,m,(show ByteArray from s1).data.toList,(show ByteArray from s2).data.toList,l⟩,?_,inI_wf h2,inI_wf h3,?_,?_,hl⟩
 ·show[AV.i k,AV.i n,AV.i m,AV.sc (.string s1),AV.sc (.string s2)]++((Sh.slice Zd9).enc ks++[])=_
  rw[el]
  unfold eAc
  rw[eS_of,eS_of]
  rfl
 ·exact h4
 ·exact h5
theorem enc_acts {cs:List Value} {x:(Sh.slice ZNl).D} (h:(Sh.slice ZNl).Is w F cs x):∃l:List Ac,(Sh.slice ZNl).enc x=[.sl .no (rAc l)]/\∀a∈l,AcIn a:=by
 obtain⟨l,_,e,hp⟩:=Zgi (s:=ZNl) (f:=eAc) (p:=AcIn) (fun cs x hx=>enc_act hx) h
 exact⟨l,e,hp⟩
end
section
variable {W:World}
theorem arg_acts {v:Value} {y:(Sh.slice ZNl).D} (h:(Sh.slice ZNl).Is W (·<W.heap.size) [v] y):∃l:List Ac,VR (Gh.ro (Zjd W)) W (.sl .no (rAc l)) v/\∀a∈l,AcIn a:=by
 obtain⟨l,e,hp⟩:=enc_acts h
 exact⟨l,Ztd (by simp[ZNl,Zd9,Sh.pos,Sh.size]) h e,hp⟩
end
theorem pall_any (n:Int) (l:List Ac) (H:Zaa) (hl:∀a∈l,AcIn a):Zay Tryz.prog 3 [.i n,.sl .no (rAc l)] H (fun r _=>r=.b true):=(ZQ7 n .no l H hl).mono fun _ _ h=>h
end Go.Proofs.YtfjjpndoeppbhaaGreatDoor
