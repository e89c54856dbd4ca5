/- Texts of the walk. -/
import Derived.Test.YtfjjpndoeppbhaaGreatDoorNa
namespace Go.Proofs.YtfjjpndoeppbhaaGreatDoor
set_option linter.defProp false
set_option maxHeartbeats 64000000
set_option linter.unusedSimpArgs false
set_option linter.unusedVariables false
open Go.RowKit Go.Lib
theorem syn_puts {d:Dv} (h:d.syn.2=0):d.syn.1.puts=[]:=by
 unfold Dv.syn at h ⊢
 split at h
 ·cases h
 ·rename_i hn
  rw[if_neg hn]
  split at h
  ·rename_i h1
   rw[if_pos h1]
  ·cases h
theorem ZLX {x:Dv×Int} {f:Dv->Dv×Int} (h:x.2≠0):ZL6 x f=x:=if_neg h
theorem ZMb {x:Dv×Int} {f:Dv->Dv×Int} (h:x.2=0):ZL6 x f=f x.1:=if_pos h
theorem dkX (cs:List AV):kdO (.cells cs 41) ∉ DKs:=by show 41+3 ∉ DKs;decide
def LayR (D:Nat) (y:Dv×Int) (H:Zaa) (r:AV) (G:Zaa):Prop:=r=.i y.2/\DvX D y.1 G/\KD DKs H G
def lp5:Zar:=rr 60 [.M 0,.k 61,.F 0 62,.c 29 [64],.s 12]
def lp4:Zar:=.seq (.seq (.drw [ip (im 49 0),ip (io 50 (.nck (.t 49))),ip (io 51 (.fla 0 (.t 50))),ip (io 52 (.ld 1 false (.t 51))),ip (io 53 (.fla 0 (.t 7))),ip (io 54 (.ld 1 false (.t 53))),ip (im 56 13),(io 55 (.call (jf 117) [.t 54]),[io 52 (.ld 1 false (.t 51))]),ip (io 57 (.call (jf 27) [.t 52,.t 55,.t 56])),ip (im 18 57)])<|rs 57 [.i .neq 18 0]<|.cond (.t 59) (rr 59 [.M 18,.s 12])<|.skip)<|lp5
def lp3:Zar:=.seq (rs 40 [.M 0,.k 41,.F 0 42,.c 29 [44],.s 17]<|rs 45 [.i .neq 17 0]<|.cond (.t 47) (rr 47 [.M 17,.s 12])<|.skip)<|lp4
def lp2:Zar:=.seq (rs 33 [.M 0,.M 2,.M 5,.c 116 [34,35,36],.s 16]<|rs 37 [.i .neq 16 0]<|.cond (.t 39) (rr 39 [.M 16,.s 12])<|.skip)<|lp3
def lp1:Zar:=.seq (rs 26 [.M 0,.M 3,.M 4,.c 116 [27,28,29],.s 15]<|rs 30 [.i .neq 15 0]<|.cond (.t 32) (rr 32 [.M 15,.s 12])<|.skip)<|lp2
set_option maxRecDepth 100000 in
theorem lp_split:Zks=.seq (.reg [io 7 (.box 41 (.t 1)),jm 12 0]) (.seq (.reg [io 20 (.ld 6 true (.t 7)),io 21 (.call (jf 115) [.t 20]),im 19 21,io 22 (.ext (.t 19) 0),io 23 (.ext (.t 19) 1),im 13 22,im 14 23]) (.seq (.seq (.reg [im 24 14,io 25 (.bin .neq (.t 24) (ik 0))]) (.cond (.t 25) (.seq (.reg [im 26 14,im 12 26]) .ret) .skip)) lp1)):=rfl
section
variable {D P X:Nat} {d:Dv} {y:Dv×Int} {H G:Zaa} {F:Fr} {Q:AEx->Fr->Zaa->Prop} {a1 a2 a3 a4 a5 a6 a7 a8 a9 a10 a12:AV} {fet:Int} {r:Rt} {own list:List Int} {data maps:List Tx} {t2 t3 t4 t5:Tok}
theorem ZSo (qr:ZNG Q [.tmp 12] (LayR D y H)) (f0:Fr.get F 0=.ptr P 0) (gP:G.get P=some (.cells (pgC D a1 a2 a3 a4 a5 a6 a7 a8 a9 a10 a12 fet) 106)) (hd:DvX D d G) (kd:KD DKs H G) (hpu:d.puts.length<=1000000) (hy:y=d.syn):AW Tryz.prog lp5 Q F G:=by
 have qn:=trivial
 have hs:=ZNP hd hpu
 rw[<- hy]at hs
 unfold lp5
 refine Bz1 (X2 f0 gP) ?_
 refine Zap.use hs ?_
 rintro _ G2 ⟨rfl,q1,q2⟩
 refine Bz0 ?_
 exact Zaq ⟨rfl,q1,kd.trans q2⟩
theorem ZSB (qr:ZNG Q [.tmp 12] (LayR D y H)) (hr:r.ok=true) (f0:Fr.get F 0=.ptr P 0) (f7:Fr.get F 7=.ptr X 0) (f13:Fr.get F 13=eS (slP r)) (gX:G.get X=some (.cells [.i r.gen,.i r.pages,.i r.map,.i r.cat,.i r.nodes,.i r.top] 41)) (gP:G.get P=some (.cells (pgC D a1 a2 a3 a4 a5 a6 a7 a8 a9 a10 a12 fet) 106)) (hd:DvX D d G) (kd:KD DKs H G) (hpu:d.puts=[]) (hy:y=ZL6 (d.wrt (r.gen % 2) (slP r)) Dv.syn):AW Tryz.prog lp4 Q F G:=by
 have qn:=trivial
 obtain⟨b1,b2,_⟩:=okR hr
 obtain⟨g,hg⟩:=zaL (show 0<=r.gen by omega)
 have hpl:=fun K=>ZNV g K Xa
 have e:((g % 2:Nat):Int)=r.gen % 2:=by rw[hg];omega
 rw[e,<- hg]at hpl
 have hw:=fun(K:Zaa) (hK:DvX D d K)=>ZNf hK (by rw[hpu];simp) (r.gen % 2) (slP r)
 have hwp:=ZQD d (r.gen % 2) (slP r)
 rw[hpu]at hwp
 generalize slP r=q at *
 generalize hx:d.wrt (r.gen % 2) q=x at *
 generalize r.gen % 2=m at *
 by_cases he:x.2=0
 ·have d1:(x.2 != 0)=false:=by rw[he];rfl
  rw[ZMb he]at hy
  unfold lp4
  refine Bz1 (X5 f0 f7 f13 gX gP) ?_
  refine qcp (hpl _) fun k1=>?_
  refine Bz1 (X2 gP f13) ?_
  refine Zap.use (hw _ (hd.ext (by exact AXT))) ?_
  rintro _ G2 ⟨rfl,q1,q2⟩
  ((have hd:=tv;repeat' first|(first|apply Zad|apply Zac|apply Zab)<;>intro hd<;>try simp only[hd]|simp(disch:=first|assumption|omega|simp only[nx]<;>omega|fail)only[hd,qr,qn,Zks,↓YA,YY,↓reduceIte,Nat.reduceEqDiff,Nat.reduceAdd,Nat.reduceMul,Nat.reduceLeDiff,Int.reduceToNat,Int.reduceLE,Int.reduceLT,Int.reduceGT,Int.reduceGE,Int.reduceAdd,Int.reduceSub,Int.reduceNeg,Int.reduceBEq,Int.reduceBNe,d1])<;>try revert hd;refine ttr ?_)
  exact ZSo qr (by simpa [Fr.get] using f0) (q2.g _ _ (dkP _) (by rw[Zaa.ZaB];exact gP)) q1 ((kd.bump k1).trans q2) (by simp at hwp;omega) hy
 ·have d1:(x.2 != 0)=true:=by simpa using he
  rw[ZLX he]at hy
  subst hy
  unfold lp4
  refine Bz1 (X5 f0 f7 f13 gX gP) ?_
  refine qcp (hpl _) fun k1=>?_
  refine Bz1 (X2 gP f13) ?_
  refine Zap.use (hw _ (hd.ext (by exact AXT))) ?_
  rintro _ G2 ⟨rfl,q1,q2⟩
  ((have hd:=tv;repeat' first|(first|apply Zad|apply Zac|apply Zab)<;>intro hd<;>try simp only[hd]|simp(disch:=first|assumption|omega|simp only[nx]<;>omega|fail)only[hd,qr,qn,Zks,↓YA,YY,↓reduceIte,Nat.reduceEqDiff,Nat.reduceAdd,Nat.reduceMul,Nat.reduceLeDiff,Int.reduceToNat,Int.reduceLE,Int.reduceLT,Int.reduceGT,Int.reduceGE,Int.reduceAdd,Int.reduceSub,Int.reduceNeg,Int.reduceBEq,Int.reduceBNe,d1])<;>try revert hd;refine ttr ?_)
  exact Zaq ⟨rfl,q1,(kd.bump k1).trans q2⟩
theorem ZSu (qr:ZNG Q [.tmp 12] (LayR D y H)) (hr:r.ok=true) (f0:Fr.get F 0=.ptr P 0) (f7:Fr.get F 7=.ptr X 0) (f13:Fr.get F 13=eS (slP r)) (gX:G.get X=some (.cells [.i r.gen,.i r.pages,.i r.map,.i r.cat,.i r.nodes,.i r.top] 41)) (gP:G.get P=some (.cells (pgC D a1 a2 a3 a4 a5 a6 a7 a8 a9 a10 a12 fet) 106)) (hd:DvX D d G) (kd:KD DKs H G) (hpu:d.puts.length<=1000000) (hy:y=ZL6 (ZL6 d.syn fun d=>d.wrt (r.gen % 2) (slP r)) Dv.syn):AW Tryz.prog lp3 Q F G:=by
 have qn:=trivial
 have hs:=ZNP hd hpu
 by_cases he:d.syn.2=0
 ·have d1:(d.syn.2 != 0)=false:=by rw[he];rfl
  rw[ZMb he]at hy
  have hp0:=syn_puts he
  generalize d.syn=x at *
  unfold lp3
  refine Bz1 (X2 f0 gP) ?_
  refine Zap.use hs ?_
  rintro _ G2 ⟨rfl,q1,q2⟩
  ((have hd:=tv;repeat' first|(first|apply Zad|apply Zac|apply Zab)<;>intro hd<;>try simp only[hd]|simp(disch:=first|assumption|omega|simp only[nx]<;>omega|fail)only[hd,qr,qn,Zks,↓YA,YY,↓reduceIte,Nat.reduceEqDiff,Nat.reduceAdd,Nat.reduceMul,Nat.reduceLeDiff,Int.reduceToNat,Int.reduceLE,Int.reduceLT,Int.reduceGT,Int.reduceGE,Int.reduceAdd,Int.reduceSub,Int.reduceNeg,Int.reduceBEq,Int.reduceBNe,d1])<;>try revert hd;refine ttr ?_)
  exact ZSB qr hr (by simpa [Fr.get] using f0) (by simpa [Fr.get] using f7) (by simpa [Fr.get] using f13) (q2.g _ _ (dkX _) gX) (q2.g _ _ (dkP _) gP) q1 (kd.trans q2) hp0 hy
 ·have d1:(d.syn.2 != 0)=true:=by simpa using he
  rw[ZLX he,ZLX he]at hy
  subst hy
  generalize d.syn=x at *
  unfold lp3
  refine Bz1 (X2 f0 gP) ?_
  refine Zap.use hs ?_
  rintro _ G2 ⟨rfl,q1,q2⟩
  ((have hd:=tv;repeat' first|(first|apply Zad|apply Zac|apply Zab)<;>intro hd<;>try simp only[hd]|simp(disch:=first|assumption|omega|simp only[nx]<;>omega|fail)only[hd,qr,qn,Zks,↓YA,YY,↓reduceIte,Nat.reduceEqDiff,Nat.reduceAdd,Nat.reduceMul,Nat.reduceLeDiff,Int.reduceToNat,Int.reduceLE,Int.reduceLT,Int.reduceGT,Int.reduceGE,Int.reduceAdd,Int.reduceSub,Int.reduceNeg,Int.reduceBEq,Int.reduceBNe,d1])<;>try revert hd;refine ttr ?_)
  exact Zaq ⟨rfl,q1,kd.trans q2⟩
theorem ZRY (qr:ZNG Q [.tmp 12] (LayR D y H)) (hr:r.ok=true) (f0:Fr.get F 0=.ptr P 0) (f2:Fr.get F 2=.sl t2 (rI own)) (f5:Fr.get F 5=.sl t5 (rS maps)) (f7:Fr.get F 7=.ptr X 0) (f13:Fr.get F 13=eS (slP r)) (gX:G.get X=some (.cells [.i r.gen,.i r.pages,.i r.map,.i r.cat,.i r.nodes,.i r.top] 41)) (gP:G.get P=some (.cells (pgC D a1 a2 a3 a4 a5 a6 a7 a8 a9 a10 a12 fet) 106)) (hd:DvX D d G) (kd:KD DKs H G) (hl:maps.length<=own.length) (h1:∀x∈own,0<=x/\x<=2046) (h2:∀s∈maps,s.length=256) (hpu:d.puts.length+2 * maps.length<=1000000) (hy:y=ZL6 (ZL6 (ZL6 (d.ZL4 (ZL7 own maps)) Dv.syn) fun d=>d.wrt (r.gen % 2) (slP r)) Dv.syn):AW Tryz.prog lp2 Q F G:=by
 have qn:=trivial
 have hs:=ZNe hd gP t2 t5 own maps hl h1 h2 hpu
 have hwp:=ZMV (ZL7 own maps) d
 rw[ZNW _ _ hl]at hwp
 unfold WrtR at hs
 generalize d.ZL4 (ZL7 own maps)=x at *
 by_cases he:x.2=0
 ·have d1:(x.2 != 0)=false:=by rw[he];rfl
  rw[ZMb he]at hy
  unfold lp2
  refine Bz1 (X3 f0 f2 f5) ?_
  refine Zap.use hs ?_
  rintro _ G2 ⟨rfl,q1,q2⟩
  ((have hd:=tv;repeat' first|(first|apply Zad|apply Zac|apply Zab)<;>intro hd<;>try simp only[hd]|simp(disch:=first|assumption|omega|simp only[nx]<;>omega|fail)only[hd,qr,qn,Zks,↓YA,YY,↓reduceIte,Nat.reduceEqDiff,Nat.reduceAdd,Nat.reduceMul,Nat.reduceLeDiff,Int.reduceToNat,Int.reduceLE,Int.reduceLT,Int.reduceGT,Int.reduceGE,Int.reduceAdd,Int.reduceSub,Int.reduceNeg,Int.reduceBEq,Int.reduceBNe,d1])<;>try revert hd;refine ttr ?_)
  exact ZSu qr hr (by simpa [Fr.get] using f0) (by simpa [Fr.get] using f7) (by simpa [Fr.get] using f13) (q2.g _ _ (dkX _) gX) (q2.g _ _ (dkP _) gP) q1 (kd.trans q2) Xa hy
 ·have d1:(x.2 != 0)=true:=by simpa using he
  rw[ZLX he,ZLX he,ZLX he]at hy
  subst hy
  unfold lp2
  refine Bz1 (X3 f0 f2 f5) ?_
  refine Zap.use hs ?_
  rintro _ G2 ⟨rfl,q1,q2⟩
  ((have hd:=tv;repeat' first|(first|apply Zad|apply Zac|apply Zab)<;>intro hd<;>try simp only[hd]|simp(disch:=first|assumption|omega|simp only[nx]<;>omega|fail)only[hd,qr,qn,Zks,↓YA,YY,↓reduceIte,Nat.reduceEqDiff,Nat.reduceAdd,Nat.reduceMul,Nat.reduceLeDiff,Int.reduceToNat,Int.reduceLE,Int.reduceLT,Int.reduceGT,Int.reduceGE,Int.reduceAdd,Int.reduceSub,Int.reduceNeg,Int.reduceBEq,Int.reduceBNe,d1])<;>try revert hd;refine ttr ?_)
  exact Zaq ⟨rfl,q1,kd.trans q2⟩
theorem ZR5 (qr:ZNG Q [.tmp 12] (LayR D y H)) (hr:r.ok=true) (f0:Fr.get F 0=.ptr P 0) (f2:Fr.get F 2=.sl t2 (rI own)) (f3:Fr.get F 3=.sl t3 (rI list)) (f4:Fr.get F 4=.sl t4 (rS data)) (f5:Fr.get F 5=.sl t5 (rS maps)) (f7:Fr.get F 7=.ptr X 0) (f13:Fr.get F 13=eS (slP r)) (gX:G.get X=some (.cells [.i r.gen,.i r.pages,.i r.map,.i r.cat,.i r.nodes,.i r.top] 41)) (gP:G.get P=some (.cells (pgC D a1 a2 a3 a4 a5 a6 a7 a8 a9 a10 a12 fet) 106)) (hd:DvX D d G) (kd:KD DKs H G) (hl:maps.length<=own.length) (h1:∀x∈own,0<=x/\x<=2046) (h2:∀s∈maps,s.length=256) (hl3:data.length<=list.length) (h3:∀x∈list,0<=x/\x<=2046) (h4:∀s∈data,s.length=256) (hpu:d.puts.length+2 * data.length+2 * maps.length<=1000000) (hy:y=ZMT d r own list data maps):AW Tryz.prog lp1 Q F G:=by
 have qn:=trivial
 have hs:=ZNe hd gP t3 t4 list data hl3 h3 h4 Xa
 have hwp:=ZMV (ZL7 list data) d
 rw[ZNW _ _ hl3]at hwp
 unfold ZMT at hy
 unfold WrtR at hs
 generalize d.ZL4 (ZL7 list data)=x at *
 by_cases he:x.2=0
 ·have d1:(x.2 != 0)=false:=by rw[he];rfl
  rw[ZMb he]at hy
  unfold lp1
  refine Bz1 (X3 f0 f3 f4) ?_
  refine Zap.use hs ?_
  rintro _ G2 ⟨rfl,q1,q2⟩
  ((have hd:=tv;repeat' first|(first|apply Zad|apply Zac|apply Zab)<;>intro hd<;>try simp only[hd]|simp(disch:=first|assumption|omega|simp only[nx]<;>omega|fail)only[hd,qr,qn,Zks,↓YA,YY,↓reduceIte,Nat.reduceEqDiff,Nat.reduceAdd,Nat.reduceMul,Nat.reduceLeDiff,Int.reduceToNat,Int.reduceLE,Int.reduceLT,Int.reduceGT,Int.reduceGE,Int.reduceAdd,Int.reduceSub,Int.reduceNeg,Int.reduceBEq,Int.reduceBNe,d1])<;>try revert hd;refine ttr ?_)
  exact ZRY qr hr (by simpa [Fr.get] using f0) (by simpa [Fr.get] using f2) (by simpa [Fr.get] using f5) (by simpa [Fr.get] using f7) (by simpa [Fr.get] using f13) (q2.g _ _ (dkX _) gX) (q2.g _ _ (dkP _) gP) q1 (kd.trans q2) hl h1 h2 Xa hy
 ·have d1:(x.2 != 0)=true:=by simpa using he
  rw[ZLX he,ZLX he,ZLX he,ZLX he]at hy
  subst hy
  unfold lp1
  refine Bz1 (X3 f0 f3 f4) ?_
  refine Zap.use hs ?_
  rintro _ G2 ⟨rfl,q1,q2⟩
  ((have hd:=tv;repeat' first|(first|apply Zad|apply Zac|apply Zab)<;>intro hd<;>try simp only[hd]|simp(disch:=first|assumption|omega|simp only[nx]<;>omega|fail)only[hd,qr,qn,Zks,↓YA,YY,↓reduceIte,Nat.reduceEqDiff,Nat.reduceAdd,Nat.reduceMul,Nat.reduceLeDiff,Int.reduceToNat,Int.reduceLE,Int.reduceLT,Int.reduceGT,Int.reduceGE,Int.reduceAdd,Int.reduceSub,Int.reduceNeg,Int.reduceBEq,Int.reduceBNe,d1])<;>try revert hd;refine ttr ?_)
  exact Zaq ⟨rfl,q1,kd.trans q2⟩
theorem ZQ2 (hr:r.ok=true) (gP:H.get P=some (.cells (pgC D a1 a2 a3 a4 a5 a6 a7 a8 a9 a10 a12 fet) 106)) (hd:DvX D d H) (hl:maps.length<=own.length) (h1:∀x∈own,0<=x/\x<=2046) (h2:∀s∈maps,s.length=256) (hl3:data.length<=list.length) (h3:∀x∈list,0<=x/\x<=2046) (h4:∀s∈data,s.length=256) (hpu:d.puts.length+2 * data.length+2 * maps.length<=1000000) :
  Zay Tryz.prog 67 [.ptr P 0,.agg [.i r.gen,.i r.pages,.i r.map,.i r.cat,.i r.nodes,.i r.top],.sl t2 (rI own),.sl t3 (rI list),.sl t4 (rS data),.sl t5 (rS maps)] H (LayR D (ZMT d r own list data maps) H):=by
 have hsp:=fun K=>ZQX r K hr
 unfold eRt at hsp
 have n0:((0:Int) != 0)=false:=rfl
 have x1:∀k,Zaa.Ext H ((H.alloc (.cells [.i r.gen,.i r.pages,.i r.map,.i r.cat,.i r.nodes,.i r.top] 41)).bump k):=fun k=>(Zaa.Ext.refl H).alloc.bump
 refine fnQ cf67 fun Q qr qn=>?_
 rw[lp_split]
 refine Bz0 ?_
 refine qcp (hsp _) fun k1=>?_
 refine Bz1 (X1 n0) ?_
 exact ZR5 qr hr rfl rfl rfl rfl rfl rfl rfl ((Zaa.ZaB).trans (Zaa.Zat rfl)) ((x1 k1).get _ _ gP) (hd.ext (x1 k1)) (KD.ext (x1 k1)) hl h1 h2 hl3 h3 h4 hpu rfl
end
open Go.RowKit Go.Lib
theorem ZN4 (k:UInt8):∀(m first:Nat) (s:Tx),s.length<=m->((ZNE k first m s).length:Int)=ZLU s.length
 | 0,first,s,h=>by
  have:s.length=0:=Xa
  rw[this]
  rfl
 | m+1,first,s,h=>by
  unfold ZNE
  by_cases hs:s=[]
  ·rw[if_pos hs,hs];rfl
  ·have h1:0<s.length:=zbm.2 hs
   rw[if_neg hs,List.length_cons]
   have:=ZN4 k m (first+1) (s.drop 246) (by rw[zaq];omega)
   rw[zaq]at this
   unfold ZLU at this ⊢
   rw[if_neg Xa]
   split at this<;>omega
theorem ZP4 (k:UInt8):∀(m first:Nat) (s:Tx),∀q∈ZNE k first m s,q.length=256
 | 0,_,_,q,h=>by cases h
 | m+1,first,s,q,h=>by
  unfold ZNE at h
  split at h
  ·cases h
  ·rcases zay.1 h with rfl|h
   ·exact ZP2 (by rw[zaj];omega)
   ·exact ZP4 k m _ _ q h
theorem ZSb:∀(l:List Tx) (i:Nat),(∀s∈l,s.length<=246)->∀q∈ZNx i l,q.length=256
 | [],_,_,q,h=>by cases h
 | s :: l,i,hl,q,h=>by
  rw[ZNx]at h
  rcases zay.1 h with rfl|h
  ·exact ZP2 (hl s zak)
  ·exact ZSb l (i+1) (fun x hx=>hl x (zar _ hx)) q h
theorem ZRt (c n:Tx):((ZMF c n).length:Int)=ZLU c.length+ZLU n.length:=by
 unfold ZMF
 rw[zac,Int.natCast_add,ZN4 _ _ _ _ (zad _),ZN4 _ _ _ _ (zad _)]
theorem ZRE (c n:Tx):∀q∈ZMF c n,q.length=256:=fun q h=>by
 unfold ZMF at h
 rcases zaw.1 h with h|h
 ·exact ZP4 _ _ _ _ q h
 ·exact ZP4 _ _ _ _ q h
theorem ZRU (own list:List Int):(ZM2 own list).length=own.length:=by
 unfold ZM2
 rw[ZPW,ZPZ]
theorem ZSr (own list:List Int):∀q∈ZM2 own list,q.length=256:=ZSb _ _ (ZSF own _ _ _)
theorem ZOO {ws:List Nat} {u:List Int} {np:Nat} (h:RmI ws u np) (N:Nat):(ZLV (bit ws) np).take N=lowP u np N:=by
 rw[h.free.1]
 unfold ZLV lowP
 congr 1
 rw[List.filter_map]
 congr 1
 refine List.filter_congr fun j _=>?_
 simp only[Function.comp,Int.ofNat_eq_natCast]
 rw[ZL9]
 simp
theorem ZNK {ws:List Nat} {u:List Int} {np N:Nat} (h:RmI ws u np) (hN:N+u.length<=np):(lowP u np N).length=N/\(∀x∈lowP u np N,0<=x/\x<(np:Int)/\x ∉ u)/\(lowP u np N).Nodup:=by
 have h2:=h.free.2
 rw[<- ZOO h]
 obtain⟨f1,f2⟩:=ZRw (bit ws) np
 refine⟨by rw[zaj];omega,fun x hx=>?_,f2.sublist (List.take_sublist _ _)⟩
 obtain⟨a,b,c⟩:=f1 x (zaB hx)
 refine⟨a,b,fun hm=>?_⟩
 obtain⟨j,rfl⟩:=zaL a
 rw[Int.toNat_natCast,h.1]at c
 rw[(ZMl u j).2 hm]at c
 cases c
theorem ZSq {u:List Int} {n:Nat}:∀(l pre:List Int),(∀x∈l,0<=x/\x<(n:Int)/\x ∉ u)->(pre++l).Nodup->wrg (ZL8 u) n false pre l=0
 | [],_,_,_=>rfl
 | x :: r,pre,h1,h2=>by
  obtain⟨a,b,c⟩:=h1 x zak
  unfold wrg
  rw[if_neg Xa,if_neg (by
   rw[ZL9,ZL9]
   have:x ∉ pre:=fun hm=>(zbl.1 h2).2.2 x hm x zak rfl
   simp[this,c])]
  exact ZSq r (pre++[x]) (fun y hy=>h1 y (zar _ hy)) (by rw[zan];exact h2)
theorem ZQM {u:List Int} {n:Nat}:∀(l pre:List Int),(∀x∈l,0<=x/\x<(n:Int)/\x∈u)->(pre++l).Nodup->wrg (ZL8 u) n true pre l=0
 | [],_,_,_=>rfl
 | x :: r,pre,h1,h2=>by
  obtain⟨a,b,c⟩:=h1 x zak
  unfold wrg
  rw[if_neg Xa,if_neg (by
   rw[ZL9,ZL9]
   have:x ∉ pre:=fun hm=>(zbl.1 h2).2.2 x hm x zak rfl
   simp[this,c])]
  exact ZQM r (pre++[x]) (fun y hy=>h1 y (zar _ hy)) (by rw[zan];exact h2)
theorem ZQ9 {ws:List Nat} {u l:List Int} {np:Nat} (h:RmI ws u np) (h1:∀x∈l,0<=x/\x<(np:Int)/\x ∉ u) (h2:l.Nodup):wrg (ZMi ws np) np false [] l=0/\RmI (ZMm ws l) (u++l) np/\wrg (ZMi (ZMm ws l) np) np true [] u=0/\RmI (ZMm (ZMm ws l) u) l np:=by
 have w1:wrg (ZL8 u) np false [] l=0:=ZSq l [] h1 h2
 have i1:=h.use l w1
 have w2:wrg (ZL8 (u++l)) np true [] u=0:=ZQM u [] (fun x hx=>⟨(h.2.2.1 x hx).1,(h.2.2.1 x hx).2,zaJ _ hx⟩) h.2.1
 have i2:=i1.freed u w2
 have e:(u++l).filter (fun x=>!ZL8 u x)=l:=by
  rw[List.filter_append,List.filter_eq_nil_iff.2,List.nil_append,zcz.2]
  ·intro x hx
   rw[ZL9]
   simp[(h1 x hx).2.2]
  ·intro x hx
   rw[ZL9]
   simp[hx]
 rw[e]at i2
 exact⟨by rw[h.wrg];exact w1,i1,by rw[i1.wrg];exact w2,i2⟩
structure PubX where
 e:Int
 d:Dv
 p:Pg
 br:Bool
 its:Its
def ZNd (d:Dv) (p:Pg) (br:Bool) (its:Its) (c n:Tx) (top:Int):PubX :=
 if ZMu p br d=8 then ⟨8,d,p,br,its⟩
 else if ZOX d p c n top≠0 then ⟨ZOX d p c n top,d,p,br,its⟩
 else if (ZNv d p c n top).2=0 then ⟨0,(ZNv d p c n top).1,ZMf d p c n top,br,[]⟩
 else ⟨(ZNv d p c n top).2,(ZNv d p c n top).1,p,true,its⟩
theorem ZRK (p:Pg) (br:Bool) (d:Dv):ZMu p br d=8\/ZMu p br d=0\/ZMu p br d=10:=by
 unfold ZMu
 split
 ·exact .inl rfl
 ·split
  ·exact .inr (.inl rfl)
  ·exact .inr (.inr rfl)
theorem ZNt {d:Dv} {p:Pg} {c n:Tx} {top:Int} (h:ZOX d p c n top=0):p.root.gen+1<=1099511627776/\ZMh c.length n.length+p.used.length<=(ofP d.sec.length:Int)/\(verP p c n top).ok=true:=by
 unfold ZOX at h
 split at h
 ·cases h
 ·split at h
  ·cases h
  ·split at h
   ·rename_i h1 h2 h3
    exact⟨Xa,Xa,h3⟩
   ·cases h
theorem ZSX {n:Int} (h:0<=n):0<=ZL3 n/\ZL3 n<=n/\(1<=n->1<=ZL3 n):=by unfold ZL3;split<;>omega
structure NewF (d:Dv) (p:Pg) (c n:Tx) (top:Int) (np:Nat):Prop where
 ok:(ZOk d p c n top).ok=true
 pg:1<=(ZOk d p c n top).pages
 ll:(ZM4 d p c n).length=(ZMh c.length n.length).toNat
 ol:((ZMf d p c n top).own.length:Int)=ZL3 (ZOk d p c n top).pages
 sl:((ZMf d p c n top).list.length:Int)=(ZOk d p c n top).pages
 el:∀x∈ZM4 d p c n,0<=x/\x<=2046
 hd:(ZMf d p c n top).own.head?=some (ZOk d p c n top).map
 us:(ZMf d p c n top).used=ZM4 d p c n
theorem ZPo {ws:List Nat} {d:Dv} {p:Pg} {c n:Tx} {top:Int} {np:Nat} (hnp:np=ofP d.sec.length) (hnb:np<=2047) (hw:RmI ws p.used np) (h:ZOX d p c n top=0):NewF d p c n top np:=by
 obtain⟨r1,r2,r3⟩:=ZNt h
 obtain⟨b1,b2,b3,b4,b5,b6,b7,b8,b9,b10,b11,b12⟩:=okR r3
 have b3:(1:Int)<=c.length:=b3
 have b5:(0:Int)<=n.length:=Xa
 have hpv:(verP p c n top).pages=ZLU c.length+ZLU n.length:=rfl
 have hc1:1<=ZLU c.length:=by unfold ZLU;split<;>omega
 have hn0:0<=ZLU n.length:=by unfold ZLU;split<;>omega
 obtain⟨m1,m2,m3⟩:=ZSX (show 0<=ZLU c.length+ZLU n.length by omega)
 have m3:=m3 Xa
 have hN:ZMh c.length n.length=ZLU c.length+ZLU n.length+ZL3 (ZLU c.length+ZLU n.length):=rfl
 rw[<- hnp]at r2
 obtain⟨l1,l2,l3⟩:=ZNK (N:=(ZMh c.length n.length).toNat) hw Xa
 have hlot:ZM4 d p c n=lowP p.used np (ZMh c.length n.length).toNat:=by unfold ZM4;rw[hnp]
 rw[<- hlot]at l1 l2 l3
 have hel:∀x∈ZM4 d p c n,0<=x/\x<=2046:=fun x hx=>by have:=l2 x hx;omega
 obtain⟨x0,xs,hx⟩:∃x xs,ZM4 d p c n=x :: xs:=by
  cases e:ZM4 d p c n with
  | nil=>rw[e]at l1;simp at l1;omega
  | cons x xs=>exact⟨x,xs,rfl⟩
 have hmap:(ZOk d p c n top).map=x0:=by unfold ZOk;rw[hx];rfl
 have hx0:=hel x0 (by rw[hx];exact zak)
 refine⟨?_,?_,l1,?_,?_,hel,?_,?_⟩
 ·unfold Rt.ok
  rw[decide_eq_true_iff]
  refine⟨b1,b2,b3,b4,b5,b6,b7,b8,b9,b10,?_,?_⟩
  ·rw[hmap];exact hx0.1
  ·rw[hmap];exact hx0.2
 ·show 1<=ZLU c.length+ZLU n.length
  omega
 ·show(((ZM4 d p c n).take (ZL3 (ZLU c.length+ZLU n.length)).toNat).length:Int)=ZL3 (ZLU c.length+ZLU n.length)
  rw[zaj]
  omega
 ·show(((ZM4 d p c n).drop (ZL3 (ZLU c.length+ZLU n.length)).toNat).length:Int)=ZLU c.length+ZLU n.length
  rw[zaq]
  omega
 ·rw[hmap]
  show((ZM4 d p c n).take (ZL3 (ZLU c.length+ZLU n.length)).toNat).head?=some x0
  rw[hx]
  obtain⟨k,hk⟩:∃k,(ZL3 (ZLU c.length+ZLU n.length)).toNat=k+1:=⟨(ZL3 (ZLU c.length+ZLU n.length)).toNat - 1,Xa⟩
  rw[hk]
  rfl
 ·exact zaS _ _
open Go.RowKit Go.Lib
def pb5:Zar:=rs 119 [.M 0,.k 120,.F 9 121,.M 11,.c 58 [123,124]]<|.seq (.drw [ip (im 126 0),ip (io 127 (.nck (.t 126))),ip (io 128 (.fla 9 (.t 127))),ip (io 129 (.ld 1 false (.t 128))),ip (im 130 0),ip (io 131 (.nck (.t 130))),ip (io 132 (.fla 7 (.t 131))),ip (io 133 (.ld 1 false (.t 132))),ip (im 134 0),ip (io 135 (.nck (.t 134))),ip (io 136 (.fla 8 (.t 135))),ip (io 137 (.ld 1 false (.t 136))),ip (io 138 (.bsl 1 [.t 133,.t 137])),(io 139 (.call (jf 59) [.t 138]),[io 129 (.ld 1 false (.t 128))]),ip (io 140 (.call (jf 68) [.t 129,.t 139]))])<|rs 140 [.M 0,.M 0,.M 0,.L 6 10,.M 14,.M 15,.k 141,.f 1 147,.Z 6 148 144,.k 142,.f 7 149,.Z 1 150 145,.k 143,.f 8 151,.Z 1 152 146]<|rs 152 [.M 0,.k 153,.F 10 154,.c 69 [156]]<|rr 7 [.J 0]
def pb4:Zar:=.seq (rs 106 [.M 0,.L 6 10,.M 14,.M 15,.M 16,.M 17,.c 67 [107,108,109,110,111,112],.s 19]<|rs 113 [.i .neq 19 0]<|.cond (.t 115) (rs 115 [.M 0,.k 116,.f 12 117,.w (.st 1 (.t 118) (ib true))]<|rr 118 [.M 19,.s 8])<|.skip)<|pb5
def pb3:Zar:=rs 95 [.M 1,.M 2,.M 14,.M 15,.c 66 [96,97,98,99],.s 95,.e 95 0,.e 95 1,.e 95 2,.m 16 101,.m 17 102,.s 18]<|ri 103 [.i .neq 18 0] 105 (rr 105 [.M 18,.s 8])<|pb4
def pb2:Zar:=.seq (.drw [ip (im 69 0),ip (io 70 (.nck (.t 69))),ip (io 71 (.fla 9 (.t 70))),ip (io 72 (.ld 1 false (.t 71))),ip (im 73 1),ip (io 74 (.len true (.t 73))),ip (im 75 2),ip (io 76 (.len true (.t 75))),(io 77 (.call (jf 46) [.t 74,.t 76]),[io 72 (.ld 1 false (.t 71))]),ip (io 78 (.call (jf 64) [.t 72,.t 77])),ip (im 68 78),ip (io 79 (.ext (.t 68) 0)),ip (io 80 (.ext (.t 68) 1)),ip (im 11 79),ip (im 12 80)])<|rs 80 [.F 1 10,.c 65 [82],.s 13]<|rt 83 [.M 11,.M 13,.M 13,.O (.slc 1 (.t 84) none (some (.t 85)) (some (.t 86))),.M 11,.M 13,.O (.slc 1 (.t 88) (some (.t 89)) none none),.m 14 87,.s 15]<|rs 90 [.M 14,.O (.ixa 1 (.t 91) (ik 0)),.l 1 92,.f 2 10,.Z 1 94 93]<|pb3
def pb1:Zar:=.seq (.blk 0<|rs 48 [.F 0 10,.B .gtr 50 1099511627776,.s 48]<|.cond (.t 48) (rr 7 [.J 5])<|.seq (.drw [ip (im 53 1),ip (io 54 (.len true (.t 53))),ip (im 55 2),ip (io 56 (.len true (.t 55))),ip (im 58 0),ip (io 59 (.nck (.t 58))),ip (io 60 (.fla 9 (.t 59))),ip (io 61 (.ld 1 false (.t 60))),(io 57 (.call (jf 46) [.t 54,.t 56]),[io 61 (.ld 1 false (.t 60))]),ip (io 62 (.call (jf 62) [.t 61])),ip (io 63 (.bin .gtr (.t 57) (.t 62))),ip (im 52 63)])<|.cond (.t 52) (rr 7 [.J 7])<|rs 64 [.L 6 10,.c 63 [65],.B .neq 66 0,.s 64]<|.cond (.t 64) (rr 7 [.J 2])<|.skip)<|pb2
set_option maxRecDepth 100000 in
theorem ZOR:Zca=.seq (.reg [jm 8 0]) (.seq (.seq (.reg [im 20 0,io 21 (.call (jf 60) [.t 20]),im 9 21]) (.seq (.reg [im 22 9,io 23 (.bin .neq (.t 22) (ik 0)),im 24 23,ig 24 25 (.mv (.t 9)),ig 24 26 (.bin .neq (.t 25) (ik 10)),io 27 (.pick (.t 24) (.t 26) (ib false))]) (.cond (.t 27) (.seq (.reg [im 28 9,im 8 28]) .ret) .skip))) (.seq (.drw [ip (im 29 0),ip (io 30 (.nck (.t 29))),ip (io 31 (.fla 1 (.t 30))),ip (io 32 (.fla 0 (.t 31))),ip (io 33 (.ld 1 false (.t 32))),ip (io 34 (.bin .add (.t 33) (ik 1))),ip (im 35 1),ip (io 36 (.len true (.t 35))),ip (im 38 2),ip (io 39 (.len true (.t 38))),ip (im 42 1),ip (io 43 (.len true (.t 42))),ip (im 44 2),ip (io 45 (.len true (.t 44))),ip (im 46 3),(io 37 (.call (jf 61) [.t 36]),[io 33 (.ld 1 false (.t 32))]),(io 40 (.call (jf 61) [.t 39]),[io 33 (.ld 1 false (.t 32))]),ip (io 41 (.bin .add (.t 37) (.t 40))),ip (io 47 (.bld zl7 [(0,(1,.t 34)),(1,(1,.t 41)),(3,(1,.t 43)),(4,(1,.t 45)),(5,(1,.t 46))])),ip (io 10 (.box 41 (.c za2))),ip (iz (.st 6 (.t 10) (.t 47)))]) pb1)):=rfl
def PubQ (D P R C M:Nat) (x:PubX) (fet:Int) (np:Nat) (H:Zaa) (r:AV) (G:Zaa):Prop:=r=.i x.e/\PgQ D P R C M x.d x.p x.br x.its fet np H G
section
variable {D P R C M X:Nat} {d d':Dv} {p:Pg} {br:Bool} {its:Its} {fet:Int} {np:Nat} {H G:Zaa} {F:Fr} {Q:AEx->Fr->Zaa->Prop} {x:PubX} {r:Rt} {own list l:List Int} {t t1 t2 t3 t4:Tok}
theorem ukW {ws:List Nat} {n W:Nat} (w:RmA ws n R W H) (kf:KF (·=W) H G):KD [149+3] H G:=KD.of kf fun i o hi ho=>by
 subst hi
 rw[w.w]at ho;injection ho with ho;rw[<- ho];simp[kdO]
theorem ukP (cs:List AV):kdO (.cells cs 106) ∉ [149+3]:=by show 106+3 ∉ [149+3];decide
theorem ukX (cs:List AV):kdO (.cells cs 41) ∉ [149+3]:=by show 41+3 ∉ [149+3];decide
theorem ukA:∀x∈[149+3],x∈AKs:=Xb
theorem ukD:∀x∈DKs,x ∉ [149+3]:=Xb
theorem ukC:∀x∈CKs,x ∉ [149+3]:=Xb
theorem dkA:∀x∈DKs,x∈AKs:=Xb
theorem dkPs:∀x∈PKs,x ∉ DKs:=Xb
theorem ckA:∀x∈CKs,x∈AKs:=Xb
theorem ckD:∀x∈DKs,x ∉ CKs:=Xb
theorem ckP (cs:List AV):kdO (.cells cs 106) ∉ CKs:=by show 106+3 ∉ CKs;decide
theorem ZSU (qr:ZNG Q [.tmp 8] (PubQ D P R C M x fet np H)) (f0:Fr.get F 0=.ptr P 0) (f10:Fr.get F 10=.ptr X 0) (f11:Fr.get F 11=.sl t (rI l)) (f14:Fr.get F 14=.sl t1 (rI own)) (f15:Fr.get F 15=.sl t2 (rI list)) (gX:G.get X=some (.cells [.i r.gen,.i r.pages,.i r.map,.i r.cat,.i r.nodes,.i r.top] 41)) (hd:DvX D d' G) (hp:PgB D P R C M p br its fet np G) (kd:KD AKs H G)
  (h1:∀y∈l,0<=y/\y<(np:Int)/\y ∉ p.used) (h2:l.Nodup) (h3:own++list=l) (hl:l.length<=2047) (hx:x=⟨0,d',⟨r,own,list⟩,br,[]⟩):AW Tryz.prog pb5 Q F G:=by
 have qn:=trivial
 obtain⟨tw,tl,g⟩:=hp.g
 obtain⟨ws,W,w1,w2⟩:=hp.w
 obtain⟨u1,u2,u3,u4⟩:=ZQ9 w2 h1 h2
 have hus:=ZNS w1 t l Xa
 have hul:p.used.length<=2047:=by
  have:=w2.free.2
  have:=w1.n2
  omega
 have hol:p.own.length<=2047/\p.list.length<=2047:=by
  unfold Pg.used at hul
  rw[zac]at hul
  omega
 unfold RmR at hus
 rw[u1,if_pos rfl]at hus
 have hfr:=fun(K:Zaa) (hK:RmA (ZMm ws l) np R W K)=>ZPk hK .no p.used Xa
 unfold RmR at hfr
 rw[u3,if_pos rfl]at hfr
 have hcc:=fun K=>ZMY .full tw tl p.own p.list K Xa Xa
 have fin:∀{K:Zaa},DvX D d' K->KD AKs H K->(∃ta tb,K.get P=some (.cells (pgC D (.i r.gen) (.i r.pages) (.i r.map) (.i r.cat) (.i r.nodes) (.i r.top) (.sl ta (rI own)) (.sl tb (rI list)) (.ptr R 0) (.ptr C 0) (.b br) fet) 106))->RmA (ZMm (ZMm ws l) p.used) np R W K->CaS C M [] K->∃r2 H2,Zb6 (.i 0) K r2 H2/\PubQ D P R C M x fet np H r2 H2:=by
  intro K q1 q2 q3 q4 q5
  subst hx
  refine Zaq ⟨rfl,q1,⟨q3,⟨_,W,q4,?_⟩,q5⟩,q2⟩
  show RmI _ (own++list) np
  rw[h3]
  exact u4
 have hc:=hp.c
 clear hx u1 u3 u4 h1
 unfold pb5
 refine Bz1 (X3 f0 f11 g) ?_
 refine Zap.use hus ?_
 rintro _ G1 ⟨rfl,hR1,kf1⟩
 have k1:=ukW w1 kf1
 have g1:=k1.g _ _ (ukP _) g
 have gX1:=k1.g _ _ (ukX _) gX
 have q1:=hd.keep k1 ukD
 have c1:=hc.keep k1 ukC
 have kd1:=kd.trans (k1.mono ukA)
 clear kf1 hus
 refine Bz1 (X2 f0 g1) ?_
 refine qcp (hcc _) fun k2=>?_
 refine Bz1 (X2 f0 g1) ?_
 refine Zap.use (hfr _ (hR1.ext (Zaa.Ext.refl _).bump)) ?_
 rintro _ G2 ⟨_,hR2,kf2⟩
 have k3:=ukW (hR1.ext (Zaa.Ext.refl _).bump) kf2
 have g2:=k3.g _ _ (ukP _) ((Zaa.ZaB (k:=k2)).trans g1)
 have gX2:=k3.g _ _ (ukX _) ((Zaa.ZaB (k:=k2)).trans gX1)
 have q2:=(q1.ext (Zaa.Ext.bump (k:=k2) (Zaa.Ext.refl _))).keep k3 ukD
 have c2:=(c1.keep (KD.ext (ks:=[]) (Zaa.Ext.bump (k:=k2) (Zaa.Ext.refl _))) Xc).keep k3 ukC
 have kd2:=(kd1.bump k2).trans (k3.mono ukA)
 clear kf2 hfr hcc k1 g1 gX1 q1 c1 kd1 k3
 have lP2:=Zaa.lt g2
 have k4:=KD.set (o:=.cells (pgC D (.i r.gen) (.i r.pages) (.i r.map) (.i r.cat) (.i r.nodes) (.i r.top) (.sl t1 (rI own)) (.sl t2 (rI list)) (.ptr R 0) (.ptr C 0) (.b br) fet) 106) (KD.refl [106+3] _) g2 (kP2 _)
 have c3:=c2.keep k4 pksC
 have q3:=q2.keep k4 pksD
 have kd3:=kd2.trans (k4.mono pksA)
 have R3:=wkRm Xb Xb k4 hR2
 have g3:=Zaa.Zal (o:=.cells (pgC D (.i r.gen) (.i r.pages) (.i r.map) (.i r.cat) (.i r.nodes) (.i r.top) (.sl t1 (rI own)) (.sl t2 (rI list)) (.ptr R 0) (.ptr C 0) (.b br) fet) 106) lP2
 ((have hd:=tv;repeat' first|(first|apply Zad|apply Zac|apply Zab)<;>intro hd<;>try simp only[hd]|simp(disch:=first|assumption|omega|simp only[nx]<;>omega|fail)only[hd,qr,qn,Zca,↓YA,YY,↓reduceIte,Nat.reduceEqDiff,Nat.reduceAdd,Nat.reduceMul,Nat.reduceLeDiff,Int.reduceToNat,Int.reduceLE,Int.reduceLT,Int.reduceGT,Int.reduceGE,Int.reduceAdd,Int.reduceSub,Int.reduceNeg,Int.reduceBEq,Int.reduceBNe,f0,f10,f14,f15,g2,gX2,ZMs])<;>try revert hd;refine ttr ?_)
 refine Zap.use (ZPb c3) ?_
 rintro _ G4 ⟨rfl,c4,k5⟩
 refine Bz0 ?_
 exact fin (q3.keep k5 ckD) (kd3.trans (k5.mono ckA)) ⟨t1,t2,k5.g _ _ (ckP _) g3⟩ (wkRm Xb Xb k5 R3) c4
end
open Go.RowKit Go.Lib
section
variable {D P R C M X:Nat} {d:Dv} {p:Pg} {br:Bool} {its:Its} {fet:Int} {np:Nat} {H G:Zaa} {F:Fr} {Q:AEx->Fr->Zaa->Prop} {x:PubX} {r:Rt} {own list l:List Int} {data maps:List Tx} {t t1 t2 t3 t4:Tok}
theorem ZSs (qr:ZNG Q [.tmp 8] (PubQ D P R C M x fet np H)) (hr:r.ok=true) (f0:Fr.get F 0=.ptr P 0) (f10:Fr.get F 10=.ptr X 0) (f11:Fr.get F 11=.sl t (rI l)) (f14:Fr.get F 14=.sl t1 (rI own)) (f15:Fr.get F 15=.sl t2 (rI list)) (f16:Fr.get F 16=.sl t3 (rS data)) (f17:Fr.get F 17=.sl t4 (rS maps)) (gX:G.get X=some (.cells [.i r.gen,.i r.pages,.i r.map,.i r.cat,.i r.nodes,.i r.top] 41)) (hd:DvX D d G) (hp:PgB D P R C M p br its fet np G) (kd:KD AKs H G)
  (h1:∀y∈l,0<=y/\y<(np:Int)/\y ∉ p.used) (h2:l.Nodup) (h3:own++list=l) (hl:l.length<=2047) (hb:∀y∈l,0<=y/\y<=2046) (hml:maps.length<=own.length) (hm2:∀s∈maps,s.length=256) (hdl:data.length<=list.length) (hd2:∀s∈data,s.length=256) (hpu:d.puts.length<=900000)
  (hx:x=if (ZMT d r own list data maps).2=0 then ⟨0,(ZMT d r own list data maps).1,⟨r,own,list⟩,br,[]⟩ else ⟨(ZMT d r own list data maps).2,(ZMT d r own list data maps).1,p,true,its⟩):AW Tryz.prog pb4 Q F G:=by
 have qn:=trivial
 obtain⟨tw,tl,g⟩:=hp.g
 have hll:own.length+list.length<=2047:=by rw[<- zac,h3];exact hl
 have hs:=ZQ2 (t2:=t1) (t3:=t2) (t4:=t3) (t5:=t4) hr g hd hml (fun y hy=>hb y (by rw[<- h3];exact zaJ _ hy)) hm2 hdl (fun y hy=>hb y (by rw[<- h3];exact zaR _ hy)) hd2 Xa
 unfold LayR at hs
 generalize ZMT d r own list data maps=y at *
 by_cases he:y.2=0
 ·rw[if_pos he]at hx
  have d1:(y.2 != 0)=false:=by rw[he];rfl
  unfold pb4
  refine Bz1 (X7 f0 f10 f14 f15 f16 f17 gX) ?_
  refine Zap.use hs ?_
  rintro _ G1 ⟨rfl,q1,k1⟩
  ((have hd:=tv;repeat' first|(first|apply Zad|apply Zac|apply Zab)<;>intro hd<;>try simp only[hd]|simp(disch:=first|assumption|omega|simp only[nx]<;>omega|fail)only[hd,qr,qn,Zca,↓YA,YY,↓reduceIte,Nat.reduceEqDiff,Nat.reduceAdd,Nat.reduceMul,Nat.reduceLeDiff,Int.reduceToNat,Int.reduceLE,Int.reduceLT,Int.reduceGT,Int.reduceGE,Int.reduceAdd,Int.reduceSub,Int.reduceNeg,Int.reduceBEq,Int.reduceBNe,d1])<;>try revert hd;refine ttr ?_)
  exact ZSU qr (by simpa [Fr.get] using f0) (by simpa [Fr.get] using f10) (by simpa [Fr.get] using f11) (by simpa [Fr.get] using f14) (by simpa [Fr.get] using f15) (k1.g _ _ (dkX _) gX) q1 (hp.keep k1 dkPs) (kd.trans (k1.mono dkA)) h1 h2 h3 hl hx
 ·rw[if_neg he]at hx
  have d1:(y.2 != 0)=true:=by simpa using he
  subst hx
  unfold pb4
  refine Bz1 (X7 f0 f10 f14 f15 f16 f17 gX) ?_
  refine Zap.use hs ?_
  rintro _ G1 ⟨rfl,q1,k1⟩
  have g1:=k1.g _ _ (dkP _) g
  have lP1:=Zaa.lt g1
  have hp1:=hp.keep k1 dkPs
  have k2:=KD.set (o:=.cells (pgO D R C p true fet tw tl) 106) (KD.refl [106+3] _) g1 (kP2 _)
  ((have hd:=tv;repeat' first|(first|apply Zad|apply Zac|apply Zab)<;>intro hd<;>try simp only[hd]|simp(disch:=first|assumption|omega|simp only[nx]<;>omega|fail)only[hd,qr,qn,Zca,↓YA,YY,↓reduceIte,Nat.reduceEqDiff,Nat.reduceAdd,Nat.reduceMul,Nat.reduceLeDiff,Int.reduceToNat,Int.reduceLE,Int.reduceLT,Int.reduceGT,Int.reduceGE,Int.reduceAdd,Int.reduceSub,Int.reduceNeg,Int.reduceBEq,Int.reduceBNe,f0,d1,g1])<;>try revert hd;refine ttr ?_)
  refine Zaq ⟨rfl,q1.keep k2 pksD,⟨⟨tw,tl,Zaa.Zal lP1⟩,?_,hp1.c.keep k2 pksC⟩,(kd.trans (k1.mono dkA)).trans (k2.mono pksA)⟩
  obtain⟨ws,W,w1,w2⟩:=hp1.w
  exact⟨ws,W,wkRm Xb Xb k2 w1,w2⟩
theorem ZRu {c n:Tx} (qr:ZNG Q [.tmp 8] (PubQ D P R C M x fet np H)) (hr:r.ok=true) (f0:Fr.get F 0=.ptr P 0) (f1:Fr.get F 1=eS c) (f2:Fr.get F 2=eS n) (f10:Fr.get F 10=.ptr X 0) (f11:Fr.get F 11=.sl t (rI l)) (f14:Fr.get F 14=.sl t1 (rI own)) (f15:Fr.get F 15=.sl t2 (rI list)) (gX:G.get X=some (.cells [.i r.gen,.i r.pages,.i r.map,.i r.cat,.i r.nodes,.i r.top] 41)) (hd:DvX D d G) (hp:PgB D P R C M p br its fet np G) (kd:KD AKs H G)
  (h1:∀y∈l,0<=y/\y<(np:Int)/\y ∉ p.used) (h2:l.Nodup) (h3:own++list=l) (hl:l.length<=2047) (hb:∀y∈l,0<=y/\y<=2046) (hcl:(own.length:Int)=ZL3 list.length) (hdl:(list.length:Int)=ZLU c.length+ZLU n.length) (hpu:d.puts.length<=900000) (hc:c.length<=900000) (hn:n.length<=900000)
  (hx:x=if (ZMT d r own list (ZMF c n) (ZM2 own list)).2=0 then ⟨0,(ZMT d r own list (ZMF c n) (ZM2 own list)).1,⟨r,own,list⟩,br,[]⟩ else ⟨(ZMT d r own list (ZMF c n) (ZM2 own list)).2,(ZMT d r own list (ZMF c n) (ZM2 own list)).1,p,true,its⟩):AW Tryz.prog pb3 Q F G:=by
 have qn:=trivial
 have hll:own.length+list.length<=2047:=by rw[<- zac,h3];exact hl
 have hs:=ZPu t1 t2 c n own list G hc hn Xa hcl (fun y hy=>hb y (by rw[<- h3];exact zaJ _ hy)) (fun y hy=>hb y (by rw[<- h3];exact zaR _ hy))
 have e1:=ZRt c n
 have e2:=ZRE c n
 have e3:=ZRU own list
 have e4:=ZSr own list
 generalize ZMF c n=data at *
 generalize ZM2 own list=maps at *
 have n0:((0:Int) != 0)=false:=rfl
 unfold pb3
 refine Bz1 (X4 f1 f2 f14 f15) ?_
 refine Zap.use hs ?_
 rintro _ G1 ⟨x1,k1,k2,rfl⟩
 refine Bz1 (X1 n0) ?_
 exact ZSs (t3:=k1) (t4:=k2) qr hr (by simpa [Fr.get] using f0) (by simpa [Fr.get] using f10) (by simpa [Fr.get] using f11) (by simpa [Fr.get] using f14) (by simpa [Fr.get] using f15) rfl rfl (x1.get _ _ gX) (hd.ext x1) (hp.ext x1) (kd.trans (KD.ext x1)) h1 h2 h3 hl hb Xa e4 Xa e2 hpu hx
theorem KD.setN {ks:List Nat} (h:KD ks H G) {i:Nat} {o:Zb3} (hi:H.next<=i):KD ks H (G.set i o):=⟨h.n,fun j b hj e=>by
 have:=Zaa.lt e
 rw[Zaa.Zah Xa]
 exact h.g j b hj e⟩
theorem ZRr {c n:Tx} {top:Int} (h:ZOX d p c n top=0) (hn:np=ofP d.sec.length) (h2:np<=2047):c.length<=900000/\n.length<=900000/\1<=c.length/\0<=ZMh c.length n.length/\ZMh c.length n.length<=2047:=by
 obtain⟨r1,r2,r3⟩:=ZNt h
 have hN:ZMh c.length n.length=ZLU c.length+ZLU n.length+ZL3 (ZLU c.length+ZLU n.length):=rfl
 have b3:(1:Int)<=c.length:=(okR r3).2.2.1
 have hc1:1<=ZLU c.length:=by unfold ZLU;split<;>omega
 have hn0:0<=ZLU n.length:=by unfold ZLU;split<;>omega
 obtain⟨m1,m2,m3⟩:=ZSX (show 0<=ZLU c.length+ZLU n.length by omega)
 have hc2:ZLU c.length<=2047:=Xa
 have hn2:ZLU n.length<=2047:=Xa
 unfold ZLU at hc2 hn2
 refine⟨?_,?_,Xa,Xa,Xa⟩
 ·split at hc2<;>omega
 ·split at hn2<;>omega
theorem rI_takeA (l:List Int) (k:Nat):(rI l).take k=rI (l.take k):=by rw[rI,rI,zcE]
theorem rI_dropA (l:List Int) (k:Nat):(rI l).drop k=rI (l.drop k):=by rw[rI,rI,List.map_drop]
theorem ZRP {c n:Tx} {top:Int} (hnp:np=ofP d.sec.length) (qr:ZNG Q [.tmp 8] (PubQ D P R C M x fet np H)) (href:ZOX d p c n top=0) (f0:Fr.get F 0=.ptr P 0) (f1:Fr.get F 1=eS c) (f2:Fr.get F 2=eS n) (f10:Fr.get F 10=.ptr X 0) (gX:G.get X=some (.cells [.i (p.root.gen+1),.i (ZLU c.length+ZLU n.length),.i 0,.i (c.length:Int),.i (n.length:Int),.i top] 41)) (hXH:H.next<=X) (hd:DvX D d G) (hp:PgB D P R C M p br its fet np G) (kd:KD AKs H G) (hpu:d.puts.length<=900000)
  (hx:x=if (ZNv d p c n top).2=0 then ⟨0,(ZNv d p c n top).1,ZMf d p c n top,br,[]⟩ else ⟨(ZNv d p c n top).2,(ZNv d p c n top).1,p,true,its⟩):AW Tryz.prog pb2 Q F G:=by
 have qn:=trivial
 obtain⟨tw,tl,g⟩:=hp.g
 obtain⟨ws,W,w1,w2⟩:=hp.w
 have hn2:=w1.n2
 have nf:=ZPo hnp hn2 w2 href
 obtain⟨b1,b2,b3,b4,b5⟩:=ZRr href hnp hn2
 obtain⟨r1,r2,r3⟩:=ZNt href
 have hN:=ZMM c.length n.length G Xa Xa
 obtain⟨N,hNe⟩:=zaL b4
 have hfl:=w2.free.2
 have hlw:=fun k=>ZQc (w1.ext (Zaa.Ext.bump (k:=k) (Zaa.Ext.refl G))) N w2.tidy Xa
 have hlo:(ZLV (bit ws) np).take N=ZM4 d p c n:=by
  unfold ZM4
  rw[ZOO w2,<- hnp,hNe]
  rfl
 rw[hlo]at hlw
 rw[hNe]at hN
 have hll:=nf.ll
 rw[hNe]at hll
 have hll:(ZM4 d p c n).length=N:=hll
 have hus:=nf.us
 obtain⟨l1,l2,l3⟩:=ZNK (N:=N) w2 Xa
 have hlo2:ZM4 d p c n=lowP p.used np N:=by rw[<- hlo,ZOO w2]
 rw[<- hlo2]at l2 l3
 have hel:=nf.el
 have hol:=nf.ol
 have hsl:=nf.sl
 have hhd:=nf.hd
 have hpg:=nf.pg
 have hpv:(ZOk d p c n top).pages=ZLU c.length+ZLU n.length:=rfl
 rw[hpv]at hol hsl hpg
 have hpgb:ZLU c.length+ZLU n.length<=2047:=(okR r3).2.2.2.2.2.2.2.2.2.1
 have hct:=fun K=>ZMj (ZLU c.length+ZLU n.length) K Xa Xa
 have hown:(ZMf d p c n top).own=(ZM4 d p c n).take (ZL3 (ZLU c.length+ZLU n.length)).toNat:=rfl
 have hlist:(ZMf d p c n top).list=(ZM4 d p c n).drop (ZL3 (ZLU c.length+ZLU n.length)).toNat:=rfl
 have hnr:ZOk d p c n top=⟨p.root.gen+1,ZLU c.length+ZLU n.length,(ZOk d p c n top).map,c.length,n.length,top⟩:=rfl
 have hpb:ZNv d p c n top=ZMT d (ZOk d p c n top) (ZMf d p c n top).own (ZMf d p c n top).list (ZMF c n) (ZM2 (ZMf d p c n top).own (ZMf d p c n top).list):=rfl
 have hnw:ZMf d p c n top=⟨ZOk d p c n top,(ZMf d p c n top).own,(ZMf d p c n top).list⟩:=rfl
 have hrok:=nf.ok
 have hcm:ZL3 (ZLU c.length+ZLU n.length)=(((ZMf d p c n top).own.length:Nat):Int):=hol.symm
 have hkl:(ZMf d p c n top).own.length<=(ZM4 d p c n).length:=by rw[hown,zaj];omega
 have tk1:(rI (ZM4 d p c n)).take (ZMf d p c n top).own.length=rI (ZMf d p c n top).own:=by
  rw[rI_takeA,hown,zaj,hcm,Int.toNat_natCast,hown,zaj,hcm,Int.toNat_natCast]
  congr 2
  omega
 have dr1:(rI (ZM4 d p c n)).drop (ZMf d p c n top).own.length=rI (ZMf d p c n top).list:=by
  rw[rI_dropA,hlist,hcm,Int.toNat_natCast]
 have hrl:(rI (ZM4 d p c n)).length=(ZM4 d p c n).length:=Xc
 rw[hcm]at hct
 rw[hpb,hnw]at hx
 simp only at hx
 have hll2:(((ZMf d p c n top).list.length:Nat):Int)=ZLU c.length+ZLU n.length:=hsl
 have hcl:(((ZMf d p c n top).own.length:Nat):Int)=ZL3 (ZMf d p c n top).list.length:=by rw[hll2];exact hol
 have hus2:(ZMf d p c n top).own++(ZMf d p c n top).list=ZM4 d p c n:=hus
 clear hown hlist hpb hnw hpv hol hlo hlo2 nf hus hsl
 generalize ZM4 d p c n=l at *
 generalize (ZMf d p c n top).own=own at *
 generalize (ZMf d p c n top).list=list at *
 generalize ZOk d p c n top=r at *
 obtain⟨rg,rp,rm,rc,rn,rt⟩:=r
 simp only[Rt.mk.injEq]at hnr
 obtain⟨rfl,rfl,_,rfl,rfl,rfl⟩:=hnr
 obtain⟨own',rfl⟩:∃o,own=rm :: o:=by
  cases own with
  | nil=>cases hhd
  | cons a o=>simp only[List.head?_cons,zaa]at hhd;exact⟨o,by rw[hhd]⟩
 have hr0:(rI (rm :: own'))[0]?=some [.i rm]:=rfl
 have hal:ZaE 1 (rI l)=true:=Zfq l
 have lX:=Zaa.lt gX
 have lP:=Zaa.lt g
 have hPX:P≠X:=ZOb g gX (by show 106+3≠41+3;decide)
 have z0:(0:Int)<=(((rm :: own').length:Nat):Int):=Xa
 generalize hko:(rm :: own').length=k at *
 have z1:k<=l.length:=hkl
 have dr2:List.drop k (List.take l.length (rI l))=rI list:=by rw[zav Xc];exact dr1
 have d00:((0:Int)<((k:Nat):Int))=True:=by rw[<- hko];simp
 have x4:∀k1 k2 k3,Zaa.Ext G (((G.bump k1).bump k2).bump k3):=fun k1 k2 k3=>(Zaa.Ext.refl G).bump.bump.bump
 unfold pb2
 refine Bz1 (X4 f0 f1 f2 g) ?_
 refine qcp (hN) fun k1=>?_
 refine Bz1 (X1 g) ?_
 refine qcp (hlw k1) fun k2=>?_
 refine Bz1 (X2 f10 gX) ?_
 refine qcp (hct _) fun k3=>?_
 have gX5:=(x4 k1 k2 k3).get _ _ gX
 have k5:=KD.set (o:=.cells [.i (p.root.gen+1),.i (ZLU c.length+ZLU n.length),.i rm,.i (c.length:Int),.i (n.length:Int),.i rt] 41) (KD.refl [41+3] _) gX5 (by simp[kdO])
 have g5:=Zaa.Zal (o:=.cells [.i (p.root.gen+1),.i (ZLU c.length+ZLU n.length),.i rm,.i (c.length:Int),.i (n.length:Int),.i rt] 41) (Zaa.lt gX5)
 ((have hd:=tv;repeat' first|(first|apply Zad|apply Zac|apply Zab)<;>intro hd<;>try simp only[hd]|simp(disch:=first|assumption|omega|simp only[nx]<;>omega|fail)only[hd,qr,qn,Zca,↓YA,YY,↓reduceIte,Nat.reduceEqDiff,Nat.reduceAdd,Nat.reduceMul,Nat.reduceLeDiff,Int.reduceToNat,Int.reduceLE,Int.reduceLT,Int.reduceGT,Int.reduceGE,Int.reduceAdd,Int.reduceSub,Int.reduceNeg,Int.reduceBEq,Int.reduceBNe,f10,gX,hrl,tk1,dr2,z0,z1,hal,hr0,Zdi,zat,zad,zby,true_or,or_true,Int.toNat_natCast])<;>try revert hd;refine ttr ?_)
 exact ZRu (t:=.no) (r:=⟨p.root.gen+1,ZLU c.length+ZLU n.length,rm,c.length,n.length,rt⟩) qr hrok (by simpa [Fr.get] using f0) (by simpa [Fr.get] using f1) (by simpa [Fr.get] using f2) (by simpa [Fr.get] using f10) rfl rfl rfl g5 ((hd.ext (x4 k1 k2 k3)).keep k5 Xb) ((hp.ext (x4 k1 k2 k3)).keep k5 Xb) ((kd.trans (KD.ext (x4 k1 k2 k3))).setN hXH) l2 l3 hus2 Xa hel (by rw[hko];exact hcl) Xa hpu b1 b2 hx
theorem ZRW {c n:Tx} {top:Int} (hnp:np=ofP d.sec.length) (qr:ZNG Q [.tmp 8] (PubQ D P R C M x fet np H)) (ht:InI top) (hg0:0<=p.root.gen/\p.root.gen<=1099511627776) (hcl:c.length<=9223372036854775807) (hnl:n.length<=9223372036854775807) (f0:Fr.get F 0=.ptr P 0) (f1:Fr.get F 1=eS c) (f2:Fr.get F 2=eS n) (f10:Fr.get F 10=.ptr X 0) (gX:G.get X=some (.cells [.i (p.root.gen+1),.i (ZLU c.length+ZLU n.length),.i 0,.i (c.length:Int),.i (n.length:Int),.i top] 41)) (hXH:H.next<=X) (hd:DvX D d G) (hp:PgB D P R C M p br its fet np G) (kd:KD AKs H G) (hpu:d.puts.length<=900000)
  (hx:x=if ZOX d p c n top≠0 then ⟨ZOX d p c n top,d,p,br,its⟩ else if (ZNv d p c n top).2=0 then ⟨0,(ZNv d p c n top).1,ZMf d p c n top,br,[]⟩ else ⟨(ZNv d p c n top).2,(ZNv d p c n top).1,p,true,its⟩):AW Tryz.prog pb1 Q F G:=by
 have qn:=trivial
 obtain⟨tw,tl,g⟩:=hp.g
 obtain⟨ws,W,w1,w2⟩:=hp.w
 have hn2:=w1.n2
 have hN:=fun K=>ZMM c.length n.length K Xa Xa
 have hct:=fun K hK=>ZMt (H:=K) (w1.ext hK)
 rw[w2.count]at hct
 have hcc:0<=ZLU c.length/\ZLU c.length<=40000000000000000:=by unfold ZLU;split<;>omega
 have hcn:0<=ZLU n.length/\ZLU n.length<=40000000000000000:=by unfold ZLU;split<;>omega
 have hck:=fun K=>ZMy (verP p c n top) K ⟨⟨by show _<=p.root.gen+1;omega,by show p.root.gen+1<=_;omega⟩,⟨by show _<=ZLU c.length+ZLU n.length;omega,by show ZLU c.length+ZLU n.length<=_;omega⟩,⟨by show(_:Int)<=0;omega,by show(0:Int)<=_;omega⟩,⟨by show _<=(c.length:Int);omega,by show(c.length:Int)<=_;omega⟩,⟨by show _<=(n.length:Int);omega,by show(n.length:Int)<=_;omega⟩,ht⟩
 have hver:eRt (verP p c n top)=[.i (p.root.gen+1),.i (ZLU c.length+ZLU n.length),.i 0,.i (c.length:Int),.i (n.length:Int),.i top]:=rfl
 rw[hver]at hck
 have hrefe:ZOX d p c n top=if 1099511627776<p.root.gen+1 then 5 else if (ofP d.sec.length:Int) - p.used.length<ZMh c.length n.length then 7 else if (verP p c n top).ok=true then 0 else 2:=rfl
 rw[<- hnp]at hrefe
 have same:∀{K:Zaa} {e:Int},Zaa.Ext G K->x=⟨e,d,p,br,its⟩->∃r2 H2,Zb6 (.i e) K r2 H2/\PubQ D P R C M x fet np H r2 H2:=fun hK e=>by
  subst e
  exact Zaq ⟨rfl,hd.ext hK,hp.ext hK,kd.trans (KD.ext hK)⟩
 have x0:Zaa.Ext G G:=.refl _
 by_cases hA:1099511627776<p.root.gen+1
 ·rw[if_pos hA]at hrefe
  rw[hrefe,if_pos Xb]at hx
  have d1:decide (p.root.gen+1 > 1099511627776)=true:=decide_eq_true hA
  unfold pb1
  ((have hd:=tv;repeat' first|(first|apply Zad|apply Zac|apply Zab)<;>intro hd<;>try simp only[hd]|simp(disch:=first|assumption|omega|simp only[nx]<;>omega|fail)only[hd,qr,qn,Zca,↓YA,YY,↓reduceIte,Nat.reduceEqDiff,Nat.reduceAdd,Nat.reduceMul,Nat.reduceLeDiff,Int.reduceToNat,Int.reduceLE,Int.reduceLT,Int.reduceGT,Int.reduceGE,Int.reduceAdd,Int.reduceSub,Int.reduceNeg,Int.reduceBEq,Int.reduceBNe,f10,gX,d1])<;>try revert hd;refine ttr ?_)
  exact same x0 hx
 have d1:decide (p.root.gen+1 > 1099511627776)=false:=decide_eq_false hA
 rw[if_neg hA]at hrefe
 by_cases hB:(np:Int) - p.used.length<ZMh c.length n.length
 ·rw[if_pos hB]at hrefe
  rw[hrefe,if_pos Xb]at hx
  have d2:decide (ZMh c.length n.length > (np:Int) - (p.used.length:Int))=true:=decide_eq_true hB
  generalize ZMh c.length n.length=N at *
  unfold pb1
  ((have hd:=tv;repeat' first|(first|apply Zad|apply Zac|apply Zab)<;>intro hd<;>try simp only[hd]|simp(disch:=first|assumption|omega|simp only[nx]<;>omega|fail)only[hd,qr,qn,Zca,↓YA,YY,↓reduceIte,Nat.reduceEqDiff,Nat.reduceAdd,Nat.reduceMul,Nat.reduceLeDiff,Int.reduceToNat,Int.reduceLE,Int.reduceLT,Int.reduceGT,Int.reduceGE,Int.reduceAdd,Int.reduceSub,Int.reduceNeg,Int.reduceBEq,Int.reduceBNe,f10,gX,d1,f0,f1,f2,g])<;>try revert hd;refine ttr ?_)
  refine qcp (hN _) fun k1=>?_
  refine Bz1 (X1 g) ?_
  refine qcp (hct _ (by exact AXT)) fun k2=>?_
  ((have hd:=tv;repeat' first|(first|apply Zad|apply Zac|apply Zab)<;>intro hd<;>try simp only[hd]|simp(disch:=first|assumption|omega|simp only[nx]<;>omega|fail)only[hd,qr,qn,Zca,↓YA,YY,↓reduceIte,Nat.reduceEqDiff,Nat.reduceAdd,Nat.reduceMul,Nat.reduceLeDiff,Int.reduceToNat,Int.reduceLE,Int.reduceLT,Int.reduceGT,Int.reduceGE,Int.reduceAdd,Int.reduceSub,Int.reduceNeg,Int.reduceBEq,Int.reduceBNe,d2])<;>try revert hd;refine ttr ?_)
  exact same (by exact AXT) hx
 have d2:decide (ZMh c.length n.length > (np:Int) - (p.used.length:Int))=false:=decide_eq_false hB
 rw[if_neg hB]at hrefe
 by_cases hC:(verP p c n top).ok=true
 ·rw[if_pos hC]at hrefe
  rw[if_pos hC]at hck
  rw[if_neg (by rw[hrefe];decide)]at hx
  have n0:((0:Int) != 0)=false:=rfl
  have x3:∀k1 k2 k3,Zaa.Ext G (((G.bump k1).bump k2).bump k3):=fun k1 k2 k3=>(Zaa.Ext.refl G).bump.bump.bump
  clear same hB
  generalize ZMh c.length n.length=N at *
  unfold pb1
  ((have hd:=tv;repeat' first|(first|apply Zad|apply Zac|apply Zab)<;>intro hd<;>try simp only[hd]|simp(disch:=first|assumption|omega|simp only[nx]<;>omega|fail)only[hd,qr,qn,Zca,↓YA,YY,↓reduceIte,Nat.reduceEqDiff,Nat.reduceAdd,Nat.reduceMul,Nat.reduceLeDiff,Int.reduceToNat,Int.reduceLE,Int.reduceLT,Int.reduceGT,Int.reduceGE,Int.reduceAdd,Int.reduceSub,Int.reduceNeg,Int.reduceBEq,Int.reduceBNe,f10,gX,d1,f0,f1,f2,g])<;>try revert hd;refine ttr ?_)
  refine qcp (hN _) fun k1=>?_
  refine Bz1 (X1 g) ?_
  refine qcp (hct _ (by exact AXT)) fun k2=>?_
  ((have hd:=tv;repeat' first|(first|apply Zad|apply Zac|apply Zab)<;>intro hd<;>try simp only[hd]|simp(disch:=first|assumption|omega|simp only[nx]<;>omega|fail)only[hd,qr,qn,Zca,↓YA,YY,↓reduceIte,Nat.reduceEqDiff,Nat.reduceAdd,Nat.reduceMul,Nat.reduceLeDiff,Int.reduceToNat,Int.reduceLE,Int.reduceLT,Int.reduceGT,Int.reduceGE,Int.reduceAdd,Int.reduceSub,Int.reduceNeg,Int.reduceBEq,Int.reduceBNe,d2,f10,gX])<;>try revert hd;refine ttr ?_)
  refine qcp (hck _) fun k3=>?_
  refine Bz1 (X1 n0) ?_
  exact ZRP hnp qr hrefe (by simpa [Fr.get] using f0) (by simpa [Fr.get] using f1) (by simpa [Fr.get] using f2) (by simpa [Fr.get] using f10) ((x3 k1 k2 k3).get _ _ gX) hXH (hd.ext (x3 k1 k2 k3)) (hp.ext (x3 k1 k2 k3)) (kd.trans (KD.ext (x3 k1 k2 k3))) hpu hx
 ·rw[if_neg hC]at hrefe
  rw[if_neg hC]at hck
  rw[hrefe,if_pos Xb]at hx
  have n2:((2:Int) != 0)=true:=rfl
  generalize ZMh c.length n.length=N at *
  unfold pb1
  ((have hd:=tv;repeat' first|(first|apply Zad|apply Zac|apply Zab)<;>intro hd<;>try simp only[hd]|simp(disch:=first|assumption|omega|simp only[nx]<;>omega|fail)only[hd,qr,qn,Zca,↓YA,YY,↓reduceIte,Nat.reduceEqDiff,Nat.reduceAdd,Nat.reduceMul,Nat.reduceLeDiff,Int.reduceToNat,Int.reduceLE,Int.reduceLT,Int.reduceGT,Int.reduceGE,Int.reduceAdd,Int.reduceSub,Int.reduceNeg,Int.reduceBEq,Int.reduceBNe,f10,gX,d1,f0,f1,f2,g])<;>try revert hd;refine ttr ?_)
  refine qcp (hN _) fun k1=>?_
  refine Bz1 (X1 g) ?_
  refine qcp (hct _ (by exact AXT)) fun k2=>?_
  ((have hd:=tv;repeat' first|(first|apply Zad|apply Zac|apply Zab)<;>intro hd<;>try simp only[hd]|simp(disch:=first|assumption|omega|simp only[nx]<;>omega|fail)only[hd,qr,qn,Zca,↓YA,YY,↓reduceIte,Nat.reduceEqDiff,Nat.reduceAdd,Nat.reduceMul,Nat.reduceLeDiff,Int.reduceToNat,Int.reduceLE,Int.reduceLT,Int.reduceGT,Int.reduceGE,Int.reduceAdd,Int.reduceSub,Int.reduceNeg,Int.reduceBEq,Int.reduceBNe,d2,f10,gX])<;>try revert hd;refine ttr ?_)
  refine qcp (hck _) fun k3=>?_
  refine Bz1 (X1 n2) ?_
  exact same (by exact AXT) hx
theorem ZMH (hnp:np=ofP d.sec.length) (hd:DvX D d H) (hp:PgB D P R C M p br its fet np H) (c n:Tx) (top:Int) (ht:InI top) (hg0:0<=p.root.gen/\p.root.gen<=1099511627776) (hcl:c.length<=9223372036854775807) (hnl:n.length<=9223372036854775807) (hpu:d.puts.length<=900000):Zay Tryz.prog 12 [.ptr P 0,eS c,eS n,.i top] H (PubQ D P R C M (ZNd d p br its c n top) fet np H):=by
 have hrd:=ZLY hd hp
 obtain⟨tw,tl,g⟩:=hp.g
 have x1:∀k,Zaa.Ext H (H.bump k):=fun k=>Zaa.Ext.bump (Zaa.Ext.refl H)
 have hcc:0<=ZLU c.length/\ZLU c.length<=40000000000000000:=by unfold ZLU;split<;>omega
 have hcn:0<=ZLU n.length/\ZLU n.length<=40000000000000000:=by unfold ZLU;split<;>omega
 have w1:IntKind.i64.wrap (p.root.gen+1)=p.root.gen+1:=Zaw Xa Xa
 have w2:IntKind.i64.wrap (ZLU c.length+ZLU n.length)=ZLU c.length+ZLU n.length:=Zaw Xa Xa
 have a1:=fun K=>ZLZ c.length K Xa Xa
 have a2:=fun K=>ZLZ n.length K Xa Xa
 have goOn:ZMu p br d≠8->∀(k1 k2 k3:Nat) (Q:AEx->Fr->Zaa->Prop) (F:Fr),ZNG Q [.tmp 8] (PubQ D P R C M (ZNd d p br its c n top) fet np H)->Fr.get F 0=.ptr P 0->Fr.get F 1=eS c->Fr.get F 2=eS n->∀G X,Fr.get F 10=.ptr X 0->G.get X=some (.cells [.i (p.root.gen+1),.i (ZLU c.length+ZLU n.length),.i 0,.i (c.length:Int),.i (n.length:Int),.i top] 41)->H.next<=X->Zaa.Ext H G->AW Tryz.prog pb1 Q F G:=by
  intro hne k1 k2 k3 Q F qr f0 f1 f2 G X f10 gX hX hG
  refine ZRW hnp qr ht hg0 hcl hnl f0 f1 f2 f10 gX hX (hd.ext hG) (hp.ext hG) (KD.ext hG) hpu ?_
  unfold ZNd
  rw[if_neg hne]
 rcases ZRK p br d with e|e|e
 ·rw[e]at hrd
  have hx:ZNd d p br its c n top=⟨8,d,p,br,its⟩:=by unfold ZNd;rw[if_pos e]
  have n8:((8:Int) != 0)=true:=rfl
  have n10:((8:Int) != 10)=true:=rfl
  rw[hx]
  refine fnQ cf12 fun Q qr qn=>?_
  rw[ZOR]
  refine Bz0 ?_
  refine qcp (hrd) fun k1=>?_
  refine Bz1 (X2 n8 n10) ?_
  exact Zaq ⟨rfl,PgQ.same hd hp (x1 k1)⟩
 ·have goOn:=goOn (by rw[e];decide)
  rw[e]at hrd
  have n0:((0:Int) != 0)=false:=rfl
  generalize ZLU c.length=cc at *
  generalize ZLU n.length=cn at *
  refine fnQ cf12 fun Q qr qn=>?_
  rw[ZOR]
  refine Bz0 ?_
  refine qcp (hrd) fun k1=>?_
  refine Bz1 (X3 n0 g w1) ?_
  refine qcp (a1 _) fun k2=>?_
  refine Bz1 (X1 g) ?_
  refine qcp (a2 _) fun k3=>?_
  refine Bz1 (X2 g w2) ?_
  exact goOn k1 k2 k3 _ _ qr rfl rfl rfl _ _ rfl (Zaa.Zat rfl) Xa (by exact AXT)
 ·have goOn:=goOn (by rw[e];decide)
  rw[e]at hrd
  have n0:((10:Int) != 0)=true:=rfl
  have n1:((10:Int) != 10)=false:=rfl
  generalize ZLU c.length=cc at *
  generalize ZLU n.length=cn at *
  refine fnQ cf12 fun Q qr qn=>?_
  rw[ZOR]
  refine Bz0 ?_
  refine qcp (hrd) fun k1=>?_
  refine Bz1 (X4 n0 n1 g w1) ?_
  refine qcp (a1 _) fun k2=>?_
  refine Bz1 (X1 g) ?_
  refine qcp (a2 _) fun k3=>?_
  refine Bz1 (X2 g w2) ?_
  exact goOn k1 k2 k3 _ _ qr rfl rfl rfl _ _ rfl (Zaa.Zat rfl) Xa (by exact AXT)
end
end Go.Proofs.YtfjjpndoeppbhaaGreatDoor
