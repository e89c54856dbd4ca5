/- Texts of the walk. -/
import Derived.Test.YtfjjpndoeppbhaaGreatDoorMq
namespace Go.Proofs.YtfjjpndoeppbhaaGreatDoor
set_option linter.defProp false
set_option maxHeartbeats 64000000
set_option linter.unusedSimpArgs false
set_option linter.unusedVariables false
open Go.RowKit
structure KF (Fp:Nat->Prop) (H G:Zaa):Prop where
 n:H.next<=G.next
 g:∀i o,¬Fp i->H.get i=some o->G.get i=some o
section
variable {Fp F1:Nat->Prop} {H G K:Zaa} {o:Zb3}
theorem KF.refl (Fp:Nat->Prop) (H:Zaa):KF Fp H H:=⟨zad _,fun _ _ _ h=>h⟩
theorem KF.of (h:Zaa.Ext H G):KF Fp H G:=⟨h.next,fun i o _ e=>h.get i o e⟩
theorem KF.trans (h:KF Fp H G) (k:KF F1 G K) (hs:∀i,F1 i->Fp i\/H.next<=i):KF Fp H K:=⟨zaG h.n k.n,fun i o hi e=>k.g i o (fun hf=>by
 rcases hs i hf with hf|hf
 ·exact hi hf
 ·have:=Zaa.lt e;omega) (h.g i o hi e)⟩
theorem KF.ZeP (h:KF Fp H G) (k:KF Fp G K):KF Fp H K:=h.trans k fun _ h=>.inl h
theorem KF.mono (h:KF F1 H G) (hs:∀i,F1 i->Fp i\/H.next<=i):KF Fp H G:=(KF.refl Fp H).trans h hs
theorem KF.ext (h:KF Fp H G) (k:Zaa.Ext G K):KF Fp H K:=h.ZeP (.of k)
theorem KF.pre (h:Zaa.Ext H G) (k:KF Fp G K):KF Fp H K:=(KF.of h).ZeP k
theorem KF.bump (h:KF Fp H G) (k:Nat):KF Fp H (G.bump k):=h.ext (Zaa.Ext.refl _).bump
theorem KF.alloc (h:KF Fp H G):KF Fp H (G.alloc o):=h.ext (Zaa.Ext.refl _).alloc
theorem KF.set (h:KF Fp H G) {i:Nat} (hi:Fp i\/H.next<=i):KF Fp H (G.set i o):=⟨h.n,fun j o' hj e=>by
 have hl:=Zaa.lt e
 rw[Zaa.Zah (fun e2=>by
  rcases hi with hi|hi
  ·exact hj (e2 ▸ hi)
  ·omega)]
 exact h.g j o' hj e⟩
end
abbrev rP (l:List (Nat×Tx)):List (List AV):=l.map fun p=>[.i (p.1:Int),eS p.2]
abbrev cS (l:List Tx):List AV:=l.map eS
structure ZL5 (D S:Nat) (t:Tok) (d:Dv) (rd:Int) (H:Zaa):Prop where
 gd:H.get D=some (.cells [.arr S 0 d.sec.length d.sec.length,.sl t (rP d.puts),.i (d.ZMg:Int),.i rd,.i d.steps,.b d.off] 100)
 gs:H.get S=some (.cells (cS d.sec) 9)
 gt:t=.full\/∃T,t=.own T/\H.get T=some (.tok d.puts.length 125 2)
 ok:d.Ok
def DFp (D S:Nat) (t:Tok) (i:Nat):Prop:=i=D\/i=S\/t=.own i
section
variable {D S:Nat} {t:Tok} {d:Dv} {rd:Int} {H G:Zaa}
theorem ZL5.keep {Fp:Nat->Prop} (h:ZL5 D S t d rd H) (k:KF Fp H G) (hf:∀i,DFp D S t i->¬Fp i):ZL5 D S t d rd G :=
 ⟨k.g _ _ (hf D (.inl rfl)) h.gd,k.g _ _ (hf S (.inr (.inl rfl))) h.gs,by
  rcases h.gt with e|⟨T,e,g⟩
  ·exact .inl e
  ·exact .inr ⟨T,e,k.g _ _ (hf T (.inr (.inr e))) g⟩,h.ok⟩
theorem ZL5.ext (h:ZL5 D S t d rd H) (k:Zaa.Ext H G):ZL5 D S t d rd G:=h.keep (KF.of (Fp:=fun _=>False) k) fun _ _ h=>h
theorem ZL5.bump (h:ZL5 D S t d rd H) (k:Nat):ZL5 D S t d rd (H.bump k):=h.ext (Zaa.Ext.refl _).bump
theorem ZL5.ne (h:ZL5 D S t d rd H):D≠S:=fun e=>by
 have h1:=h.gd
 rw[e,h.gs]at h1
 injection h1 with h1
 injection h1 with _ h1
 exact absurd h1 Xb
theorem ZL5.old (h:ZL5 D S t d rd H) {i:Nat} (hi:DFp D S t i):i<H.next:=by
 rcases hi with rfl|rfl|hi
 ·exact Zaa.lt h.gd
 ·exact Zaa.lt h.gs
 ·rcases h.gt with e|⟨T,e,g⟩
  ·rw[e]at hi;cases hi
  ·rw[e]at hi;cases hi;exact Zaa.lt g
theorem ZL5.put (h:ZL5 D S t d rd H) {d':Dv} {rd':Int} (hs:d'.sec=d.sec) (hp:d'.puts=d.puts) (ho:d'.Ok):ZL5 D S t d' rd' (H.set D (.cells [.arr S 0 d.sec.length d.sec.length,.sl t (rP d.puts),.i (d'.ZMg:Int),.i rd',.i d'.steps,.b d'.off] 100))/\KF (DFp D S t) H (H.set D (.cells [.arr S 0 d.sec.length d.sec.length,.sl t (rP d.puts),.i (d'.ZMg:Int),.i rd',.i d'.steps,.b d'.off] 100)):=by
 have hne:=h.ne
 refine⟨⟨by rw[Zaa.Zal (Zaa.lt h.gd),hs,hp],by rw[Zaa.Zah (zbn hne),hs];exact h.gs,?_,ho⟩,(KF.refl _ _).set (.inl (.inl rfl))⟩
 rcases h.gt with e|⟨T,e,g⟩
 ·exact .inl e
 ·refine .inr ⟨T,e,?_⟩
  rw[Zaa.Zah,hp]
  ·exact g
  ·intro e2
   rw[e2,h.gd]at g
   cases g
theorem ZLW (h:ZL5 D S t d rd H):Zay Tryz.prog 70 [.ptr D 0] H (Pure H (.b true)):=by
 have gD0:=h.gd
 have hn:=h.ok.n
 have dd:decide ((d.sec.length:Int) > 0)=true:=decide_eq_true Xa
 refine fnQ cf70 fun Q qr qn=>?_
 refine Bz1 (X2 gD0 dd) ?_
 refine ZbC (by rfl)
theorem ZML (h:ZL5 D S t d rd H):Zay Tryz.prog 50 [.ptr D 0] H (Pure H (.i (d.sec.length:Int))):=by
 have gD0:=h.gd
 refine fnQ cf50 fun Q qr qn=>?_
 refine Bz0 ?_
 refine qcp (ZLW h) fun k1=>?_
 refine Bz1 (X1 gD0) ?_
 refine Zaz (by rfl)
theorem ZQU (h:ZL5 D S t d rd H):Zay Tryz.prog 109 [.ptr D 0] H (Pure H (.b d.off)):=by
 have gD0:=h.gd
 refine fnQ cf109 fun Q qr qn=>?_
 refine Bz0 ?_
 refine qcp (ZLW h) fun k1=>?_
 refine Bz1 (X1 gD0) ?_
 refine ZbC (by rfl)
theorem ZMk (h:ZL5 D S t d rd H) (i:Int):Zay Tryz.prog 83 [.ptr D 0,.i i] H (Pure H (.i (d.rdy i))):=by
 have gD0:=h.gd
 have hv:d.rdy i=if d.off=true then 8 else if i<0\/(d.sec.length:Int)<=i then 9 else 0:=rfl
 rcases bfb d.off with ho|ho
 ·rw[ho,if_neg Xc]at hv
  by_cases h1:i<0
  ·rw[if_pos (.inl h1)]at hv
   have d1:decide (i<0)=true:=decide_eq_true h1
   rw[hv]
   refine fnQ cf83 fun Q qr qn=>?_
   refine Bz0 ?_
   refine qcp (ZLW h) fun k1=>?_
   ((have hd:=tv;repeat' first|(first|apply Zad|apply Zac|apply Zab)<;>intro hd<;>try simp only[hd]|simp(disch:=first|assumption|omega|simp only[nx]<;>omega|fail)only[hd,qr,qn,ZRI,↓YA,YY,↓reduceIte,Nat.reduceEqDiff,Nat.reduceAdd,Nat.reduceMul,Nat.reduceLeDiff,Int.reduceToNat,Int.reduceLE,Int.reduceLT,Int.reduceGT,Int.reduceGE,Int.reduceAdd,Int.reduceSub,Int.reduceNeg,Int.reduceBEq,Int.reduceBNe,gD0,ho,d1])<;>try revert hd;refine ttr ?_)
   refine Zaz (by rfl)
  ·have d1:decide (i<0)=false:=decide_eq_false h1
   by_cases h2:(d.sec.length:Int)<=i
   ·rw[if_pos (.inr h2)]at hv
    have d2:decide (i≥(d.sec.length:Int))=true:=decide_eq_true h2
    rw[hv]
    refine fnQ cf83 fun Q qr qn=>?_
    refine Bz0 ?_
    refine qcp (ZLW h) fun k1=>?_
    ((have hd:=tv;repeat' first|(first|apply Zad|apply Zac|apply Zab)<;>intro hd<;>try simp only[hd]|simp(disch:=first|assumption|omega|simp only[nx]<;>omega|fail)only[hd,qr,qn,ZRI,↓YA,YY,↓reduceIte,Nat.reduceEqDiff,Nat.reduceAdd,Nat.reduceMul,Nat.reduceLeDiff,Int.reduceToNat,Int.reduceLE,Int.reduceLT,Int.reduceGT,Int.reduceGE,Int.reduceAdd,Int.reduceSub,Int.reduceNeg,Int.reduceBEq,Int.reduceBNe,gD0,ho,d1,d2])<;>try revert hd;refine ttr ?_)
    refine Zaz (by rfl)
   ·rw[if_neg Xa]at hv
    have d2:decide (i≥(d.sec.length:Int))=false:=decide_eq_false h2
    rw[hv]
    refine fnQ cf83 fun Q qr qn=>?_
    refine Bz0 ?_
    refine qcp (ZLW h) fun k1=>?_
    ((have hd:=tv;repeat' first|(first|apply Zad|apply Zac|apply Zab)<;>intro hd<;>try simp only[hd]|simp(disch:=first|assumption|omega|simp only[nx]<;>omega|fail)only[hd,qr,qn,ZRI,↓YA,YY,↓reduceIte,Nat.reduceEqDiff,Nat.reduceAdd,Nat.reduceMul,Nat.reduceLeDiff,Int.reduceToNat,Int.reduceLE,Int.reduceLT,Int.reduceGT,Int.reduceGE,Int.reduceAdd,Int.reduceSub,Int.reduceNeg,Int.reduceBEq,Int.reduceBNe,gD0,ho,d1,d2])<;>try revert hd;refine ttr ?_)
    refine Zaz (by rfl)
 ·rw[ho,if_pos rfl]at hv
  rw[hv]
  refine fnQ cf83 fun Q qr qn=>?_
  refine Bz0 ?_
  refine qcp (ZLW h) fun k1=>?_
  refine Bz1 (X2 gD0 ho) ?_
  refine Zaz (by rfl)
def ZL0 (D S:Nat) (t:Tok) (H:Zaa) (v:AV) (d':Dv) (r:AV) (G:Zaa):Prop:=r=v/\(∃t' rd',ZL5 D S t' d' rd' G/\(∀i,DFp D S t' i->DFp D S t i\/H.next<=i))/\KF (DFp D S t) H G
theorem ZL0.same (h:ZL5 D S t d rd H) {v:AV} (k:Nat):ZL0 D S t H v d v (H.bump k):=⟨rfl,⟨t,rd,h.bump k,fun _ h=>.inl h⟩,(KF.refl _ _).bump k⟩
theorem ZL0.put (h:ZL5 D S t d rd H) {v:AV} {d':Dv} {rd':Int} {G:Zaa} (hs:d'.sec=d.sec) (hp:d'.puts=d.puts) (ho:d'.Ok) (e:G=H.set D (.cells [.arr S 0 d.sec.length d.sec.length,.sl t (rP d.puts),.i (d'.ZMg:Int),.i rd',.i d'.steps,.b d'.off] 100)):ZL0 D S t H v d' v G:=by
 subst e
 obtain⟨h1,h2⟩:=h.put (rd':=rd') hs hp ho
 exact⟨rfl,⟨t,rd',h1,fun _ h=>.inl h⟩,h2⟩
theorem ZL0.pre (hb:∀i,DFp D S t i->i<H.next) {v:AV} {d':Dv} {r:AV} (hx:Zaa.Ext H G) {K:Zaa} (h:ZL0 D S t G v d' r K):ZL0 D S t H v d' r K:=by
 obtain⟨h1,⟨t',rd',h2,h3⟩,h4⟩:=h
 exact⟨h1,⟨t',rd',h2,fun i hi=>(h3 i hi).imp id fun h=>zaG hx.next h⟩,KF.pre hx h4⟩
theorem ZMs {o o':Zb3} {i:Nat}:(H.set i o).set i o'=H.set i o':=by
 refine Zaa.ext ?_ rfl
 funext j
 simp only[Zaa.set]
 by_cases h:j=i
 ·simp[h]
  rfl
 ·simp[h]
theorem ZNZ (h:ZL5 D S t d rd H):Zay Tryz.prog 84 [.ptr D 0] H (ZL0 D S t H (.i (if d.stp.2=true then 0 else 8)) d.stp.1):=by
 have gD0:=h.gd
 have hl:=Zaa.lt gD0
 have ho:=h.ok.stp
 have hstp:d.stp=if d.ZMg=1 then ({ d with ZMg:=0,off:=true },false) else ({ d with ZMg:=d.ZMg - 1,steps:=IntKind.i64.wrap (d.steps+1) },true):=rfl
 by_cases hf:d.ZMg=1
 ·have d1:((d.ZMg:Int) == 1)=true:=by rw[hf];rfl
  rw[if_pos hf]at hstp
  have fin:∀{G:Zaa},G=H.set D (.cells [.arr S 0 d.sec.length d.sec.length,.sl t (rP d.puts),.i 0,.i rd,.i d.steps,.b true] 100)->ZL0 D S t H (.i (if d.stp.2=true then 0 else 8)) d.stp.1 (.i 8) G:=fun e=>by
   rw[hstp]at ho ⊢
   exact ZL0.put (rd':=rd) h rfl rfl ho e
  clear hstp ho
  refine fnQ cf84 fun Q qr qn=>?_
  ((have hd:=tv;repeat' first|(first|apply Zad|apply Zac|apply Zab)<;>intro hd<;>try simp only[hd]|simp(disch:=first|assumption|omega|simp only[nx]<;>omega|fail)only[hd,qr,qn,c84_0,↓YA,YY,↓reduceIte,Nat.reduceEqDiff,Nat.reduceAdd,Nat.reduceMul,Nat.reduceLeDiff,Int.reduceToNat,Int.reduceLE,Int.reduceLT,Int.reduceGT,Int.reduceGE,Int.reduceAdd,Int.reduceSub,Int.reduceNeg,Int.reduceBEq,Int.reduceBNe,gD0,d1,ZMs])<;>try revert hd;refine ttr ?_)
  exact Zaq (fin rfl)
 ·have d1:((d.ZMg:Int) == 1)=false:=by
   simp only[beq_eq_false_iff_ne,ne_eq]
   omega
  have hsub:IntKind.i64.wrap ((d.ZMg:Int) - 1)=(d.ZMg:Int) - 1:=by
   have:=h.ok.f
   exact Zaw Xa Xa
  have hmx:(if (d.ZMg:Int) - 1<0 then (0:Int) else (d.ZMg:Int) - 1)=((d.ZMg - 1:Nat):Int):=by
   split<;>omega
  rw[if_neg hf]at hstp
  have fin:∀{G:Zaa},G=H.set D (.cells [.arr S 0 d.sec.length d.sec.length,.sl t (rP d.puts),.i ((d.ZMg - 1:Nat):Int),.i rd,.i (IntKind.i64.wrap (d.steps+1)),.b d.off] 100)->ZL0 D S t H (.i (if d.stp.2=true then 0 else 8)) d.stp.1 (.i 0) G:=fun e=>by
   rw[hstp]at ho ⊢
   exact ZL0.put (rd':=rd) h rfl rfl ho e
  clear hstp ho
  refine fnQ cf84 fun Q qr qn=>?_
  ((have hd:=tv;repeat' first|(first|apply Zad|apply Zac|apply Zab)<;>intro hd<;>try simp only[hd]|simp(disch:=first|assumption|omega|simp only[nx]<;>omega|fail)only[hd,qr,qn,c84_0,↓YA,YY,↓reduceIte,Nat.reduceEqDiff,Nat.reduceAdd,Nat.reduceMul,Nat.reduceLeDiff,Int.reduceToNat,Int.reduceLE,Int.reduceLT,Int.reduceGT,Int.reduceGE,Int.reduceAdd,Int.reduceSub,Int.reduceNeg,Int.reduceBEq,Int.reduceBNe,gD0,d1,hsub,hmx,ZMs])<;>try revert hd;refine ttr ?_)
  exact Zaq (fin rfl)
end
section
variable {D S:Nat} {t:Tok} {d:Dv} {rd:Int} {H G:Zaa}
theorem ZL0.grow {v:AV} {d':Dv} {r:AV} {K:Zaa} (h:ZL0 D S t H v d' r G) (hx:Zaa.Ext G K):ZL0 D S t H v d' r K:=by
 obtain⟨h1,⟨t',rd',h2,h3⟩,h4⟩:=h
 exact⟨h1,⟨t',rd',h2.ext hx,h3⟩,h4.ext hx⟩
theorem ZL0.val {v:AV} {d':Dv} {r:AV} {u:AV} (h:ZL0 D S t H v d' r G):ZL0 D S t H u d' u G:=⟨rfl,h.2⟩
theorem ZL0.then {t':Tok} {d2:Dv} {v r:AV} {K:Zaa} (hs:∀i,DFp D S t' i->DFp D S t i\/H.next<=i) (k:KF (DFp D S t) H G) (h2:ZL0 D S t' G v d2 r K):ZL0 D S t H v d2 r K:=by
 obtain⟨e1,⟨t2,rd2,q1,q2⟩,q3⟩:=h2
 exact⟨e1,⟨t2,rd2,q1,fun i hi=>(q2 i hi).elim (hs i) fun h=>.inr (zaG k.n h)⟩,k.trans q3 hs⟩
theorem sho_take {puts:List (Nat×Tx)} {sec:List Tx} {k i:Nat} (hk:k<puts.length):ZNk sec (puts.take (k+1)) i=if puts[k].1=i then puts[k].2 else ZNk sec (puts.take k) i:=by
 rw[zas hk,shoP_app]
def ZQZ (d:Dv) (i:Int):AV:=if d.rdy i=0 then .tup [eS (d.sho i.toNat),.i 0] else .tup [eS [],.i (d.rdy i)]
def RdR (D S:Nat) (t:Tok) (d:Dv) (H:Zaa) (v:AV) (r:AV) (G:Zaa):Prop:=r=v/\(∃rd',ZL5 D S t d rd' G)/\KF (·=D) H G
theorem ZN3 (h:ZL5 D S t d rd H) (i:Int) (hp:d.puts.length<=1000000):Zay Tryz.prog 100 [.ptr D 0,.i i] H (RdR D S t d H (ZQZ d i)):=by
 have gD0:=h.gd
 have hl:=Zaa.lt gD0
 unfold ZQZ
 by_cases hr:d.rdy i=0
 ·rw[if_pos hr]
  obtain⟨ho,hi0,hin⟩:=ZSy hr
  obtain⟨n,rfl⟩:∃n:Nat,i=(n:Int):=⟨i.toNat,Xa⟩
  have hnl:n<d.sec.length:=Xa
  have hrdy:=ZMk h (n:Int)
  rw[hr]at hrdy
  rw[Int.toNat_natCast]
  have fin:∀{x:Tx} {G:Zaa} (k:Nat),x=d.sho n->Zaa.Ext ((H.bump k).set D (.cells [.arr S 0 d.sec.length d.sec.length,.sl t (rP d.puts),.i (d.ZMg:Int),.i (IntKind.i64.wrap (rd+1)),.i d.steps,.b d.off] 100)) G->∃r2 H2,Zb6 (.tup [eS x,.i 0]) G r2 H2/\RdR D S t d H (.tup [eS (d.sho n),.i 0]) r2 H2:=fun k e hx=>by
   obtain⟨p1,_⟩:=(h.bump k).put (d':=d) (rd':=IntKind.i64.wrap (rd+1)) rfl rfl h.ok
   exact Zaq (by rw[e];exact⟨rfl,⟨_,p1.ext hx⟩,KF.ext (((KF.refl _ _).bump k).set (.inl rfl)) hx⟩)
  have hS:=h.gs
  have hlS:=Zaa.lt hS
  have hne:=h.ne
  have hgs:(cS d.sec)[n]?=some (eS d.sec[n]):=by simp[hnl]
  have hs0:d.sec[n]=ZNk d.sec [] n:=by simp[ZNk,zai,hnl]
  have hsho:d.sho n=ZNk d.sec d.puts n:=rfl
  have hwp:IntKind.i64.wrap ((d.puts.length:Int) - 1)=(d.puts.length:Int) - 1:=Zaw Xa Xa
  have hrl:(rP d.puts).length=d.puts.length:=Xc
  refine fnQ ZkE fun Q qr qn=>?_
  refine Bz0 ?_
  refine qcp (hrdy) fun k1=>?_
  refine Bz1 (X3 gD0 hrl hwp) ?_
  refine Zcw [0,1] (σ:=Nat) (fun s=>s<=d.puts.length/\ZNk d.sec d.puts n=ZNk d.sec (d.puts.take s) n) (fun s=>s) (fun s=>[(7,.i ((s:Int) - 1))]) (fun s=>[]) d.puts.length (GStep.refl _ _) xV ?_ xT xU ?_
  ·exact⟨zad _,by rw[zaz]⟩
  ·(rintro s G ⟨h2,h3⟩ hG hn;try simp only[nx]at hn)
   have gD:=(hG.get D Xe).trans (Zaa.Zal Xe)
   have gS:=(hG.get S Xe).trans ((Zaa.Zah (zbn hne)).trans (Zaa.ZaB.trans hS))
   cases s with
   | zero =>
    have d1:decide ((((0:Nat):Int) - 1)≥0)=false:=Xb
    have hn0:(0:Int)<=(n:Int):=Xa
    have hn1:((n:Int)<(d.sec.length:Int))=True:=by simp;exact hnl
    ((have hd:=tv;repeat' first|(first|apply Zad|apply Zac|apply Zab)<;>intro hd<;>try simp only[hd]|simp(disch:=first|assumption|omega|simp only[nx]<;>omega|fail)only[hd,qr,qn,Zck,↓YA,YY,↓reduceIte,Nat.reduceEqDiff,Nat.reduceAdd,Nat.reduceMul,Nat.reduceLeDiff,Int.reduceToNat,Int.reduceLE,Int.reduceLT,Int.reduceGT,Int.reduceGE,Int.reduceAdd,Int.reduceSub,Int.reduceNeg,Int.reduceBEq,Int.reduceBNe,d1,gD,gS,hgs,hn0,hnl,hn1])<;>try revert hd;refine ttr ?_)
    exact fin k1 (by rw[hs0,hsho,h3,List.take_zero]) hG.ext
   | succ k =>
    have hk:k<d.puts.length:=Xa
    have e5:(((k+1:Nat):Int) - 1)=(k:Int):=Xa
    rw[e5]
    have d1:decide ((k:Int)≥0)=true:=Xc
    have hk0:(0:Int)<=(k:Int):=Xa
    have hrow:(rP d.puts)[k]?=some [.i ((d.puts[k].1:Nat):Int),eS d.puts[k].2]:=by simp[hk]
    have hst:=sho_take (sec:=d.sec) (i:=n) hk
    have hwk:IntKind.i64.wrap ((k:Int) - 1)=(k:Int) - 1:=Zaw Xa Xa
    generalize d.puts[k]=q at *
    by_cases hq:q.1=n
    ·have d2:(((q.1:Nat):Int) == (n:Int))=true:=by rw[hq];simp
     rw[if_pos hq]at hst
     ((have hd:=tv;repeat' first|(first|apply Zad|apply Zac|apply Zab)<;>intro hd<;>try simp only[hd]|simp(disch:=first|assumption|omega|simp only[nx]<;>omega|fail)only[hd,qr,qn,Zck,↓YA,YY,↓reduceIte,Nat.reduceEqDiff,Nat.reduceAdd,Nat.reduceMul,Nat.reduceLeDiff,Int.reduceToNat,Int.reduceLE,Int.reduceLT,Int.reduceGT,Int.reduceGE,Int.reduceAdd,Int.reduceSub,Int.reduceNeg,Int.reduceBEq,Int.reduceBNe,d1,gD,hk0,hrow,d2])<;>try revert hd;refine ttr ?_)
     exact fin k1 (by rw[hsho,h3,hst]) hG.ext
    ·have d2:(((q.1:Nat):Int) == (n:Int))=false:=by simp only[beq_eq_false_iff_ne,ne_eq];omega
     rw[if_neg hq]at hst
     ((have hd:=tv;repeat' first|(first|apply Zad|apply Zac|apply Zab)<;>intro hd<;>try simp only[hd]|simp(disch:=first|assumption|omega|simp only[nx]<;>omega|fail)only[hd,qr,qn,Zck,↓YA,YY,↓reduceIte,Nat.reduceEqDiff,Nat.reduceAdd,Nat.reduceMul,Nat.reduceLeDiff,Int.reduceToNat,Int.reduceLE,Int.reduceLT,Int.reduceGT,Int.reduceGE,Int.reduceAdd,Int.reduceSub,Int.reduceNeg,Int.reduceBEq,Int.reduceBNe,d1,gD,hk0,hrow,d2,hwk])<;>try revert hd;refine ttr ?_)
     exact⟨k,⟨Xa,by rw[h3,hst]⟩,Xa,rfl,by exact HXT⟩
 ·rw[if_neg hr]
  have hrdy:=ZMk h i
  have d1:(d.rdy i != 0)=true:=by simpa using hr
  generalize d.rdy i=e at *
  refine fnQ ZkE fun Q qr qn=>?_
  refine Bz0 ?_
  refine qcp (hrdy) fun k1=>?_
  ((have hd:=tv;repeat' first|(first|apply Zad|apply Zac|apply Zab)<;>intro hd<;>try simp only[hd]|simp(disch:=first|assumption|omega|simp only[nx]<;>omega|fail)only[hd,qr,qn,Zck,↓YA,YY,↓reduceIte,Nat.reduceEqDiff,Nat.reduceAdd,Nat.reduceMul,Nat.reduceLeDiff,Int.reduceToNat,Int.reduceLE,Int.reduceLT,Int.reduceGT,Int.reduceGE,Int.reduceAdd,Int.reduceSub,Int.reduceNeg,Int.reduceBEq,Int.reduceBNe,d1])<;>try revert hd;refine ttr ?_)
  exact Zaq ⟨rfl,⟨_,h.bump k1⟩,(KF.refl _ _).bump k1⟩
theorem ZL5.neT (h:ZL5 D S t d rd H) {T:Nat} (e:t=.own T):T≠D/\T≠S:=by
 rcases h.gt with e2|⟨T2,e2,g⟩
 ·rw[e]at e2;cases e2
 ·rw[e]at e2
  cases e2
  exact⟨fun e3=>(by rw[e3,h.gd]at g;cases g),fun e3=>(by rw[e3,h.gs]at g;cases g)⟩
theorem ZL5.appN (h:ZL5 D S t d rd H) {q:Nat×Tx} (hq:q.1<d.sec.length/\q.2.length=128) (v:AV):ZL0 D S t H v { d with puts:=d.puts++[q] } v ((H.alloc (.tok (d.puts.length+1) 125 2)).set D (.cells [.arr S 0 d.sec.length d.sec.length,.sl (.own H.next) (rP (d.puts++[q])),.i (d.ZMg:Int),.i rd,.i d.steps,.b d.off] 100)):=by
 have hl:=Zaa.lt h.gd
 have hlS:=Zaa.lt h.gs
 refine⟨rfl,⟨.own H.next,rd,⟨Zaa.Zal Xe,by rw[Zaa.Zah (zbn h.ne),Zaa.Zag Xa];exact h.gs,.inr ⟨_,rfl,by rw[Zaa.Zah Xa,zac];exact Zaa.Zae⟩,⟨h.ok.n,h.ok.s,fun x hx=>?_,h.ok.f⟩⟩,?_⟩,(KF.refl _ _).alloc.set (.inl (.inl rfl))⟩
 ·rcases zaw.1 hx with hx|hx
  ·exact h.ok.p x hx
  ·rw[zbr]at hx;rw[hx];exact hq
 ·rintro i (rfl|rfl|hi)
  ·exact .inl (.inl rfl)
  ·exact .inl (.inr (.inl rfl))
  ·cases hi;exact .inr (zad _)
theorem ZL5.appO (h:ZL5 D S t d rd H) {T:Nat} (e:t=.own T) {q:Nat×Tx} (hq:q.1<d.sec.length/\q.2.length=128) (v:AV):ZL0 D S t H v { d with puts:=d.puts++[q] } v ((H.set T (.tok (d.puts.length+1) 125 2)).set D (.cells [.arr S 0 d.sec.length d.sec.length,.sl (.own T) (rP (d.puts++[q])),.i (d.ZMg:Int),.i rd,.i d.steps,.b d.off] 100)):=by
 have hl:=Zaa.lt h.gd
 obtain⟨n1,n2⟩:=h.neT e
 have hlT:T<H.next:=h.old (.inr (.inr e))
 refine⟨rfl,⟨.own T,rd,⟨Zaa.Zal Xe,by rw[Zaa.Zah (zbn h.ne),Zaa.Zah (zbn n2)];exact h.gs,.inr ⟨_,rfl,by rw[Zaa.Zah n1,zac];exact Zaa.Zal hlT⟩,⟨h.ok.n,h.ok.s,fun x hx=>?_,h.ok.f⟩⟩,fun i hi=>.inl (by rw[e];exact hi)⟩,((KF.refl _ _).set (.inl (.inr (.inr e)))).set (.inl (.inl rfl))⟩
 rcases zaw.1 hx with hx|hx
 ·exact h.ok.p x hx
 ·rw[zbr]at hx;rw[hx];exact hq
theorem ZPm (h:ZL5 D S t d rd H) (i:Int) (s:Tx) (hp:d.puts.length<=1000000):Zay Tryz.prog 27 [.ptr D 0,.i i,eS s] H (ZL0 D S t H (.i (d.wrt i s).2) (d.wrt i s).1):=by
 have hrdy:=ZMk h i
 unfold Dv.wrt
 by_cases hr:d.rdy i≠0
 ·rw[if_pos hr]
  have d1:(d.rdy i != 0)=true:=by simpa using hr
  generalize d.rdy i=e at *
  refine fnQ cf27 fun Q qr qn=>?_
  refine Bz0 ?_
  refine qcp (hrdy) fun k1=>?_
  ((have hd:=tv;repeat' first|(first|apply Zad|apply Zac|apply Zab)<;>intro hd<;>try simp only[hd]|simp(disch:=first|assumption|omega|simp only[nx]<;>omega|fail)only[hd,qr,qn,Zdp,↓YA,YY,↓reduceIte,Nat.reduceEqDiff,Nat.reduceAdd,Nat.reduceMul,Nat.reduceLeDiff,Int.reduceToNat,Int.reduceLE,Int.reduceLT,Int.reduceGT,Int.reduceGE,Int.reduceAdd,Int.reduceSub,Int.reduceNeg,Int.reduceBEq,Int.reduceBNe,d1])<;>try revert hd;refine ttr ?_)
  exact Zaq (ZL0.same h k1)
 rw[if_neg hr]
 have hr:d.rdy i=0:=by simpa using hr
 rw[hr]at hrdy
 obtain⟨ho,hi0,hin⟩:=ZSy hr
 obtain⟨n,rfl⟩:∃n:Nat,i=(n:Int):=⟨i.toNat,Xa⟩
 rw[Int.toNat_natCast]
 by_cases hsl:s.length≠128
 ·rw[if_pos hsl]
  have d2:(((s.length:Nat):Int) != 128)=true:=by simp only[bne_iff_ne,ne_eq];omega
  refine fnQ cf27 fun Q qr qn=>?_
  refine Bz0 ?_
  refine qcp (hrdy) fun k1=>?_
  ((have hd:=tv;repeat' first|(first|apply Zad|apply Zac|apply Zab)<;>intro hd<;>try simp only[hd]|simp(disch:=first|assumption|omega|simp only[nx]<;>omega|fail)only[hd,qr,qn,Zdp,↓YA,YY,↓reduceIte,Nat.reduceEqDiff,Nat.reduceAdd,Nat.reduceMul,Nat.reduceLeDiff,Int.reduceToNat,Int.reduceLE,Int.reduceLT,Int.reduceGT,Int.reduceGE,Int.reduceAdd,Int.reduceSub,Int.reduceNeg,Int.reduceBEq,Int.reduceBNe,d2])<;>try revert hd;refine ttr ?_)
  exact Zaq (ZL0.same h k1)
 rw[if_neg hsl]
 have hsl:s.length=128:=by simpa using hsl
 have d2:(((s.length:Nat):Int) != 128)=false:=by rw[hsl];rfl
 have hst:∀k,Zay Tryz.prog 84 [.ptr D 0] (H.bump k) (ZL0 D S t (H.bump k) (.i (if d.stp.2=true then 0 else 8)) d.stp.1):=fun k=>ZNZ (h.bump k)
 have hold:∀i,DFp D S t i->i<H.next:=fun _ hi=>h.old hi
 obtain⟨e1,e2,_⟩:=ZMz d
 rcases bfb d.stp.2 with hb|hb
 ·rw[hb]at hst ⊢
  rw[if_neg Xc]
  have hst:∀k,Zay Tryz.prog 84 [.ptr D 0] (H.bump k) (ZL0 D S t (H.bump k) (.i 8) d.stp.1):=hst
  refine fnQ cf27 fun Q qr qn=>?_
  refine Bz0 ?_
  refine qcp (hrdy) fun k1=>?_
  ((have hd:=tv;repeat' first|(first|apply Zad|apply Zac|apply Zab)<;>intro hd<;>try simp only[hd]|simp(disch:=first|assumption|omega|simp only[nx]<;>omega|fail)only[hd,qr,qn,Zdp,↓YA,YY,↓reduceIte,Nat.reduceEqDiff,Nat.reduceAdd,Nat.reduceMul,Nat.reduceLeDiff,Int.reduceToNat,Int.reduceLE,Int.reduceLT,Int.reduceGT,Int.reduceGE,Int.reduceAdd,Int.reduceSub,Int.reduceNeg,Int.reduceBEq,Int.reduceBNe,d2])<;>try revert hd;refine ttr ?_)
  refine Zap.use (hst k1) ?_
  rintro _ G ⟨rfl,hR⟩
  refine Bz0 ?_
  exact Zaq (ZL0.pre hold (Zaa.Ext.refl _).bump ⟨rfl,hR⟩)
 ·rw[hb]at hst ⊢
  rw[if_pos rfl]
  have hst:∀k,Zay Tryz.prog 84 [.ptr D 0] (H.bump k) (ZL0 D S t (H.bump k) (.i 0) d.stp.1):=hst
  have hrl:(rP d.puts).length=d.puts.length:=Xc
  have hall:ZaE 2 (rP d.puts)=true:=ZaU (f:=fun p:Nat×Tx=>[.i (p.1:Int),eS p.2]) (sz:=2) (fun _=>rfl) _
  have hal2:ZaE 2 [[.i (n:Int),eS s]]=true:=rfl
  have hm1:d.puts.length+1<=maxLen:=by unfold maxLen;omega
  have hm2:(d.puts.length+1) * 24<=140737488355328:=Xa
  have hsn:rP d.puts++[[.i (n:Int),eS s]]=rP (d.puts++[(n,s)]):=Xc
  have hq:n<d.stp.1.sec.length/\s.length=128:=⟨by rw[e1];omega,hsl⟩
  have hap:({ d.stp.1 with puts:=d.puts++[(n,s)] }:Dv)=⟨d.sec,d.puts++[(n,s)],d.stp.1.ZMg,d.stp.1.steps,d.stp.1.off⟩:=by rw[<- e1]
  rw[hap]
  have done:∀{t':Tok} {rd':Int} {k:Nat} {G:Zaa},ZL5 D S t' d.stp.1 rd' G->(∀i,DFp D S t' i->DFp D S t i\/(H.bump k).next<=i)->KF (DFp D S t) (H.bump k) G->(t'=.full->∃r2 H2,Zb6 (.i 0) ((G.alloc (.tok (d.puts.length+1) 125 2)).set D (.cells [.arr S 0 d.sec.length d.sec.length,.sl (.own G.next) (rP (d.puts++[(n,s)])),.i (d.stp.1.ZMg:Int),.i rd',.i d.stp.1.steps,.b d.stp.1.off] 100)) r2 H2/\ZL0 D S t H (.i 0) ⟨d.sec,d.puts++[(n,s)],d.stp.1.ZMg,d.stp.1.steps,d.stp.1.off⟩ r2 H2) /\
    (∀T,t'=.own T->∃r2 H2,Zb6 (.i 0) ((G.set T (.tok (d.puts.length+1) 125 2)).set D (.cells [.arr S 0 d.sec.length d.sec.length,.sl (.own T) (rP (d.puts++[(n,s)])),.i (d.stp.1.ZMg:Int),.i rd',.i d.stp.1.steps,.b d.stp.1.off] 100)) r2 H2/\ZL0 D S t H (.i 0) ⟨d.sec,d.puts++[(n,s)],d.stp.1.ZMg,d.stp.1.steps,d.stp.1.off⟩ r2 H2):=by
   intro t' rd' k G h2 hs kf
   have p1:=h2.appN (q:=(n,s)) hq (.i 0)
   rw[e1,e2]at p1
   refine⟨fun _=>Zaq (ZL0.pre hold (Zaa.Ext.refl _).bump (ZL0.then hs kf p1)),fun T eT=>?_⟩
   have p2:=h2.appO eT (q:=(n,s)) hq (.i 0)
   rw[e1,e2]at p2
   exact Zaq (ZL0.pre hold (Zaa.Ext.refl _).bump (ZL0.then hs kf p2))
  clear hap
  generalize hd1:d.stp.1=d1 at *
  have hput:∀{t':Tok} {rd':Int} {G:Zaa},ZL5 D S t' d1 rd' G->G.get D=some (.cells [.arr S 0 d.sec.length d.sec.length,.sl t' (rP d.puts),.i (d1.ZMg:Int),.i rd',.i d1.steps,.b d1.off] 100):=fun h2=>by have:=h2.gd;rw[e1,e2]at this;exact this
  have hputT:∀{t':Tok} {rd':Int} {G:Zaa},ZL5 D S t' d1 rd' G->t'=.full\/∃T,t'=.own T/\G.get T=some (.tok d.puts.length 125 2):=fun h2=>by have:=h2.gt;rw[e2]at this;exact this
  generalize rP d.puts=R0 at *
  generalize rP (d.puts++[(n,s)])=R1 at *
  refine fnQ cf27 fun Q qr qn=>?_
  refine Bz0 ?_
  refine qcp (hrdy) fun k1=>?_
  ((have hd:=tv;repeat' first|(first|apply Zad|apply Zac|apply Zab)<;>intro hd<;>try simp only[hd]|simp(disch:=first|assumption|omega|simp only[nx]<;>omega|fail)only[hd,qr,qn,Zdp,↓YA,YY,↓reduceIte,Nat.reduceEqDiff,Nat.reduceAdd,Nat.reduceMul,Nat.reduceLeDiff,Int.reduceToNat,Int.reduceLE,Int.reduceLT,Int.reduceGT,Int.reduceGE,Int.reduceAdd,Int.reduceSub,Int.reduceNeg,Int.reduceBEq,Int.reduceBNe,d2])<;>try revert hd;refine ttr ?_)
  refine Zap.use (hst k1) ?_
  rintro _ G ⟨rfl,⟨t',rd',h2,hs⟩,kf⟩
  have gD:=hput h2
  have gT:=hputT h2
  obtain⟨f1,f2⟩:=done h2 hs kf
  have hlD:=Zaa.lt gD
  rcases gT with rfl|⟨T,rfl,gT⟩
  ·have f1:=f1 rfl
   refine Bz1 (X7 gD hrl hall hal2 hm1 hm2 hsn) ?_
   exact f1
  ·have f2:=f2 T rfl
   have hlT:=Zaa.lt gT
   have hTD:T≠D:=fun e=>by rw[e,gD]at gT;cases gT
   refine Bz1 (X8 gD gT hrl hall hal2 hm1 hm2 hsn) ?_
   exact f2
end
section
variable {D S:Nat} {t:Tok} {d:Dv} {rd:Int} {H G:Zaa}
theorem ZL5.sput (h:ZL5 D S t d rd H) {n:Nat} {s:Tx} (hs:s.length=128) (v:AV):ZL0 D S t H v { d with sec:=d.sec.set n s } v (H.set S (.cells (cS (d.sec.set n s)) 9)):=by
 have hl:=Zaa.lt h.gd
 have hlS:=Zaa.lt h.gs
 refine⟨rfl,⟨t,rd,⟨?_,Zaa.Zal hlS,?_,⟨by simpa using h.ok.n,fun x hx=>?_,fun q hq=>?_,h.ok.f⟩⟩,fun i hi=>.inl hi⟩,(KF.refl _ _).set (.inl (.inr (.inl rfl)))⟩
 ·rw[Zaa.Zah h.ne,h.gd]
  simp
 ·rcases h.gt with e|⟨T,e,g⟩
  ·exact .inl e
  ·exact .inr ⟨T,e,by rw[Zaa.Zah (h.neT e).2];exact g⟩
 ·rcases zbI hx with hx|hx
  ·exact h.ok.s x hx
  ·rw[hx];exact hs
 ·simpa using h.ok.p q hq
theorem ZL5.clr (h:ZL5 D S t d rd H) {f:Nat} {o:Bool} (hf:f<=9223372036854775807) (v:AV):ZL0 D S t H v { d with puts:=[],ZMg:=f,off:=o } v (H.set D (.cells [.arr S 0 d.sec.length d.sec.length,.sl .full [],.i (f:Int),.i rd,.i d.steps,.b o] 100)):=by
 have hl:=Zaa.lt h.gd
 refine⟨rfl,⟨.full,rd,⟨Zaa.Zal hl,by rw[Zaa.Zah (zbn h.ne)];exact h.gs,.inl rfl,⟨h.ok.n,h.ok.s,fun q hq=>(by cases hq),hf⟩⟩,?_⟩,(KF.refl _ _).set (.inl (.inl rfl))⟩
 rintro i (rfl|rfl|hi)
 ·exact .inl (.inl rfl)
 ·exact .inl (.inr (.inl rfl))
 ·cases hi
theorem ZRM {l:List Tx} {n:Nat} {s:Tx} (h:n<l.length):splice (cS l) n [eS s]=cS (l.set n s):=by
 unfold splice
 show List.take n (cS l)++[eS s]++List.drop (n+1) (cS l)=(l.set n s).map eS
 rw[List.map_set,zcj,if_pos (by simpa using h)]
 simp
theorem ZOs (h:ZL5 D S t d rd H) {n:Nat} {s:Tx} (hn:n<d.sec.length) (hs:s.length=128):Zay Tryz.prog 72 [.ptr D 0,.agg [.i (n:Int),eS s]] H (ZL0 D S t H (.tup []) { d with sec:=d.sec.set n s }):=by
 have gD0:=h.gd
 have gS0:=h.gs
 have hl:=Zaa.lt gD0
 have hlS:=Zaa.lt gS0
 have hn0:(0:Int)<=(n:Int):=Xa
 have hn1:((n:Int)<(d.sec.length:Int))=True:=by simp;exact hn
 have hn2:n+1<=d.sec.length:=hn
 have hlen:(cS d.sec).length=d.sec.length:=Xc
 have hspl:=ZRM (s:=s) hn
 have fin:∀{o:Zb3},∃r2 H2,Zb6 (.tup []) ((H.alloc o).set S (.cells (cS (d.sec.set n s)) 9)) r2 H2/\ZL0 D S t H (.tup []) { d with sec:=d.sec.set n s } r2 H2:=fun {o}=>Zaq (ZL0.pre (fun _ hi=>h.old hi) (Zaa.Ext.refl _).alloc ((h.ext (Zaa.Ext.refl _).alloc).sput (n:=n) hs (.tup [])))
 generalize hc:cS d.sec=c0 at *
 generalize hc1:cS (d.sec.set n s)=c1 at *
 refine fnQ cf72 fun Q qr qn=>?_
 refine Bz1 (X8 gD0 gS0 hn0 hn1 hn hn2 hlen hspl) ?_
 exact fin
def setP (sec:List Tx) (l:List (Nat×Tx)):List Tx:=l.foldl (fun l p=>l.set p.1 p.2) sec
theorem setP_len (sec:List Tx) (l:List (Nat×Tx)):(setP sec l).length=sec.length:=by
 unfold setP
 induction l generalizing sec with
 | nil=>rfl
 | cons q l ih=>rw[List.foldl_cons,ih,List.length_set]
theorem ZRy (sec:List Tx) {l:List (Nat×Tx)} {k:Nat} (hk:k<l.length):setP sec (l.take (k+1))=(setP sec (l.take k)).set l[k].1 l[k].2:=by
 unfold setP
 rw[zas hk,zcg]
 rfl
theorem ZP8 (h:ZL5 D S t d rd H) (hp:d.puts.length<=1000000):Zay Tryz.prog 29 [.ptr D 0] H (ZL0 D S t H (.i d.syn.2) d.syn.1):=by
 have hrdy:=ZMk h 0
 have hn:=h.ok.n
 have hrv:d.rdy 0=if d.off=true then 8 else 0:=by
  unfold Dv.rdy
  split
  ·rfl
  ·rw[if_neg Xa]
 rw[hrv]at hrdy
 have hold:∀i,DFp D S t i->i<H.next:=fun _ hi=>h.old hi
 unfold Dv.syn
 rcases bfb d.off with ho|ho
 ·rw[if_neg (by simp[ho])]at hrdy ⊢
  have hst:∀k,Zay Tryz.prog 84 [.ptr D 0] (H.bump k) (ZL0 D S t (H.bump k) (.i (if d.stp.2=true then 0 else 8)) d.stp.1):=fun k=>ZNZ (h.bump k)
  obtain⟨e1,e2,_⟩:=ZMz d
  rcases bfb d.stp.2 with hb|hb
  ·rw[hb]at hst ⊢
   rw[if_neg Xc]
   have hst:∀k,Zay Tryz.prog 84 [.ptr D 0] (H.bump k) (ZL0 D S t (H.bump k) (.i 8) d.stp.1):=hst
   refine fnQ cf29 fun Q qr qn=>?_
   refine Bz0 ?_
   refine qcp (hrdy) fun k1=>?_
   refine Bz0 ?_
   refine Zap.use (hst k1) ?_
   rintro _ G ⟨rfl,hR⟩
   refine Bz0 ?_
   exact Zaq (ZL0.pre hold (Zaa.Ext.refl _).bump ⟨rfl,hR⟩)
  ·rw[hb]at hst ⊢
   rw[if_pos rfl]
   have hst:∀k,Zay Tryz.prog 84 [.ptr D 0] (H.bump k) (ZL0 D S t (H.bump k) (.i 0) d.stp.1):=hst
   have hall:d.all=setP d.sec d.puts:=(lay_all d.puts d.sec fun q hq=>(h.ok.p q hq).1).symm
   have hrl:(rP d.puts).length=d.puts.length:=Xc
   have hpo:=h.ok.p
   have hf1:=h.ok.stp.f
   generalize hd1:d.stp.1=d1 at *
   refine fnQ cf29 fun Q qr qn=>?_
   refine Bz0 ?_
   refine qcp (hrdy) fun k1=>?_
   refine Bz0 ?_
   refine Zap.use (hst k1) ?_
   rintro _ G ⟨rfl,⟨t',rd',h2,hs⟩,kf⟩
   have gD:=h2.gd
   rw[e1,e2]at gD
   have hok1:=h2.ok
   refine Bz1 (X2 gD hrl) ?_
   refine ZbJ (N:=d.puts.length) (fun k F G=>Fr.get F 22=.i (k:Int)/\Fr.get F 21=.i (d.puts.length:Int)/\Fr.get F 0=.ptr D 0/\Fr.get F 20=.sl t' (rP d.puts)/\∃u,ZL0 D S t H u { d1 with sec:=setP d.sec (d.puts.take k) } u G) Xd (fun k F G h=>⟨h.1,h.2.1⟩) (GStep.refl _ _) ⟨rfl,rfl,rfl,rfl,.i 0,?_⟩ ?_ ?_
   ·have q:d1={ d1 with sec:=setP d.sec (d.puts.take 0) }:=by
     show d1=⟨d.sec,d1.puts,d1.ZMg,d1.steps,d1.off⟩
     rw[<- e1]
    rw[<- q]
    exact ZL0.pre hold (Zaa.Ext.refl _).bump ⟨rfl,⟨t',rd',h2,hs⟩,kf⟩
   ·rintro k F K hk ⟨f22,f21,f0,f20,u,_,⟨t3,rd3,h3,hs3⟩,kf3⟩
    have hk0:(0:Int)<=(k:Int):=Xa
    have hrow:(rP d.puts)[k]?=some [.i ((d.puts[k].1:Nat):Int),eS d.puts[k].2]:=by simp[hk]
    have hsn:=ZRy d.sec hk
    have hqk:=hpo d.puts[k] (zau hk)
    generalize d.puts[k]=q at *
    have hls:=setP_len d.sec (d.puts.take k)
    generalize setP d.sec (d.puts.take k)=sk at *
    have hlay:∀{K2:Zaa},Zaa.Ext K K2->Zay Tryz.prog 72 [.ptr D 0,.agg [.i (q.1:Int),eS q.2]] K2 (ZL0 D S t3 K2 (.tup []) { d1 with sec:=sk.set q.1 q.2 }):=fun hx=>ZOs (h3.ext hx) (by show q.1<sk.length;omega) hqk.2
    have hold3:∀i,DFp D S t3 i->i<K.next:=fun _ hi=>h3.old hi
    generalize rP d.puts=R0 at *
    skip
    refine Bz1 (X6 f22 f21 f0 f20 hk0 hrow) ?_
    refine Zap.use (hlay (by exact AXT)) ?_
    rintro r4 K4 h4
    have h5:=ZL0.pre hold3 (by exact AXT) h4
    refine Bz1 (X4 f22 f21 f0 f20) ?_
    refine⟨.tup [],?_⟩
    rw[hsn]
    exact ZL0.val (ZL0.then hs3 kf3 h5)
   ·rintro F K ⟨f22,f21,f0,f20,u,_,⟨t3,rd3,h3,hs3⟩,kf3⟩
    rw[zaz,<- hall]at h3
    have gD3:=h3.gd
    have hcl:=h3.clr (f:=d1.ZMg) (o:=d1.off) hf1 (.i 0)
    have hlD:=Zaa.lt gD3
    skip
    refine Bz1 (X2 f0 gD3) ?_
    exact Zaq (ZL0.then hs3 kf3 hcl)
 ·rw[if_pos ho]at hrdy ⊢
  refine fnQ cf29 fun Q qr qn=>?_
  refine Bz0 ?_
  refine qcp (hrdy) fun k1=>?_
  refine Bz0 ?_
  exact Zaq (ZL0.same h k1)
end
section
variable {D S:Nat} {t:Tok} {d:Dv} {rd:Int} {H G:Zaa}
theorem ZPS (h:ZL5 D S t d rd H) (n:Int) (hn:n<=9223372036854775807):Zay Tryz.prog 13 [.ptr D 0,.i n] H (ZL0 D S t H (.i (d.set n).2) (d.set n).1):=by
 have gD0:=h.gd
 have hl:=Zaa.lt gD0
 have hok:=h.ok.set n hn
 unfold Dv.set at hok ⊢
 rcases bfb d.off with ho|ho
 ·rw[if_neg (by simp[ho])]at hok ⊢
  by_cases hn0:n<0
  ·rw[if_pos hn0]
   have d1:decide (n<0)=true:=decide_eq_true hn0
   refine fnQ cf13 fun Q qr qn=>?_
   refine Bz0 ?_
   refine qcp (ZLW h) fun k1=>?_
   ((have hd:=tv;repeat' first|(first|apply Zad|apply Zac|apply Zab)<;>intro hd<;>try simp only[hd]|simp(disch:=first|assumption|omega|simp only[nx]<;>omega|fail)only[hd,qr,qn,ZcW,↓YA,YY,↓reduceIte,Nat.reduceEqDiff,Nat.reduceAdd,Nat.reduceMul,Nat.reduceLeDiff,Int.reduceToNat,Int.reduceLE,Int.reduceLT,Int.reduceGT,Int.reduceGE,Int.reduceAdd,Int.reduceSub,Int.reduceNeg,Int.reduceBEq,Int.reduceBNe,gD0,ho,d1])<;>try revert hd;refine ttr ?_)
   exact Zaq (ZL0.same h k1)
  ·rw[if_neg hn0]at hok ⊢
   have d1:decide (n<0)=false:=decide_eq_false hn0
   obtain⟨m,rfl⟩:∃m:Nat,n=(m:Int):=⟨n.toNat,Xa⟩
   rw[Int.toNat_natCast]at hok ⊢
   have fin:∀k,ZL0 D S t H (.i 0) { d with ZMg:=m } (.i 0) ((H.bump k).set D (.cells [.arr S 0 d.sec.length d.sec.length,.sl t (rP d.puts),.i (m:Int),.i rd,.i d.steps,.b d.off] 100)):=fun k=>ZL0.pre (fun _ hi=>h.old hi) (Zaa.Ext.refl _).bump (ZL0.put (rd':=rd) (h.bump k) rfl rfl hok rfl)
   rw[ho]at fin
   refine fnQ cf13 fun Q qr qn=>?_
   refine Bz0 ?_
   refine qcp (ZLW h) fun k1=>?_
   ((have hd:=tv;repeat' first|(first|apply Zad|apply Zac|apply Zab)<;>intro hd<;>try simp only[hd]|simp(disch:=first|assumption|omega|simp only[nx]<;>omega|fail)only[hd,qr,qn,ZcW,↓YA,YY,↓reduceIte,Nat.reduceEqDiff,Nat.reduceAdd,Nat.reduceMul,Nat.reduceLeDiff,Int.reduceToNat,Int.reduceLE,Int.reduceLT,Int.reduceGT,Int.reduceGE,Int.reduceAdd,Int.reduceSub,Int.reduceNeg,Int.reduceBEq,Int.reduceBNe,gD0,ho,d1])<;>try revert hd;refine ttr ?_)
   exact Zaq (fin k1)
 ·rw[if_pos ho]
  refine fnQ cf13 fun Q qr qn=>?_
  refine Bz0 ?_
  refine qcp (ZLW h) fun k1=>?_
  refine Bz1 (X2 gD0 ho) ?_
  exact Zaq (ZL0.same h k1)
theorem ZP1 (h:ZL5 D S t d rd H):Zay Tryz.prog 15 [.ptr D 0] H (ZL0 D S t H (.i 0) d.bot):=by
 have gD0:=h.gd
 have hl:=Zaa.lt gD0
 have fin:∀k,ZL0 D S t H (.i 0) d.bot (.i 0) ((H.bump k).set D (.cells [.arr S 0 d.sec.length d.sec.length,.sl .full [],.i 0,.i rd,.i d.steps,.b false] 100)):=fun k=>ZL0.pre (fun _ hi=>h.old hi) (Zaa.Ext.refl _).bump ((h.bump k).clr (f:=0) (o:=false) Xa (.i 0))
 refine fnQ cf15 fun Q qr qn=>?_
 refine Bz0 ?_
 refine qcp (ZLW h) fun k1=>?_
 ((have hd:=tv;repeat' first|(first|apply Zad|apply Zac|apply Zab)<;>intro hd<;>try simp only[hd]|simp(disch:=first|assumption|omega|simp only[nx]<;>omega|fail)only[hd,qr,qn,ZkW,↓YA,YY,↓reduceIte,Nat.reduceEqDiff,Nat.reduceAdd,Nat.reduceMul,Nat.reduceLeDiff,Int.reduceToNat,Int.reduceLE,Int.reduceLT,Int.reduceGT,Int.reduceGE,Int.reduceAdd,Int.reduceSub,Int.reduceNeg,Int.reduceBEq,Int.reduceBNe,gD0,ZMs])<;>try revert hd;refine ttr ?_)
 exact Zaq (fin k1)
end
end Go.Proofs.YtfjjpndoeppbhaaGreatDoor
