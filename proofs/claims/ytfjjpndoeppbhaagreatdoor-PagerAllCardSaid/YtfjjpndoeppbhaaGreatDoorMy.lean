/- Texts of the walk. -/
import Derived.Test.YtfjjpndoeppbhaaGreatDoorMx
namespace Go.Proofs.YtfjjpndoeppbhaaGreatDoor
set_option linter.defProp false
set_option maxHeartbeats 64000000
set_option linter.unusedSimpArgs false
set_option linter.unusedVariables false
open Go.RowKit Go.Lib
def fetP (fet:Int) (o:Option Tx):Int:=match o with
 | some _=>IntKind.i64.wrap (fet+1)
 | none=>fet
def RawR (D S P:Nat) (t:Tok) (d:Dv) (al:Int->List AV) (fet:Int) (o:Option Tx) (v:AV) (H:Zaa) (r:AV) (G:Zaa):Prop:=r=v/\(∃rd,ZL5 D S t d rd G)/\G.get P=some (.cells (al (fetP fet o)) 106)/\KF (fun i=>i=D\/i=P) H G
section
variable {D S P:Nat} {t:Tok} {d:Dv} {rd:Int} {H G:Zaa} {a1 a2 a3 a4 a5 a6 a7 a8 a9 a10 a12:AV} {fet:Int}
theorem ZO6 {N:Nat} {n:Nat} (h1:16<=N) (h2:N<=4096) (h:n<ofP N):2+2 * n+1<N/\n<=2046:=by
 unfold ofP at h
 rw[if_neg Xa]at h
 omega
theorem ZQH {N:Nat} (h1:16<=N) (h2:N<=4096):7<=ofP N/\ofP N<=2047:=by
 unfold ofP
 rw[if_neg Xa]
 omega
abbrev pgC (D:Nat) (a1 a2 a3 a4 a5 a6 a7 a8 a9 a10 a12:AV) (fet:Int):List AV:=[.ptr D 0,a1,a2,a3,a4,a5,a6,a7,a8,a9,a10,.i fet,a12]
theorem ZPx (hd:ZL5 D S t d rd H) (hoff:d.off=false) (hpu:d.puts.length<=1000000) (g:H.get P=some (.cells (pgC D a1 a2 a3 a4 a5 a6 a7 a8 a9 a10 a12 fet) 106)) (n:Int) :
  Zay Tryz.prog 104 [.ptr P 0,.i n] H (RawR D S P t d (pgC D a1 a2 a3 a4 a5 a6 a7 a8 a9 a10 a12) fet (ZMX d.sho (ofP d.sec.length) n) (isV (ZMX d.sho (ofP d.sec.length) n)) H):=by
 obtain⟨hn1,hn2⟩:=hd.ok.n
 have hPD:P≠D:=ZOb g hd.gd (by show 106+3≠100+3;decide)
 have lP:=Zaa.lt g
 by_cases h0:n<0
 ·have d0:decide (n<0)=true:=decide_eq_true h0
  have hr:ZMX d.sho (ofP d.sec.length) n=none:=by unfold ZMX;rw[if_neg Xa]
  rw[hr]
  refine fnQ cf104 fun Q qr qn=>?_
  refine Bz1 (X2 g d0) ?_
  exact Zaq ⟨rfl,⟨rd,hd⟩,g,KF.refl _ _⟩
 have d0:decide (n<0)=false:=decide_eq_false h0
 have hof:=fun K=>ZPt d.sec.length K Xa
 by_cases h1:((ofP d.sec.length:Nat):Int)<=n
 ·have d1:decide (n≥((ofP d.sec.length:Nat):Int))=true:=decide_eq_true h1
  have hr:ZMX d.sho (ofP d.sec.length) n=none:=by unfold ZMX;rw[if_neg Xa]
  rw[hr]
  refine fnQ cf104 fun Q qr qn=>?_
  refine Bz1 (X2 g d0) ?_
  refine qcp (ZML hd) fun k1=>?_
  refine Bz0 ?_
  refine qcp (hof _) fun k2=>?_
  ((have hd:=tv;repeat' first|(first|apply Zad|apply Zac|apply Zab)<;>intro hd<;>try simp only[hd]|simp(disch:=first|assumption|omega|simp only[nx]<;>omega|fail)only[hd,qr,qn,Zt4,↓YA,YY,↓reduceIte,Nat.reduceEqDiff,Nat.reduceAdd,Nat.reduceMul,Nat.reduceLeDiff,Int.reduceToNat,Int.reduceLE,Int.reduceLT,Int.reduceGT,Int.reduceGE,Int.reduceAdd,Int.reduceSub,Int.reduceNeg,Int.reduceBEq,Int.reduceBNe,d1])<;>try revert hd;refine ttr ?_)
  exact Zaq ⟨rfl,⟨rd,(hd.bump k1).bump k2⟩,by rw[Zaa.ZaB,Zaa.ZaB];exact g,((KF.refl _ _).bump k1).bump k2⟩
 have d1:decide (n≥((ofP d.sec.length:Nat):Int))=false:=decide_eq_false h1
 obtain⟨m,rfl⟩:=zaL (Int.not_lt.1 h0)
 have hm:m<ofP d.sec.length:=Xa
 obtain⟨b1,b2⟩:=ZO6 hn1 hn2 hm
 have hr:ZMX d.sho (ofP d.sec.length) (m:Int)=some (d.sho (2+2 * m)++d.sho (2+2 * m+1)):=by
  unfold ZMX
  rw[if_pos ⟨Xa,Xa⟩,Int.toNat_natCast,show 3+2 * m=2+2 * m+1 by omega]
 rw[hr]
 have hf:=fun K=>ZNa m K Xa
 have hrd:∀(k:Nat),k<2->ZQZ d (2+2 * (m:Int)+(k:Int))=.tup [eS (d.sho (2+2 * m+k)),.i 0]:=fun k hk=>by
  unfold ZQZ
  rw[show d.rdy (2+2 * (m:Int)+(k:Int))=0 by unfold Dv.rdy;rw[if_neg (by simp[hoff]),if_neg Xa],if_pos rfl,show(2+2 * (m:Int)+(k:Int)).toNat=2+2 * m+k by omega]
 have hwf:IntKind.i64.wrap (fet+1)=fetP fet (some (d.sho (2+2 * m)++d.sho (2+2 * m+1))):=rfl
 obtain⟨out,ho⟩:∃out:Nat->Tx,out=fun k=>(List.range k).flatMap fun j=>d.sho (2+2 * m+j):=⟨_,rfl⟩
 have ho0:out 0=[]:=by rw[ho];rfl
 have hos:∀k,out (k+1)=out k++d.sho (2+2 * m+k):=fun k=>by rw[ho];simp only[List.range_succ,zbZ,zbu,List.flatMap_nil,zaI]
 have ho2:out 2=d.sho (2+2 * m)++d.sho (2+2 * m+1):=by rw[hos 1,hos 0,ho0];rfl
 rw[<- ho2]
 have hwf:IntKind.i64.wrap (fet+1)=fetP fet (some (out 2)):=rfl
 have hsl:∀k,k<2->(d.sho (2+2 * m+k)).length=128:=fun k hk=>hd.ok.sho Xa
 have hol:∀k,k<2->(out k).length<=128:=fun k hk=>by
  rcases zbh.1 hk with hk|rfl
  ·rw[show k=0 by omega,ho0];simp
  ·rw[hos 0,ho0,List.nil_append,hsl 0 Xa];exact zad _
 clear ho hr
 refine fnQ cf104 fun Q qr qn=>?_
 refine Bz1 (X2 g d0) ?_
 refine qcp (ZML hd) fun k1=>?_
 refine Bz0 ?_
 refine qcp (hof _) fun k2=>?_
 ((have hd:=tv;repeat' first|(first|apply Zad|apply Zac|apply Zab)<;>intro hd<;>try simp only[hd]|simp(disch:=first|assumption|omega|simp only[nx]<;>omega|fail)only[hd,qr,qn,Zt4,↓YA,YY,↓reduceIte,Nat.reduceEqDiff,Nat.reduceAdd,Nat.reduceMul,Nat.reduceLeDiff,Int.reduceToNat,Int.reduceLE,Int.reduceLT,Int.reduceGT,Int.reduceGE,Int.reduceAdd,Int.reduceSub,Int.reduceNeg,Int.reduceBEq,Int.reduceBNe,d1])<;>try revert hd;refine ttr ?_)
 refine qcp (hf _) fun k3=>?_
 refine Bz0 ?_
 refine ZbJ (N:=2) (fun k F G=>Fr.get F 25=.i (k:Int)/\Fr.get F 0=.ptr P 0/\Fr.get F 6=.i (2+2 * (m:Int))/\Fr.get F 7=eS (out k)/\(∃rd,ZL5 D S t d rd G)/\G.get P=some (.cells (pgC D a1 a2 a3 a4 a5 a6 a7 a8 a9 a10 a12 fet) 106)/\KF (fun i=>i=D\/i=P) H G) Xb (fun k F G h=>⟨h.1,rfl⟩) (GStep.refl _ _) ⟨rfl,rfl,rfl,by rw[ho0];rfl,⟨rd,((hd.bump k1).bump k2).bump k3⟩,by rw[Zaa.ZaB,Zaa.ZaB,Zaa.ZaB];exact g,(((KF.refl _ _).bump k1).bump k2).bump k3⟩ ?_ ?_
 ·rintro k F G hk ⟨f25,f0,f6,f7,⟨rd2,hd2⟩,gP,kf⟩
  have w1:IntKind.i64.wrap (2+2 * (m:Int)+(k:Int))=2+2 * (m:Int)+(k:Int):=Zaw Xa Xa
  have hrr:=ZN3 hd2 (2+2 * (m:Int)+(k:Int)) hpu
  rw[hrd k hk]at hrr
  have n0:((0:Int) != 0)=false:=rfl
  have hos:=hos k
  have ha:=Zz9 (out k) (d.sho (2+2 * m+k))
  have hm2:(out k).length+(d.sho (2+2 * m+k)).length<=maxLen:=ZAp (by have:=hol k hk;have:=hsl k hk;omega)
  generalize d.sho (2+2 * m+k)=s1 at *
  generalize out k=s0 at *
  skip
  refine Bz1 (X6 f25 f0 f6 f7 gP w1) ?_
  refine Zap.use hrr ?_
  rintro _ G2 ⟨rfl,hd3,kf2⟩
  refine Bz1 (X7 f25 f0 f6 f7 n0 ha hm2) ?_
  exact⟨by rw[hos],hd3,kf2.g _ _ hPD gP,kf.ZeP (kf2.mono fun i hi=>.inl (.inl hi))⟩
 ·rintro F G ⟨f25,f0,f6,f7,⟨rd2,hd2⟩,gP,kf⟩
  have lP2:=Zaa.lt gP
  skip
  refine Bz1 (X4 f0 f7 gP hwf) ?_
  refine Zaq ⟨rfl,⟨rd2,hd2.keep (Fp:=(·=P)) ((KF.refl _ _).set (.inl rfl)) fun i hi e=>?_⟩,Zaa.Zal lP2,kf.set (.inl (.inr rfl))⟩
  subst e
  rcases hi with hi|hi|hi
  ·exact hPD hi
  ·exact ZOb gP hd2.gs (by show 106+3≠9+3;decide) hi
  ·rcases hd2.gt with e2|⟨T,e2,gt⟩
   ·rw[hi]at e2;cases e2
   ·rw[hi]at e2
    cases e2
    exact ZOb gP gt (by show 106+3≠0;decide) rfl
end
open Go.RowKit Go.Lib
section
variable {D S P:Nat} {t:Tok} {d:Dv} {rd:Int} {H G:Zaa} {a1 a2 a3 a4 a5 a6 a7 a8 a9 a10 a12:AV} {fet:Int}
theorem ZQL {N:Nat} (hok:d.Ok) (hN:N=ofP d.sec.length) {n:Int} {s:Tx} (h:ZMX d.sho N n=some s):s.length=256:=by
 obtain⟨h1,h2⟩:=hok.n
 unfold ZMX at h
 split at h
 ·rename_i hc
  injection h with h
  subst hN
  obtain⟨b1,b2⟩:=ZO6 h1 h2 (n:=n.toNat) Xa
  rw[<- h,zac,hok.sho Xa,hok.sho Xa]
 ·cases h
def PieS (D S P:Nat) (t:Tok) (d:Dv) (al:Int->List AV) (G:Zaa):Prop:=(∃rd,ZL5 D S t d rd G)/\∃fet,G.get P=some (.cells (al fet) 106)
theorem ZPY (hoff:d.off=false) (hpu:d.puts.length<=1000000) (hd:ZL5 D S t d rd H) (g:H.get P=some (.cells (pgC D a1 a2 a3 a4 a5 a6 a7 a8 a9 a10 a12 fet) 106)) (n:Int) (ix:Nat) :
  Zay Tryz.prog 57 [.ptr P 0,.i n,.i (ix:Int)] H (RawR D S P t d (pgC D a1 a2 a3 a4 a5 a6 a7 a8 a9 a10 a12) fet (ZMX d.sho (ofP d.sec.length) n) (isV (isP d.sho (ofP d.sec.length) n 77 ix)) H):=by
 have hr:=ZPx hd hoff hpu g n
 have hl:=fun s=>ZQL (s:=s) hd.ok rfl (n:=n)
 unfold isP
 cases e:ZMX d.sho (ofP d.sec.length) n with
 | none =>
  rw[e]at hr
  have n15:((15:Int) != 0)=true:=rfl
  refine fnQ cf57 fun Q qr qn=>?_
  refine Bz0 ?_
  refine Zap.use hr ?_
  rintro _ G ⟨rfl,h1,h2,h3⟩
  unfold isV
  refine Bz1 (X1 n15) ?_
  exact Zaq ⟨rfl,h1,h2,h3⟩
 | some s =>
  rw[e]at hr
  have hp:=fun K=>ZNC s 77 ix K (by rw[hl s e];omega)
  have n0:((0:Int) != 0)=false:=rfl
  rw[Option.bind_some]
  generalize pgI s 77 ix=o at *
  refine fnQ cf57 fun Q qr qn=>?_
  refine Bz0 ?_
  refine Zap.use hr ?_
  rintro _ G ⟨rfl,⟨rd2,h1⟩,h2,h3⟩
  unfold isV
  refine Bz1 (X1 n0) ?_
  refine qcp (hp _) fun k1=>?_
  have fin:∃r2 H2,Zb6 (isV o) (G.bump k1) r2 H2/\RawR D S P t d (pgC D a1 a2 a3 a4 a5 a6 a7 a8 a9 a10 a12) fet (some s) (isV o) H r2 H2:=Zaq ⟨rfl,⟨rd2,h1.bump k1⟩,by rw[Zaa.ZaB];exact h2,h3.bump k1⟩
  cases o with
  | none =>
   unfold isV at fin ⊢
   refine Bz0 ?_
   exact fin
  | some x =>
   unfold isV at fin ⊢
   refine Bz0 ?_
   exact fin
theorem piece_rd (hoff:d.off=false) (hpu:d.puts.length<=1000000) {b:Nat} (hb:∀i,DFp D S t i->i<b) (hbP:P<b) :
  RdF 57 (.ptr P 0) (fun a i=>isP d.sho (ofP d.sec.length) a 77 i) (fun G=>d.Ok/\PieS D S P t d (pgC D a1 a2 a3 a4 a5 a6 a7 a8 a9 a10 a12) G) (fun i=>i=D\/i=P) b where
 st:=by
  rintro H G ⟨hok,⟨rd,h1⟩,fet,h2⟩ hn hk
  refine⟨hok,⟨rd,hk _ _ (hb D (.inl rfl)) h1.gd,hk _ _ (hb S (.inr (.inl rfl))) h1.gs,?_,h1.ok⟩,fet,hk _ _ hbP h2⟩
  rcases h1.gt with e|⟨T,e,g⟩
  ·exact .inl e
  ·exact .inr ⟨T,e,hk _ _ (hb T (.inr (.inr e))) g⟩
 fp:=fun i hi=>by
  rcases hi with rfl|rfl
  ·exact hb _ (.inl rfl)
  ·exact hbP
 len:=fun a ix s h=>by
  unfold isP at h
  cases e:ZMX d.sho (ofP d.sec.length) a with
  | none=>rw[e]at h;cases h
  | some p =>
   rw[e,Option.bind_some]at h
   unfold pgI at h
   split at h
   ·rename_i k' ix' s' hp
    split at h
    ·injection h with h
     subst h
     have:=(pgT_is hp).2.2.1
     omega
    ·cases h
   ·cases h
 go:=by
  rintro H a ix ⟨hok,⟨rd,h1⟩,fet,h2⟩ ha hix
  refine Zay.mono (ZPY hoff hpu h1 h2 a ix) ?_
  rintro r G ⟨rfl,h3,h4,h5⟩
  exact⟨rfl,⟨hok,h3,_,h4⟩,h5⟩
theorem ZN8 (hoff:d.off=false) (hpu:d.puts.length<=1000000) (hd:ZL5 D S t d rd H) {tl:Tok} {p:Pg} (hcat:0<=p.root.cat/\p.root.cat<=2000000) (g:H.get P=some (.cells (pgC D a1 a2 a3 (.i p.root.cat) a5 a6 a7 (.sl tl (rI p.list)) a9 a10 a12 fet) 106)) (i:Nat) (hi:i<p.list.length) (hi2:i<=100000) :
  Zay Tryz.prog 87 [.ptr P 0,.i (i:Int)] H (RawR D S P t d (pgC D a1 a2 a3 (.i p.root.cat) a5 a6 a7 (.sl tl (rI p.list)) a9 a10 a12) fet (ZMX d.sho (ofP d.sec.length) (p.list.getD i 0)) (isV (p.page d.sho (ofP d.sec.length) i)) H):=by
 have hgd:p.list.getD i 0=p.list[i]:=by rw[zai,zab hi];rfl
 have hrow:(rI p.list)[i]?=some [.i p.list[i]]:=by simp[hi]
 have hr:=ZPx hd hoff hpu g p.list[i]
 have hl:=fun s=>ZQL (s:=s) hd.ok rfl (n:=p.list[i])
 unfold Pg.page isP
 rw[hgd]
 have i0:(0:Int)<=(i:Int):=Xa
 generalize p.list[i]=q at *
 cases e:ZMX d.sho (ofP d.sec.length) q with
 | none =>
  rw[e]at hr
  have n15:((15:Int) != 0)=true:=rfl
  rw[show(if ZLU p.root.cat<=(i:Int) then (none:Option Tx).bind fun p_1=>pgI p_1 78 (i - (ZLU p.root.cat).toNat) else (none:Option Tx).bind fun p=>pgI p 67 i)=none by split<;>rfl]
  refine fnQ cf87 fun Q qr qn=>?_
  refine Bz1 (X3 g i0 hrow) ?_
  refine Zap.use hr ?_
  rintro _ G ⟨rfl,h1,h2,h3⟩
  unfold isV
  refine Bz1 (X1 n15) ?_
  exact Zaq ⟨rfl,h1,h2,h3⟩
 | some s =>
  rw[e]at hr
  have n0:((0:Int) != 0)=false:=rfl
  have hct:=fun K=>ZLZ p.root.cat K Xa Xa
  have hcb:0<=ZLU p.root.cat/\ZLU p.root.cat<=2000000:=by unfold ZLU;split<;>omega
  by_cases hc:ZLU p.root.cat<=(i:Int)
  ·rw[if_pos hc]
   have dc:decide ((i:Int)≥ZLU p.root.cat)=true:=decide_eq_true hc
   have w1:IntKind.i64.wrap ((i:Int) - ZLU p.root.cat)=((i - (ZLU p.root.cat).toNat:Nat):Int):=by rw[Zaw Xa Xa];omega
   have hp:=fun K=>ZNC s 78 (i - (ZLU p.root.cat).toNat) K (by rw[hl s e];omega)
   rw[Option.bind_some]
   generalize pgI s 78 (i - (ZLU p.root.cat).toNat)=o at *
   generalize i - (ZLU p.root.cat).toNat=j at *
   generalize ZLU p.root.cat=c at *
   refine fnQ cf87 fun Q qr qn=>?_
   refine Bz1 (X3 g i0 hrow) ?_
   refine Zap.use hr ?_
   rintro _ G ⟨rfl,⟨rd2,h1⟩,h2,h3⟩
   unfold isV
   refine Bz1 (X2 n0 h2) ?_
   refine qcp (hct _) fun k2=>?_
   refine Bz1 (X2 dc w1) ?_
   refine qcp (hp _) fun k1=>?_
   have fin:∃r2 H2,Zb6 (isV o) ((G.bump k2).bump k1) r2 H2/\RawR D S P t d (pgC D a1 a2 a3 (.i p.root.cat) a5 a6 a7 (.sl tl (rI p.list)) a9 a10 a12) fet (some s) (isV o) H r2 H2:=Zaq ⟨rfl,⟨rd2,(h1.bump k2).bump k1⟩,by rw[Zaa.ZaB,Zaa.ZaB];exact h2,(h3.bump k2).bump k1⟩
   cases o with
   | none =>
    unfold isV at fin ⊢
    refine Bz0 ?_
    exact fin
   | some x =>
    unfold isV at fin ⊢
    refine Bz0 ?_
    exact fin
  ·rw[if_neg hc]
   have dc:decide ((i:Int)≥ZLU p.root.cat)=false:=decide_eq_false hc
   have hp:=fun K=>ZNC s 67 i K (by rw[hl s e];omega)
   rw[Option.bind_some]
   generalize pgI s 67 i=o at *
   generalize ZLU p.root.cat=c at *
   refine fnQ cf87 fun Q qr qn=>?_
   refine Bz1 (X3 g i0 hrow) ?_
   refine Zap.use hr ?_
   rintro _ G ⟨rfl,⟨rd2,h1⟩,h2,h3⟩
   unfold isV
   refine Bz1 (X2 n0 h2) ?_
   refine qcp (hct _) fun k2=>?_
   refine Bz1 (X1 dc) ?_
   refine qcp (hp _) fun k1=>?_
   have fin:∃r2 H2,Zb6 (isV o) ((G.bump k2).bump k1) r2 H2/\RawR D S P t d (pgC D a1 a2 a3 (.i p.root.cat) a5 a6 a7 (.sl tl (rI p.list)) a9 a10 a12) fet (some s) (isV o) H r2 H2:=Zaq ⟨rfl,⟨rd2,(h1.bump k2).bump k1⟩,by rw[Zaa.ZaB,Zaa.ZaB];exact h2,(h3.bump k2).bump k1⟩
   cases o with
   | none =>
    unfold isV at fin ⊢
    refine Bz0 ?_
    exact fin
   | some x =>
    unfold isV at fin ⊢
    refine Bz0 ?_
    exact fin
end
open Go.RowKit Go.Lib
def DvX (D:Nat) (d:Dv) (H:Zaa):Prop:=∃S t rd,ZL5 D S t d rd H
def DKs:List Nat:=[0,9+3,100+3]
def PKs:List Nat:=[1,3+3,170+3,167+3,149+3,106+3]
def AKs:List Nat:=DKs++PKs
theorem CKs_sub:∀x∈CKs,x∈PKs:=Xb
abbrev pgO (D R C:Nat) (p:Pg) (br:Bool) (fet:Int) (tw tl:Tok):List AV:=pgC D (.i p.root.gen) (.i p.root.pages) (.i p.root.map) (.i p.root.cat) (.i p.root.nodes) (.i p.root.top) (.sl tw (rI p.own)) (.sl tl (rI p.list)) (.ptr R 0) (.ptr C 0) (.b br) fet
structure PgB (D P R C M:Nat) (p:Pg) (br:Bool) (its:Its) (fet:Int) (np:Nat) (H:Zaa):Prop where
 g:∃tw tl,H.get P=some (.cells (pgO D R C p br fet tw tl) 106)
 w:∃ws W,RmA ws np R W H/\RmI ws p.used np
 c:CaS C M its H
section
variable {D P R C M:Nat} {d:Dv} {p:Pg} {br:Bool} {its:Its} {fet:Int} {np:Nat} {H G:Zaa}
theorem DvX.keep {ks:List Nat} (h:DvX D d H) (k:KD ks H G) (hk:∀x∈DKs,x ∉ ks):DvX D d G:=by
 obtain⟨S,t,rd,h⟩:=h
 refine⟨S,t,rd,k.g _ _ (hk _ (by simp[DKs,kdO])) h.gd,k.g _ _ (hk _ (by simp[DKs,kdO])) h.gs,?_,h.ok⟩
 rcases h.gt with e|⟨T,e,g⟩
 ·exact .inl e
 ·exact .inr ⟨T,e,k.g _ _ (hk _ (by simp[DKs,kdO])) g⟩
theorem CaS.keep {ks:List Nat} (h:CaS C M its H) (k:KD ks H G) (hk:∀x∈CKs,x ∉ ks):CaS C M its G:=by
 obtain⟨o,a,b,h⟩:=h
 exact⟨o,a,b,h.keep k hk⟩
theorem PgB.keep {ks:List Nat} (h:PgB D P R C M p br its fet np H) (k:KD ks H G) (hk:∀x∈PKs,x ∉ ks):PgB D P R C M p br its fet np G:=by
 obtain⟨tw,tl,g⟩:=h.g
 obtain⟨ws,W,w1,w2⟩:=h.w
 exact⟨⟨tw,tl,k.g _ _ (hk _ (by simp[PKs,kdO])) g⟩,⟨ws,W,⟨k.g _ _ (hk _ (by simp[PKs,kdO])) w1.r,k.g _ _ (hk _ (by simp[PKs,kdO])) w1.w,w1.l,w1.n1,w1.n2,w1.b⟩,w2⟩,h.c.keep k fun x hx=>hk x (CKs_sub x hx)⟩
theorem DvX.ext (h:DvX D d H) (k:Zaa.Ext H G):DvX D d G:=h.keep (KD.ext (ks:=[]) k) Xc
theorem PgB.ext (h:PgB D P R C M p br its fet np H) (k:Zaa.Ext H G):PgB D P R C M p br its fet np G:=h.keep (KD.ext (ks:=[]) k) Xc
theorem ZL5.kd {S:Nat} {t:Tok} {rd:Int} (h:ZL5 D S t d rd H) (k:KF (DFp D S t) H G):KD DKs H G:=KD.of k fun i o hi ho=>by
 rcases hi with rfl|rfl|hi
 ·rw[h.gd]at ho;injection ho with ho;rw[<- ho];simp[DKs,kdO]
 ·rw[h.gs]at ho;injection ho with ho;rw[<- ho];simp[DKs,kdO]
 ·rcases h.gt with e|⟨T,e,g⟩
  ·rw[hi]at e;cases e
  ·rw[hi]at e;cases e
   rw[g]at ho;injection ho with ho;rw[<- ho];simp[DKs,kdO]
theorem ZST {S:Nat} {t:Tok} {rd:Int} {cs:List AV} (h:ZL5 D S t d rd H) (g:H.get P=some (.cells cs 106)) (k:KF (fun i=>i=D\/i=P) H G):KD [100+3,106+3] H G:=KD.of k fun i o hi ho=>by
 rcases hi with rfl|rfl
 ·rw[h.gd]at ho;injection ho with ho;rw[<- ho];simp[kdO]
 ·rw[g]at ho;injection ho with ho;rw[<- ho];simp[kdO]
theorem ZMc (h:PgB D P R C M p br its fet np H):Zay Tryz.prog 82 [.ptr P 0] H (Pure H (.b true)):=by
 obtain⟨tw,tl,g⟩:=h.g
 have hx0:Zaa.Ext H H:=.refl _
 refine fnQ cf82 fun Q qr qn=>?_
 refine Bz1 (X1 g) ?_
 exact Zcm rfl
theorem ZMA (h:PgB D P R C M p br its fet np H):Zay Tryz.prog 20 [.ptr P 0] H (Pure H (.b (decide (p.root.gen > 0)))):=by
 obtain⟨tw,tl,g⟩:=h.g
 have ht:=ZMc h
 generalize hb:decide (p.root.gen > 0)=b
 have hx0:Zaa.Ext H H:=.refl _
 refine fnQ cf20 fun Q qr qn=>?_
 refine Bz0 ?_
 refine qcp (ht) fun k1=>?_
 refine Bz1 (X2 g hb) ?_
 exact Zcm rfl
theorem ZMK (h:PgB D P R C M p br its fet np H):Zay Tryz.prog 21 [.ptr P 0] H (Pure H (.agg (eRt p.root))):=by
 obtain⟨tw,tl,g⟩:=h.g
 have ht:=ZMc h
 have hx0:Zaa.Ext H H:=.refl _
 have lP:=Zaa.lt g
 have hne:P≠H.next:=Xa
 have ht2:∀K,PgB D P R C M p br its fet np K->Zay Tryz.prog 82 [.ptr P 0] K (Pure K (.b true)):=fun K hK=>ZMc hK
 refine fnQ cf21 fun Q qr qn=>?_
 refine Bz0 ?_
 refine qcp (ht2 _ (h.ext (by exact AXT))) fun k1=>?_
 refine Bz1 (X2 g hne) ?_
 exact Zcm rfl
theorem ZPK (h:PgB D P R C M p br its fet np H):Zay Tryz.prog 22 [.ptr P 0] H (Pure H (.i ((np:Int) - (p.used.length:Int)))):=by
 obtain⟨tw,tl,g⟩:=h.g
 obtain⟨ws,W,w1,w2⟩:=h.w
 have ht:=ZMc h
 have hx0:Zaa.Ext H H:=.refl _
 have hc:=fun k:Nat=>ZMt (w1.ext (Zaa.Ext.bump (k:=k) (Zaa.Ext.refl H)))
 rw[w2.count]at hc
 refine fnQ cf22 fun Q qr qn=>?_
 refine Bz0 ?_
 refine qcp (ht) fun k1=>?_
 refine Bz1 (X1 g) ?_
 refine qcp (hc k1) fun k2=>?_
 refine Bz0 ?_
 exact Zcm rfl
def ZMu (p:Pg) (br:Bool) (d:Dv):Int:=if br=true\/d.off=true then 8 else if p.root.gen > 0 then 0 else 10
theorem ZLY (hd:DvX D d H) (h:PgB D P R C M p br its fet np H):Zay Tryz.prog 60 [.ptr P 0] H (Pure H (.i (ZMu p br d))):=by
 obtain⟨tw,tl,g⟩:=h.g
 obtain⟨S,t,rd,hd⟩:=hd
 have ht:=ZMc h
 have hhs:=fun K hK=>ZMA (H:=K) (h.ext hK)
 have hof:=fun k=>ZQU (hd.bump k)
 have hx0:Zaa.Ext H H:=.refl _
 unfold ZMu
 cases hb:br with
 | true =>
  subst hb
  rw[if_pos (.inl rfl)]
  refine fnQ cf60 fun Q qr qn=>?_
  refine Bz0 ?_
  refine qcp (ht) fun k1=>?_
  refine Bz1 (X1 g) ?_
  exact Zcm rfl
 | false =>
  subst hb
  rcases bfb d.off with ho|ho
  ·rw[ho,if_neg Xc]
   rw[ho]at hof
   by_cases hg:p.root.gen > 0
   ·rw[if_pos hg]
    rw[decide_eq_true hg]at hhs
    refine fnQ cf60 fun Q qr qn=>?_
    refine Bz0 ?_
    refine qcp (ht) fun k1=>?_
    refine Bz1 (X1 g) ?_
    refine qcp (hof k1) fun k2=>?_
    refine Bz0 ?_
    refine qcp (hhs _ (by exact AXT)) fun k3=>?_
    refine Bz0 ?_
    exact Zcm rfl
   ·rw[if_neg hg]
    rw[decide_eq_false hg]at hhs
    refine fnQ cf60 fun Q qr qn=>?_
    refine Bz0 ?_
    refine qcp (ht) fun k1=>?_
    refine Bz1 (X1 g) ?_
    refine qcp (hof k1) fun k2=>?_
    refine Bz0 ?_
    refine qcp (hhs _ (by exact AXT)) fun k3=>?_
    refine Bz0 ?_
    exact Zcm rfl
  ·rw[ho,if_pos (.inr rfl)]
   rw[ho]at hof
   refine fnQ cf60 fun Q qr qn=>?_
   refine Bz0 ?_
   refine qcp (ht) fun k1=>?_
   refine Bz1 (X1 g) ?_
   refine qcp (hof k1) fun k2=>?_
   refine Bz0 ?_
   exact Zcm rfl
def ZOQ (p:Pg) (sh:Nat->Tx) (np:Nat) (its:Its) (i:Nat):Its:=match Zcz (i:Int) its with
 | some s=>ZRS i s its
 | none=>match p.page sh np i with
  | some s=>putC i s its
  | none=>its
def ZPw (p:Pg) (sh:Nat->Tx) (np:Nat) (its:Its) (fet:Int) (i:Nat):Int:=match Zcz (i:Int) its with
 | some _=>fet
 | none=>fetP fet (ZMX sh np (p.list.getD i 0))
def ZMe (p:Pg) (sh:Nat->Tx) (np:Nat) (its:Its):Prop:=∀e∈its,∃n:Nat,e.1=(n:Int)/\p.page sh np n=some e.2
theorem ZMe.get {sh:Nat->Tx} (h:ZMe p sh np its) {i:Nat} {s:Tx} (e:Zcz (i:Int) its=some s):p.page sh np i=some s:=by
 obtain⟨n,h1,h2⟩:=h _ (ZNo e)
 have:i=n:=by simp only at h1;omega
 rw[this]
 exact h2
theorem ZMe.next {sh:Nat->Tx} (h:ZMe p sh np its) (i:Nat):ZMe p sh np (ZOQ p sh np its i):=by
 unfold ZOQ
 cases e:Zcz (i:Int) its with
 | some s =>
  intro x hx
  rcases zay.1 hx with rfl|hx
  ·exact⟨i,rfl,h.get e⟩
  ·exact h x (zbv.1 hx).1
 | none =>
  simp only
  cases e2:p.page sh np i with
  | none=>exact h
  | some s =>
   intro x hx
   rcases zay.1 (zaB hx)with rfl|hx
   ·exact⟨i,rfl,e2⟩
   ·exact h x hx
structure PgQ (D P R C M:Nat) (d:Dv) (p:Pg) (br:Bool) (its:Its) (fet:Int) (np:Nat) (H G:Zaa):Prop where
 d:DvX D d G
 p:PgB D P R C M p br its fet np G
 k:KD AKs H G
def PgR (D P R C M:Nat) (d:Dv) (p:Pg) (br:Bool) (its:Its) (fet:Int) (np:Nat) (v:AV) (H:Zaa) (r:AV) (G:Zaa):Prop:=r=v/\PgQ D P R C M d p br its fet np H G
theorem PgQ.same (hd:DvX D d H) (h:PgB D P R C M p br its fet np H) (k:Zaa.Ext H G):PgQ D P R C M d p br its fet np H G:=⟨hd.ext k,h.ext k,KD.ext k⟩
end
open Go.RowKit Go.Lib
section
variable {D P R C M:Nat} {d:Dv} {p:Pg} {br:Bool} {its:Its} {fet:Int} {np:Nat} {H G:Zaa}
def FetQ (D P R C:Nat) (d:Dv) (p:Pg) (br:Bool) (fet:Int) (o:Option Tx) (K G:Zaa):Prop:=KD [100+3,106+3] K G/\DvX D d G/\∃tw tl,G.get P=some (.cells (pgO D R C p br (fetP fet o) tw tl) 106)
theorem thr_fin (hd:DvX D d H) (h:PgB D P R C M p br its fet np H) {i:Nat} {r:AV} (q:ThrR C M its (i:Int) (p.page d.sho np i) (FetQ D P R C d p br fet (ZMX d.sho np (p.list.getD i 0))) H r G) (hc:ZMe p d.sho np its):r=isV (p.page d.sho np i)/\PgQ D P R C M d p br (ZOQ p d.sho np its i) (ZPw p d.sho np its fet i) np H G:=by
 obtain⟨tw,tl,g⟩:=h.g
 obtain⟨ws,W,w1,w2⟩:=h.w
 unfold ThrR at q
 have cks:∀x∈CKs,x∈AKs:=Xb
 have jks:∀x∈[100+3,106+3],x∈AKs:=Xb
 have ck1:∀x∈DKs,x ∉ CKs:=Xb
 have ck2:106+3 ∉ CKs:=Xb
 have wk:∀{ks:List Nat} {K L:Zaa},167+3 ∉ ks->149+3 ∉ ks->KD ks K L->RmA ws np R W K->RmA ws np R W L:=fun h1 h2 k w=>⟨k.g _ _ h1 w.r,k.g _ _ h2 w.w,w.l,w.n1,w.n2,w.b⟩
 unfold ZOQ ZPw
 cases e:Zcz (i:Int) its with
 | some s =>
  rw[e]at q
  obtain⟨q1,q2,q3⟩:=q
  exact⟨by rw[q1,hc.get e],hd.keep q3 ck1,⟨⟨tw,tl,q3.g _ _ ck2 g⟩,⟨ws,W,wk Xb Xb q3 w1,w2⟩,q2⟩,q3.mono cks⟩
 | none =>
  rw[e]at q
  obtain⟨q1,q2,K1,G1,k1,⟨f1,f2,tw2,tl2,f3⟩,k2⟩:=q
  exact⟨q1,f2.keep k2 ck1,⟨⟨tw2,tl2,k2.g _ _ ck2 f3⟩,⟨ws,W,wk Xb Xb k2 (wk Xb Xb f1 (wk Xb Xb k1 w1)),w2⟩,q2⟩,((k1.mono cks).trans (f1.mono jks)).trans (k2.mono cks)⟩
theorem ZRm (hnp:np=ofP d.sec.length) (hpu:d.puts.length<=1000000) (hd:DvX D d H) (h:PgB D P R C M p br its fet np H) (hr:ZMu p br d=0) (hcat:0<=p.root.cat/\p.root.cat<=2000000) (hc:ZMe p d.sho np its) (i:Nat) (hi:i<p.list.length) (hi2:i<=100000) :
  Zay Tryz.prog 128 [.ptr P 0,.i (i:Int)] H (PgR D P R C M d p br (ZOQ p d.sho np its i) (ZPw p d.sho np its fet i) np (isV (p.page d.sho np i)) H):=by
 have hrd:=ZLY hd h
 rw[hr]at hrd
 have hoff:d.off=false:=by
  unfold ZMu at hr
  split at hr
  ·cases hr
  ·rename_i hh
   simpa using fun e=>hh (.inr e)
 have hrl:(rI p.list).length=p.list.length:=Xc
 have n0:((0:Int) != 0)=false:=rfl
 have d1:decide ((i:Int)<0)=false:=decide_eq_false Xa
 have d2:decide ((i:Int)≥(p.list.length:Int))=false:=decide_eq_false Xa
 have ck1:∀x∈DKs,x ∉ CKs:=Xb
 have ck2:106+3 ∉ CKs:=Xb
 have hthr:∀k1,Zay Tryz.prog 179 [.ptr C 0,.i (i:Int),.fn 87 [.ptr P 0] []] (H.bump k1) (ThrR C M its (i:Int) (p.page d.sho np i) (FetQ D P R C d p br fet (ZMX d.sho np (p.list.getD i 0))) (H.bump k1)):=fun k1=>by
  have hd1:DvX D d (H.bump k1):=hd.ext (Zaa.Ext.refl _).bump
  have h1:PgB D P R C M p br its fet np (H.bump k1):=h.ext (Zaa.Ext.refl _).bump
  refine ZOc (js:=[100+3,106+3]) h1.c (i:Int) (p.page d.sho np i) Xb (fun K G q=>q.1) fun K hK=>?_
  obtain⟨S,t,rd,hdv⟩:=hd1.keep hK ck1
  obtain⟨tw,tl,g⟩:=h1.g
  have g2:=hK.g _ _ (show kdO (.cells (pgO D R C p br fet tw tl) 106) ∉ CKs from ck2) g
  subst hnp
  refine Zay.mono (ZN8 (p:=p) hoff hpu hdv hcat g2 i hi hi2) ?_
  rintro r G ⟨rfl,⟨rd2,q1⟩,q2,q3⟩
  exact⟨rfl,ZST hdv g2 q3,⟨S,t,rd2,q1⟩,tw,tl,q2⟩
 obtain⟨tw,tl,g⟩:=h.g
 refine fnQ ZLD fun Q qr qn=>?_
 refine Bz0 ?_
 refine qcp (hrd) fun k1=>?_
 ((have hd:=tv;repeat' first|(first|apply Zad|apply Zac|apply Zab)<;>intro hd<;>try simp only[hd]|simp(disch:=first|assumption|omega|simp only[nx]<;>omega|fail)only[hd,qr,qn,ZrW,↓YA,YY,↓reduceIte,Nat.reduceEqDiff,Nat.reduceAdd,Nat.reduceMul,Nat.reduceLeDiff,Int.reduceToNat,Int.reduceLE,Int.reduceLT,Int.reduceGT,Int.reduceGE,Int.reduceAdd,Int.reduceSub,Int.reduceNeg,Int.reduceBEq,Int.reduceBNe,n0,d1,d2,g,hrl])<;>try revert hd;refine ttr ?_)
 refine Zap.use (hthr k1) ?_
 rintro r G q
 obtain⟨rfl,q2⟩:=thr_fin (hd.ext (Zaa.Ext.refl _).bump) (h.ext (Zaa.Ext.refl _).bump) q hc
 have q3:PgQ D P R C M d p br (ZOQ p d.sho np its i) (ZPw p d.sho np its fet i) np H G:=⟨q2.d,q2.p,(KD.ext (Zaa.Ext.refl _).bump).trans q2.k⟩
 have fin:∀v,v=isV (p.page d.sho np i)->∃r2 H2,Zb6 v G r2 H2/\PgR D P R C M d p br (ZOQ p d.sho np its i) (ZPw p d.sho np its fet i) np (isV (p.page d.sho np i)) H r2 H2:=fun v e=>Zaq ⟨e,q3⟩
 generalize ZOQ p d.sho np its i=its2 at *
 generalize ZPw p d.sho np its fet i=fet2 at *
 clear q q2 q3
 cases e:p.page d.sho np i with
 | none =>
  unfold isV
  refine Bz0 ?_
  exact fin _ (by rw[e];rfl)
 | some s =>
  unfold isV
  refine Bz0 ?_
  exact fin _ (by rw[e];rfl)
end
open Go.RowKit Go.Lib
def ZNF (p:Pg) (sh:Nat->Tx) (np first all:Nat):Nat->Nat->Its->Int->Its×Int
 | 0,_,its,fet=>(its,fet)
 | m+1,i,its,fet=>match p.page sh np (first+i)with
  | some s=>if s.length=min 246 (all - 246 * i) then ZNF p sh np first all m (i+1) (ZOQ p sh np its (first+i)) (ZPw p sh np its fet (first+i)) else (ZOQ p sh np its (first+i),ZPw p sh np its fet (first+i))
  | none=>(ZOQ p sh np its (first+i),ZPw p sh np its fet (first+i))
theorem ZO4 {p:Pg} {sh:Nat->Tx} {np first all m i:Nat} {its:Its} {fet:Int} {s:Tx} (h:p.page sh np (first+i)=some s):ZNF p sh np first all (m+1) i its fet=if s.length=min 246 (all - 246 * i) then ZNF p sh np first all m (i+1) (ZOQ p sh np its (first+i)) (ZPw p sh np its fet (first+i)) else (ZOQ p sh np its (first+i),ZPw p sh np its fet (first+i)):=by
 rw[ZNF,h]
theorem ZSw {p:Pg} {sh:Nat->Tx} {np first all m i:Nat} {its:Its} {fet:Int} (h:p.page sh np (first+i)=none):ZNF p sh np first all (m+1) i its fet=(ZOQ p sh np its (first+i),ZPw p sh np its fet (first+i)):=by
 rw[ZNF,h]
theorem ZPO {p:Pg} {sh:Nat->Tx} {np first all:Nat}:∀(m i:Nat) (its:Its) (fet:Int),ZMe p sh np its->ZMe p sh np (ZNF p sh np first all m i its fet).1
 | 0,_,_,_,h=>h
 | m+1,i,its,fet,h=>by
  unfold ZNF
  split
  ·split
   ·exact ZPO m (i+1) _ _ (h.next _)
   ·exact h.next _
  ·exact h.next _
section
variable {D P R C M:Nat} {d:Dv} {p:Pg} {br:Bool} {its:Its} {fet:Int} {np:Nat} {H G:Zaa}
def SpnI (D P R C M:Nat) (d:Dv) (p:Pg) (br:Bool) (its0:Its) (fet0:Int) (np first all a n:Nat) (H:Zaa) (m:Nat) (F:Fr) (G:Zaa):Prop :=
 Fr.get F 0=.ptr P 0/\Fr.get F 1=.i (first:Int)/\Fr.get F 2=.i (all:Int)/\Fr.get F 3=.i (a:Int)/\Fr.get F 4=.i (n:Int) /\
 ∃(i:Nat) (its:Its) (fet:Int) (out:Tx),Fr.get F 12=eS out/\PgQ D P R C M d p br its fet np H G/\ZMe p d.sho np its/\out.length<=n/\(out.length<n->i=(a+out.length) / 246/\m=(a+n - 1) / 246+1 - i/\(a+out.length) % 246=a - 246 * i/\i<=(a+n - 1) / 246)/\(out.length=n->m=0) /\
  ZM5 (fun i=>p.page d.sho np i) first all a n=(ZQs (fun i=>p.page d.sho np i) first all a n m i).map (out++·)/\ZNF p d.sho np first all (ZOF a n) (a / 246) its0 fet0=ZNF p d.sho np first all m i its fet
theorem ZNI {pg:Nat->Option Tx} {first all a n m i:Nat} {s:Tx} (h:pg (first+i)=some s):ZQs pg first all a n (m+1) i=if s.length=min 246 (all - 246 * i) then (ZQs pg first all a n m (i+1)).map fun r=>((s.take (a+n - 246 * i)).drop (a - 246 * i))++r else none:=by
 rw[ZQs,h,Option.bind_some]
theorem ZRq {pg:Nat->Option Tx} {first all a n m i:Nat} (h:pg (first+i)=none):ZQs pg first all a n (m+1) i=none:=by
 rw[ZQs,h]
 rfl
set_option maxRecDepth 100000 in
theorem ZOi (hnp:np=ofP d.sec.length) (hpu:d.puts.length<=1000000) (hd:DvX D d H) (h:PgB D P R C M p br its fet np H) (hr:ZMu p br d=0) (hcat:0<=p.root.cat/\p.root.cat<=2000000) (hc:ZMe p d.sho np its) (first all a n:Nat) (hin:∀i,246 * i<all->first+i<p.list.length) (hl:p.list.length<=100000) (ha:a<=all) (hn:n<=all - a) (hall:all<=900000) (hf:first<=100000) :
  Zay Tryz.prog 97 [.ptr P 0,.i (first:Int),.i (all:Int),.i (a:Int),.i (n:Int)] H (PgR D P R C M d p br (ZNF p d.sho np first all (ZOF a n) (a / 246) its fet).1 (ZNF p d.sho np first all (ZOF a n) (a / 246) its fet).2 np (isV (ZM5 (fun i=>p.page d.sho np i) first all a n)) H):=by
 have e1:decide ((a:Int)<0)=false:=decide_eq_false Xa
 have e2:decide ((n:Int)<0)=false:=decide_eq_false Xa
 have e3:decide ((a:Int) > (all:Int))=false:=decide_eq_false Xa
 have e4:decide ((n:Int) > (all:Int) - (a:Int))=false:=decide_eq_false Xa
 have w1:IntKind.i64.wrap ((all:Int) - (a:Int))=(all:Int) - (a:Int):=Zaw Xa Xa
 refine fnQ cf97 fun Q qr qn=>?_
 refine Bz1 (X5 e1 e2 e3 e4 w1) ?_
 unfold c97_1
 rw[Za8]
 refine Zg1 (SpnI D P R C M d p br its fet np first all a n H) (ZOF a n) (GStep.refl _ _) ⟨rfl,rfl,rfl,rfl,rfl,a / 246,its,fet,[],rfl,PgQ.same hd h (.refl _),hc,zat _,?_,?_,?_,rfl⟩ ?_
 ·intro hlt
  simp only[List.length_nil,Nat.add_zero]at hlt ⊢
  unfold ZOF
  rw[if_neg Xa]
  exact⟨trivial,rfl,Xa,Xa⟩
 ·intro hz
  simp only[List.length_nil]at hz
  unfold ZOF
  rw[if_pos hz.symm]
 ·unfold ZM5
  cases ZQs (fun i=>p.page d.sho np i) first all a n (ZOF a n) (a / 246)<;>rfl
 rintro m F G ⟨f0,f1,f2,f3,f4,i,its1,fet1,out,f12,q,hc1,ho,hlt,hz,hs,hsp⟩
 by_cases hlt2:out.length<n
 ·obtain⟨i1,i2,i3,i4⟩:=hlt hlt2
  clear hz hlt
  obtain⟨m,rfl⟩:∃k,m=k+1:=⟨m - 1,Xa⟩
  have c1:decide (((out.length:Nat):Int)<(n:Int))=true:=decide_eq_true Xa
  have w2:IntKind.i64.wrap ((a:Int)+(out.length:Int))=((a+out.length:Nat):Int):=by rw[Zaw Xa Xa];omega
  have w3:IntKind.i64.wrap (((a+out.length:Nat):Int).tdiv 246)=(i:Int):=by rw[za3 Xa,Zaw Xa Xa];omega
  have w4:IntKind.i64.wrap ((first:Int)+(i:Int))=((first+i:Nat):Int):=by rw[Zaw Xa Xa];omega
  have w5:IntKind.i64.wrap ((i:Int) * 246)=((246 * i:Nat):Int):=by rw[Zaw Xa Xa];omega
  have w6:IntKind.i64.wrap ((all:Int) - ((246 * i:Nat):Int))=((all - 246 * i:Nat):Int):=by rw[Zaw Xa Xa];omega
  have w7:((a+out.length:Nat):Int).tmod 246=((a - 246 * i:Nat):Int):=by rw[zbx Xa];omega
  have w8:IntKind.i64.wrap ((n:Int) - (out.length:Int))=((n - out.length:Nat):Int):=by rw[Zaw Xa Xa];omega
  have n246:((246:Int)=0)=False:=Xc
  have hpg:=ZRm hnp hpu q.d q.p hr hcat hc1 (first+i) (hin i Xa) (by have:=hin i Xa;omega)
  have q0:=q.k
  have hcn:=hc1.next (first+i)
  cases e:p.page d.sho np (first+i)with
  | none =>
   rw[e]at hpg
   have hs2:ZM5 (fun i=>p.page d.sho np i) first all a n=none:=by rw[hs,ZRq (pg:=fun i=>p.page d.sho np i) e];rfl
   have hsp2:ZNF p d.sho np first all (ZOF a n) (a / 246) its fet=(ZOQ p d.sho np its1 (first+i),ZPw p d.sho np its1 fet1 (first+i)):=by rw[hsp,ZSw e]
   have n15:((15:Int) != 0)=true:=rfl
   unfold isV at hpg
   rw[hsp2,hs2]at qr
   generalize ZOQ p d.sho np its1 (first+i)=its2 at *
   generalize ZPw p d.sho np its1 fet1 (first+i)=fet2 at *
   skip
   refine Bz1 (X11 f0 f1 f2 f3 f4 f12 c1 w2 w3 w4 n246) ?_
   refine Zap.use hpg ?_
   rintro _ G2 ⟨rfl,q2⟩
   refine Bz1 (X1 n15) ?_
   exact Zaq ⟨rfl,q2.d,q2.p,q0.trans q2.k⟩
  | some s =>
   rw[e]at hpg
   unfold isV at hpg
   have n0:((0:Int) != 0)=false:=rfl
   have hmn:(if ((all - 246 * i:Nat):Int)<246 then ((all - 246 * i:Nat):Int) else 246)=((min 246 (all - 246 * i):Nat):Int):=by split<;>omega
   have hmn':(if (246:Int) > ((all - 246 * i:Nat):Int) then ((all - 246 * i:Nat):Int) else 246)=((min 246 (all - 246 * i):Nat):Int):=by split<;>omega
   by_cases hsl:s.length=min 246 (all - 246 * i)
   ·have hs2:=hs
    rw[ZNI (pg:=fun i=>p.page d.sho np i) e,if_pos hsl,Option.map_map]at hs2
    have hsp2:=hsp
    rw[ZO4 e,if_pos hsl]at hsp2
    have c2:(((s.length:Nat):Int) != ((min 246 (all - 246 * i):Nat):Int))=false:=by rw[hsl];simp
    have g1:a - 246 * i<=s.length:=Xa
    have z1:(0:Int)<=((a - 246 * i:Nat):Int):=Xa
    have x1:=ZMS s (a - 246 * i)
    have hdl:(s.drop (a - 246 * i)).length=s.length - (a - 246 * i):=zaq
    have hmx:(if ((n - out.length:Nat):Int)<(((s.drop (a - 246 * i)).length:Nat):Int) then ((n - out.length:Nat):Int) else (((s.drop (a - 246 * i)).length:Nat):Int))=((min (s.drop (a - 246 * i)).length (n - out.length):Nat):Int):=by split<;>omega
    have hck:(s.drop (a - 246 * i)).take (min (s.drop (a - 246 * i)).length (n - out.length))=(s.take (a+n - 246 * i)).drop (a - 246 * i):=by
     rw[zcA,Nat.min_comm]
     by_cases hh:(s.drop (a - 246 * i)).length<=n - out.length
     ·rw[zbC hh,zav (zad _),zav Xa]
     ·rw[zaP Xa]
      congr 1
      omega
    have hcl:((s.take (a+n - 246 * i)).drop (a - 246 * i)).length=min (s.length - (a - 246 * i)) (n - out.length):=by rw[<- hck,zaj,hdl];omega
    have x2:=ZMW (s.drop (a - 246 * i)) (min (s.drop (a - 246 * i)).length (n - out.length))
    rw[hck]at x2
    have x3:=Zz9 out ((s.take (a+n - 246 * i)).drop (a - 246 * i))
    have g2:min (s.drop (a - 246 * i)).length (n - out.length)<=(s.drop (a - 246 * i)).length:=Nat.min_le_left _ _
    have z2:(0:Int)<=((min (s.drop (a - 246 * i)).length (n - out.length):Nat):Int):=Xa
    have hml:out.length+((s.take (a+n - 246 * i)).drop (a - 246 * i)).length<=maxLen:=ZAp Xa
    have fin:∀{G2:Zaa},PgQ D P R C M d p br (ZOQ p d.sho np its1 (first+i)) (ZPw p d.sho np its1 fet1 (first+i)) np G G2->∃m',m'<m+1/\∃(i':Nat) (its':Its) (fet':Int) (out':Tx),eS (out++(s.take (a+n - 246 * i)).drop (a - 246 * i))=eS out'/\PgQ D P R C M d p br its' fet' np H G2/\ZMe p d.sho np its'/\out'.length<=n/\(out'.length<n->i'=(a+out'.length) / 246/\m'=(a+n - 1) / 246+1 - i'/\(a+out'.length) % 246=a - 246 * i'/\i'<=(a+n - 1) / 246)/\(out'.length=n->m'=0) /\
      ZM5 (fun i=>p.page d.sho np i) first all a n=(ZQs (fun i=>p.page d.sho np i) first all a n m' i').map (out'++·)/\ZNF p d.sho np first all (ZOF a n) (a / 246) its fet=ZNF p d.sho np first all m' i' its' fet':=fun q2=>by
     have hol:(out++(s.take (a+n - 246 * i)).drop (a - 246 * i)).length=out.length+min (s.length - (a - 246 * i)) (n - out.length):=by rw[zac,hcl]
     refine⟨m,Nat.lt_succ_self m,i+1,_,_,_,rfl,⟨q2.d,q2.p,q0.trans q2.k⟩,hcn,by rw[hol];omega,fun hh=>?_,fun hh=>?_,?_,hsp2⟩
     ·rw[hol]at hh ⊢
      omega
     ·rw[hol]at hh
      omega
     ·rw[hs2]
      congr 1
      funext r
      simp[Function.comp]
    clear hs hsp hs2 hsp2 hcn hdl hcl hck
    generalize (s.take (a+n - 246 * i)).drop (a - 246 * i)=ck at *
    generalize hsd:s.drop (a - 246 * i)=sd at *
    skip
    refine Bz1 (X11 f0 f1 f2 f3 f4 f12 c1 w2 w3 w4 n246) ?_
    refine Zap.use hpg ?_
    rintro _ G2 ⟨rfl,q2⟩
    have hf:=fin q2
    clear fin
    ((have hd:=tv;repeat' first|(first|apply Zad|apply Zac|apply Zab)<;>intro hd<;>try simp only[hd]|simp(disch:=first|assumption|omega|simp only[nx]<;>omega|fail)only[hd,qr,qn,ZvO,↓YA,YY,↓reduceIte,Nat.reduceEqDiff,Nat.reduceAdd,Nat.reduceMul,Nat.reduceLeDiff,Int.reduceToNat,Int.reduceLE,Int.reduceLT,Int.reduceGT,Int.reduceGE,Int.reduceAdd,Int.reduceSub,Int.reduceNeg,Int.reduceBEq,Int.reduceBNe,f0,f1,f2,f3,f4,f12,n0,w3,w5,w6,w7,w8,n246,hmn,hmn',c2,g1,z1,x1,hmx,g2,z2,x2,x3,hml,Zdi,zat,Int.toNat_natCast,zad])<;>try revert hd;refine ttr ?_)
    exact Exists.elim hf fun m' h=>⟨m',h.1,f0,f1,f2,f3,f4,h.2⟩
   ·have hs2:ZM5 (fun i=>p.page d.sho np i) first all a n=none:=by rw[hs,ZNI (pg:=fun i=>p.page d.sho np i) e,if_neg hsl];rfl
    have hsp2:ZNF p d.sho np first all (ZOF a n) (a / 246) its fet=(ZOQ p d.sho np its1 (first+i),ZPw p d.sho np its1 fet1 (first+i)):=by rw[hsp,ZO4 e,if_neg hsl]
    have c2:(((s.length:Nat):Int) != ((min 246 (all - 246 * i):Nat):Int))=true:=by simp only[bne_iff_ne,ne_eq];omega
    rw[hsp2,hs2]at qr
    clear hs hsp hs2 hsp2 hcn
    generalize ZOQ p d.sho np its1 (first+i)=its2 at *
    generalize ZPw p d.sho np its1 fet1 (first+i)=fet2 at *
    skip
    refine Bz1 (X11 f0 f1 f2 f3 f4 f12 c1 w2 w3 w4 n246) ?_
    refine Zap.use hpg ?_
    rintro _ G2 ⟨rfl,q2⟩
    refine Bz1 (X12 f0 f1 f2 f3 f4 f12 n0 w3 w5 w6 n246 (X3 hmn hmn' c2)) ?_
    exact Zaq ⟨rfl,q2.d,q2.p,q0.trans q2.k⟩
 ·have hz:=hz Xa
  subst hz
  have c1:decide (((out.length:Nat):Int)<(n:Int))=false:=decide_eq_false Xa
  have hs2:ZM5 (fun i=>p.page d.sho np i) first all a n=some out:=by rw[hs];simp[ZQs]
  have hsp2:ZNF p d.sho np first all (ZOF a n) (a / 246) its fet=(its1,fet1):=by rw[hsp];rfl
  rw[hsp2,hs2]at qr
  skip
  refine Bz1 (X7 f0 f1 f2 f3 f4 f12 c1) ?_
  exact Zaq ⟨rfl,q⟩
end
end Go.Proofs.YtfjjpndoeppbhaaGreatDoor
