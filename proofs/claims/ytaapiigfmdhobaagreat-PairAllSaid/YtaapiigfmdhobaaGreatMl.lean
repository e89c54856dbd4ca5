/- Texts of the walk, joined: H6 H7 H8. -/
import Derived.Test.YtaapiigfmdhobaaGreatMk
namespace Go.Proofs.YtaapiigfmdhobaaGreat
set_option linter.unusedSimpArgs false
set_option linter.unusedVariables false
open Go.RowKit
theorem Zbu (f:Fct):(ZcI f).length=11/\(ZcI f)[0]?=some (.sl .no (rI f.1))/\((ZcI f).drop 1).take 10=eAg f.2/\(ZcI f).take 11=ZcI f:=⟨rfl,rfl,rfl,rfl⟩
theorem ZjV {l:List Fct} {k:Nat} (h:k<l.length):(rF l)[k]?=some (ZcI l[k]):=by simp[h]
theorem ZkR (f g:Fct) (H:Zaa) (hl:f.1.length<=1000000):Zay Tryz.prog 93 [.agg (ZcI f),.agg (ZcI g)] H (Pure H (.i (cmpL f.1 g.1))):=by
 obtain⟨f0,f1,f2,f3⟩:=Zbu f
 obtain⟨g0,g1,g2,g3⟩:=Zbu g
 have hC:=fun G=>Zkl .no .no f.1 g.1 G hl
 refine Zak hE cf93 (zac rfl) fun Q qr qn=>?_
 ((have hd:=tv;repeat' first|(first|apply Zad|apply Zac|apply Zab)<;>intro hd<;>try simp only[hd]|simp(disch:=first|assumption|omega|simp only[nx]<;>omega|fail)only[hd,qr,qn,c93_0,↓YA,YY,sevalprocAttr,f1,g1])<;>try revert hd;refine ttr ?_)
 (refine Zap.use (hC _) ?_;rintro _ _ ⟨rfl,k1,rfl⟩)
 ((have hd:=tv;repeat' first|(first|apply Zad|apply Zac|apply Zab)<;>intro hd<;>try simp only[hd]|simp(disch:=first|assumption|omega|simp only[nx]<;>omega|fail)only[hd,qr,qn,c93_0,↓YA,YY,sevalprocAttr])<;>try revert hd;refine ttr ?_)
 refine Zaz (by rfl)
def Zdr:List Int->List (List Int)->Int
 | [],_=>0
 | _ :: _,[]=>13
 | k :: ks,s :: ss=>if s.length=0∨k<0∨k≥s.headD 0 then 13 else Zdr ks ss
def Zb8 (x:Shp) (f:Fct):Int:=if f.1.length≠x.sizes.length then 2 else if Zdr f.1 x.sizes≠0 then Zdr f.1 x.sizes else if Zbw x.measures f.2=false then 2 else 0
theorem Zc6 (x:Shp):(Zc3 x).length=2/\(Zc3 x)[0]?=some (.sl .no (rII x.sizes))/\(Zc3 x)[1]?=some (.i x.measures)/\(Zc3 x).take 2=Zc3 x:=⟨rfl,rfl,rfl,rfl⟩
set_option maxHeartbeats 2000000 in
theorem ZhP (x:Shp) (f:Fct) (H:Zaa) (hxl:x.sizes.length<=1000000):Zay Tryz.prog 92 [.agg (Zc3 x),.agg (ZcI f)] H (Pure H (.i (Zb8 x f))):=by
 obtain⟨f0,f1,f2,f3⟩:=Zbu f
 obtain⟨x0,x1,x2,x3⟩:=Zc6 x
 by_cases h1:f.1.length≠x.sizes.length
 ·have hv:Zb8 x f=2:=by rw[Zb8,if_pos h1]
  have d1:((f.1.length:Int) != (x.sizes.length:Int))=true:=by simp;omega
  rw[hv]
  refine Zak hE cf92 (zac rfl) fun Q qr qn=>?_
  ((have hd:=tv;repeat' first|(first|apply Zad|apply Zac|apply Zab)<;>intro hd<;>try simp only[hd]|simp(disch:=first|assumption|omega|simp only[nx]<;>omega|fail)only[hd,qr,qn,ZfU,↓YA,YY,sevalprocAttr,f1,x1,d1,zaa])<;>try revert hd;refine ttr ?_)
  refine Zaz (by rfl)
 have h1':f.1.length=x.sizes.length:=by simpa using h1
 have hl:f.1.length<=1000000:=by omega
 have d1:((f.1.length:Int) != (x.sizes.length:Int))=false:=by simp;omega
 have hv:Zb8 x f=if Zdr f.1 x.sizes≠0 then Zdr f.1 x.sizes else if Zbw x.measures f.2=false then 2 else 0:=by rw[Zb8,if_neg h1]
 rw[hv]
 generalize hT:Zdr f.1 x.sizes=T
 refine Zak hE cf92 (zac rfl) fun Q qr qn=>?_
 ((have hd:=tv;repeat' first|(first|apply Zad|apply Zac|apply Zab)<;>intro hd<;>try simp only[hd]|simp(disch:=first|assumption|omega|simp only[nx]<;>omega|fail)only[hd,qr,qn,ZfU,↓YA,YY,sevalprocAttr,f1,x1,d1,zaa])<;>try revert hd;refine ttr ?_)
 have hx0:Zaa.Ext H ((H.alloc (.cells (Zc3 x) 37)).alloc (.cells (ZcI f) 88)):=by exact AXT
 have g1:((H.alloc (.cells (Zc3 x) 37)).alloc (.cells (ZcI f) 88)).get H.next=some (.cells (Zc3 x) 37):=by
  rw[Zaa.Zag (by simp only[nx];omega)];exact Zaa.Zae (H:=H)
 have g2:((H.alloc (.cells (Zc3 x) 37)).alloc (.cells (ZcI f) 88)).get (H.next+1)=some (.cells (ZcI f) 88):=Zaa.Zae (H:=H.alloc _)
 generalize (H.alloc (.cells (Zc3 x) 37)).alloc (.cells (ZcI f) 88)=G0 at *
 have l1:=Zaa.lt g1
 have l2:=Zaa.lt g2
 refine Zbs [2,3,15,16] (σ:=Unit) (fun(k:Nat) s=>T=Zdr (f.1.drop k) (x.sizes.drop k)) (fun k s=>[]) (fun k s=>[]) () (GStep.refl _ _) (by simp only[ZaA,Zav,Fr.put,Fr.get,↓reduceIte,Nat.reduceEqDiff];rfl) (by intro k s;rfl) (by intro k s;rfl) (by rfl) (by unfold maxLen;omega) ?_ (by simp only[ZaF]) (by simp only[ZaJ]) ?_ ?_
 ·exact hT.symm
 ·(rintro k s G hk ht hG hn;try simp only[nx]at hn)
  have hc1:=(hG.get _ l1).trans g1
  have hc2:=(hG.get _ l2).trans g2
  have lc1:=Zaa.lt hc1
  have lc2:=Zaa.lt hc2
  have hk2:k<x.sizes.length:=by omega
  rw[zan hk,zan hk2,Zdr]at ht
  by_cases c:x.sizes[k].length=0∨f.1[k]<0∨f.1[k]≥x.sizes[k].headD 0
  ·rw[if_pos c]at ht
   cases hs:x.sizes[k]with
   | nil =>
    have e1:(((x.sizes[k].length:Nat):Int) == 0)=true:=by rw[hs];rfl
    ((have hd:=tv;repeat' first|(first|apply Zad|apply Zac|apply Zab)<;>intro hd<;>try simp only[hd]|simp(disch:=first|assumption|omega|simp only[nx]<;>omega|fail)only[hd,qr,qn,ZfU,↓YA,YY,sevalprocAttr,hc1,hc2,x1,f1,hk,hk2,e1,zaa])<;>try revert hd;refine ttr ?_)
    refine Zaz (by rw[ht];rfl)
   | cons z zs =>
    have e1:(((x.sizes[k].length:Nat):Int) == 0)=false:=by rw[hs,beq_eq_false_iff_ne];simp;omega
    have ez:(rI x.sizes[k])[0]?=some [.i z]:=by rw[hs];rfl
    rw[hs]at c
    by_cases c2:f.1[k]<0
    ·have e2:decide (f.1[k]<0)=true:=decide_eq_true c2
     ((have hd:=tv;repeat' first|(first|apply Zad|apply Zac|apply Zab)<;>intro hd<;>try simp only[hd]|simp(disch:=first|assumption|omega|simp only[nx]<;>omega|fail)only[hd,qr,qn,ZfU,↓YA,YY,sevalprocAttr,hc1,hc2,x1,f1,hk,hk2,e1,e2,zaa])<;>try revert hd;refine ttr ?_)
     refine Zaz (by rw[ht];rfl)
    ·have e2:decide (f.1[k]<0)=false:=decide_eq_false c2
     have e3:decide (f.1[k]≥z)=true:=decide_eq_true (by simpa [c2] using c)
     ((have hd:=tv;repeat' first|(first|apply Zad|apply Zac|apply Zab)<;>intro hd<;>try simp only[hd]|simp(disch:=first|assumption|omega|simp only[nx]<;>omega|fail)only[hd,qr,qn,ZfU,↓YA,YY,sevalprocAttr,hc1,hc2,x1,f1,hk,hk2,e1,e2,ez,e3,zaa])<;>try revert hd;refine ttr ?_)
     refine Zaz (by rw[ht];rfl)
  ·rw[if_neg c]at ht
   cases hs:x.sizes[k]with
   | nil=>exact absurd (.inl (by rw[hs];rfl)) c
   | cons z zs =>
    have e1:(((x.sizes[k].length:Nat):Int) == 0)=false:=by rw[hs,beq_eq_false_iff_ne];simp;omega
    have ez:(rI x.sizes[k])[0]?=some [.i z]:=by rw[hs];rfl
    rw[hs]at c
    simp only[List.headD_cons,not_or]at c
    have e2:decide (f.1[k]<0)=false:=decide_eq_false c.2.1
    have e3:decide (f.1[k]≥z)=false:=decide_eq_false c.2.2
    ((have hd:=tv;repeat' first|(first|apply Zad|apply Zac|apply Zab)<;>intro hd<;>try simp only[hd]|simp(disch:=first|assumption|omega|simp only[nx]<;>omega|fail)only[hd,qr,qn,ZfU,↓YA,YY,sevalprocAttr,hc1,hc2,x1,f1,hk,hk2,e1,e2,ez,e3,zaa])<;>try revert hd;refine ttr ?_)
    refine⟨(),by exact ht,by exact HXT⟩
 ·(rintro s G ht hG hn;try simp only[nx]at hn)
  have hc1:=(hG.get _ l1).trans g1
  have hc2:=(hG.get _ l2).trans g2
  rw[zaT]at ht
  have h0:T=0:=by rw[ht];simp[Zdr]
  have hM:=fun G=>Zgm x.measures f.2 G
  have hb:=bfb (Zbw x.measures f.2)
  rcases hb with hb|hb<;>rw[hb]at hM
  ·((have hd:=tv;repeat' first|(first|apply Zad|apply Zac|apply Zab)<;>intro hd<;>try simp only[hd]|simp(disch:=first|assumption|omega|simp only[nx]<;>omega|fail)only[hd,qr,qn,ZfU,↓YA,YY,sevalprocAttr,hc1,hc2,x2,f0,f2])<;>try revert hd;refine ttr ?_)
   (refine Zap.use (hM _) ?_;rintro _ _ ⟨rfl,k1,rfl⟩)
   ((have hd:=tv;repeat' first|(first|apply Zad|apply Zac|apply Zab)<;>intro hd<;>try simp only[hd]|simp(disch:=first|assumption|omega|simp only[nx]<;>omega|fail)only[hd,qr,qn,ZfU,↓YA,YY,sevalprocAttr])<;>try revert hd;refine ttr ?_)
   refine Zaz (by rw[h0,hb];rfl)
  ·((have hd:=tv;repeat' first|(first|apply Zad|apply Zac|apply Zab)<;>intro hd<;>try simp only[hd]|simp(disch:=first|assumption|omega|simp only[nx]<;>omega|fail)only[hd,qr,qn,ZfU,↓YA,YY,sevalprocAttr,hc1,hc2,x2,f0,f2])<;>try revert hd;refine ttr ?_)
   (refine Zap.use (hM _) ?_;rintro _ _ ⟨rfl,k1,rfl⟩)
   ((have hd:=tv;repeat' first|(first|apply Zad|apply Zac|apply Zab)<;>intro hd<;>try simp only[hd]|simp(disch:=first|assumption|omega|simp only[nx]<;>omega|fail)only[hd,qr,qn,ZfU,↓YA,YY,sevalprocAttr])<;>try revert hd;refine ttr ?_)
   refine Zaz (by rw[h0,hb];rfl)
def geF (w:Option Fct) (f:Fct):Bool:=match w with
 | some q=>decide (cmpL q.1 f.1≥0)
 | none=>false
def Zd7 (x:Shp):Option Fct->List Fct->Int
 | _,[]=>0
 | w,f :: r=>if Zb8 x f≠0 then Zb8 x f else if geF w f=true then 4 else Zd7 x (some f) r
theorem Zf5 (x:Shp) (w:Option Fct) (f:Fct) (r:List Fct):Zd7 x w (f :: r)=if Zb8 x f≠0 then Zb8 x f else if geF w f=true then 4 else Zd7 x (some f) r:=by simp only[Zd7]
def Ze2 (l:List Fct) (k:Nat):Option Fct:=match k with
 | 0=>none
 | k+1=>l[k]?
set_option maxHeartbeats 2000000 in
theorem Zde (t:Tok) (x:Shp) (l:List Fct) (H:Zaa) (hl:l.length<=1000000) (hxl:x.sizes.length<=1000000):Zay Tryz.prog 50 [.agg (Zc3 x),.sl t (rF l)] H (Pure H (.i (Zd7 x none l))):=by
 obtain⟨x0,x1,x2,x3⟩:=Zc6 x
 generalize hT:Zd7 x none l=T
 refine Zak hE cf50 (zac rfl) fun Q qr qn=>?_
 ((have hd:=tv;repeat' first|(first|apply Zad|apply Zac|apply Zab)<;>intro hd<;>try simp only[hd]|simp(disch:=first|assumption|omega|simp only[nx]<;>omega|fail)only[hd,qr,qn,ZeB,↓YA,YY,sevalprocAttr,zaa])<;>try revert hd;refine ttr ?_)
 have hx0:Zaa.Ext H (H.alloc (.cells (Zc3 x) 37)):=by exact AXT
 have g1:(H.alloc (.cells (Zc3 x) 37)).get H.next=some (.cells (Zc3 x) 37):=Zaa.Zae (H:=H)
 generalize H.alloc (.cells (Zc3 x) 37)=G0 at *
 have l1:=Zaa.lt g1
 refine Zbs [1,2,8,9] (σ:=Unit) (fun(k:Nat) s=>T=Zd7 x (Ze2 l k) (l.drop k)/\∀f∈l.take k,f.1.length=x.sizes.length) (fun k s=>[]) (fun k s=>[]) () (GStep.refl _ _) (by simp only[ZaA,Zav,Fr.put,Fr.get,↓reduceIte,Nat.reduceEqDiff];rfl) (by intro k s;rfl) (by intro k s;rfl) (by rfl) (by unfold maxLen;omega) ?_ (by simp only[ZaF]) (by simp only[ZaJ]) ?_ ?_
 ·exact⟨hT.symm,by simp⟩
 ·(rintro k s G hk ⟨ht,hpre⟩ hG hn;try simp only[nx]at hn)
  have hc1:=(hG.get _ l1).trans g1
  have lc1:=Zaa.lt hc1
  rw[zan hk,Zf5]at ht
  have hC:=fun G=>ZhP x l[k] G hxl
  have hnx:¬Zb8 x l[k]≠0->∀f∈l.take (k+1),f.1.length=x.sizes.length:=fun h f hf=>by
   rw[zaq hk]at hf
   rcases zaz.1 hf with hf|hf
   ·exact hpre f hf
   ·rw[zas.1 hf]
    have h:=zaW.1 h
    unfold Zb8 at h
    split at h
    ·omega
    ·omega
  obtain⟨f0,f1,f2,f3⟩:=Zbu l[k]
  by_cases c1:Zb8 x l[k]≠0
  ·have d1:(Zb8 x l[k] != 0)=true:=by simpa using c1
   rw[if_pos c1]at ht
   generalize Zb8 x l[k]=E at *
   ((have hd:=tv;repeat' first|(first|apply Zad|apply Zac|apply Zab)<;>intro hd<;>try simp only[hd]|simp(disch:=first|assumption|omega|simp only[nx]<;>omega|fail)only[hd,qr,qn,ZeB,↓YA,YY,sevalprocAttr,hc1,hk,x0,x3,f0,f3,zaa])<;>try revert hd;refine ttr ?_)
   (refine Zap.use (hC _) ?_;rintro _ _ ⟨rfl,k1,rfl⟩)
   ((have hd:=tv;repeat' first|(first|apply Zad|apply Zac|apply Zab)<;>intro hd<;>try simp only[hd]|simp(disch:=first|assumption|omega|simp only[nx]<;>omega|fail)only[hd,qr,qn,ZeB,↓YA,YY,sevalprocAttr,d1])<;>try revert hd;refine ttr ?_)
   refine Zaz (by rw[ht])
  ·have d1:(Zb8 x l[k] != 0)=false:=by simpa using c1
   rw[if_neg c1]at ht
   generalize Zb8 x l[k]=E at *
   cases k with
   | zero =>
    have d2:decide (((0:Nat):Int) > 0)=false:=by decide
    ((have hd:=tv;repeat' first|(first|apply Zad|apply Zac|apply Zab)<;>intro hd<;>try simp only[hd]|simp(disch:=first|assumption|omega|simp only[nx]<;>omega|fail)only[hd,qr,qn,ZeB,↓YA,YY,sevalprocAttr,hc1,hk,x0,x3,f0,f3,zaa])<;>try revert hd;refine ttr ?_)
    (refine Zap.use (hC _) ?_;rintro _ _ ⟨rfl,k1,rfl⟩)
    ((have hd:=tv;repeat' first|(first|apply Zad|apply Zac|apply Zab)<;>intro hd<;>try simp only[hd]|simp(disch:=first|assumption|omega|simp only[nx]<;>omega|fail)only[hd,qr,qn,ZeB,↓YA,YY,sevalprocAttr,d1,d2,hc1,hk,x0,x3,f0,f3,zaa])<;>try revert hd;refine ttr ?_)
    refine⟨(),by exact⟨by rw[ht];simp[Ze2,hk,geF],hnx c1⟩,by exact HXT⟩
   | succ j =>
    have d2:decide (((j+1:Nat):Int) > 0)=true:=decide_eq_true (by omega)
    have hj:j<l.length:=by omega
    have hw:IntKind.i64.wrap (((j+1:Nat):Int) - 1)=(j:Int):=by rw[show((j+1:Nat):Int) - 1=(j:Int) by omega];exact Zaw (by omega) (by omega)
    have hp:Ze2 l (j+1)=some l[j]:=by simp[Ze2,hj]
    have hp2:Ze2 l (j+1+1)=some l[j+1]:=by simp[Ze2,hk]
    obtain⟨j0,j1,j2,j3⟩:=Zbu l[j]
    have hK:=fun G=>ZkR l[j] l[j+1] G (by rw[hpre l[j] (by rw[zbt];exact⟨j,by omega,rfl⟩)];exact hxl)
    rw[hp]at ht
    have hb0:=bfb (geF (some l[j]) l[j+1])
    rcases hb0 with hb0|hb0
    ·rw[if_neg (by rw[hb0];decide)]at ht
     have hb:decide (cmpL l[j].1 l[j+1].1≥0)=false:=hb0
     ((have hd:=tv;repeat' first|(first|apply Zad|apply Zac|apply Zab)<;>intro hd<;>try simp only[hd]|simp(disch:=first|assumption|omega|simp only[nx]<;>omega|fail)only[hd,qr,qn,ZeB,↓YA,YY,sevalprocAttr,hc1,hk,x0,x3,f0,f3,zaa])<;>try revert hd;refine ttr ?_)
     (refine Zap.use (hC _) ?_;rintro _ _ ⟨rfl,k1,rfl⟩)
     ((have hd:=tv;repeat' first|(first|apply Zad|apply Zac|apply Zab)<;>intro hd<;>try simp only[hd]|simp(disch:=first|assumption|omega|simp only[nx]<;>omega|fail)only[hd,qr,qn,ZeB,↓YA,YY,sevalprocAttr,d1,d2,hw,hc1,hk,hj,x0,x3,f0,f3,j0,j3,zaa])<;>try revert hd;refine ttr ?_)
     (refine Zap.use (hK _) ?_;rintro _ _ ⟨rfl,k2,rfl⟩)
     ((have hd:=tv;repeat' first|(first|apply Zad|apply Zac|apply Zab)<;>intro hd<;>try simp only[hd]|simp(disch:=first|assumption|omega|simp only[nx]<;>omega|fail)only[hd,qr,qn,ZeB,↓YA,YY,sevalprocAttr,hb,d1,d2,hw,hc1,hk,hj,x0,x3,f0,f3,j0,j3,zaa])<;>try revert hd;refine ttr ?_)
     refine⟨(),by exact⟨by rw[hp2];exact ht,hnx c1⟩,by exact HXT⟩
    ·rw[if_pos hb0]at ht
     have hb:decide (cmpL l[j].1 l[j+1].1≥0)=true:=hb0
     ((have hd:=tv;repeat' first|(first|apply Zad|apply Zac|apply Zab)<;>intro hd<;>try simp only[hd]|simp(disch:=first|assumption|omega|simp only[nx]<;>omega|fail)only[hd,qr,qn,ZeB,↓YA,YY,sevalprocAttr,hc1,hk,x0,x3,f0,f3,zaa])<;>try revert hd;refine ttr ?_)
     (refine Zap.use (hC _) ?_;rintro _ _ ⟨rfl,k1,rfl⟩)
     ((have hd:=tv;repeat' first|(first|apply Zad|apply Zac|apply Zab)<;>intro hd<;>try simp only[hd]|simp(disch:=first|assumption|omega|simp only[nx]<;>omega|fail)only[hd,qr,qn,ZeB,↓YA,YY,sevalprocAttr,d1,d2,hw,hc1,hk,hj,x0,x3,f0,f3,j0,j3,zaa])<;>try revert hd;refine ttr ?_)
     (refine Zap.use (hK _) ?_;rintro _ _ ⟨rfl,k2,rfl⟩)
     ((have hd:=tv;repeat' first|(first|apply Zad|apply Zac|apply Zab)<;>intro hd<;>try simp only[hd]|simp(disch:=first|assumption|omega|simp only[nx]<;>omega|fail)only[hd,qr,qn,ZeB,↓YA,YY,sevalprocAttr,hb,d1,d2,hw,hc1,hk,hj,x0,x3,f0,f3,j0,j3,zaa])<;>try revert hd;refine ttr ?_)
     refine Zaz (by rw[ht])
 ·(rintro s G ⟨ht,hpre⟩ hG hn;try simp only[nx]at hn)
  rw[zaT]at ht
  ((have hd:=tv;repeat' first|(first|apply Zad|apply Zac|apply Zab)<;>intro hd<;>try simp only[hd]|simp(disch:=first|assumption|omega|simp only[nx]<;>omega|fail)only[hd,qr,qn,ZeB,↓YA,YY,sevalprocAttr])<;>try revert hd;refine ttr ?_)
  refine Zaz (by rw[ht];simp[Zd7])
def Zdj (t:Tr) (i:Int):Int:=if i<0∨i≥(t.up.length:Int) then -1 else t.up.getD i.toNat 0
theorem ZkM (t:Tr) (i:Int) (H:Zaa):Zay Tryz.prog 159 [.agg (eTr t),.i i] H (Pure H (.i (Zdj t i))):=by
 obtain⟨f0,f1,f2,f3,f4⟩:=Zba t
 by_cases h1:i<0
 ·have d1:decide (i<0)=true:=decide_eq_true h1
  have hv:Zdj t i = -1:=by rw[Zdj,if_pos (.inl h1)]
  rw[hv]
  refine Zak hE cf159 (zac rfl) fun Q qr qn=>?_
  ((have hd:=tv;repeat' first|(first|apply Zad|apply Zac|apply Zab)<;>intro hd<;>try simp only[hd]|simp(disch:=first|assumption|omega|simp only[nx]<;>omega|fail)only[hd,qr,qn,Zj3,↓YA,YY,sevalprocAttr,d1])<;>try revert hd;refine ttr ?_)
  refine Zaz (by rfl)
 have d1:decide (i<0)=false:=decide_eq_false h1
 by_cases h2:i≥(t.up.length:Int)
 ·have d2:decide (i≥(t.up.length:Int))=true:=decide_eq_true h2
  have hv:Zdj t i = -1:=by rw[Zdj,if_pos (.inr h2)]
  rw[hv]
  refine Zak hE cf159 (zac rfl) fun Q qr qn=>?_
  ((have hd:=tv;repeat' first|(first|apply Zad|apply Zac|apply Zab)<;>intro hd<;>try simp only[hd]|simp(disch:=first|assumption|omega|simp only[nx]<;>omega|fail)only[hd,qr,qn,Zj3,↓YA,YY,sevalprocAttr,d1,d2,f3,zaa])<;>try revert hd;refine ttr ?_)
  refine Zaz (by rfl)
 have d2:decide (i≥(t.up.length:Int))=false:=decide_eq_false h2
 obtain⟨n,rfl⟩:∃n:Nat,i=n:=⟨i.toNat,by omega⟩
 have hn:n<t.up.length:=by omega
 have hv:Zdj t n=t.up[n]:=by rw[Zdj,if_neg (by omega)];simp[hn]
 rw[hv]
 refine Zak hE cf159 (zac rfl) fun Q qr qn=>?_
 ((have hd:=tv;repeat' first|(first|apply Zad|apply Zac|apply Zab)<;>intro hd<;>try simp only[hd]|simp(disch:=first|assumption|omega|simp only[nx]<;>omega|fail)only[hd,qr,qn,Zj3,↓YA,YY,sevalprocAttr,d1,d2,f3,hn,zaa])<;>try revert hd;refine ttr ?_)
 refine Zaz (by rfl)
theorem Zes (d:Dm) (k:Int) (H:Zaa):Zay Tryz.prog 135 [.agg (eDm d),.i k] H (Pure H (.b (decide (k≥0)&&decide (k<(d.tiers.length:Int))))):=by
 obtain⟨f0,f1,f2,f3⟩:=Za7 d
 have hb:=bfb (decide (k≥0))
 rcases hb with hb|hb<;>rw[hb]
 ·refine Zak hE cf135 (zac rfl) fun Q qr qn=>?_
  ((have hd:=tv;repeat' first|(first|apply Zad|apply Zac|apply Zab)<;>intro hd<;>try simp only[hd]|simp(disch:=first|assumption|omega|simp only[nx]<;>omega|fail)only[hd,qr,qn,ZmX,↓YA,YY,sevalprocAttr,hb])<;>try revert hd;refine ttr ?_)
  refine ZbC (by rfl)
 ·refine Zak hE cf135 (zac rfl) fun Q qr qn=>?_
  ((have hd:=tv;repeat' first|(first|apply Zad|apply Zac|apply Zab)<;>intro hd<;>try simp only[hd]|simp(disch:=first|assumption|omega|simp only[nx]<;>omega|fail)only[hd,qr,qn,ZmX,↓YA,YY,sevalprocAttr,hb,f2,zaa])<;>try revert hd;refine ttr ?_)
  refine ZbC (by rfl)
def ups:List Tr->Int->Int
 | [],i=>i
 | t :: r,i=>if i≥0 then ups r (Zdj t i) else i
def bot (v:Int):Int:=if (-1:Int) > v then -1 else v
def n0 (d:Dm):Nat:=((d.tiers[0]?).map (·.terms.length)).getD 0
def Zdo (d:Dm) (to:Nat) (i:Nat):Int:=bot (ups (d.tiers.take to) i)
set_option maxHeartbeats 2000000 in
theorem Zkn (d:Dm) (to i:Nat) (H:Zaa) (ht:to<d.tiers.length) (hi:i<n0 d) (hl:d.tiers.length<=1000000):Zay Tryz.prog 136 [.agg (eDm d),.i 0,.i (to:Int),.i (i:Int)] H (Pure H (.i (Zdo d to i))):=by
 obtain⟨f0,f1,f2,f3⟩:=Za7 d
 have h0:0<d.tiers.length:=by omega
 have hn:n0 d=d.tiers[0].terms.length:=by simp[n0,h0]
 have hH1:∀G,Zay Tryz.prog 135 [.agg (eDm d),.i 0] G (Pure G (.b true)):=fun G=>by
  have:=Zes d 0 G
  rw[show(decide ((0:Int)≥0)&&decide ((0:Int)<(d.tiers.length:Int)))=true by simp;omega]at this
  exact this
 have hH2:∀G,Zay Tryz.prog 135 [.agg (eDm d),.i (to:Int)] G (Pure G (.b true)):=fun G=>by
  have:=Zes d to G
  rw[show(decide ((to:Int)≥0)&&decide ((to:Int)<(d.tiers.length:Int)))=true by simp;omega]at this
  exact this
 have d1:decide ((0:Int) > (to:Int))=false:=decide_eq_false (by omega)
 have d2:decide ((i:Int)<0)=false:=decide_eq_false (by omega)
 have d3:decide ((i:Int)≥(d.tiers[0].terms.length:Int))=false:=decide_eq_false (by omega)
 obtain⟨q0,q1,q2,q3,q4⟩:=Zba d.tiers[0]
 have hg0:(rT d.tiers)[0]?=some (eTr d.tiers[0]):=Zdh h0
 unfold Zdo
 generalize hT:ups (d.tiers.take to) i=T
 refine Zak hE cf136 (zac rfl) fun Q qr qn=>?_
 ((have hd:=tv;repeat' first|(first|apply Zad|apply Zac|apply Zab)<;>intro hd<;>try simp only[hd]|simp(disch:=first|assumption|omega|simp only[nx]<;>omega|fail)only[hd,qr,qn,ZeV,↓YA,YY,sevalprocAttr,f3,f0,zaa])<;>try revert hd;refine ttr ?_)
 (refine Zap.use (hH1 _) ?_;rintro _ _ ⟨rfl,k1,rfl⟩)
 ((have hd:=tv;repeat' first|(first|apply Zad|apply Zac|apply Zab)<;>intro hd<;>try simp only[hd]|simp(disch:=first|assumption|omega|simp only[nx]<;>omega|fail)only[hd,qr,qn,ZeV,↓YA,YY,sevalprocAttr,f3,f0,zaa])<;>try revert hd;refine ttr ?_)
 (refine Zap.use (hH2 _) ?_;rintro _ _ ⟨rfl,k2,rfl⟩)
 ((have hd:=tv;repeat' first|(first|apply Zad|apply Zac|apply Zab)<;>intro hd<;>try simp only[hd]|simp(disch:=first|assumption|omega|simp only[nx]<;>omega|fail)only[hd,qr,qn,ZeV,↓YA,YY,sevalprocAttr,f3,f0,f2,d1,d2,d3,hg0,q0,q2,h0,zaa])<;>try revert hd;refine ttr ?_)
 have hx0:Zaa.Ext H (((H.alloc (.cells (eDm d) 102)).bump k1).bump k2):=by exact AXT
 have g1:(((H.alloc (.cells (eDm d) 102)).bump k1).bump k2).get H.next=some (.cells (eDm d) 102):=Zaa.Zae (H:=H)
 generalize ((H.alloc (.cells (eDm d) 102)).bump k1).bump k2=G0 at *
 have l1:=Zaa.lt g1
 clear hH1 hH2 d1 d2 d3
 refine Zcw [2,4] (σ:=Nat×Int) (fun s=>s.1<=to/\T=ups ((d.tiers.take to).drop s.1) s.2) (fun s=>to - s.1) (fun s=>[(3,.i s.2),(9,.i (s.1:Int))]) (fun s=>[]) ((0:Nat),(i:Int)) (GStep.refl _ _) (by simp only[ZaA,Zav,Fr.put,Fr.get,↓reduceIte,Nat.reduceEqDiff];rfl) ?_ (by simp only[ZaF,ZaX,Fr.put,Fr.get,↓reduceIte,Nat.reduceEqDiff,and_self]<;>simp) (by simp only[ZaJ]) ?_
 ·exact⟨zaG _,hT.symm⟩
 ·(rintro s G ⟨hs,hT⟩ hG hn1;try simp only[nx]at hn1)
  obtain⟨k,v⟩:=s
  simp only at hs hT hG
  have hc:=(hG.get _ l1).trans g1
  have lc:=Zaa.lt hc
  by_cases c1:k<to
  ·have e1:decide ((k:Int)<(to:Int))=true:=decide_eq_true (by omega)
   have hk:k<(d.tiers.take to).length:=by rw[zbd];omega
   have hk2:k<d.tiers.length:=by omega
   rw[zan hk,ups,List.getElem_take]at hT
   by_cases c2:v≥0
   ·have e2:decide (v≥0)=true:=decide_eq_true c2
    rw[if_pos c2]at hT
    have hO:=fun G=>ZkM d.tiers[k] v G
    obtain⟨p0,p1,p2,p3,p4⟩:=Zba d.tiers[k]
    have hw:IntKind.i64.wrap ((k:Int)+1)=((k+1:Nat):Int):=by rw[show(k:Int)+1=((k+1:Nat):Int) by omega];exact Zaw (by omega) (by omega)
    ((have hd:=tv;repeat' first|(first|apply Zad|apply Zac|apply Zab)<;>intro hd<;>try simp only[hd]|simp(disch:=first|assumption|omega|simp only[nx]<;>omega|fail)only[hd,qr,qn,ZeV,↓YA,YY,sevalprocAttr,e1,e2,hc,f2,hk2,p0,p4,zaa])<;>try revert hd;refine ttr ?_)
    (refine Zap.use (hO _) ?_;rintro _ _ ⟨rfl,k3,rfl⟩)
    ((have hd:=tv;repeat' first|(first|apply Zad|apply Zac|apply Zab)<;>intro hd<;>try simp only[hd]|simp(disch:=first|assumption|omega|simp only[nx]<;>omega|fail)only[hd,qr,qn,ZeV,↓YA,YY,sevalprocAttr,hw])<;>try revert hd;refine ttr ?_)
    exact⟨(k+1,Zdj d.tiers[k] v),⟨by omega,hT⟩,by omega,by simp,by exact HXT⟩
   ·have e2:decide (v≥0)=false:=decide_eq_false c2
    rw[if_neg c2]at hT
    ((have hd:=tv;repeat' first|(first|apply Zad|apply Zac|apply Zab)<;>intro hd<;>try simp only[hd]|simp(disch:=first|assumption|omega|simp only[nx]<;>omega|fail)only[hd,qr,qn,ZeV,↓YA,YY,sevalprocAttr,e1,e2])<;>try revert hd;refine ttr ?_)
    refine Zaz (by rw[hT];rfl)
  ·have e1:decide ((k:Int)<(to:Int))=false:=decide_eq_false (by omega)
   have hd:(d.tiers.take to).drop k=[]:=zbB (by rw[zbd];omega)
   rw[hd,ups]at hT
   ((have hd:=tv;repeat' first|(first|apply Zad|apply Zac|apply Zab)<;>intro hd<;>try simp only[hd]|simp(disch:=first|assumption|omega|simp only[nx]<;>omega|fail)only[hd,qr,qn,ZeV,↓YA,YY,sevalprocAttr,e1])<;>try revert hd;refine ttr ?_)
   refine Zaz (by rw[hT];rfl)
def mapD (d:Dm) (k:Nat):List Int:=(List.range (n0 d)).map fun i=>Zdo d k i
theorem Zgv {n k:Nat} (h:k<n) {α:Type} (f:Nat->α):((List.range n).take (k+1)).map f=((List.range n).take k).map f++[f k]:=by
 rw[zaq (by simpa using h),za9];simp
set_option maxHeartbeats 2000000 in
theorem ZlG (d:Dm) (k:Nat) (H:Zaa) (ht:k<d.tiers.length) (hl:d.tiers.length<=1000000) (hn:n0 d<=1000000):Zay Tryz.prog 96 [.agg (eDm d),.i 0,.i (k:Int)] H (Pure H (.sl .no (rI (mapD d k)))):=by
 obtain⟨f0,f1,f2,f3⟩:=Za7 d
 have h0:0<d.tiers.length:=by omega
 have hn0:n0 d=d.tiers[0].terms.length:=by simp[n0,h0]
 have hH1:∀G,Zay Tryz.prog 135 [.agg (eDm d),.i 0] G (Pure G (.b true)):=fun G=>by
  have:=Zes d 0 G
  rw[show(decide ((0:Int)≥0)&&decide ((0:Int)<(d.tiers.length:Int)))=true by simp;omega]at this
  exact this
 have hH2:∀G,Zay Tryz.prog 135 [.agg (eDm d),.i (k:Int)] G (Pure G (.b true)):=fun G=>by
  have:=Zes d k G
  rw[show(decide ((k:Int)≥0)&&decide ((k:Int)<(d.tiers.length:Int)))=true by simp;omega]at this
  exact this
 have d1:decide ((0:Int) > (k:Int))=false:=decide_eq_false (by omega)
 obtain⟨q0,q1,q2,q3,q4⟩:=Zba d.tiers[0]
 have hg0:(rT d.tiers)[0]?=some (eTr d.tiers[0]):=Zdh h0
 unfold mapD
 refine Zak hE cf96 (zac rfl) fun Q qr qn=>?_
 ((have hd:=tv;repeat' first|(first|apply Zad|apply Zac|apply Zab)<;>intro hd<;>try simp only[hd]|simp(disch:=first|assumption|omega|simp only[nx]<;>omega|fail)only[hd,qr,qn,ZiC,↓YA,YY,sevalprocAttr,f3,f0,zaa])<;>try revert hd;refine ttr ?_)
 (refine Zap.use (hH1 _) ?_;rintro _ _ ⟨rfl,k1,rfl⟩)
 ((have hd:=tv;repeat' first|(first|apply Zad|apply Zac|apply Zab)<;>intro hd<;>try simp only[hd]|simp(disch:=first|assumption|omega|simp only[nx]<;>omega|fail)only[hd,qr,qn,ZiC,↓YA,YY,sevalprocAttr,f3,f0,zaa])<;>try revert hd;refine ttr ?_)
 (refine Zap.use (hH2 _) ?_;rintro _ _ ⟨rfl,k2,rfl⟩)
 ((have hd:=tv;repeat' first|(first|apply Zad|apply Zac|apply Zab)<;>intro hd<;>try simp only[hd]|simp(disch:=first|assumption|omega|simp only[nx]<;>omega|fail)only[hd,qr,qn,ZiC,↓YA,YY,sevalprocAttr,f3,f0,f2,d1,hg0,q0,q2,h0,zaa])<;>try revert hd;refine ttr ?_)
 have hx0:Zaa.Ext H (((H.alloc (.cells (eDm d) 102)).bump k1).bump k2):=by exact AXT
 have g1:(((H.alloc (.cells (eDm d) 102)).bump k1).bump k2).get H.next=some (.cells (eDm d) 102):=Zaa.Zae (H:=H)
 generalize ((H.alloc (.cells (eDm d) 102)).bump k1).bump k2=G0 at *
 have l1:=Zaa.lt g1
 clear hH1 hH2 d1
 rw[← hn0]
 have hL:=fun G i h=>Zkn d k i G ht h hl
 generalize n0 d=N at *
 generalize Zdo d k=L at *
 refine Zbs [1,2,3,30] (σ:=Unit) (fun(k:Nat) s=>True) (fun k s=>[(7,.sl (.own G0.next) (rI (((List.range N).take k).map fun i=>L i)))]) (fun k s=>[(G0.next,.tok k 3 1)]) () (GStep.tok 7 3 1 rfl) (by simp only[ZaA,Zav,Fr.put,Fr.get,↓reduceIte,Nat.reduceEqDiff];rfl) (by intro k s;rfl) (by intro k s;rfl) (by rfl) (by unfold maxLen;omega) ?_ (by simp only[ZaF,ZaX,Fr.put,Fr.get,↓reduceIte,Nat.reduceEqDiff,and_self]<;>simp) ?_ ?_ ?_
 ·trivial
 ·rw[ZaP]
  exact⟨Zaa.Zae (H:=G0),by simp[Zc5]⟩
 ·(rintro j s G hk ht1 hG hn;try simp only[nx]at hn)
  have ho:=hG.o1
  have lo:=Zaa.lt ho
  have hc:=(hG.g _ (by simp only[nx];omega) (by simp;omega)).trans ((Zaa.Zag (by omega)).trans g1)
  have lc:=Zaa.lt hc
  have hC:=fun G=>hL G j hk
  have hsn:rI (((List.range N).take j).map fun i=>L i)++[[.i (L j)]]=rI (((List.range N).take (j+1)).map fun i=>L i):=by rw[Zgv hk];exact ZlN
  have la1:=Zfq (((List.range N).take j).map fun i=>L i)
  have la2:ZaE 1 [[AV.i (L j)]]=true:=rfl
  have lm1:j+1<=maxLen:=by unfold maxLen;omega
  have lm2:(j+1) * 8<=140737488355328:=by omega
  have hrl:(rI (((List.range N).take j).map fun i=>L i)).length=j:=by simp;omega
  ((have hd:=tv;repeat' first|(first|apply Zad|apply Zac|apply Zab)<;>intro hd<;>try simp only[hd]|simp(disch:=first|assumption|omega|simp only[nx]<;>omega|fail)only[hd,qr,qn,ZiC,↓YA,YY,sevalprocAttr,hc,f0,f3])<;>try revert hd;refine ttr ?_)
  (refine Zap.use (hC _) ?_;rintro _ _ ⟨rfl,k3,rfl⟩)
  ((have hd:=tv;repeat' first|(first|apply Zad|apply Zac|apply Zab)<;>intro hd<;>try simp only[hd]|simp(disch:=first|assumption|omega|simp only[nx]<;>omega|fail)only[hd,qr,qn,ZiC,↓YA,YY,sevalprocAttr,ho,la1,la2,lm1,lm2,hrl,ZaL,rowsOf,zaa,List.length_singleton])<;>try revert hd;refine ttr ?_)
  exact⟨(),congrArg (AV.sl _) hsn,hG.bump.put⟩
 ·(rintro s G ht1 hG hn;try simp only[nx]at hn)
  ((have hd:=tv;repeat' first|(first|apply Zad|apply Zac|apply Zab)<;>intro hd<;>try simp only[hd]|simp(disch:=first|assumption|omega|simp only[nx]<;>omega|fail)only[hd,qr,qn,ZiC,↓YA,YY,sevalprocAttr])<;>try revert hd;refine ttr ?_)
  have e:(List.range N).take N=List.range N:=zaL (by simp)
  rw[e]
  exact Zcm rfl (hG.ZdB hx0.alloc (by simp;omega))
abbrev rIII (l:List (List (List Int))):List (List AV):=l.map fun m=>[.sl .no (rII m)]
abbrev rIIt (ts:List (Tok×List (List Int))):List (List AV):=ts.map fun p=>[.sl p.1 (rII p.2)]
theorem ZiQ (l:List (Tok×List (List Int))):ZaE 1 (rIIt l)=true:=ZaU (f:=fun p:Tok×List (List Int)=>[AV.sl p.1 (rII p.2)]) (fun _=>rfl) l
theorem wkn_rIII (t:Tok) (ts:List (Tok×List (List Int))):Wkn (.sl t (rIIt ts)) (.sl .no (rIII (ts.map (·.2)))):=by
 refine .sl _ _ _ (by simp) (fun i r r' h h'=>?_) (fun i r r' j x y h h' hx hy=>?_)
 ·simp only[zaR,zbA]at h h'
  cases hi:ts[i]? with
  | none=>rw[hi]at h;cases h
  | some p=>rw[hi]at h h';simp at h h';subst h h';rfl
 ·simp only[zaR,zbA]at h h'
  cases hi:ts[i]? with
  | none=>rw[hi]at h;cases h
  | some p =>
   rw[hi]at h h'
   simp at h h'
   subst h h'
   cases j with
   | zero=>simp at hx hy;subst hx hy;exact Zfm _ _
   | succ j=>simp at hx
theorem HX.over {a b:Nat} {x y o:Zb3} {H G1 G2:Zaa} (h:HX [(a,x)] H G1) (k:HX [(b,y)] (G1.alloc o) G2) (hb:b=G1.next):HX [(a,x)] H G2:=by
 have la:=Zaa.lt h.o1
 have kn:=k.n
 have hn:=h.n
 simp only[nx]at kn
 refine⟨by omega,?_,fun i hi hne=>?_⟩
 ·rw[ZaP]
  exact⟨(k.g a (by simp only[nx];omega) (by simp;omega)).trans ((Zaa.Zag (by omega)).trans h.o1),by simp[Zc5]⟩
 ·exact(k.g i (by simp only[nx];omega) (by simp;omega)).trans ((Zaa.Zag (by omega)).trans (h.g i hi hne))
def Zct (d:Dm):List (List Int):=(List.range d.tiers.length).map fun k=>mapD d k
def Zan (S:Sc):List (List (List Int)):=S.dims.map Zct
set_option maxHeartbeats 4000000 in
theorem Zjk (S:Sc) (H:Zaa) (hl:S.dims.length<=1000000) (hl2:∀d∈S.dims,d.tiers.length<=1000000/\n0 d<=1000000):Zay Tryz.prog 52 [.agg (eSc S)] H (Pure H (.sl .no (rIII (Zan S)))):=by
 obtain⟨f0,f1,f2,f3⟩:=ZbB S
 refine Zak hE cf52 (zac rfl) fun Q qr qn=>?_
 ((have hd:=tv;repeat' first|(first|apply Zad|apply Zac|apply Zab)<;>intro hd<;>try simp only[hd]|simp(disch:=first|assumption|omega|simp only[nx]<;>omega|fail)only[hd,qr,qn,Zjp,↓YA,YY,sevalprocAttr,f1,zaa])<;>try revert hd;refine ttr ?_)
 have hx0:Zaa.Ext H (H.alloc (.cells (eSc S) 25)):=by exact AXT
 have hn0:(H.alloc (.cells (eSc S) 25)).next=H.next+1:=rfl
 generalize H.alloc (.cells (eSc S) 25)=G0 at *
 refine Zbs [9,10] (σ:=List (Tok×List (List Int))) (fun(k:Nat) s=>s.map (·.2)=(S.dims.take k).map Zct) (fun k s=>[(3,.sl (.own G0.next) (rIIt s))]) (fun k s=>[(G0.next,.tok k 35 1)]) [] (GStep.tok 3 35 1 rfl) (by simp only[ZaA,Zav,Fr.put,Fr.get,↓reduceIte,Nat.reduceEqDiff];rfl) (by intro k s;rfl) (by intro k s;rfl) (by rfl) (by unfold maxLen;omega) ?_ (by simp only[ZaF,ZaX,Fr.put,Fr.get,↓reduceIte,Nat.reduceEqDiff,and_self]<;>simp) ?_ ?_ ?_
 ·simp
 ·rw[ZaP]
  exact⟨Zaa.Zae (H:=G0),by simp[Zc5]⟩
 ·(rintro k ts G hk ht hG hn;try simp only[nx]at hn)
  have ho:=hG.o1
  have lo:=Zaa.lt ho
  obtain⟨q0,q1,q2,q3⟩:=Za7 S.dims[k]
  obtain⟨b1,b2⟩:=hl2 _ (zam hk)
  have hM:=ZlG S.dims[k]
  ((have hd:=tv;repeat' first|(first|apply Zad|apply Zac|apply Zab)<;>intro hd<;>try simp only[hd]|simp(disch:=first|assumption|omega|simp only[nx]<;>omega|fail)only[hd,qr,qn,Zjp,↓YA,YY,sevalprocAttr,hk,q0,q2,q3,zaa])<;>try revert hd;refine ttr ?_)
  have hG1:HX [(G0.next,.tok k 35 1)] (G0.alloc (.tok 0 35 1)) (G.alloc (.cells (eDm S.dims[k]) 102)):=hG.alloc
  have g1:(G.alloc (.cells (eDm S.dims[k]) 102)).get G.next=some (.cells (eDm S.dims[k]) 102):=Zaa.Zae (H:=G)
  have hn1:(G.alloc (.cells (eDm S.dims[k]) 102)).next=G.next+1:=rfl
  generalize G.alloc (.cells (eDm S.dims[k]) 102)=G1 at *
  have l1:=Zaa.lt g1
  have hlen:ts.length=k:=by
   have:=congrArg List.length ht
   simp at this;omega
  generalize hD:S.dims[k]=D at *
  refine Zbs [3,5,9,10,11,17] (σ:=Unit) (fun(k:Nat) s=>True) (fun k s=>[(6,.sl (.own G1.next) (rII (((List.range D.tiers.length).take k).map fun j=>mapD D j)))]) (fun k s=>[(G1.next,.tok k 57 1)]) () (GStep.tok 6 57 1 rfl) (by simp only[ZaA,Zav,Fr.put,Fr.get,↓reduceIte,Nat.reduceEqDiff];rfl) (by intro k s;rfl) (by intro k s;rfl) (by rfl) (by unfold maxLen;omega) ?_ (by simp only[ZaF,ZaX,Fr.put,Fr.get,↓reduceIte,Nat.reduceEqDiff,and_self]<;>simp) ?_ ?_ ?_
  ·trivial
  ·rw[ZaP]
   exact⟨Zaa.Zae (H:=G1),by simp[Zc5]⟩
  ·(rintro j u G2 hj ht1 hG2 hn2;try simp only[nx]at hn2)
   have ho2:=hG2.o1
   have lo2:=Zaa.lt ho2
   have hc:=(hG2.g _ (by simp only[nx];omega) (by simp;omega)).trans ((Zaa.Zag (by omega)).trans g1)
   have lc:=Zaa.lt hc
   have hC:=fun G=>hM j G hj b1 b2
   have hsn:rII (((List.range D.tiers.length).take j).map fun j=>mapD D j)++[[.sl .no (rI (mapD D j))]]=rII (((List.range D.tiers.length).take (j+1)).map fun j=>mapD D j):=by rw[Zgv hj];simp
   have la1:=ZdQ (((List.range D.tiers.length).take j).map fun j=>mapD D j)
   have la2:ZaE 1 [[AV.sl .no (rI (mapD D j))]]=true:=rfl
   have lm1:j+1<=maxLen:=by unfold maxLen;omega
   have lm2:(j+1) * 24<=140737488355328:=by omega
   have hrl:(rII (((List.range D.tiers.length).take j).map fun j=>mapD D j)).length=j:=by simp;omega
   ((have hd:=tv;repeat' first|(first|apply Zad|apply Zac|apply Zab)<;>intro hd<;>try simp only[hd]|simp(disch:=first|assumption|omega|simp only[nx]<;>omega|fail)only[hd,qr,qn,Zjp,↓YA,YY,sevalprocAttr,hc,q0,q3])<;>try revert hd;refine ttr ?_)
   (refine Zap.use (hC _) ?_;rintro _ _ ⟨rfl,k3,rfl⟩)
   ((have hd:=tv;repeat' first|(first|apply Zad|apply Zac|apply Zab)<;>intro hd<;>try simp only[hd]|simp(disch:=first|assumption|omega|simp only[nx]<;>omega|fail)only[hd,qr,qn,Zjp,↓YA,YY,sevalprocAttr,ho2,la1,la2,lm1,lm2,hrl,ZaL,rowsOf,zaa,List.length_singleton])<;>try revert hd;refine ttr ?_)
   exact⟨(),congrArg (AV.sl _) hsn,hG2.bump.put⟩
  ·(rintro u G2 ht1 hG2 hn2;try simp only[nx]at hn2)
   have e:(List.range D.tiers.length).take D.tiers.length=List.range D.tiers.length:=zaL (by simp)
   have ho1:G2.get G0.next=some (.tok k 35 1):=(hG2.g _ (by simp only[nx];omega) (by simp;omega)).trans ((Zaa.Zag (by omega)).trans hG1.o1)
   have lo1:=Zaa.lt ho1
   have la1:=ZiQ ts
   have la2:ZaE 1 [[AV.sl (.own G1.next) (rII (Zct D))]]=true:=rfl
   have lm1:k+1<=maxLen:=by unfold maxLen;omega
   have lm2:(k+1) * 24<=140737488355328:=by omega
   have hrl:(rIIt ts).length=k:=by simp;omega
   have hv:rII ((List.range D.tiers.length).map fun j=>mapD D j)=rII (Zct D):=rfl
   rw[e,hv]
   ((have hd:=tv;repeat' first|(first|apply Zad|apply Zac|apply Zab)<;>intro hd<;>try simp only[hd]|simp(disch:=first|assumption|omega|simp only[nx]<;>omega|fail)only[hd,qr,qn,Zjp,↓YA,YY,sevalprocAttr,ho1,la1,la2,lm1,lm2,hrl,ZaL,rowsOf,zaa,List.length_singleton])<;>try revert hd;refine ttr ?_)
   refine⟨ts++[(.own G1.next,Zct D)],by rw[ZcR hk,za9,ht,hD];rfl,by simp,?_⟩
   exact(hG1.over hG2 rfl).put
 ·(rintro ts G ht hG hn;try simp only[nx]at hn)
  ((have hd:=tv;repeat' first|(first|apply Zad|apply Zac|apply Zab)<;>intro hd<;>try simp only[hd]|simp(disch:=first|assumption|omega|simp only[nx]<;>omega|fail)only[hd,qr,qn,Zjp,↓YA,YY,sevalprocAttr])<;>try revert hd;refine ttr ?_)
  have e:rIII (Zan S)=rIII (ts.map (·.2)):=by rw[ht,zaN];rfl
  rw[e]
  exact Zc1 (wkn_rIII _ ts) (hG.ZdB hx0.alloc (by simp;omega))
def e8 (b:UInt8):AV:=.sc (.int .u8 (b.toNat:Int))
abbrev r8 (l:List UInt8):List (List AV):=l.map fun b=>[e8 b]
theorem Zlp (l:List UInt8):ZaE 1 (r8 l)=true:=ZaU (f:=fun b:UInt8=>[e8 b]) (fun _=>rfl) l
theorem Zgp:∀l:List UInt8,Zef (r8 l)=some (l.map fun b=>(b.toNat:Int))
 | []=>rfl
 | b :: l=>by
  rw[r8,zao,Zef,show List.map (fun b=>[e8 b]) l=r8 l from rfl,Zgp l]
  rfl
theorem ZgO:∀(l:List UInt8) (a:Array UInt8),(l.map fun b=>(b.toNat:Int)).foldl (fun(r:ByteArray) n=>r.push (UInt8.ofNat n.toNat)) ⟨a⟩=⟨a++l.toArray⟩
 | [],a=>by simp
 | b :: l,a=>by
  rw[zao,List.foldl_cons,show(ByteArray.push ⟨a⟩ (UInt8.ofNat ((b.toNat:Int)).toNat))=⟨a.push b⟩ by simp[ByteArray.push],ZgO l]
  simp
theorem Zma (l:List UInt8):strOf (l.map fun b=>(b.toNat:Int))=⟨l.toArray⟩:=by
 have h:=ZgO l #[]
 rw[strOf];refine Eq.trans ?_ (h.trans (by simp));rfl
theorem wrap_u8 (m:Nat):IntKind.u8.wrap (m:Int)=((UInt8.ofNat (m % 256)).toNat:Int):=by
 rw[UInt8.toNat_ofNat',Nat.mod_eq_of_lt (Nat.mod_lt _ (by omega))]
 simp[IntKind.wrap,IntKind.bits,IntKind.signed]
def b2 (i:Nat):List UInt8:=[UInt8.ofNat (i / 256 % 256),UInt8.ofNat (i % 256)]
def nmP (at_:Nat) (part:List Nat):List UInt8:=UInt8.ofNat (at_ % 256) :: part.flatMap b2
abbrev rP (part:List Nat):List (List AV):=part.map fun i:Nat=>[AV.i (i:Int)]
theorem nmP_snoc {a:Nat} {l:List Nat} {k:Nat} (h:k<l.length):nmP a (l.take (k+1))=nmP a (l.take k)++b2 l[k]:=by
 rw[nmP,nmP,zaq h,List.flatMap_append];simp
theorem nmP_len {a:Nat} {l:List Nat}:(nmP a l).length=2 * l.length+1:=by
 rw[nmP,List.length_cons]
 congr 1
 induction l with
 | nil=>rfl
 | cons x r ih=>rw[zbz,zak,ih,List.length_cons];simp[b2];omega
set_option maxHeartbeats 2000000 in
theorem Zjy (a:Nat) (t:Tok) (l:List Nat) (H:Zaa) (ha:a<256) (hl:l.length<=1000000) (hi:∀i∈l,i<65536):Zay Tryz.prog 97 [.i (a:Int),.sl t (rP l)] H (Pure H (eS (nmP a l))):=by
 have w1:IntKind.i64.wrap (2 * (l.length:Int))=((2 * l.length:Nat):Int):=by rw[show(2:Int) * (l.length:Int)=((2 * l.length:Nat):Int) by omega];exact Zaw (by omega) (by omega)
 have w2:IntKind.i64.wrap (((2 * l.length:Nat):Int)+1)=((2 * l.length+1:Nat):Int):=by rw[show((2 * l.length:Nat):Int)+1=((2 * l.length+1:Nat):Int) by omega];exact Zaw (by omega) (by omega)
 have c1:(0:Int)<=((2 * l.length+1:Nat):Int):=by omega
 have c2:2 * l.length+1<=maxLen:=by unfold maxLen;omega
 have c3:2 * l.length+1<=140737488355328:=by omega
 have c4:¬((2 * l.length+1:Nat):Int)=0:=by omega
 have c5:¬(0:Int)=((2 * l.length+1:Nat):Int):=by omega
 have w3:=wrap_u8 a
 have la1:ZaE 1 ([]:List (List AV))=true:=rfl
 have la2:ZaE 1 [[AV.sc (.int .u8 ((UInt8.ofNat (a % 256)).toNat:Int))]]=true:=rfl
 have lm:1<=maxLen:=by unfold maxLen;omega
 refine Zak hE cf97 (zac rfl) fun Q qr qn=>?_
 ((have hd:=tv;repeat' first|(first|apply Zad|apply Zac|apply Zab)<;>intro hd<;>try simp only[hd]|simp(disch:=first|assumption|omega|simp only[nx]<;>omega|fail)only[hd,qr,qn,c97_0,↓YA,YY,sevalprocAttr,zaa,w1,w2,c1,c2,c3,c4,c5,w3,la1,la2,lm,ZaL,rowsOf])<;>try revert hd;refine ttr ?_)
 have e0:[[AV.sc (.int .u8 ((UInt8.ofNat (a % 256)).toNat:Int))]]=r8 (nmP a (l.take 0)):=rfl
 rw[e0]
 clear e0 w1 w2 c1 c2 c3 c4 c5 w3 la1 la2 lm
 refine Zbs [18,19] (σ:=Unit) (fun(k:Nat) s=>True) (fun k s=>[(5,.sl (.own H.next) (r8 (nmP a (l.take k))))]) (fun k s=>[(H.next,.tok (2 * k+1) 5 1)]) () (GStep.refl _ _) (by simp only[ZaA,Zav,Fr.put,Fr.get,↓reduceIte,Nat.reduceEqDiff];rfl) (by intro k s;rfl) (by intro k s;rfl) (by rfl) (by unfold maxLen;omega) ?_ (by simp only[ZaF,ZaX,Fr.put,Fr.get,↓reduceIte,Nat.reduceEqDiff,and_self]<;>simp) ?_ ?_ ?_
 ·trivial
 ·rw[ZaP]
  exact⟨Zaa.Zae (H:=H),by simp[Zc5]⟩
 ·(rintro k s G hk ht hG hn;try simp only[nx]at hn)
  have ho:=hG.o1
  have lo:=Zaa.lt ho
  have h6:=hi _ (zam hk)
  generalize hlk:l[k]=n at *
  have w1:IntKind.u8.wrap ((n:Int).fdiv 256)=((UInt8.ofNat (n / 256 % 256)).toNat:Int):=by
   rw[show(n:Int).fdiv 256=((n / 256:Nat):Int)from by rw[Int.fdiv_eq_ediv_of_nonneg _ (by omega)];rfl]
   exact wrap_u8 _
  have w0:(2:Int) ^ min 8 IntKind.i64.bits=256:=by decide
  have w2:=wrap_u8 n
  have hsn:r8 (nmP a (l.take k))++[[AV.sc (.int .u8 ((UInt8.ofNat (n / 256 % 256)).toNat:Int))],[.sc (.int .u8 ((UInt8.ofNat (n % 256)).toNat:Int))]]=r8 (nmP a (l.take (k+1))):=by rw[nmP_snoc hk,hlk];simp[b2,e8]
  have la1:=Zlp (nmP a (l.take k))
  have la2:ZaE 1 [[AV.sc (.int .u8 ((UInt8.ofNat (n / 256 % 256)).toNat:Int))],[.sc (.int .u8 ((UInt8.ofNat (n % 256)).toNat:Int))]]=true:=rfl
  have lm1:2 * k+1+2<=maxLen:=by unfold maxLen;omega
  have lm2:2 * k+1+2<=140737488355328:=by omega
  have hrl:(r8 (nmP a (l.take k))).length=2 * k+1:=by rw[zaa,nmP_len,zbd];omega
  ((have hd:=tv;repeat' first|(first|apply Zad|apply Zac|apply Zab)<;>intro hd<;>try simp only[hd]|simp(disch:=first|assumption|omega|simp only[nx]<;>omega|fail)only[hd,qr,qn,c97_0,↓YA,YY,sevalprocAttr,hlk,hk,ho,w0,w1,w2,la1,la2,lm1,lm2,hrl,ZaL,rowsOf,zaa])<;>try revert hd;refine ttr ?_)
  exact⟨(),congrArg (AV.sl _) hsn,by rw[show 2 * (k+1)+1=2 * k+1+2 by omega];exact hG.put⟩
 ·(rintro s G ht hG hn;try simp only[nx]at hn)
  have ho:=hG.o1
  have hb:=Zgp (nmP a l)
  have hs:=Zma (nmP a l)
  ((have hd:=tv;repeat' first|(first|apply Zad|apply Zac|apply Zab)<;>intro hd<;>try simp only[hd]|simp(disch:=first|assumption|omega|simp only[nx]<;>omega|fail)only[hd,qr,qn,c97_0,↓YA,YY,sevalprocAttr,zaN,ZaL,hb,hs])<;>try revert hd;refine ttr ?_)
  exact Zcm rfl (hG.ZdB (Zaa.Ext.refl H).alloc (by simp))
end Go.Proofs.YtaapiigfmdhobaaGreat
