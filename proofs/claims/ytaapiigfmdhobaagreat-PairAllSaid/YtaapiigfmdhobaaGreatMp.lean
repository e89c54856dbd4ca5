/- Texts of the walk, joined: Hc Hd Na Ne Ob. -/
import Derived.Test.YtaapiigfmdhobaaGreatMo
import Derived.Test.YtaapiigfmdhobaaGreatMj
namespace Go.Proofs.YtaapiigfmdhobaaGreat
set_option linter.unusedSimpArgs false
set_option linter.unusedVariables false
open Go.RowKit
def newE (x:Shp) (most:Int):Int:=if ZbS x=true/\0<=most/\most<=131072 then 0 else 2
def Zfa (S:Sc) (most:Int) (facts:List Fct):BSt:=(ZcV (Za3 S) (Zan S) facts most (Zan S).length ⟨[],[],0⟩ (List.range facts.length)).1
def Zet (S:Sc) (most:Int) (facts:List Fct):Int :=
 if scE S≠0 then scE S else if Zd7 (Za3 S) none facts≠0 then Zd7 (Za3 S) none facts else if (facts.length:Int) > 4000 then 6 else if newE (Za3 S) most≠0 then 2 else if facts=[] then 0 else (Zfa S most facts).e
def Ze6 (S:Sc) (most:Int) (facts:List Fct):List Nod:=if facts=[] then [] else (Zfa S most facts).N
def ZdZ (S:Sc) (most:Int) (facts:List Fct) (H:Zaa) (r:AV) (H':Zaa):Prop :=
 Zaa.Ext H H'/\((Zet S most facts≠0/\r=.tup [.sc (.pointer none),.i (Zet S most facts)])∨(Zet S most facts=0/\∃id,r=.tup [.ptr id 0,.i 0]/\ArA H' id (Za3 S) (Ze6 S most facts)))
theorem Zgl:∀{l:List Dm} {seen:List Tx},Zd1 seen l=0->∀d∈l,Zdv d=0
 | [],_,_,d,h=>by cases h
 | c :: r,seen,h,d,hd=>by
  unfold Zd1 at h
  split at h
  ·rename_i h1;exact absurd h h1
  ·rename_i h1
   split at h
   ·omega
   ·rcases zal.1 hd with rfl|hd
    ·exact zaW.1 h1
    ·exact Zgl h d hd
theorem Zb7 {S:Sc} (h:scE S=0):1<=S.dims.length/\S.dims.length<=16/\(∀d∈S.dims,Zdv d=0)/\Zd8 S.meas=0:=by
 unfold scE at h
 split at h
 ·omega
 ·rename_i h1
  split at h
  ·rename_i h2;exact absurd h h2
  ·rename_i h2
   exact⟨by omega,by omega,Zgl (zaW.1 h2),h⟩
theorem Zh7:∀{l:List Tr} {seen:List Tx},Zkb seen l=0->∀k (h:k<l.length),ZbO l[k] (ZbR (l.drop (k+1)))=0
 | [],_,_,k,h=>by simp at h
 | t :: r,seen,h,k,hk=>by
  unfold Zkb at h
  split at h
  ·rename_i h1;exact absurd h h1
  ·rename_i h1
   split at h
   ·omega
   ·cases k with
    | zero=>simpa using zaW.1 h1
    | succ k=>simpa using Zh7 h k (by simpa using hk)
theorem Zce {d:Dm} (h:Zdv d=0):1<=d.tiers.length/\d.tiers.length<=4/\∀k (h:k<d.tiers.length),ZbO d.tiers[k] (ZbR (d.tiers.drop (k+1)))=0:=by
 unfold Zdv at h
 split at h
 ·omega
 ·split at h
  ·omega
  ·exact⟨by omega,by omega,Zh7 h⟩
theorem Zcd {t:Tr} {a:Int} (h:ZbO t a=0):1<=t.terms.length/\t.terms.length<=200/\ZdD t.up t.terms.length a=true:=by
 unfold ZbO at h
 split at h
 ·omega
 ·split at h
  ·omega
  ·rename_i h2
   split at h
   ·rename_i h1;exact absurd h h1
   ·split at h
    ·omega
    ·rename_i h3
     exact⟨by omega,by omega,by simpa using h3⟩
theorem Zlg {S:Sc} (h:scE S=0):∀d∈S.dims,d.tiers.length<=1000000/\n0 d<=1000000:=fun d hd=>by
 obtain⟨h1,h2,h3⟩:=Zce ((Zb7 h).2.2.1 d hd)
 refine⟨by omega,?_⟩
 have:=Zcd (h3 0 (by omega))
 unfold n0
 rw[zab (by omega)]
 simp only[Option.map_some,Option.getD_some]
 omega
set_option maxHeartbeats 4000000 in
theorem ZfY (t:Tok) (S:Sc) (most:Int) (facts:List Fct) (H:Zaa) (hS:Zh1 S) (hl:facts.length<=1000000) (hF:scE S=0->Zd7 (Za3 S) none facts=0->facts.length<=4000->ZbS (Za3 S)=true->ZbI (Za3 S) (Zan S) facts) :
  Zay Tryz.prog 12 [.agg (eSc S),.i most,.sl t (rF facts)] H (ZdZ S most facts H):=by
 obtain⟨f0,f1,f2,f3⟩:=ZbB S
 obtain⟨x0,x1,x2,x3⟩:=Zc6 (Za3 S)
 have xd:(Zc3 (Za3 S)).drop 2=[]:=rfl
 by_cases h1:scE S=0
 ·obtain⟨b1,b2,b3,b4⟩:=Zb7 h1
  have hxl:(Za3 S).sizes.length<=1000000:=by unfold Za3;simp;omega
  have hT:=Zlg h1
  have hshp:∀G,Zay Tryz.prog 49 [.agg (eSc S)] G (Pure G (.agg (Zc3 (Za3 S)))):=fun G=>ZiK S G (by omega) (fun d hd=>(hT d hd).1)
  by_cases h2:Zd7 (Za3 S) none facts=0
  ·by_cases h3:(facts.length:Int) > 4000
   ·have hv:Zet S most facts=6:=by unfold Zet;rw[if_neg (by simp[h1]),if_neg (by simp[h2]),if_pos h3]
    have d3:decide ((facts.length:Int) > 4000)=true:=decide_eq_true h3
    unfold ZdZ
    rw[hv]
    refine Zak hE cf12 (zac rfl) fun Q qr qn=>?_
    ((have hd:=tv;repeat' first|(first|apply Zad|apply Zac|apply Zab)<;>intro hd<;>try simp only[hd]|simp(disch:=first|assumption|omega|simp only[nx]<;>omega|fail)only[hd,qr,qn,Zca,↓YA,YY,sevalprocAttr,f0,f3])<;>try revert hd;refine ttr ?_)
    (refine Zap.use (Zc9 S _ hS) ?_;rintro _ _ ⟨rfl,k1,rfl⟩)
    ((have hd:=tv;repeat' first|(first|apply Zad|apply Zac|apply Zab)<;>intro hd<;>try simp only[hd]|simp(disch:=first|assumption|omega|simp only[nx]<;>omega|fail)only[hd,qr,qn,Zca,↓YA,YY,sevalprocAttr,f0,f3,h1])<;>try revert hd;refine ttr ?_)
    (refine Zap.use (hshp _) ?_;rintro _ _ ⟨rfl,k2,rfl⟩)
    ((have hd:=tv;repeat' first|(first|apply Zad|apply Zac|apply Zab)<;>intro hd<;>try simp only[hd]|simp(disch:=first|assumption|omega|simp only[nx]<;>omega|fail)only[hd,qr,qn,Zca,↓YA,YY,sevalprocAttr,x0,x3,xd,zaw])<;>try revert hd;refine ttr ?_)
    (refine Zap.use (Zde t (Za3 S) facts _ hl hxl) ?_;rintro _ _ ⟨rfl,k3,rfl⟩)
    ((have hd:=tv;repeat' first|(first|apply Zad|apply Zac|apply Zab)<;>intro hd<;>try simp only[hd]|simp(disch:=first|assumption|omega|simp only[nx]<;>omega|fail)only[hd,qr,qn,Zca,↓YA,YY,sevalprocAttr,h2,d3,zaa])<;>try revert hd;refine ttr ?_)
    exact Zaq ⟨by exact AXT,by first|exact .inl ⟨by decide,rfl⟩|exact .inl rfl⟩
   ·have d3:decide ((facts.length:Int) > 4000)=false:=decide_eq_false h3
    have hH:∀k1 k2 k3,Zaa.Ext H ((((((H.alloc (.cells (eSc S) 25)).bump k1).bump k2).alloc (.cells (Zc3 (Za3 S)) 37)).bump k3)):=fun k1 k2 k3=>by exact AXT
    by_cases h4:ZbS (Za3 S)=true/\0<=most/\most<=131072
    ·have hn:newE (Za3 S) most=0:=if_pos h4
     by_cases h5:facts=[]
     ·have hv:Zet S most facts=0:=by unfold Zet;rw[if_neg (by simp[h1]),if_neg (by simp[h2]),if_neg h3,if_neg (by simp[hn]),if_pos h5]
      have hw:Ze6 S most facts=[]:=by unfold Ze6;rw[if_pos h5]
      have d5:((facts.length:Int) == 0)=true:=by rw[h5];rfl
      unfold ZdZ
      rw[hv,hw]
      refine Zak hE cf12 (zac rfl) fun Q qr qn=>?_
      ((have hd:=tv;repeat' first|(first|apply Zad|apply Zac|apply Zab)<;>intro hd<;>try simp only[hd]|simp(disch:=first|assumption|omega|simp only[nx]<;>omega|fail)only[hd,qr,qn,Zca,↓YA,YY,sevalprocAttr,f0,f3])<;>try revert hd;refine ttr ?_)
      (refine Zap.use (Zc9 S _ hS) ?_;rintro _ _ ⟨rfl,k1,rfl⟩)
      ((have hd:=tv;repeat' first|(first|apply Zad|apply Zac|apply Zab)<;>intro hd<;>try simp only[hd]|simp(disch:=first|assumption|omega|simp only[nx]<;>omega|fail)only[hd,qr,qn,Zca,↓YA,YY,sevalprocAttr,f0,f3,h1])<;>try revert hd;refine ttr ?_)
      (refine Zap.use (hshp _) ?_;rintro _ _ ⟨rfl,k2,rfl⟩)
      ((have hd:=tv;repeat' first|(first|apply Zad|apply Zac|apply Zab)<;>intro hd<;>try simp only[hd]|simp(disch:=first|assumption|omega|simp only[nx]<;>omega|fail)only[hd,qr,qn,Zca,↓YA,YY,sevalprocAttr,x0,x3,xd,zaw])<;>try revert hd;refine ttr ?_)
      (refine Zap.use (Zde t (Za3 S) facts _ hl hxl) ?_;rintro _ _ ⟨rfl,k3,rfl⟩)
      ((have hd:=tv;repeat' first|(first|apply Zad|apply Zac|apply Zab)<;>intro hd<;>try simp only[hd]|simp(disch:=first|assumption|omega|simp only[nx]<;>omega|fail)only[hd,qr,qn,Zca,↓YA,YY,sevalprocAttr,h2,d3,x0,x3,zaa])<;>try revert hd;refine ttr ?_)
      refine Zap.use (Zfe (Za3 S) most _) ?_
      rintro r G ⟨hx,hr⟩
      rw[if_pos h4]at hr
      obtain⟨oid,tok,rfl,ho1,ho2⟩:=hr
      ((have hd:=tv;repeat' first|(first|apply Zad|apply Zac|apply Zab)<;>intro hd<;>try simp only[hd]|simp(disch:=first|assumption|omega|simp only[nx]<;>omega|fail)only[hd,qr,qn,Zca,↓YA,YY,sevalprocAttr,d5,zaa])<;>try revert hd;refine ttr ?_)
      exact Zaq ⟨(hH k1 k2 k3).trans hx,.inr ⟨oid,rfl,tok,.full,most,ho2⟩⟩
     ·have d5:((facts.length:Int) == 0)=false:=by
       have:facts.length≠0:=fun h=>h5 (zaM h)
       simp only[beq_eq_false_iff_ne];omega
      have hv:Zet S most facts=(Zfa S most facts).e:=by unfold Zet;rw[if_neg (by simp[h1]),if_neg (by simp[h2]),if_neg h3,if_neg (by simp[hn]),if_neg h5]
      have hw:Ze6 S most facts=(Zfa S most facts).N:=by unfold Ze6;rw[if_neg h5]
      have hok:=hF h1 h2 (by omega) h4.1
      unfold ZdZ
      rw[hv,hw]
      have hlf:∀G,Zay Tryz.prog 52 [.agg (eSc S)] G (Pure G (.sl .no (rIII (Zan S)))):=fun G=>Zjk S G (by omega) hT
      have hbn:Zfa S most facts=(ZcV (Za3 S) (Zan S) facts most (Zan S).length ⟨[],[],0⟩ (List.range facts.length)).1:=rfl
      have hLl:(Zan S).length=S.dims.length:=by unfold Zan;rw[zaa]
      generalize Zan S=L at *
      have hnode:∀mg oid tk mid tok tf tl,NodK mg oid tk mid (Za3 S) tok tf tl L facts most (ZcV (Za3 S) L facts most L.length) 0:=fun mg oid tk mid tok tf tl=>by
       have:=ZfW (mg:=mg) (oid:=oid) (tk:=tk) (mid:=mid) (tok:=tok) (tf:=tf) (tl:=tl) (most:=most) hok h4.1 (L.length - 1) (by omega)
       rw[show L.length - 1+1=L.length by omega,Nat.sub_self]at this
       exact this
      have hpo:Zbz facts (List.range facts.length):=⟨by simp;exact h5,by simp,fun i hi=>by simpa using hi⟩
      refine Zak hE cf12 (zac rfl) fun Q qr qn=>?_
      ((have hd:=tv;repeat' first|(first|apply Zad|apply Zac|apply Zab)<;>intro hd<;>try simp only[hd]|simp(disch:=first|assumption|omega|simp only[nx]<;>omega|fail)only[hd,qr,qn,Zca,↓YA,YY,sevalprocAttr,f0,f3])<;>try revert hd;refine ttr ?_)
      (refine Zap.use (Zc9 S _ hS) ?_;rintro _ _ ⟨rfl,k1,rfl⟩)
      ((have hd:=tv;repeat' first|(first|apply Zad|apply Zac|apply Zab)<;>intro hd<;>try simp only[hd]|simp(disch:=first|assumption|omega|simp only[nx]<;>omega|fail)only[hd,qr,qn,Zca,↓YA,YY,sevalprocAttr,f0,f3,h1])<;>try revert hd;refine ttr ?_)
      (refine Zap.use (hshp _) ?_;rintro _ _ ⟨rfl,k2,rfl⟩)
      ((have hd:=tv;repeat' first|(first|apply Zad|apply Zac|apply Zab)<;>intro hd<;>try simp only[hd]|simp(disch:=first|assumption|omega|simp only[nx]<;>omega|fail)only[hd,qr,qn,Zca,↓YA,YY,sevalprocAttr,x0,x3,xd,zaw])<;>try revert hd;refine ttr ?_)
      (refine Zap.use (Zde t (Za3 S) facts _ hl hxl) ?_;rintro _ _ ⟨rfl,k3,rfl⟩)
      ((have hd:=tv;repeat' first|(first|apply Zad|apply Zac|apply Zab)<;>intro hd<;>try simp only[hd]|simp(disch:=first|assumption|omega|simp only[nx]<;>omega|fail)only[hd,qr,qn,Zca,↓YA,YY,sevalprocAttr,h2,d3,x0,x3,zaa])<;>try revert hd;refine ttr ?_)
      refine Zap.use (Zfe (Za3 S) most _) ?_
      rintro r G ⟨hx,hr⟩
      rw[if_pos h4]at hr
      obtain⟨oid,tok,rfl,ho1,ho2⟩:=hr
      have hs3:G.get H.next=some (.cells (eSc S) 25):=hx.get _ _ (by
       rw[Zaa.ZaB,Zaa.Zag (by simp only[nx];omega),Zaa.ZaB,Zaa.ZaB]
       exact Zaa.Zae)
      ((have hd:=tv;repeat' first|(first|apply Zad|apply Zac|apply Zab)<;>intro hd<;>try simp only[hd]|simp(disch:=first|assumption|omega|simp only[nx]<;>omega|fail)only[hd,qr,qn,Zca,↓YA,YY,sevalprocAttr,d5,hs3,f0,f3,zaa])<;>try revert hd;refine ttr ?_)
      (refine Zap.use (hlf _) ?_;rintro _ _ ⟨rfl,k4,rfl⟩)
      ((have hd:=tv;repeat' first|(first|apply Zad|apply Zac|apply Zab)<;>intro hd<;>try simp only[hd]|simp(disch:=first|assumption|omega|simp only[nx]<;>omega|fail)only[hd,qr,qn,Zca,↓YA,YY,sevalprocAttr,d5,hs3,f0,f3,zaa])<;>try revert hd;refine ttr ?_)
      have hgo:=Zaa.lt ho2
      have hHG:=((hH k1 k2 k3).trans hx).next
      refine ZbJ (N:=facts.length) (fun k F S2=>Fr.get F 54=.i (k:Int)/\Fr.get F 53=.i (facts.length:Int)/\Fr.get F 11=.ptr oid 0/\Fr.get F 13=.ptr (G.next+k4+1) 0/\Fr.get F 14=.sl (.own (G.next+k4+1+1+1)) (rP (List.range k)) /\
       Bld (G.next+k4+1) oid (G.next+k4+1+1) (G.next+k4) (Za3 S) tok t .no L facts most ⟨[],[],0⟩ S2/\S2.get (G.next+k4+1+1+1)=some (.tok k 3 1)/\Zaa.Ext H S2) (by unfold maxLen;omega) (fun k F G h=>⟨h.1,h.2.1⟩)
       (((GStep.ZdO oid 2 117 115 14 (cs:=eAr (Za3 S) tok (.sl .full []) most) (by rw[Zaa.Zag (by simp only[nx];omega),Zaa.Zag (by simp only[nx];omega),Zaa.ZaB];exact ho2) rfl).trans (GStep.tok 14 3 1 rfl)).trans (GStep.fr (F':=[(54,.i ((0:Nat):Int)),(53,.i (facts.length:Int)),(11,.ptr oid 0),(13,.ptr (G.next+k4+1) 0),(14,.sl (.own (G.next+k4+1+1+1)) [])]) (by simp[Fr.get,Fr.put,nx]))) ?_ ?_ ?_
      ·refine⟨rfl,rfl,rfl,rfl,rfl,⟨?_,⟨by omega,?_,?_⟩,?_,?_,h4.2.2⟩,Zaa.Zae,?_⟩
       ·rw[Zaa.Zag (by simp only[nx];omega),Zaa.Zag (by simp only[nx];omega),Zaa.Zah (by omega)]
        exact Zaa.Zae (H:=(G.bump k4).alloc _)
       ·rw[Zaa.Zag (by simp only[nx];omega),Zaa.Zag (by simp only[nx];omega),Zaa.Zal (by simp only[nx];omega)]
        rfl
       ·rw[Zaa.Zag (by simp only[nx];omega)]
        exact Zaa.Zae (H:=Zaa.set _ _ _)
       ·rw[Zaa.Zag (by simp only[nx];omega),Zaa.Zag (by simp only[nx];omega),Zaa.Zah (by omega),Zaa.Zag (by simp only[nx];omega)]
        exact Zaa.Zae (H:=G.bump k4)
       ·exact h4.2.1
       ·have hxG:=(hH k1 k2 k3).trans hx
        have hxn:=(hH k1 k2 k3).next
        exact(((((hxG.bump).alloc).alloc).set (by omega)).alloc).alloc
      ·rintro k F S2 hk ⟨f54,f53,f11,f13,f14,hB,ht,hx2⟩
       have lt:=Zaa.lt ht
       have la1:ZaE 1 (rP (List.range k))=true:=ZaU (f:=fun i:Nat=>[AV.i (i:Int)]) (fun _=>rfl) _
       have la2:ZaE 1 [[AV.i (k:Int)]]=true:=rfl
       have lm1:k+1<=maxLen:=by unfold maxLen;omega
       have lm2:(k+1) * 8<=140737488355328:=by omega
       have hrl:(rP (List.range k)).length=k:=by simp
       have hrs:rP (List.range k)++[[AV.i (k:Int)]]=rP (List.range (k+1)):=by rw[List.range_succ];simp
       ((have hd:=tv;repeat' first|(first|apply Zad|apply Zac|apply Zab)<;>intro hd<;>try simp only[hd]|simp(disch:=first|assumption|omega|simp only[nx]<;>omega|fail)only[hd,qr,qn,Zca,↓YA,YY,sevalprocAttr,f54,f53,f11,f13,f14,ht,la1,la2,lm1,lm2,hrl,hrs,ZaL,rowsOf,zaa])<;>try revert hd;refine ttr ?_)
       exact⟨⟨by rw[Zaa.Zah (by omega)];exact hB.o,⟨hB.out.ne,by rw[Zaa.Zah (by omega)];exact hB.out.cell,by rw[Zaa.Zah (by omega)];exact hB.out.row⟩,by rw[Zaa.Zah (by omega)];exact hB.mp,hB.few,hB.most⟩,hx2.set (by omega)⟩
      ·rintro F S2 ⟨f54,f53,f11,f13,f14,hB,ht,hx2⟩
       ((have hd:=tv;repeat' first|(first|apply Zad|apply Zac|apply Zab)<;>intro hd<;>try simp only[hd]|simp(disch:=first|assumption|omega|simp only[nx]<;>omega|fail)only[hd,qr,qn,Zca,↓YA,YY,sevalprocAttr,f54,f53,f11,f13,f14])<;>try revert hd;refine ttr ?_)
       refine Zap.use (hnode _ _ _ _ _ _ _ ⟨[],[],0⟩ _ (.own (G.next+k4+1+1+1)) S2 hpo hB) ?_
       rintro r S3 ⟨rfl,hx3,hB3⟩
       rw[← hbn]at hB3
       have h03:=hB3.o
       have hoid:H.next<=oid:=zaQ (hH k1 k2 k3).next ho1
       have hx4:Zaa.Ext H S3:=⟨zaQ hx2.next hx3.next,fun i o hi=>hx3.get _ _ (by have:=Zaa.lt hi;simp only[zal,zat,or_false];omega) (hx2.get _ _ hi)⟩
       by_cases h6:(Zfa S most facts).e=0
       ·have d6:((Zfa S most facts).e != 0)=false:=by simpa using h6
        ((have hd:=tv;repeat' first|(first|apply Zad|apply Zac|apply Zab)<;>intro hd<;>try simp only[hd]|simp(disch:=first|assumption|omega|simp only[nx]<;>omega|fail)only[hd,qr,qn,Zca,↓YA,YY,sevalprocAttr,f54,f53,f11,f13,f14,h03,d6])<;>try revert hd;refine ttr ?_)
        exact Zaq ⟨hx4,.inr ⟨h6,oid,rfl,hB3.out.ara⟩⟩
       ·have d6:((Zfa S most facts).e != 0)=true:=by simpa using h6
        ((have hd:=tv;repeat' first|(first|apply Zad|apply Zac|apply Zab)<;>intro hd<;>try simp only[hd]|simp(disch:=first|assumption|omega|simp only[nx]<;>omega|fail)only[hd,qr,qn,Zca,↓YA,YY,sevalprocAttr,f54,f53,f11,f13,f14,h03,d6])<;>try revert hd;refine ttr ?_)
        exact Zaq ⟨hx4,.inl ⟨h6,rfl⟩⟩
    ·have hn:newE (Za3 S) most=2:=if_neg h4
     have hv:Zet S most facts=2:=by unfold Zet;rw[if_neg (by simp[h1]),if_neg (by simp[h2]),if_neg h3,if_pos (by simp[hn])]
     unfold ZdZ
     rw[hv]
     refine Zak hE cf12 (zac rfl) fun Q qr qn=>?_
     ((have hd:=tv;repeat' first|(first|apply Zad|apply Zac|apply Zab)<;>intro hd<;>try simp only[hd]|simp(disch:=first|assumption|omega|simp only[nx]<;>omega|fail)only[hd,qr,qn,Zca,↓YA,YY,sevalprocAttr,f0,f3])<;>try revert hd;refine ttr ?_)
     (refine Zap.use (Zc9 S _ hS) ?_;rintro _ _ ⟨rfl,k1,rfl⟩)
     ((have hd:=tv;repeat' first|(first|apply Zad|apply Zac|apply Zab)<;>intro hd<;>try simp only[hd]|simp(disch:=first|assumption|omega|simp only[nx]<;>omega|fail)only[hd,qr,qn,Zca,↓YA,YY,sevalprocAttr,f0,f3,h1])<;>try revert hd;refine ttr ?_)
     (refine Zap.use (hshp _) ?_;rintro _ _ ⟨rfl,k2,rfl⟩)
     ((have hd:=tv;repeat' first|(first|apply Zad|apply Zac|apply Zab)<;>intro hd<;>try simp only[hd]|simp(disch:=first|assumption|omega|simp only[nx]<;>omega|fail)only[hd,qr,qn,Zca,↓YA,YY,sevalprocAttr,x0,x3,xd,zaw])<;>try revert hd;refine ttr ?_)
     (refine Zap.use (Zde t (Za3 S) facts _ hl hxl) ?_;rintro _ _ ⟨rfl,k3,rfl⟩)
     ((have hd:=tv;repeat' first|(first|apply Zad|apply Zac|apply Zab)<;>intro hd<;>try simp only[hd]|simp(disch:=first|assumption|omega|simp only[nx]<;>omega|fail)only[hd,qr,qn,Zca,↓YA,YY,sevalprocAttr,h2,d3,x0,x3,zaa])<;>try revert hd;refine ttr ?_)
     refine Zap.use (Zfe (Za3 S) most _) ?_
     rintro r G ⟨hx,hr⟩
     rw[if_neg h4]at hr
     subst hr
     ((have hd:=tv;repeat' first|(first|apply Zad|apply Zac|apply Zab)<;>intro hd<;>try simp only[hd]|simp(disch:=first|assumption|omega|simp only[nx]<;>omega|fail)only[hd,qr,qn,Zca,↓YA,YY,sevalprocAttr])<;>try revert hd;refine ttr ?_)
     exact Zaq ⟨(hH k1 k2 k3).trans hx,by first|exact .inl ⟨by decide,rfl⟩|exact .inl rfl⟩
  ·have hv:Zet S most facts=Zd7 (Za3 S) none facts:=by unfold Zet;rw[if_neg (by simp[h1]),if_pos h2]
   have d2:(Zd7 (Za3 S) none facts != 0)=true:=by simpa using h2
   unfold ZdZ
   rw[hv]
   refine Zak hE cf12 (zac rfl) fun Q qr qn=>?_
   ((have hd:=tv;repeat' first|(first|apply Zad|apply Zac|apply Zab)<;>intro hd<;>try simp only[hd]|simp(disch:=first|assumption|omega|simp only[nx]<;>omega|fail)only[hd,qr,qn,Zca,↓YA,YY,sevalprocAttr,f0,f3])<;>try revert hd;refine ttr ?_)
   (refine Zap.use (Zc9 S _ hS) ?_;rintro _ _ ⟨rfl,k1,rfl⟩)
   ((have hd:=tv;repeat' first|(first|apply Zad|apply Zac|apply Zab)<;>intro hd<;>try simp only[hd]|simp(disch:=first|assumption|omega|simp only[nx]<;>omega|fail)only[hd,qr,qn,Zca,↓YA,YY,sevalprocAttr,f0,f3,h1])<;>try revert hd;refine ttr ?_)
   (refine Zap.use (hshp _) ?_;rintro _ _ ⟨rfl,k2,rfl⟩)
   ((have hd:=tv;repeat' first|(first|apply Zad|apply Zac|apply Zab)<;>intro hd<;>try simp only[hd]|simp(disch:=first|assumption|omega|simp only[nx]<;>omega|fail)only[hd,qr,qn,Zca,↓YA,YY,sevalprocAttr,x0,x3,xd,zaw])<;>try revert hd;refine ttr ?_)
   (refine Zap.use (Zde t (Za3 S) facts _ hl hxl) ?_;rintro _ _ ⟨rfl,k3,rfl⟩)
   ((have hd:=tv;repeat' first|(first|apply Zad|apply Zac|apply Zab)<;>intro hd<;>try simp only[hd]|simp(disch:=first|assumption|omega|simp only[nx]<;>omega|fail)only[hd,qr,qn,Zca,↓YA,YY,sevalprocAttr,d2])<;>try revert hd;refine ttr ?_)
   exact Zaq ⟨by exact AXT,.inl ⟨h2,rfl⟩⟩
 ·have hv:Zet S most facts=scE S:=by unfold Zet;rw[if_pos h1]
  have d1:(scE S != 0)=true:=by simpa using h1
  unfold ZdZ
  rw[hv]
  refine Zak hE cf12 (zac rfl) fun Q qr qn=>?_
  ((have hd:=tv;repeat' first|(first|apply Zad|apply Zac|apply Zab)<;>intro hd<;>try simp only[hd]|simp(disch:=first|assumption|omega|simp only[nx]<;>omega|fail)only[hd,qr,qn,Zca,↓YA,YY,sevalprocAttr,f0,f3])<;>try revert hd;refine ttr ?_)
  (refine Zap.use (Zc9 S _ hS) ?_;rintro _ _ ⟨rfl,k1,rfl⟩)
  ((have hd:=tv;repeat' first|(first|apply Zad|apply Zac|apply Zab)<;>intro hd<;>try simp only[hd]|simp(disch:=first|assumption|omega|simp only[nx]<;>omega|fail)only[hd,qr,qn,Zca,↓YA,YY,sevalprocAttr,d1])<;>try revert hd;refine ttr ?_)
  exact Zaq ⟨by exact AXT,.inl ⟨h1,rfl⟩⟩
theorem treeB_in {t:Tr} {a:Int} (h:ZdD t.up t.terms.length a=true) (ha:1<=a):t.up.length=t.terms.length/\∀n∈t.up,0<=n/\n<a:=by
 unfold ZdD at h
 rw[if_neg (by omega)]at h
 split at h
 ·cases h
 ·rename_i h1
  rw[zaB]at h
  refine⟨by omega,fun n hn=>?_⟩
  have:=zaX.1 h.1 n hn
  unfold inU at this
  simp at this
  omega
theorem ups_in:∀{l:List Tr},(∀k (h:k<l.length),ZbO l[k] (ZbR (l.drop (k+1)))=0)->∀(to:Nat) (h:to<l.length) (i:Int),0<=i->i<((l[0]'(by omega)).terms.length:Int)->0<=ups (l.take to) i/\ups (l.take to) i<(l[to].terms.length:Int)
 | [],_,to,h,_,_,_=>by simp at h
 | t :: r,hl,0,h,i,h1,h2=>⟨h1,h2⟩
 | t :: r,hl,to+1,h,i,h1,h2=>by
  have hr:to<r.length:=by simpa using h
  have h0:=hl 0 (by simp)
  obtain⟨_,_,h3⟩:=Zcd h0
  have hab:ZbR ((t :: r).drop (0+1))=((r[0]'(by omega)).terms.length:Int):=by
   cases r with
   | nil=>simp at hr
   | cons u r=>rfl
  have hr0:=Zcd (show ZbO (r[0]'(by omega)) (ZbR (r.drop (0+1)))=0 from hl 1 (by simp;omega))
  have h3':ZdD t.up t.terms.length ((r[0]'(by omega)).terms.length:Int)=true:=by rw[← hab];exact h3
  obtain⟨h4,h5⟩:=treeB_in h3' (by omega)
  have h2':i<(t.terms.length:Int):=h2
  have hi:i.toNat<t.up.length:=by omega
  have h6:=h5 _ (zam hi)
  have hov:Zdj t i=t.up[i.toNat]:=by
   unfold Zdj
   rw[if_neg (by omega)]
   simp[hi]
  have e:ups ((t :: r).take (to+1)) i=ups (r.take to) (Zdj t i):=by
   rw[List.take_succ_cons,ups,if_pos (by omega)]
  rw[e,hov]
  exact ups_in (fun k hk=>hl (k+1) (by simpa using hk)) to hr _ h6.1 h6.2
theorem ZgR {d:Dm} (h:Zdv d=0) {to i:Nat} (ht:to<d.tiers.length) (hi:i<n0 d):0<=Zdo d to i/\Zdo d to i<(d.tiers[to].terms.length:Int):=by
 obtain⟨h1,h2,h3⟩:=Zce h
 have hn:n0 d=(d.tiers[0]'(by omega)).terms.length:=by unfold n0;rw[zab (by omega)];rfl
 have:=ups_in h3 to ht i (by omega) (by omega)
 unfold Zdo bot
 rw[if_neg (by omega)]
 exact this
theorem Zcu {x:Shp}:∀{l:List Fct} {w:Option Fct},Zd7 x w l=0->∀f∈l,Zb8 x f=0
 | [],_,_,f,h=>by cases h
 | c :: r,w,h,f,hf=>by
  rw[Zf5]at h
  split at h
  ·rename_i h1;exact absurd h h1
  ·rename_i h1
   split at h
   ·omega
   ·rcases zal.1 hf with rfl|hf
    ·exact zaW.1 h1
    ·exact Zcu h f hf
theorem ZeA:∀{ks:List Int} {ss:List (List Int)},Zdr ks ss=0->∀(d:Nat) (h:d<ks.length),0<=ks[d]/\ks[d]<(ss.getD d []).headD 0
 | [],_,_,d,h=>by simp at h
 | _ :: _,[],h,_,_=>by simp[Zdr]at h
 | k :: ks,s :: ss,h,d,hd=>by
  unfold Zdr at h
  split at h
  ·omega
  ·cases d with
   | zero=>simp;simp at *;omega
   | succ d=>simpa using ZeA h d (by simpa using hd)
theorem Zcp {x:Shp} {f:Fct} (h:Zb8 x f=0):f.1.length=x.sizes.length/\Zdr f.1 x.sizes=0/\Zbw x.measures f.2=true:=by
 unfold Zb8 at h
 split at h
 ·omega
 ·rename_i h1
  split at h
  ·rename_i h2;exact absurd h h2
  ·rename_i h2
   split at h
   ·omega
   ·rename_i h3
    exact⟨by omega,zaW.1 h2,by simpa using h3⟩
theorem ZdS {S:Sc} {facts:List Fct} (hs:scE S=0) (hr:Zd7 (Za3 S) none facts=0) (hf:facts.length<=4000) (ha:∀f∈facts,Zho f.2):ZbI (Za3 S) (Zan S) facts:=by
 obtain⟨s1,s2,s3,_⟩:=Zb7 hs
 have hl:(Zan S).length=S.dims.length:=by unfold Zan;simp
 have hx:(Za3 S).sizes.length=S.dims.length:=by unfold Za3;simp
 have hsz:∀d (h:d<S.dims.length),(Za3 S).sizes.getD d []=S.dims[d].tiers.map szT:=fun d h=>by unfold Za3;simp[h]
 have hL:∀d (h:d<(Zan S).length),(Zan S)[d]=Zct (S.dims[d]'(by omega)):=fun d h=>zbN ..
 have hT:∀d (h:d<(Zan S).length) t (ht:t<(Zan S)[d].length),(Zan S)[d][t]=mapD (S.dims[d]'(by omega)) t:=fun d h t ht=>by simp[hL d h,Zct]
 have hD:∀d (h:d<S.dims.length),Zdv S.dims[d]=0:=fun d h=>s3 _ (zam h)
 have hTl:∀d (h:d<(Zan S).length),(Zan S)[d].length=(S.dims[d]'(by omega)).tiers.length:=fun d h=>by rw[hL d h];simp[Zct]
 have hN:∀d (h:d<S.dims.length) t (ht:t<S.dims[d].tiers.length),Zch (Za3 S) d t=S.dims[d].tiers[t].terms.length:=fun d h t ht=>by
  unfold Zch
  rw[hsz d h]
  simp[ht,szT]
 refine⟨hf,by omega,by omega,ha,fun f hm=>?_,fun d h=>?_,fun f hm d h t ht=>?_,fun d t=>?_⟩
 ·have:=(Zcp (Zcu hr f hm)).1;omega
 ·have hd:d<S.dims.length:=by omega
  obtain⟨h1,h2,_⟩:=Zce (hD d hd)
  have:=hTl d h
  rw[hsz d hd,zaa]
  omega
 ·have hd:d<S.dims.length:=by omega
  obtain⟨k1,k2,k3⟩:=Zcp (Zcu hr f hm)
  obtain⟨h1,h2,h3⟩:=Zce (hD d hd)
  have hdf:d<f.1.length:=by omega
  have hk:=ZeA k2 d hdf
  rw[hsz d hd]at hk
  have hn:n0 S.dims[d]=(S.dims[d].tiers[0]'(by omega)).terms.length:=by unfold n0;rw[zab (by omega)];rfl
  have hh:(S.dims[d].tiers.map szT).headD 0=(n0 S.dims[d]:Int):=by
   rw[hn]
   have:∀l:List Tr,∀h:0<l.length,(l.map szT).headD 0=((l[0]).terms.length:Int):=fun l h=>by
    cases l with
    | nil=>simp at h
    | cons a r=>rfl
   exact this _ (by omega)
  rw[hh]at hk
  have ht':t<S.dims[d].tiers.length:=by have:=hTl d h;omega
  have hm1:(mapD S.dims[d] t).length=n0 S.dims[d]:=by unfold mapD;simp
  refine⟨f.1[d].toNat,by simp[hdf];omega,?_⟩
  rw[hN d hd t ht']
  have hlt:f.1[d].toNat<n0 S.dims[d]:=by omega
  refine⟨by rw[hT d h t ht,hm1];exact hlt,?_⟩
  have e:(Zan S)[d][t][f.1[d].toNat]'(by rw[hT d h t ht,hm1];exact hlt)=Zdo S.dims[d] t f.1[d].toNat:=by
   simp only[hT d h t ht]
   simp[mapD]
  rw[e]
  exact ZgR (hD d hd) ht' hlt
 ·by_cases h:d<S.dims.length
  ·by_cases ht:t<S.dims[d].tiers.length
   ·rw[hN d h t ht]
    obtain⟨_,_,h3⟩:=Zce (hD d h)
    exact(Zcd (h3 t ht)).2.1
   ·unfold Zch
    rw[hsz d h]
    simp[Nat.le_of_not_lt ht]
  ·unfold Zch
   have e:(Za3 S).sizes.getD d []=[]:=by rw[zaj,zbf (by omega)];rfl
   rw[e]
   simp
structure Ard (x:Shp) (l:List Nod):Prop where
 may:ZbS x=true
 sm:∀n∈l,Zdb n
 len:l.length<=200000
 dim:∀n∈l,0<=n.dim/\n.dim<x.sizes.length
 led:∀(k:Nat) (h:k<l.length),l[k].dim<(x.sizes.length:Int) - 1->∀c∈each l[k],0<=c.child/\c.child<k
theorem HX.quiet {O:List (Nat×Zb3)} {H G G1:Zaa} (h:HX O H G) (k:HX [] G G1):HX O H G1 :=
 ⟨zaQ h.n k.n,fun p hp=>(k.g _ (Zaa.lt (h.o p hp)) (by simp)).trans (h.o p hp),fun j hj hne=>(k.g _ (zbk hj h.n) (by simp)).trans (h.g j hj hne)⟩
def cntN (n:Nod):Nat:=n.lists.flatten.length+1
def capT (n:Int):Int:=if 1125899906842624<n then 1125899906842624 else n
def treeF (out:List Int) (n:Nod) (inner:Bool):Int:=if inner=true then (each n).foldl (fun s c=>capT (s+out.getD c.child.toNat 0)) (cntN n) else cntN n
def ZhV (x:Shp) (l:List Nod):List Int:=l.foldl (fun out n=>out++[treeF out n (decide (n.dim<(x.sizes.length:Int) - 1))]) []
@[simp] theorem treesL_nil (x:Shp):ZhV x []=[]:=rfl
theorem treesL_snoc {x:Shp} {l:List Nod} {k:Nat} (h:k<l.length):ZhV x (l.take (k+1))=ZhV x (l.take k)++[treeF (ZhV x (l.take k)) l[k] (decide (l[k].dim<(x.sizes.length:Int) - 1))]:=by
 rw[zaq h,ZhV,zbU];rfl
theorem ard_of {x:Shp} {most:Int} {l:List Nod} (hm:ZbS x=true) (hs:∀n∈l,Zdb n) (hl:l.length<=200000) (ha:∀i (hi:i<l.length),ZbF x most (l.take i) l[i]=0):Ard x l:=by
 refine⟨hm,hs,hl,fun n hn=>?_,fun k hk hd c hc=>?_⟩
 ·obtain⟨i,hi,rfl⟩:=zaA hn
  have:=Zfw (add_zero' (ha i hi)).1
  exact⟨this.1,this.2.1⟩
 ·have hb:lastB x l[k].dim=false:=by unfold lastB;rw[beq_eq_false_iff_ne];omega
  obtain⟨h1,h2,_⟩:=add_zero' (ha k hk)
  unfold ZeO at h2
  rw[hb,zbK,zaX]at h2
  have h3:=h2 c hc
  simp only[zaB,decide_eq_true_eq,zbd]at h3
  exact⟨Zfu h1 hb c hc,by omega⟩
def Led (D:Nat) (N:List Nod) (j:Nat):Prop:=∃(k:Nat) (h:k<N.length),N[k].dim<(D:Int) - 1/\∃c∈each N[k],c.child=(j:Int)
theorem Led.pre {D:Nat} {N N':List Nod} {j:Nat} (h:Led D N j) (hp:N <+: N'):Led D N' j:=by
 obtain⟨k,hk,h1,h2⟩:=h
 obtain⟨t,rfl⟩:=hp
 exact⟨k,by simp;omega,by rw[List.getElem_append_left hk];exact h1,by rw[List.getElem_append_left hk];exact h2⟩
def StR (D:Nat) (last:Bool) (s s':BSt) (cs:List Cel):Prop:=s'.e=0->s.e=0/\s.N <+: s'.N/\∀j,s.N.length<=j->j<s'.N.length->(last=false/\∃c∈cs,c.child=(j:Int))∨Led D s'.N j
theorem StR.refl (D:Nat) (last:Bool) (s:BSt):StR D last s s []:=fun h=>⟨h,zbs _,fun j h1 h2=>by omega⟩
theorem StR.trans {D:Nat} {last:Bool} {s s1 s2:BSt} {cs ds:List Cel} (h:StR D last s s1 cs) (k:StR D last s1 s2 ds):StR D last s s2 (cs++ds):=fun he=>by
 obtain⟨k1,k2,k3⟩:=k he
 obtain⟨h1,h2,h3⟩:=h k1
 refine⟨h1,h2.trans k2,fun j j1 j2=>?_⟩
 by_cases hj:j<s1.N.length
 ·rcases h3 j j1 hj with⟨a,c,hc,e⟩|h3
  ·exact .inl ⟨a,c,zbw _ hc,e⟩
  ·exact .inr (h3.pre k2)
 ·rcases k3 j (by omega) j2 with⟨a,c,hc,e⟩|k3
  ·exact .inl ⟨a,c,zbp _ hc,e⟩
  ·exact .inr k3
theorem Zgo {D:Nat} {last:Bool} {g:BSt->Int->List Nat->BSt×Cel} (hg:∀s k p,StR D last s (g s k p).1 [(g s k p).2]):∀(l:List (Int×List Nat)) (s:BSt),StR D last s (ZbG g s l).1 (ZbG g s l).2
 | [],s=>show StR D last s s []from StR.refl D last s
 | p :: ps,s=>(hg s p.1 p.2).trans (Zgo hg ps _)
theorem Zgw {D:Nat} {last:Bool} {g:BSt->Int->List Nat->BSt×Cel} (hg:∀s k p,StR D last s (g s k p).1 [(g s k p).2]):∀(l:List (List (Int×List Nat))) (s:BSt),StR D last s (Zbc g s l).1 (Zbc g s l).2.flatten
 | [],s=>show StR D last s s []from StR.refl D last s
 | p :: ps,s=>(Zgo hg p s).trans (Zgw hg ps _)
def NdR (D:Nat) (s s':BSt) (i:Int):Prop:=s'.e=0->s.e=0/\s.N <+: s'.N/\∀j,s.N.length<=j->j<s'.N.length->(j:Int)=i∨Led D s'.N j
theorem ZlF {D:Nat} {facts:List Fct} {f:BSt->List Nat->BSt×Int} {last:Bool} (hf:last=false->∀s p,NdR D s (f s p).1 (f s p).2) (s:BSt) (k:Int) (p:List Nat):StR D last s (ZbM facts f last s k p).1 [(ZbM facts f last s k p).2]:=by
 cases last with
 | true =>
  have e:ZbM facts f true s k p=(sumE s (ZdJ facts ag0 p),⟨k,0,(ZdJ facts ag0 p).getD ag0⟩):=rfl
  rw[e]
  cases ZdJ facts ag0 p with
  | none=>exact fun h=>absurd (show(12:Int)=0 from h) (by decide)
  | some a=>exact fun h=>⟨h,zbs _,fun j h1 h2=>absurd (show j<s.N.length from h2) (by omega)⟩
 | false =>
  have e:ZbM facts f false s k p=((f s p).1,⟨k,(f s p).2,ag0⟩):=rfl
  rw[e]
  intro h
  obtain⟨h1,h2,h3⟩:=hf rfl s p h
  exact⟨h1,h2,fun j j1 j2=>(h3 j j1 j2).elim (fun e=>.inl ⟨rfl,_,zas.2 rfl,e.symm⟩) .inr⟩
theorem Zh6 {x:Shp} {L:List (List (List Int))} {facts:List Fct} {most:Int} {f:BSt->List Nat->BSt×Int} {d:Nat} (hd:d<L.length) (hf:decide (d+1=L.length)=false->∀s p,NdR L.length s (f s p).1 (f s p).2) (s:BSt) (p:List Nat):NdR L.length s (Zdq x L facts most f d s p).1 (Zdq x L facts most f d s p).2:=by
 have hg:=ZlF (facts:=facts) hf
 have ht:=(Zgw hg (ZaC x L facts d p) s).trans (hg (Zbc (ZbM facts f (decide (d+1=L.length))) s (ZaC x L facts d p)).1 0 p)
 unfold Zdq
 split
 ·exact fun h=>⟨h,zbs _,fun j h1 h2=>absurd (show j<s.N.length from h2) (by omega)⟩
 ·split
  ·exact fun h=>⟨h,zbs _,fun j h1 h2=>absurd (show j<s.N.length from h2) (by omega)⟩
  ·generalize (ZbM facts f (decide (d+1=L.length)) (Zbc (ZbM facts f (decide (d+1=L.length))) s (ZaC x L facts d p)).1 0 p)=a at *
   generalize (Zbc (ZbM facts f (decide (d+1=L.length))) s (ZaC x L facts d p)).2=ls at *
   unfold Zha
   split
   ·rename_i h1;exact fun h=>absurd h h1
   ·rename_i h1
    split
    ·rename_i h2;exact fun h=>absurd h h2
    ·intro _
     obtain⟨t1,t2,t3⟩:=ht (zaW.1 h1)
     refine⟨t1,t2.trans (List.prefix_append _ _),fun j j1 j2=>?_⟩
     simp only[zak,List.length_cons,List.length_nil]at j2
     by_cases hj:j<a.1.N.length
     ·rcases t3 j j1 hj with⟨hl,c,hc,e⟩|h3
      ·refine .inr ⟨a.1.N.length,by simp,?_,c,?_,e⟩
       ·have hdl:=of_decide_eq_false hl
        simp only[List.getElem_concat_length]
        omega
       ·simp only[List.getElem_concat_length]
        exact hc
      ·exact .inr (h3.pre (List.prefix_append _ _))
     ·exact .inl (by simp only;omega)
theorem Zhy {x:Shp} {L:List (List (List Int))} {facts:List Fct} {most:Int}:∀(n:Nat),n+1<=L.length->∀s p,NdR L.length s (ZcV x L facts most (n+1) s p).1 (ZcV x L facts most (n+1) s p).2
 | 0,h=>fun s p=>by
  have h3:1<=L.length:=h
  have e:L.length - 1+1=L.length:=by omega
  exact Zh6 (d:=L.length - 1) (by omega) (fun h2=>absurd e (of_decide_eq_false h2)) s p
 | n+1,h=>fun s p=>Zh6 (d:=L.length - (n+1+1)) (by omega) (fun _=>Zhy n (by omega)) s p
theorem ZhY {x:Shp} {L:List (List (List Int))} {facts:List Fct} {most:Int} (n:Nat) (s:BSt) (p:List Nat) (hM:s.M=[]):(ZcV x L facts most (n+1) s p).1.e=0->(ZcV x L facts most (n+1) s p).2+1=((ZcV x L facts most (n+1) s p).1.N.length:Int):=by
 show(Zdq x L facts most (ZcV x L facts most n) (L.length - (n+1)) s p).1.e=0->(Zdq x L facts most (ZcV x L facts most n) (L.length - (n+1)) s p).2+1=((Zdq x L facts most (ZcV x L facts most n) (L.length - (n+1)) s p).1.N.length:Int)
 unfold Zdq
 rw[hM]
 simp only[Zcz]
 split
 ·rename_i h1;exact fun h=>absurd h h1
 ·generalize (ZbM facts (ZcV x L facts most n) (decide (L.length - (n+1)+1=L.length)) (Zbc (ZbM facts (ZcV x L facts most n) (decide (L.length - (n+1)+1=L.length))) s (ZaC x L facts (L.length - (n+1)) p)).1 0 p)=a
  generalize (Zbc (ZbM facts (ZcV x L facts most n) (decide (L.length - (n+1)+1=L.length))) s (ZaC x L facts (L.length - (n+1)) p)).2=ls
  unfold Zha
  split
  ·rename_i h1;exact fun h=>absurd h h1
  ·split
   ·rename_i h2;exact fun h=>absurd h h2
   ·intro _
    simp
def Grown (x:Shp) (most:Int) (N:List Nod):Prop:=(∀i (hi:i<N.length),ZbF x most (N.take i) N[i]=0)/\∀n∈N,Zdb n
theorem Grown.snoc {x:Shp} {most:Int} {N:List Nod} {n:Nod} (h:Grown x most N) (ha:ZbF x most N n=0) (hs:Zdb n):Grown x most (N++[n]):=by
 refine⟨fun i hi=>?_,fun m hm=>?_⟩
 ·by_cases hj:i<N.length
  ·rw[List.getElem_append_left hj,List.take_append_of_le_length (by omega)];exact h.1 i hj
  ·simp only[zak,List.length_cons,List.length_nil]at hi
   obtain rfl:i=N.length:=by omega
   rw[List.getElem_concat_length rfl,List.take_append_of_le_length (zaf _),zaN]
   exact ha
 ·rcases zaz.1 hm with hm|hm
  ·exact h.2 m hm
  ·rw[zas.1 hm];exact hs
theorem ZeQ {x:Shp} {most:Int} {g:BSt->Int->List Nat->BSt×Cel} (hg:∀s k p,Grown x most s.N->Grown x most (g s k p).1.N):∀(l:List (Int×List Nat)) (s:BSt),Grown x most s.N->Grown x most (ZbG g s l).1.N
 | [],s,h=>h
 | p :: ps,s,h=>ZeQ hg ps _ (hg s p.1 p.2 h)
theorem ZeU {x:Shp} {most:Int} {g:BSt->Int->List Nat->BSt×Cel} (hg:∀s k p,Grown x most s.N->Grown x most (g s k p).1.N):∀(l:List (List (Int×List Nat))) (s:BSt),Grown x most s.N->Grown x most (Zbc g s l).1.N
 | [],s,h=>h
 | p :: ps,s,h=>ZeU hg ps _ (ZeQ hg p s h)
theorem ZiB {x:Shp} {L:List (List (List Int))} {facts:List Fct} {most:Int} {f:BSt->List Nat->BSt×Int} {d:Nat} (hF:ZbI x L facts) (hd:d<L.length) (hf:∀s p,Grown x most s.N->Grown x most (f s p).1.N) (s:BSt) (p:List Nat) (h:Grown x most s.N):Grown x most (Zdq x L facts most f d s p).1.N:=by
 have hg:∀s k p,Grown x most s.N->Grown x most (ZbM facts f (decide (d+1=L.length)) s k p).1.N:=fun s k p h=>by
  unfold ZbM
  split
  ·unfold sumE
   split<;>exact h
  ·exact hf s p h
 have ht:=hg _ 0 p (ZeU hg (ZaC x L facts d p) s h)
 have hGl:(ZaC x L facts d p).length=L[d].length:=by unfold ZaC;simp[zab hd]
 have hll:=Zgn (ZbM facts f (decide (d+1=L.length))) (ZaC x L facts d p) s
 have hlm:=ZeC (g:=ZbM facts f (decide (d+1=L.length))) (m:=200) (ZaC x L facts d p) s (fun t ht=>by
  unfold ZaC at ht
  obtain⟨k,_,rfl⟩:=zau.1 ht
  exact zaQ (Zhh _ _ _) (hF.size d k))
 obtain⟨t1,t2,t3⟩:=hF.tier d hd
 unfold Zdq
 split
 ·exact h
 ·split
  ·exact h
  ·generalize (ZbM facts f (decide (d+1=L.length)) (Zbc (ZbM facts f (decide (d+1=L.length))) s (ZaC x L facts d p)).1 0 p)=a at *
   generalize (Zbc (ZbM facts f (decide (d+1=L.length))) s (ZaC x L facts d p)).2=ls at *
   unfold Zha
   split
   ·exact ht
   ·split
    ·exact ht
    ·rename_i h2
     have:=Zh3 hlm
     exact ht.snoc (zaW.1 h2) ⟨by simp only;omega,by simp only;rw[hll,hGl]at this;omega,fun l hl=>by have:=hlm l hl;omega⟩
theorem Zfj {x:Shp} {L:List (List (List Int))} {facts:List Fct} {most:Int} (hF:ZbI x L facts):∀(n:Nat),n<=L.length->∀s p,Grown x most s.N->Grown x most (ZcV x L facts most n s p).1.N
 | 0,_,s,p,h=>h
 | n+1,hn,s,p,h=>ZiB (d:=L.length - (n+1)) hF (by omega) (fun s p h=>Zfj hF n (by omega) s p h) s p h
end Go.Proofs.YtaapiigfmdhobaaGreat
