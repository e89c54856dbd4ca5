/- Texts of the walk, joined: Da Db Dc Dd De Df Dg Dh Di Dj Dk. -/
import Derived.Test.YtaapiigfmdhobaaGreatMk
import Derived.Test.YtaapiigfmdhobaaGreatMl
import Derived.Test.YtaapiigfmdhobaaGreatMi
import Derived.Test.YtaapiigfmdhobaaGreatMo
namespace Go.Proofs.YtaapiigfmdhobaaGreat
set_option linter.unusedSimpArgs false
set_option linter.unusedVariables false
open Go.RowKit
set_option maxHeartbeats 2000000 in
theorem Zd5 (q:Tx) (H:Zaa):Zay Tryz.prog 55 [eS q] H (Pure H (.b (ZbK q))):=by
 by_cases h0:(q.length:Int)<1
 ·have d0:decide ((q.length:Int)<1)=true:=decide_eq_true h0
  have hv:ZbK q=false:=by
   have:q=[]:=zaM (by omega)
   subst this;rfl
  rw[hv]
  refine Zak hE cf55 (zac rfl) fun Q qr qn=>?_
  ((have hd:=tv;repeat' first|(first|apply Zad|apply Zac|apply Zab)<;>intro hd<;>try simp only[hd]|simp(disch:=first|assumption|omega|simp only[nx]<;>omega|fail)only[hd,qr,qn,ZkZ,↓YA,YY,sevalprocAttr,d0])<;>try revert hd;refine ttr ?_)
  refine ZbC (by rfl)
 have d0:decide ((q.length:Int)<1)=false:=decide_eq_false h0
 by_cases h1:(q.length:Int) > 12
 ·have d1:decide ((q.length:Int) > 12)=true:=decide_eq_true h1
  have hv:ZbK q=false:=by unfold ZbK;rw[d1];simp
  rw[hv]
  refine Zak hE cf55 (zac rfl) fun Q qr qn=>?_
  ((have hd:=tv;repeat' first|(first|apply Zad|apply Zac|apply Zab)<;>intro hd<;>try simp only[hd]|simp(disch:=first|assumption|omega|simp only[nx]<;>omega|fail)only[hd,qr,qn,ZkZ,↓YA,YY,sevalprocAttr,d0,d1])<;>try revert hd;refine ttr ?_)
  refine ZbC (by rfl)
 have d1:decide ((q.length:Int) > 12)=false:=decide_eq_false h1
 have hv:ZbK q=q.all ZcS:=by
  unfold ZbK
  rw[d1,decide_eq_false (fun h=>h0 (by rw[h];simp))]
  simp
 rw[hv]
 generalize hT:q.all ZcS=T
 refine Zak hE cf55 (zac rfl) fun Q qr qn=>?_
 ((have hd:=tv;repeat' first|(first|apply Zad|apply Zac|apply Zab)<;>intro hd<;>try simp only[hd]|simp(disch:=first|assumption|omega|simp only[nx]<;>omega|fail)only[hd,qr,qn,ZkZ,↓YA,YY,sevalprocAttr,d0,d1])<;>try revert hd;refine ttr ?_)
 refine Zcw [0] (σ:=Nat) (fun s=>s<=q.length/\T=(q.drop s).all ZcS) (fun s=>q.length - s) (fun s=>[(3,.i (s:Int))]) (fun s=>[]) 0 (GStep.refl _ _) (by simp only[ZaA,Zav,Fr.put,Fr.get,↓reduceIte,Nat.reduceEqDiff];rfl) ?_ (by simp only[ZaF,ZaX,Fr.put,Fr.get,↓reduceIte,Nat.reduceEqDiff,and_self]<;>simp) (by simp only[ZaJ]) ?_
 ·exact⟨zaG _,hT.symm⟩
 ·(rintro i G ⟨h2,h3⟩ hG hn;try simp only[nx]at hn)
  by_cases c:i<q.length
  ·have d2:decide ((i:Int)<(q.length:Int))=true:=decide_eq_true (by omega)
   have hs:=Zh9 c
   have hi0:(0:Int)<=(i:Int):=by omega
   have hw:IntKind.i64.wrap ((i:Int)+1)=((i+1:Nat):Int):=by rw[Zaw (by omega) (by omega)];omega
   rw[zan c,List.all_cons]at h3
   generalize q[i]=ch at *
   have hbad:ZcS ch=false->false=T:=fun h=>by rw[h3,h];rfl
   have hgood:ZcS ch=true->T=(q.drop (i+1)).all ZcS:=fun h=>by rw[h3,h];rfl
   clear h3 hv hT
   ((have hd:=tv;repeat' first|(first|apply Zad|apply Zac|apply Zab)<;>intro hd<;>try simp only[hd]|simp(disch:=first|assumption|omega|simp only[nx]<;>omega|fail)only[hd,qr,qn,ZkZ,↓YA,YY,sevalprocAttr,d2,hs,hi0,hw])<;>try revert hd;refine ttr ?_)
   all_goals first
    | (refine ZbC (hbad ?_);clear hbad hgood hs hw hG;unfold ZcS;first|(simp_all;done)|grind)
    | (refine⟨i+1,⟨by omega,hgood ?_⟩,by omega,rfl,by exact HXT⟩;clear hbad hgood hs hw hG;unfold ZcS;first|(simp_all;done)|grind)
  ·have d2:decide ((i:Int)<(q.length:Int))=false:=decide_eq_false (by omega)
   rw[zbo (by omega)]at h3
   ((have hd:=tv;repeat' first|(first|apply Zad|apply Zac|apply Zab)<;>intro hd<;>try simp only[hd]|simp(disch:=first|assumption|omega|simp only[nx]<;>omega|fail)only[hd,qr,qn,ZkZ,↓YA,YY,sevalprocAttr,d2])<;>try revert hd;refine ttr ?_)
   refine ZbC (by exact h3.symm)
theorem Zlh (q:Tx) (H:Zaa):Zay Tryz.prog 163 [eS q] H (Pure H (.b (isT q))):=by
 refine Zak hE cf163 (zac rfl) fun Q qr qn=>?_
 ((have hd:=tv;repeat' first|(first|apply Zad|apply Zac|apply Zab)<;>intro hd<;>try simp only[hd]|simp(disch:=first|assumption|omega|simp only[nx]<;>omega|fail)only[hd,qr,qn,c163_0,↓YA,YY,sevalprocAttr])<;>try revert hd;refine ttr ?_)
 ·exact ZbC (by unfold isT;rw[hd];rfl)
 ·exact ZbC (by unfold isT;rw[hd];rfl)
theorem tle (a b:Tx):(decide (b<a) || decide (b=a))=!decide (a<b):=by
 rw[zbc]
 simp only[Bool.or_eq_true,decide_eq_true_eq,zbL,decide_eq_false_iff_not]
 rw[List.not_lt,List.le_iff_lt_or_eq]
set_option maxHeartbeats 1000000 in
theorem Zki (t:Tok) (l:List Tx) (H:Zaa) (hl:l.length<=1000000):Zay Tryz.prog 141 [.sl t (rS l)] H (Pure H (.i (Zgt none l))):=by
 generalize hT:Zgt none l=T
 refine Zak hE cf141 (zac rfl) fun Q qr qn=>?_
 ((have hd:=tv;repeat' first|(first|apply Zad|apply Zac|apply Zab)<;>intro hd<;>try simp only[hd]|simp(disch:=first|assumption|omega|simp only[nx]<;>omega|fail)only[hd,qr,qn,ZdK,↓YA,YY,sevalprocAttr])<;>try revert hd;refine ttr ?_)
 refine Zcw [0] (σ:=Nat) (fun s=>s<=l.length/\T=Zgt (Ze4 l s) (l.drop s)) (fun s=>l.length - s) (fun s=>[(3,.i (s:Int))]) (fun s=>[]) 0 (GStep.refl _ _) (by simp only[ZaA,Zav,Fr.put,Fr.get,↓reduceIte,Nat.reduceEqDiff];rfl) ?_ (by simp only[ZaF,ZaX,Fr.put,Fr.get,↓reduceIte,Nat.reduceEqDiff,and_self]<;>simp) (by simp only[ZaJ]) ?_
 ·exact⟨zaG _,hT.symm⟩
 ·(rintro i G ⟨h2,h3⟩ hG hn;try simp only[nx]at hn)
  by_cases c:i<l.length
  ·have d2:decide ((i:Int)<(l.length:Int))=true:=decide_eq_true (by omega)
   have hi0:(0:Int)<=(i:Int):=by omega
   have hw:IntKind.i64.wrap ((i:Int)+1)=((i+1:Nat):Int):=by rw[Zaw (by omega) (by omega)];omega
   have hr:(rS l)[i]?=some [eS l[i]]:=by simp[c]
   have hI:=fun G=>Zlh l[i] G
   rw[zan c,Zhp]at h3
   have hb:=bfb (isT l[i])
   rcases hb with hb|hb
   ·rw[if_pos hb]at h3
    rw[hb]at hI
    ((have hd:=tv;repeat' first|(first|apply Zad|apply Zac|apply Zab)<;>intro hd<;>try simp only[hd]|simp(disch:=first|assumption|omega|simp only[nx]<;>omega|fail)only[hd,qr,qn,ZdK,↓YA,YY,sevalprocAttr,d2,hi0,c,hr,zaa])<;>try revert hd;refine ttr ?_)
    (refine Zap.use (hI _) ?_;rintro _ _ ⟨rfl,k1,rfl⟩)
    ((have hd:=tv;repeat' first|(first|apply Zad|apply Zac|apply Zab)<;>intro hd<;>try simp only[hd]|simp(disch:=first|assumption|omega|simp only[nx]<;>omega|fail)only[hd,qr,qn,ZdK,↓YA,YY,sevalprocAttr])<;>try revert hd;refine ttr ?_)
    refine Zaz (by rw[h3])
   ·rw[if_neg (by rw[hb];decide)]at h3
    rw[hb]at hI
    cases i with
    | zero =>
     have d3:decide (((0:Nat):Int) > 0)=false:=by decide
     have d2z:decide ((0:Int)<(l.length:Int))=true:=d2
     ((have hd:=tv;repeat' first|(first|apply Zad|apply Zac|apply Zab)<;>intro hd<;>try simp only[hd]|simp(disch:=first|assumption|omega|simp only[nx]<;>omega|fail)only[hd,qr,qn,ZdK,↓YA,YY,sevalprocAttr,d2,d2z,hi0,c,hr,zaa])<;>try revert hd;refine ttr ?_)
     (refine Zap.use (hI _) ?_;rintro _ _ ⟨rfl,k1,rfl⟩)
     ((have hd:=tv;repeat' first|(first|apply Zad|apply Zac|apply Zab)<;>intro hd<;>try simp only[hd]|simp(disch:=first|assumption|omega|simp only[nx]<;>omega|fail)only[hd,qr,qn,ZdK,↓YA,YY,sevalprocAttr,d3,hw])<;>try revert hd;refine ttr ?_)
     exact⟨1,⟨by omega,by rw[h3];simp[Ze4,c,geT]⟩,by omega,rfl,by exact HXT⟩
    | succ j =>
     have d3:decide (((j+1:Nat):Int) > 0)=true:=decide_eq_true (by omega)
     have hj:j<l.length:=by omega
     have hr2:(rS l)[j]?=some [eS l[j]]:=by simp[hj]
     have hw2:IntKind.i64.wrap (((j+1:Nat):Int) - 1)=(j:Int):=by rw[show((j+1:Nat):Int) - 1=(j:Int) by omega];exact Zaw (by omega) (by omega)
     have hj0:(0:Int)<=(j:Int):=by omega
     have hp:Ze4 l (j+1)=some l[j]:=by simp[Ze4,hj]
     have hp2:Ze4 l (j+1+1)=some l[j+1]:=by simp[Ze4,c]
     rw[hp]at h3
     simp only[geT]at h3
     have hle:=tle l[j] l[j+1]
     have hlt:=bfb (decide (l[j]<l[j+1]))
     rcases hlt with hlt|hlt<;>rw[hlt]at hle
     ·((have hd:=tv;repeat' first|(first|apply Zad|apply Zac|apply Zab)<;>intro hd<;>try simp only[hd]|simp(disch:=first|assumption|omega|simp only[nx]<;>omega|fail)only[hd,qr,qn,ZdK,↓YA,YY,sevalprocAttr,d2,hi0,c,hr,zaa])<;>try revert hd;refine ttr ?_)
      (refine Zap.use (hI _) ?_;rintro _ _ ⟨rfl,k1,rfl⟩)
      ((have hd:=tv;repeat' first|(first|apply Zad|apply Zac|apply Zab)<;>intro hd<;>try simp only[hd]|simp(disch:=first|assumption|omega|simp only[nx]<;>omega|fail)only[hd,qr,qn,ZdK,↓YA,YY,sevalprocAttr,d2,d3,hi0,c,hr,hr2,hw,hw2,hj,hj0,hle,zaa])<;>try revert hd;refine ttr ?_)
      refine Zaz (by rw[h3];simp[hlt])
     ·((have hd:=tv;repeat' first|(first|apply Zad|apply Zac|apply Zab)<;>intro hd<;>try simp only[hd]|simp(disch:=first|assumption|omega|simp only[nx]<;>omega|fail)only[hd,qr,qn,ZdK,↓YA,YY,sevalprocAttr,d2,hi0,c,hr,zaa])<;>try revert hd;refine ttr ?_)
      (refine Zap.use (hI _) ?_;rintro _ _ ⟨rfl,k1,rfl⟩)
      ((have hd:=tv;repeat' first|(first|apply Zad|apply Zac|apply Zab)<;>intro hd<;>try simp only[hd]|simp(disch:=first|assumption|omega|simp only[nx]<;>omega|fail)only[hd,qr,qn,ZdK,↓YA,YY,sevalprocAttr,d2,d3,hi0,c,hr,hr2,hw,hw2,hj,hj0,hle,zaa])<;>try revert hd;refine ttr ?_)
      exact⟨j+1+1,⟨by omega,by rw[h3,hp2];simp[hlt]⟩,by omega,rfl,by exact HXT⟩
  ·have d2:decide ((i:Int)<(l.length:Int))=false:=decide_eq_false (by omega)
   rw[zbo (by omega)]at h3
   ((have hd:=tv;repeat' first|(first|apply Zad|apply Zac|apply Zab)<;>intro hd<;>try simp only[hd]|simp(disch:=first|assumption|omega|simp only[nx]<;>omega|fail)only[hd,qr,qn,ZdK,↓YA,YY,sevalprocAttr,d2,zaa])<;>try revert hd;refine ttr ?_)
   refine Zaz (by rw[h3];rfl)
def Zmy (l:List Int) (n:Int):Bool:=l.any fun x=>x == n
set_option maxHeartbeats 1000000 in
theorem in_sound (t:Tok) (l:List Int) (n:Int) (H:Zaa) (hl:l.length<=1000000):Zay Tryz.prog 164 [.sl t (rI l),.i n] H (Pure H (.b (Zmy l n))):=by
 generalize hT:Zmy l n=T
 refine Zak hE cf164 (zac rfl) fun Q qr qn=>?_
 ((have hd:=tv;repeat' first|(first|apply Zad|apply Zac|apply Zab)<;>intro hd<;>try simp only[hd]|simp(disch:=first|assumption|omega|simp only[nx]<;>omega|fail)only[hd,qr,qn,ZhA,↓YA,YY,sevalprocAttr,zaa])<;>try revert hd;refine ttr ?_)
 refine Zbs [1,7,8] (σ:=Unit) (fun(k:Nat) s=>T=Zmy (l.drop k) n) (fun k s=>[]) (fun k s=>[]) () (GStep.refl _ _) (by simp only[ZaA,Zav,Fr.put,Fr.get,↓reduceIte,Nat.reduceEqDiff];rfl) (by intro k s;rfl) (by intro k s;rfl) (by rfl) (by unfold maxLen;omega) ?_ (by simp only[ZaF]) (by simp only[ZaJ]) ?_ ?_
 ·exact hT.symm
 ·(rintro k u G hk ht hG hn;try simp only[nx]at hn)
  rw[zan hk]at ht
  unfold Zmy at ht
  rw[List.any_cons]at ht
  have hr:(rI l)[k]?=some [.i l[k]]:=by simp[hk]
  generalize l[k]=v at *
  have hb:=bfb (v == n)
  rcases hb with hb|hb
  ·rw[hb,zbK]at ht
   ((have hd:=tv;repeat' first|(first|apply Zad|apply Zac|apply Zab)<;>intro hd<;>try simp only[hd]|simp(disch:=first|assumption|omega|simp only[nx]<;>omega|fail)only[hd,qr,qn,ZhA,↓YA,YY,sevalprocAttr,hr,hb])<;>try revert hd;refine ttr ?_)
   exact⟨(),ht,by exact HXT⟩
  ·rw[hb,Bool.true_or]at ht
   ((have hd:=tv;repeat' first|(first|apply Zad|apply Zac|apply Zab)<;>intro hd<;>try simp only[hd]|simp(disch:=first|assumption|omega|simp only[nx]<;>omega|fail)only[hd,qr,qn,ZhA,↓YA,YY,sevalprocAttr,hr,hb])<;>try revert hd;refine ttr ?_)
   refine ZbC (by rw[ht])
 ·(rintro u G ht hG hn;try simp only[nx]at hn)
  rw[zaT]at ht
  ((have hd:=tv;repeat' first|(first|apply Zad|apply Zac|apply Zab)<;>intro hd<;>try simp only[hd]|simp(disch:=first|assumption|omega|simp only[nx]<;>omega|fail)only[hd,qr,qn,ZhA,↓YA,YY,sevalprocAttr])<;>try revert hd;refine ttr ?_)
  refine ZbC (by rw[ht];rfl)
def ZeL (t:Tr) (above:Int):Bool :=
 if above<=0 then ((t.up.length:Int) == 0) else if (t.up.length:Int)≠(t.terms.length:Int)∨above > 200 then false else t.up.all (inU above)&&(List.range above.toNat).all fun i:Nat=>Zmy t.up (i:Int)
set_option maxHeartbeats 2000000 in
theorem ZiU (t:Tr) (above:Int) (H:Zaa) (hu:t.up.length<=1000000):Zay Tryz.prog 142 [.agg (eTr t),.i above] H (Pure H (.b (ZeL t above))):=by
 obtain⟨f0,f1,f2,f3,f4⟩:=Zba t
 by_cases h1:above<=0
 ·have d1:decide (above<=0)=true:=decide_eq_true h1
  have hv:ZeL t above=((t.up.length:Int) == 0):=by unfold ZeL;rw[if_pos h1]
  rw[hv]
  refine Zak hE cf142 (zac rfl) fun Q qr qn=>?_
  ((have hd:=tv;repeat' first|(first|apply Zad|apply Zac|apply Zab)<;>intro hd<;>try simp only[hd]|simp(disch:=first|assumption|omega|simp only[nx]<;>omega|fail)only[hd,qr,qn,ZcY,↓YA,YY,sevalprocAttr,d1,f3,zaa])<;>try revert hd;refine ttr ?_)
  refine ZbC (by rfl)
 have d1:decide (above<=0)=false:=decide_eq_false h1
 by_cases h2:(t.up.length:Int)≠(t.terms.length:Int)
 ·have d2:((t.up.length:Int) != (t.terms.length:Int))=true:=by simpa using h2
  have hv:ZeL t above=false:=by unfold ZeL;rw[if_neg h1,if_pos (.inl h2)]
  rw[hv]
  refine Zak hE cf142 (zac rfl) fun Q qr qn=>?_
  ((have hd:=tv;repeat' first|(first|apply Zad|apply Zac|apply Zab)<;>intro hd<;>try simp only[hd]|simp(disch:=first|assumption|omega|simp only[nx]<;>omega|fail)only[hd,qr,qn,ZcY,↓YA,YY,sevalprocAttr,d1,d2,f2,f3,zaa])<;>try revert hd;refine ttr ?_)
  refine ZbC (by rfl)
 have d2:((t.up.length:Int) != (t.terms.length:Int))=false:=by simpa using h2
 by_cases h3:above > 200
 ·have d3:decide (above > 200)=true:=decide_eq_true h3
  have hv:ZeL t above=false:=by unfold ZeL;rw[if_neg h1,if_pos (.inr h3)]
  rw[hv]
  refine Zak hE cf142 (zac rfl) fun Q qr qn=>?_
  ((have hd:=tv;repeat' first|(first|apply Zad|apply Zac|apply Zab)<;>intro hd<;>try simp only[hd]|simp(disch:=first|assumption|omega|simp only[nx]<;>omega|fail)only[hd,qr,qn,ZcY,↓YA,YY,sevalprocAttr,d1,d2,d3,f2,f3,zaa])<;>try revert hd;refine ttr ?_)
  refine ZbC (by rfl)
 have d3:decide (above > 200)=false:=decide_eq_false h3
 have hv:ZeL t above=(t.up.all (inU above)&&(List.range above.toNat).all fun i:Nat=>Zmy t.up (i:Int)):=by unfold ZeL;rw[if_neg h1,if_neg (fun h=>h.elim h2 h3)]
 rw[hv]
 obtain⟨A,hA⟩:∃A:Nat,above=(A:Int):=⟨above.toNat,by omega⟩
 subst hA
 rw[Int.toNat_natCast]
 have g1:(H.alloc (.cells (eTr t) 107)).get H.next=some (.cells (eTr t) 107):=Zaa.Zae
 have l1:H.next<(H.alloc (.cells (eTr t) 107)).next:=by simp
 have hx0:Zaa.Ext H (H.alloc (.cells (eTr t) 107)):=(Zaa.Ext.refl H).alloc
 generalize hT:(t.up.all (inU (A:Int))&&(List.range A).all fun i:Nat=>Zmy t.up (i:Int))=T
 refine Zak hE cf142 (zac rfl) fun Q qr qn=>?_
 ((have hd:=tv;repeat' first|(first|apply Zad|apply Zac|apply Zab)<;>intro hd<;>try simp only[hd]|simp(disch:=first|assumption|omega|simp only[nx]<;>omega|fail)only[hd,qr,qn,ZcY,↓YA,YY,sevalprocAttr,d1,d2,d3,f2,f3,zaa])<;>try revert hd;refine ttr ?_)
 generalize H.alloc (.cells (eTr t) 107)=G0 at *
 refine Zbs [1,2,26,27] (σ:=Unit) (fun(k:Nat) s=>(t.up.take k).all (inU (A:Int))=true) (fun k s=>[]) (fun k s=>[]) () (GStep.refl _ _) (by simp only[ZaA,Zav,Fr.put,Fr.get,↓reduceIte,Nat.reduceEqDiff];rfl) (by intro k s;rfl) (by intro k s;rfl) (by rfl) (by unfold maxLen;omega) ?_ (by simp only[ZaF]) (by simp only[ZaJ]) ?_ ?_
 ·rfl
 ·(rintro k u G hk ht hG hn;try simp only[nx]at hn)
  have hr:(rI t.up)[k]?=some [.i t.up[k]]:=by simp[hk]
  have hsn:=Zhg (p:=inU (A:Int)) hk
  rw[ht,za2]at hsn
  have hbad:inU (A:Int) t.up[k]=false->false=T:=fun h=>by rw[← hT,Zjc hk h];rfl
  generalize t.up[k]=v at *
  have e1:=bfb (decide (v<0))
  have e2:=bfb (decide (v≥(A:Int)))
  rcases e1 with e1|e1
  ·rcases e2 with e2|e2
   ·((have hd:=tv;repeat' first|(first|apply Zad|apply Zac|apply Zab)<;>intro hd<;>try simp only[hd]|simp(disch:=first|assumption|omega|simp only[nx]<;>omega|fail)only[hd,qr,qn,ZcY,↓YA,YY,sevalprocAttr,hr,e1,e2])<;>try revert hd;refine ttr ?_)
    exact⟨(),by rw[hsn];unfold inU;rw[e1,e2];rfl,by exact HXT⟩
   ·((have hd:=tv;repeat' first|(first|apply Zad|apply Zac|apply Zab)<;>intro hd<;>try simp only[hd]|simp(disch:=first|assumption|omega|simp only[nx]<;>omega|fail)only[hd,qr,qn,ZcY,↓YA,YY,sevalprocAttr,hr,e1,e2])<;>try revert hd;refine ttr ?_)
    exact ZbC (hbad (by unfold inU;rw[e1,e2];rfl)) (by exact AXT)
  ·((have hd:=tv;repeat' first|(first|apply Zad|apply Zac|apply Zab)<;>intro hd<;>try simp only[hd]|simp(disch:=first|assumption|omega|simp only[nx]<;>omega|fail)only[hd,qr,qn,ZcY,↓YA,YY,sevalprocAttr,hr,e1])<;>try revert hd;refine ttr ?_)
   exact ZbC (hbad (by unfold inU;rw[e1];rfl)) (by exact AXT)
 ·(rintro u G ht hG hn;try simp only[nx]at hn)
  rw[zaN]at ht
  rw[ht,za2]at hT
  have hxG:Zaa.Ext H G:=hG.ZdB hx0 (by simp)
  have gG:=(hG.g _ l1 (by simp)).trans g1
  have lG:=Zaa.lt gG
  ((have hd:=tv;repeat' first|(first|apply Zad|apply Zac|apply Zab)<;>intro hd<;>try simp only[hd]|simp(disch:=first|assumption|omega|simp only[nx]<;>omega|fail)only[hd,qr,qn,ZcY,↓YA,YY,sevalprocAttr])<;>try revert hd;refine ttr ?_)
  refine Zcw [1,2] (σ:=Nat) (fun s=>s<=A/\(List.range s).all (fun i:Nat=>Zmy t.up (i:Int))=true) (fun s=>A - s) (fun s=>[(7,.i (s:Int))]) (fun s=>[]) 0 (GStep.refl _ _) (by simp only[ZaA,Zav,Fr.put,Fr.get,↓reduceIte,Nat.reduceEqDiff];rfl) ?_ (by simp only[ZaF,ZaX,Fr.put,Fr.get,↓reduceIte,Nat.reduceEqDiff,and_self]<;>simp) (by simp only[ZaJ]) ?_
  ·exact⟨zaG _,rfl⟩
  ·(rintro i G2 ⟨h4,h5⟩ hG2 hn2;try simp only[nx]at hn2)
   have gG2:=(hG2.g _ lG (by simp)).trans gG
   have lG2:=Zaa.lt gG2
   have hxG2:Zaa.Ext H G2:=hG2.ZdB hxG (by simp)
   by_cases c:i<A
   ·have d4:decide ((i:Int)<(A:Int))=true:=decide_eq_true (by omega)
    have hw:IntKind.i64.wrap ((i:Int)+1)=((i+1:Nat):Int):=by rw[Zaw (by omega) (by omega)];omega
    have hI:=fun G=>in_sound .no t.up (i:Int) G hu
    have hb:=bfb (Zmy t.up (i:Int))
    rcases hb with hb|hb
    ·have hbad:false=T:=by
      rw[← hT]
      refine Eq.symm (List.all_eq_false.2 ⟨i,by simpa using c,by simp[hb]⟩)
     rw[hb]at hI
     ((have hd:=tv;repeat' first|(first|apply Zad|apply Zac|apply Zab)<;>intro hd<;>try simp only[hd]|simp(disch:=first|assumption|omega|simp only[nx]<;>omega|fail)only[hd,qr,qn,ZcY,↓YA,YY,sevalprocAttr,d4,gG2,f3])<;>try revert hd;refine ttr ?_)
     (refine Zap.use (hI _) ?_;rintro _ _ ⟨rfl,k1,rfl⟩)
     ((have hd:=tv;repeat' first|(first|apply Zad|apply Zac|apply Zab)<;>intro hd<;>try simp only[hd]|simp(disch:=first|assumption|omega|simp only[nx]<;>omega|fail)only[hd,qr,qn,ZcY,↓YA,YY,sevalprocAttr])<;>try revert hd;refine ttr ?_)
     exact ZbC hbad (by exact AXT)
    ·rw[hb]at hI
     ((have hd:=tv;repeat' first|(first|apply Zad|apply Zac|apply Zab)<;>intro hd<;>try simp only[hd]|simp(disch:=first|assumption|omega|simp only[nx]<;>omega|fail)only[hd,qr,qn,ZcY,↓YA,YY,sevalprocAttr,d4,gG2,f3])<;>try revert hd;refine ttr ?_)
     (refine Zap.use (hI _) ?_;rintro _ _ ⟨rfl,k1,rfl⟩)
     ((have hd:=tv;repeat' first|(first|apply Zad|apply Zac|apply Zab)<;>intro hd<;>try simp only[hd]|simp(disch:=first|assumption|omega|simp only[nx]<;>omega|fail)only[hd,qr,qn,ZcY,↓YA,YY,sevalprocAttr,hw])<;>try revert hd;refine ttr ?_)
     exact⟨i+1,⟨by omega,by rw[List.range_succ,List.all_append,h5];simp[hb]⟩,by omega,rfl,hG2.bump⟩
   ·have d4:decide ((i:Int)<(A:Int))=false:=decide_eq_false (by omega)
    have hAi:i=A:=by omega
    subst hAi
    rw[h5]at hT
    ((have hd:=tv;repeat' first|(first|apply Zad|apply Zac|apply Zab)<;>intro hd<;>try simp only[hd]|simp(disch:=first|assumption|omega|simp only[nx]<;>omega|fail)only[hd,qr,qn,ZcY,↓YA,YY,sevalprocAttr,d4])<;>try revert hd;refine ttr ?_)
    exact ZbC hT hxG2
theorem ZmF:∀(A:Nat) (K:List Int),K.Nodup->(∀x∈K,0<=x/\x<(A:Int))->K.length<=A/\(K.length=A ↔ ∀i:Nat,i<A->(i:Int)∈K)
 | 0,K,_,h=>by
  have:K=[]:=by
   cases K with
   | nil=>rfl
   | cons a r=>have:=h a zah;omega
  subst this
  simp
 | A+1,K,hn,h=>by
  by_cases c:(A:Int)∈K
  ·have h1:=List.length_erase_of_mem c
   have hpos:=List.length_pos_of_mem c
   obtain⟨k1,k2⟩:=ZmF A (K.erase (A:Int)) (hn.erase _) (fun x hx=>by
    obtain⟨e1,e2⟩:=(hn.mem_erase_iff).1 hx
    have:=h x e2
    omega)
   refine⟨by omega,fun e i hi=>?_,fun hall=>?_⟩
   ·by_cases ci:i=A
    ·subst ci;exact c
    ·exact((hn.mem_erase_iff).1 (k2.1 (by omega) i (by omega))).2
   ·have:=k2.2 (fun i hi=>(hn.mem_erase_iff).2 ⟨by omega,hall i (by omega)⟩)
    omega
  ·obtain⟨k1,_⟩:=ZmF A K hn (fun x hx=>by
    have h1:=h x hx
    have:x≠(A:Int):=fun e=>c (e ▸ hx)
    omega)
   exact⟨by omega,fun e=>by omega,fun hall=>absurd (hall A (by omega)) c⟩
theorem ZgN {K V:Type} [DecidableEq K] (k:K) (v:V):∀M:List (K×V),(ZbU k v M).map (·.1)=if k∈M.map (·.1) then M.map (·.1) else M.map (·.1)++[k]
 | []=>by simp[ZbU]
 | (k',u) :: M=>by
  have ih:=ZgN k v M
  unfold ZbU
  by_cases c:k=k'
  ·subst c;simp
  ·rw[if_neg c,zao,ih]
   by_cases c2:k∈M.map (·.1)
   ·rw[if_pos c2,if_pos (by rw[zao];exact zae _ c2),zao]
   ·rw[if_neg c2,if_neg (by rw[zao];intro hm;rcases zal.1 hm with h|h;exact c h;exact c2 h),zao,List.cons_append]
theorem ZmS (l:List Int):((Zg2 l).map (·.1)).Nodup/\∀x,x∈(Zg2 l).map (·.1) ↔ x∈l:=by
 suffices ∀(l:List Int) (M:List (Int×Int)),(M.map (·.1)).Nodup->((l.foldl (fun M n=>ZbU n 1 M) M).map (·.1)).Nodup/\∀x,x∈(l.foldl (fun M n=>ZbU n 1 M) M).map (·.1) ↔ x∈M.map (·.1)∨x∈l from by
  have:=this l [] (by simp)
  simpa [Zg2] using this
 intro l
 induction l with
 | nil=>intro M hM;simp[hM]
 | cons a r ih =>
  intro M hM
  rw[List.foldl_cons]
  have hk:=ZgN a (1:Int) M
  have hnd:((ZbU a (1:Int) M).map (·.1)).Nodup:=by
   rw[hk]
   split
   ·exact hM
   ·rename_i h
    rw[List.nodup_append]
    exact⟨hM,by simp,fun x hx y hy e=>by simp at hy;subst e hy;exact h hx⟩
  obtain⟨h1,h2⟩:=ih _ hnd
  refine⟨h1,fun x=>?_⟩
  rw[h2,hk]
  split
  ·rename_i h
   constructor
   ·rintro(h3|h3)
    ·exact .inl h3
    ·exact .inr (zae _ h3)
   ·rintro(h3|h3)
    ·exact .inl h3
    ·rcases zal.1 h3 with rfl|h3
     ·exact .inl h
     ·exact .inr h3
  ·constructor
   ·rintro(h3|h3)
    ·rcases zaz.1 h3 with h3|h3
     ·exact .inl h3
     ·rw[zas.1 h3];exact .inr zah
    ·exact .inr (zae _ h3)
   ·rintro(h3|h3)
    ·exact .inl (zbw _ h3)
    ·rcases zal.1 h3 with rfl|h3
     ·exact .inl (zbp _ (by simp))
     ·exact .inr h3
theorem ZjD (l:List Int) (n:Int):Zmy l n=true ↔ n∈l:=by
 unfold Zmy
 rw[List.any_eq_true]
 constructor
 ·rintro⟨x,hx,h⟩;have:x=n:=by simpa using h
  exact this ▸ hx
 ·intro h;exact⟨n,h,by simp⟩
theorem treeR_eq {t:Tr} {above:Int} (hm:t.terms.length<=200):ZeL t above=ZdD t.up t.terms.length above:=by
 unfold ZeL ZdD
 by_cases h1:above<=0
 ·rw[if_pos h1,if_pos h1]
 rw[if_neg h1,if_neg h1]
 by_cases h2:(t.up.length:Int)≠(t.terms.length:Int)
 ·rw[if_pos (.inl h2),if_pos h2]
 rw[if_neg h2]
 obtain⟨A,hA⟩:∃A:Nat,above=(A:Int):=⟨above.toNat,by omega⟩
 subst hA
 obtain⟨n1,n2⟩:=ZmS t.up
 have hlen:(Zg2 t.up).length=((Zg2 t.up).map (·.1)).length:=by rw[zaa]
 have hle:=ZjE t.up
 by_cases h3:(A:Int) > 200
 ·rw[if_pos (.inr h3)]
  have:(((Zg2 t.up).length:Int) == (A:Int))=false:=by rw[beq_eq_false_iff_ne];omega
  rw[this,Bool.and_false]
 ·rw[if_neg (fun h=>h.elim h2 h3),Int.toNat_natCast]
  by_cases h4:t.up.all (inU (A:Int))=true
  ·rw[h4,za2,za2,zbc]
   have hin:∀x∈(Zg2 t.up).map (·.1),0<=x/\x<(A:Int):=fun x hx=>by
    have:=zaX.1 h4 x ((n2 x).1 hx)
    unfold inU at this
    simp at this
    omega
   obtain⟨_,k2⟩:=ZmF A _ n1 hin
   rw[beq_iff_eq,hlen,zaX]
   constructor
   ·intro h
    have:=k2.2 fun i hi=>(n2 _).2 ((ZjD _ _).1 (h i (by simpa using hi)))
    omega
   ·intro h i hi
    exact(ZjD _ _).2 ((n2 _).1 (k2.1 (by omega) i (by simpa using hi)))
  ·have h5:t.up.all (inU (A:Int))=false:=by simpa using h4
   rw[h5,Bool.false_and,Bool.false_and]
set_option maxHeartbeats 2000000 in
theorem Zjl (t:Tr) (above:Int) (H:Zaa) (hu:t.up.length<=1000000):Zay Tryz.prog 100 [.agg (eTr t),.i above] H (Pure H (.i (ZbO t above))):=by
 obtain⟨f0,f1,f2,f3,f4⟩:=Zba t
 have hN:=fun G=>Zd5 t.name G
 have hb:=bfb (ZbK t.name)
 rcases hb with hb|hb
 ·have hv:ZbO t above=2:=by rw[ZbO,if_pos hb]
  rw[hv]
  rw[hb]at hN
  refine Zak hE ZkE (zac rfl) fun Q qr qn=>?_
  ((have hd:=tv;repeat' first|(first|apply Zad|apply Zac|apply Zab)<;>intro hd<;>try simp only[hd]|simp(disch:=first|assumption|omega|simp only[nx]<;>omega|fail)only[hd,qr,qn,Zck,↓YA,YY,sevalprocAttr,f1])<;>try revert hd;refine ttr ?_)
  (refine Zap.use (hN _) ?_;rintro _ _ ⟨rfl,k1,rfl⟩)
  ((have hd:=tv;repeat' first|(first|apply Zad|apply Zac|apply Zab)<;>intro hd<;>try simp only[hd]|simp(disch:=first|assumption|omega|simp only[nx]<;>omega|fail)only[hd,qr,qn,Zck,↓YA,YY,sevalprocAttr])<;>try revert hd;refine ttr ?_)
  refine Zaz (by rfl)
 rw[hb]at hN
 have e0:¬ZbK t.name=false:=by rw[hb];decide
 by_cases h1:(t.terms.length:Int)<1
 ·have d1:decide ((t.terms.length:Int)<1)=true:=decide_eq_true h1
  have hv:ZbO t above=5:=by rw[ZbO,if_neg e0,if_pos (.inl h1)]
  rw[hv]
  refine Zak hE ZkE (zac rfl) fun Q qr qn=>?_
  ((have hd:=tv;repeat' first|(first|apply Zad|apply Zac|apply Zab)<;>intro hd<;>try simp only[hd]|simp(disch:=first|assumption|omega|simp only[nx]<;>omega|fail)only[hd,qr,qn,Zck,↓YA,YY,sevalprocAttr,f1])<;>try revert hd;refine ttr ?_)
  (refine Zap.use (hN _) ?_;rintro _ _ ⟨rfl,k1,rfl⟩)
  ((have hd:=tv;repeat' first|(first|apply Zad|apply Zac|apply Zab)<;>intro hd<;>try simp only[hd]|simp(disch:=first|assumption|omega|simp only[nx]<;>omega|fail)only[hd,qr,qn,Zck,↓YA,YY,sevalprocAttr,f2,d1,zaa])<;>try revert hd;refine ttr ?_)
  refine Zaz (by rfl)
 have d1:decide ((t.terms.length:Int)<1)=false:=decide_eq_false h1
 by_cases h2:(t.terms.length:Int) > 200
 ·have d2:decide ((t.terms.length:Int) > 200)=true:=decide_eq_true h2
  have hv:ZbO t above=5:=by rw[ZbO,if_neg e0,if_pos (.inr h2)]
  rw[hv]
  refine Zak hE ZkE (zac rfl) fun Q qr qn=>?_
  ((have hd:=tv;repeat' first|(first|apply Zad|apply Zac|apply Zab)<;>intro hd<;>try simp only[hd]|simp(disch:=first|assumption|omega|simp only[nx]<;>omega|fail)only[hd,qr,qn,Zck,↓YA,YY,sevalprocAttr,f1])<;>try revert hd;refine ttr ?_)
  (refine Zap.use (hN _) ?_;rintro _ _ ⟨rfl,k1,rfl⟩)
  ((have hd:=tv;repeat' first|(first|apply Zad|apply Zac|apply Zab)<;>intro hd<;>try simp only[hd]|simp(disch:=first|assumption|omega|simp only[nx]<;>omega|fail)only[hd,qr,qn,Zck,↓YA,YY,sevalprocAttr,f2,d1,d2,zaa])<;>try revert hd;refine ttr ?_)
  refine Zaz (by rfl)
 have d2:decide ((t.terms.length:Int) > 200)=false:=decide_eq_false h2
 have e1:¬((t.terms.length:Int)<1∨(t.terms.length:Int) > 200):=fun h=>h.elim h1 h2
 have hR:=fun G=>Zki .no t.terms G (by omega)
 by_cases h3:Zgt none t.terms≠0
 ·have d3:(Zgt none t.terms != 0)=true:=by simpa using h3
  have hv:ZbO t above=Zgt none t.terms:=by rw[ZbO,if_neg e0,if_neg e1,if_pos h3]
  rw[hv]
  refine Zak hE ZkE (zac rfl) fun Q qr qn=>?_
  ((have hd:=tv;repeat' first|(first|apply Zad|apply Zac|apply Zab)<;>intro hd<;>try simp only[hd]|simp(disch:=first|assumption|omega|simp only[nx]<;>omega|fail)only[hd,qr,qn,Zck,↓YA,YY,sevalprocAttr,f1])<;>try revert hd;refine ttr ?_)
  (refine Zap.use (hN _) ?_;rintro _ _ ⟨rfl,k1,rfl⟩)
  ((have hd:=tv;repeat' first|(first|apply Zad|apply Zac|apply Zab)<;>intro hd<;>try simp only[hd]|simp(disch:=first|assumption|omega|simp only[nx]<;>omega|fail)only[hd,qr,qn,Zck,↓YA,YY,sevalprocAttr,f2,d1,d2,zaa])<;>try revert hd;refine ttr ?_)
  (refine Zap.use (hR _) ?_;rintro _ _ ⟨rfl,k2,rfl⟩)
  ((have hd:=tv;repeat' first|(first|apply Zad|apply Zac|apply Zab)<;>intro hd<;>try simp only[hd]|simp(disch:=first|assumption|omega|simp only[nx]<;>omega|fail)only[hd,qr,qn,Zck,↓YA,YY,sevalprocAttr,d3])<;>try revert hd;refine ttr ?_)
  refine Zaz (by rfl)
 have d3:(Zgt none t.terms != 0)=false:=by simpa using h3
 have hv:ZbO t above=if ZeL t above=false then 14 else 0:=by rw[ZbO,if_neg e0,if_neg e1,if_neg h3,treeR_eq (by omega)]
 rw[hv]
 have hT:=fun G=>ZiU t above G hu
 have hb4:=bfb (ZeL t above)
 rcases hb4 with hb4|hb4
 ·rw[hb4]at hT
  rw[hb4,if_pos rfl]
  refine Zak hE ZkE (zac rfl) fun Q qr qn=>?_
  ((have hd:=tv;repeat' first|(first|apply Zad|apply Zac|apply Zab)<;>intro hd<;>try simp only[hd]|simp(disch:=first|assumption|omega|simp only[nx]<;>omega|fail)only[hd,qr,qn,Zck,↓YA,YY,sevalprocAttr,f1])<;>try revert hd;refine ttr ?_)
  (refine Zap.use (hN _) ?_;rintro _ _ ⟨rfl,k1,rfl⟩)
  ((have hd:=tv;repeat' first|(first|apply Zad|apply Zac|apply Zab)<;>intro hd<;>try simp only[hd]|simp(disch:=first|assumption|omega|simp only[nx]<;>omega|fail)only[hd,qr,qn,Zck,↓YA,YY,sevalprocAttr,f2,d1,d2,zaa])<;>try revert hd;refine ttr ?_)
  (refine Zap.use (hR _) ?_;rintro _ _ ⟨rfl,k2,rfl⟩)
  ((have hd:=tv;repeat' first|(first|apply Zad|apply Zac|apply Zab)<;>intro hd<;>try simp only[hd]|simp(disch:=first|assumption|omega|simp only[nx]<;>omega|fail)only[hd,qr,qn,Zck,↓YA,YY,sevalprocAttr,d3,f0,f4])<;>try revert hd;refine ttr ?_)
  (refine Zap.use (hT _) ?_;rintro _ _ ⟨rfl,k3,rfl⟩)
  ((have hd:=tv;repeat' first|(first|apply Zad|apply Zac|apply Zab)<;>intro hd<;>try simp only[hd]|simp(disch:=first|assumption|omega|simp only[nx]<;>omega|fail)only[hd,qr,qn,Zck,↓YA,YY,sevalprocAttr])<;>try revert hd;refine ttr ?_)
  refine Zaz (by rfl)
 ·rw[hb4]at hT
  rw[hb4,if_neg (by decide)]
  refine Zak hE ZkE (zac rfl) fun Q qr qn=>?_
  ((have hd:=tv;repeat' first|(first|apply Zad|apply Zac|apply Zab)<;>intro hd<;>try simp only[hd]|simp(disch:=first|assumption|omega|simp only[nx]<;>omega|fail)only[hd,qr,qn,Zck,↓YA,YY,sevalprocAttr,f1])<;>try revert hd;refine ttr ?_)
  (refine Zap.use (hN _) ?_;rintro _ _ ⟨rfl,k1,rfl⟩)
  ((have hd:=tv;repeat' first|(first|apply Zad|apply Zac|apply Zab)<;>intro hd<;>try simp only[hd]|simp(disch:=first|assumption|omega|simp only[nx]<;>omega|fail)only[hd,qr,qn,Zck,↓YA,YY,sevalprocAttr,f2,d1,d2,zaa])<;>try revert hd;refine ttr ?_)
  (refine Zap.use (hR _) ?_;rintro _ _ ⟨rfl,k2,rfl⟩)
  ((have hd:=tv;repeat' first|(first|apply Zad|apply Zac|apply Zab)<;>intro hd<;>try simp only[hd]|simp(disch:=first|assumption|omega|simp only[nx]<;>omega|fail)only[hd,qr,qn,Zck,↓YA,YY,sevalprocAttr,d3,f0,f4])<;>try revert hd;refine ttr ?_)
  (refine Zap.use (hT _) ?_;rintro _ _ ⟨rfl,k3,rfl⟩)
  ((have hd:=tv;repeat' first|(first|apply Zad|apply Zac|apply Zab)<;>intro hd<;>try simp only[hd]|simp(disch:=first|assumption|omega|simp only[nx]<;>omega|fail)only[hd,qr,qn,Zck,↓YA,YY,sevalprocAttr])<;>try revert hd;refine ttr ?_)
  refine Zaz (by rfl)
theorem ZhJ (d:Dm) (k:Nat) (H:Zaa) (hk:k<d.tiers.length) (hl:d.tiers.length<=1000000):Zay Tryz.prog 101 [.agg (eDm d),.i (k:Int)] H (Pure H (.i (ZbR (d.tiers.drop (k+1))))):=by
 obtain⟨f0,f1,f2,f3⟩:=Za7 d
 have hw:IntKind.i64.wrap ((k:Int)+1)=((k+1:Nat):Int):=by rw[show(k:Int)+1=((k+1:Nat):Int) by omega];exact Zaw (by omega) (by omega)
 refine Zak hE cf101 (zac rfl) fun Q qr qn=>?_
 by_cases h:k+1<d.tiers.length
 ·have d1:decide (((k+1:Nat):Int)≥(d.tiers.length:Int))=false:=by simp;omega
  rw[zan h]at qr qn
  have hg:=Zdh h
  obtain⟨g0,g1,g2,g3,g4⟩:=Zba d.tiers[k+1]
  ((have hd:=tv;repeat' first|(first|apply Zad|apply Zac|apply Zab)<;>intro hd<;>try simp only[hd]|simp(disch:=first|assumption|omega|simp only[nx]<;>omega|fail)only[hd,qr,qn,ZmV,↓YA,YY,sevalprocAttr,f2,hw,d1,zaa,h,g0,g2])<;>try revert hd;refine ttr ?_)
  refine Zaz (by rfl)
 ·have d1:decide (((k+1:Nat):Int)≥(d.tiers.length:Int))=true:=by simp;omega
  rw[zbB (by omega)]at qr qn
  ((have hd:=tv;repeat' first|(first|apply Zad|apply Zac|apply Zab)<;>intro hd<;>try simp only[hd]|simp(disch:=first|assumption|omega|simp only[nx]<;>omega|fail)only[hd,qr,qn,ZmV,↓YA,YY,sevalprocAttr,f2,hw,d1,zaa])<;>try revert hd;refine ttr ?_)
  refine Zaz (by rfl)
theorem HX.two {O:List (Nat×Zb3)} {H G G1:Zaa} (h:HX O H G) (k:HX [] G G1):HX O H G1 :=
 ⟨zaQ h.n k.n,fun p hp=>(k.g _ (Zaa.lt (h.o p hp)) (by simp)).trans (h.o p hp),fun j hj hne=>(k.g _ (zbk hj h.n) (by simp)).trans (h.g j hj hne)⟩
theorem Zmg (seen:List Tx) (t:Tr) (r:List Tr):Zkb seen (t :: r)=if ZbO t (ZbR r)≠0 then ZbO t (ZbR r) else if t.name∈seen then 11 else Zkb (seen++[t.name]) r:=by simp only[Zkb]
set_option maxHeartbeats 4000000 in
theorem ZkC (d:Dm) (H:Zaa) (hs:∀t∈d.tiers,Zgr t):Zay Tryz.prog 54 [.agg (eDm d)] H (Pure H (.i (Zdv d))):=by
 obtain⟨f0,f1,f2,f3⟩:=Za7 d
 have hN:=fun G=>Zd5 d.name G
 have hb:=bfb (ZbK d.name)
 rcases hb with hb|hb
 ·have hv:Zdv d=2:=by rw[Zdv,if_pos hb]
  rw[hv]
  rw[hb]at hN
  refine Zak hE cf54 (zac rfl) fun Q qr qn=>?_
  ((have hd:=tv;repeat' first|(first|apply Zad|apply Zac|apply Zab)<;>intro hd<;>try simp only[hd]|simp(disch:=first|assumption|omega|simp only[nx]<;>omega|fail)only[hd,qr,qn,Zdn,↓YA,YY,sevalprocAttr,f1])<;>try revert hd;refine ttr ?_)
  (refine Zap.use (hN _) ?_;rintro _ _ ⟨rfl,k1,rfl⟩)
  ((have hd:=tv;repeat' first|(first|apply Zad|apply Zac|apply Zab)<;>intro hd<;>try simp only[hd]|simp(disch:=first|assumption|omega|simp only[nx]<;>omega|fail)only[hd,qr,qn,Zdn,↓YA,YY,sevalprocAttr])<;>try revert hd;refine ttr ?_)
  refine Zaz (by rfl)
 rw[hb]at hN
 have e0:¬ZbK d.name=false:=by rw[hb];decide
 by_cases h1:(d.tiers.length:Int)<1
 ·have d1:decide ((d.tiers.length:Int)<1)=true:=decide_eq_true h1
  have hv:Zdv d=5:=by rw[Zdv,if_neg e0,if_pos (.inl h1)]
  rw[hv]
  refine Zak hE cf54 (zac rfl) fun Q qr qn=>?_
  ((have hd:=tv;repeat' first|(first|apply Zad|apply Zac|apply Zab)<;>intro hd<;>try simp only[hd]|simp(disch:=first|assumption|omega|simp only[nx]<;>omega|fail)only[hd,qr,qn,Zdn,↓YA,YY,sevalprocAttr,f1])<;>try revert hd;refine ttr ?_)
  (refine Zap.use (hN _) ?_;rintro _ _ ⟨rfl,k1,rfl⟩)
  ((have hd:=tv;repeat' first|(first|apply Zad|apply Zac|apply Zab)<;>intro hd<;>try simp only[hd]|simp(disch:=first|assumption|omega|simp only[nx]<;>omega|fail)only[hd,qr,qn,Zdn,↓YA,YY,sevalprocAttr,f2,d1,zaa])<;>try revert hd;refine ttr ?_)
  refine Zaz (by rfl)
 have d1:decide ((d.tiers.length:Int)<1)=false:=decide_eq_false h1
 by_cases h2:(d.tiers.length:Int) > 4
 ·have d2:decide ((d.tiers.length:Int) > 4)=true:=decide_eq_true h2
  have hv:Zdv d=5:=by rw[Zdv,if_neg e0,if_pos (.inr h2)]
  rw[hv]
  refine Zak hE cf54 (zac rfl) fun Q qr qn=>?_
  ((have hd:=tv;repeat' first|(first|apply Zad|apply Zac|apply Zab)<;>intro hd<;>try simp only[hd]|simp(disch:=first|assumption|omega|simp only[nx]<;>omega|fail)only[hd,qr,qn,Zdn,↓YA,YY,sevalprocAttr,f1])<;>try revert hd;refine ttr ?_)
  (refine Zap.use (hN _) ?_;rintro _ _ ⟨rfl,k1,rfl⟩)
  ((have hd:=tv;repeat' first|(first|apply Zad|apply Zac|apply Zab)<;>intro hd<;>try simp only[hd]|simp(disch:=first|assumption|omega|simp only[nx]<;>omega|fail)only[hd,qr,qn,Zdn,↓YA,YY,sevalprocAttr,f2,d1,d2,zaa])<;>try revert hd;refine ttr ?_)
  refine Zaz (by rfl)
 have d2:decide ((d.tiers.length:Int) > 4)=false:=decide_eq_false h2
 have hv:Zdv d=Zkb [] d.tiers:=by rw[Zdv,if_neg e0,if_neg (fun h=>h.elim h1 h2)]
 rw[hv]
 generalize hT:Zkb [] d.tiers=T
 have g1:(H.alloc (.cells (eDm d) 102)).get H.next=some (.cells (eDm d) 102):=Zaa.Zae
 refine Zak hE cf54 (zac rfl) fun Q qr qn=>?_
 ((have hd:=tv;repeat' first|(first|apply Zad|apply Zac|apply Zab)<;>intro hd<;>try simp only[hd]|simp(disch:=first|assumption|omega|simp only[nx]<;>omega|fail)only[hd,qr,qn,Zdn,↓YA,YY,sevalprocAttr,f1])<;>try revert hd;refine ttr ?_)
 (refine Zap.use (hN _) ?_;rintro _ _ ⟨rfl,k1,rfl⟩)
 ((have hd:=tv;repeat' first|(first|apply Zad|apply Zac|apply Zab)<;>intro hd<;>try simp only[hd]|simp(disch:=first|assumption|omega|simp only[nx]<;>omega|fail)only[hd,qr,qn,Zdn,↓YA,YY,sevalprocAttr,f2,d1,d2,zaa])<;>try revert hd;refine ttr ?_)
 have hx0:Zaa.Ext H ((H.alloc (.cells (eDm d) 102)).bump k1):=by exact AXT
 have gg:((H.alloc (.cells (eDm d) 102)).bump k1).get H.next=some (.cells (eDm d) 102):=g1
 generalize (H.alloc (.cells (eDm d) 102)).bump k1=G0 at *
 have l1:=Zaa.lt gg
 refine Zbs [1,22] (σ:=Unit) (fun(k:Nat) s=>T=Zkb ((d.tiers.take k).map (·.name)) (d.tiers.drop k)) (fun k s=>[]) (fun k s=>[]) () (GStep.refl _ _) (by simp only[ZaA,Zav,Fr.put,Fr.get,↓reduceIte,Nat.reduceEqDiff];rfl) (by intro k s;rfl) (by intro k s;rfl) (by rfl) (by unfold maxLen;omega) ?_ (by simp only[ZaF]) (by simp only[ZaJ]) ?_ ?_
 ·exact hT.symm
 ·(rintro k u G hk ht hG hn;try simp only[nx]at hn)
  have hxG:Zaa.Ext H G:=hG.ZdB hx0 (by simp)
  have gG:=(hG.g _ l1 (by simp)).trans gg
  have lG:=Zaa.lt gG
  rw[zan hk,Zmg]at ht
  have hr:=Zdh hk
  obtain⟨t0,t1,t2,t3,t4⟩:=Zba d.tiers[k]
  have hA:=fun G=>ZhJ d k G hk (by omega)
  have hW:=fun G=>Zjl d.tiers[k] (ZbR (d.tiers.drop (k+1))) G (hs _ (zam hk))
  by_cases c1:ZbO d.tiers[k] (ZbR (d.tiers.drop (k+1)))≠0
  ·have d3:(ZbO d.tiers[k] (ZbR (d.tiers.drop (k+1))) != 0)=true:=by simpa using c1
   rw[if_pos c1]at ht
   ((have hd:=tv;repeat' first|(first|apply Zad|apply Zac|apply Zab)<;>intro hd<;>try simp only[hd]|simp(disch:=first|assumption|omega|simp only[nx]<;>omega|fail)only[hd,qr,qn,Zdn,↓YA,YY,sevalprocAttr,gG,f0,f2,f3,hr,t0,t4,hk,zaa])<;>try revert hd;refine ttr ?_)
   (refine Zap.use (hA _) ?_;rintro _ _ ⟨rfl,k2,rfl⟩)
   ((have hd:=tv;repeat' first|(first|apply Zad|apply Zac|apply Zab)<;>intro hd<;>try simp only[hd]|simp(disch:=first|assumption|omega|simp only[nx]<;>omega|fail)only[hd,qr,qn,Zdn,↓YA,YY,sevalprocAttr,gG,f0,f2,f3,hr,t0,t4,hk,zaa])<;>try revert hd;refine ttr ?_)
   (refine Zap.use (hW _) ?_;rintro _ _ ⟨rfl,k3,rfl⟩)
   ((have hd:=tv;repeat' first|(first|apply Zad|apply Zac|apply Zab)<;>intro hd<;>try simp only[hd]|simp(disch:=first|assumption|omega|simp only[nx]<;>omega|fail)only[hd,qr,qn,Zdn,↓YA,YY,sevalprocAttr,d3])<;>try revert hd;refine ttr ?_)
   refine Zaz (by rw[ht])
  ·have d3:(ZbO d.tiers[k] (ZbR (d.tiers.drop (k+1))) != 0)=false:=by simpa using c1
   rw[if_neg c1]at ht
   ((have hd:=tv;repeat' first|(first|apply Zad|apply Zac|apply Zab)<;>intro hd<;>try simp only[hd]|simp(disch:=first|assumption|omega|simp only[nx]<;>omega|fail)only[hd,qr,qn,Zdn,↓YA,YY,sevalprocAttr,gG,f0,f2,f3,hr,t0,t4,hk,zaa])<;>try revert hd;refine ttr ?_)
   (refine Zap.use (hA _) ?_;rintro _ _ ⟨rfl,k2,rfl⟩)
   ((have hd:=tv;repeat' first|(first|apply Zad|apply Zac|apply Zab)<;>intro hd<;>try simp only[hd]|simp(disch:=first|assumption|omega|simp only[nx]<;>omega|fail)only[hd,qr,qn,Zdn,↓YA,YY,sevalprocAttr,gG,f0,f2,f3,hr,t0,t4,hk,zaa])<;>try revert hd;refine ttr ?_)
   (refine Zap.use (hW _) ?_;rintro _ _ ⟨rfl,k3,rfl⟩)
   ((have hd:=tv;repeat' first|(first|apply Zad|apply Zac|apply Zab)<;>intro hd<;>try simp only[hd]|simp(disch:=first|assumption|omega|simp only[nx]<;>omega|fail)only[hd,qr,qn,Zdn,↓YA,YY,sevalprocAttr,d3])<;>try revert hd;refine ttr ?_)
   refine Zcw [1,3,22,23] (σ:=Nat) (fun s=>s<=k/\∀t∈d.tiers.take s,t.name≠d.tiers[k].name) (fun s=>k - s) (fun s=>[(5,.i (s:Int))]) (fun s=>[]) 0 (GStep.refl _ _) (by simp only[ZaA,Zav,Fr.put,Fr.get,↓reduceIte,Nat.reduceEqDiff];rfl) ?_ (by simp only[ZaF,ZaX,Fr.put,Fr.get,↓reduceIte,Nat.reduceEqDiff,and_self]<;>simp) (by simp only[ZaJ]) ?_
   ·exact⟨zaG _,by simp⟩
   ·(rintro i G2 ⟨h4,h5⟩ hG2 hn2;try simp only[nx]at hn2)
    have gG2:=(hG2.g _ (by simp only[nx];omega) (by simp)).trans gG
    have lG2:=Zaa.lt gG2
    have hxG2:Zaa.Ext H G2:=hG2.ZdB (hxG.bump.bump) (by simp)
    by_cases c:i<k
    ·have d4:decide ((i:Int)<(k:Int))=true:=decide_eq_true (by omega)
     have hil:i<d.tiers.length:=by omega
     have hri:=Zdh hil
     obtain⟨i0,i1,i2,i3,i4⟩:=Zba d.tiers[i]
     have hi0:(0:Int)<=(i:Int):=by omega
     have hw:IntKind.i64.wrap ((i:Int)+1)=((i+1:Nat):Int):=by rw[Zaw (by omega) (by omega)];omega
     by_cases c2:d.tiers[i].name=d.tiers[k].name
     ·have d5:decide (d.tiers[i].name=d.tiers[k].name)=true:=decide_eq_true c2
      rw[if_pos (zau.2 ⟨d.tiers[i],by rw[zbt];exact⟨i,by omega,rfl⟩,c2⟩)]at ht
      ((have hd:=tv;repeat' first|(first|apply Zad|apply Zac|apply Zab)<;>intro hd<;>try simp only[hd]|simp(disch:=first|assumption|omega|simp only[nx]<;>omega|fail)only[hd,qr,qn,Zdn,↓YA,YY,sevalprocAttr,d4,gG2,f0,f2,hr,hri,t0,t1,i0,i1,hk,hil,hi0,d5,zaa])<;>try revert hd;refine ttr ?_)
      exact Zaz ht.symm hxG2
     ·have d5:decide (d.tiers[i].name=d.tiers[k].name)=false:=decide_eq_false c2
      ((have hd:=tv;repeat' first|(first|apply Zad|apply Zac|apply Zab)<;>intro hd<;>try simp only[hd]|simp(disch:=first|assumption|omega|simp only[nx]<;>omega|fail)only[hd,qr,qn,Zdn,↓YA,YY,sevalprocAttr,d4,gG2,f0,f2,hr,hri,t0,t1,i0,i1,hk,hil,hi0,d5,hw,zaa])<;>try revert hd;refine ttr ?_)
      refine⟨i+1,⟨by omega,fun t ht'=>?_⟩,by omega,rfl,hG2⟩
      rw[zaq hil]at ht'
      rcases zaz.1 ht' with ht'|ht'
      ·exact h5 t ht'
      ·rw[zas.1 ht'];exact c2
    ·have d4:decide ((i:Int)<(k:Int))=false:=decide_eq_false (by omega)
     have hik:i=k:=by omega
     subst hik
     rw[if_neg (fun hm=>by obtain⟨t,ht1,ht2⟩:=zau.1 hm;exact h5 t ht1 ht2)]at ht
     ((have hd:=tv;repeat' first|(first|apply Zad|apply Zac|apply Zab)<;>intro hd<;>try simp only[hd]|simp(disch:=first|assumption|omega|simp only[nx]<;>omega|fail)only[hd,qr,qn,Zdn,↓YA,YY,sevalprocAttr,d4])<;>try revert hd;refine ttr ?_)
     refine⟨(),?_,(hG.bump.bump).two hG2⟩
     rw[ht,zaq hk,za9];rfl
 ·(rintro u G ht hG hn;try simp only[nx]at hn)
  rw[zaT]at ht
  ((have hd:=tv;repeat' first|(first|apply Zad|apply Zac|apply Zab)<;>intro hd<;>try simp only[hd]|simp(disch:=first|assumption|omega|simp only[nx]<;>omega|fail)only[hd,qr,qn,Zdn,↓YA,YY,sevalprocAttr])<;>try revert hd;refine ttr ?_)
  refine Zaz (by rw[ht];rfl)
theorem ZkJ (seen:List Tx) (d:Dm) (r:List Dm):Zd1 seen (d :: r)=if Zdv d≠0 then Zdv d else if d.name∈seen then 11 else Zd1 (seen++[d.name]) r:=by simp only[Zd1]
theorem ZkN (seen:List Tx) (q:Tx) (r:List Tx):Zgh seen (q :: r)=if ZbK q=false then 2 else if q∈seen then 11 else Zgh (seen++[q]) r:=by simp only[Zgh]
set_option maxHeartbeats 4000000 in
theorem ZeE (S:Sc) (H:Zaa) (hs:Zh1 S):Zay Tryz.prog 13 [.agg (eSc S)] H (Pure H (.i (scE S))):=by
 obtain⟨f0,f1,f2,f3⟩:=ZbB S
 by_cases h1:(S.dims.length:Int)<1
 ·have d1:decide ((S.dims.length:Int)<1)=true:=decide_eq_true h1
  have hv:scE S=5:=by rw[scE,if_pos (.inl h1)]
  rw[hv]
  refine Zak hE cf13 (zac rfl) fun Q qr qn=>?_
  ((have hd:=tv;repeat' first|(first|apply Zad|apply Zac|apply Zab)<;>intro hd<;>try simp only[hd]|simp(disch:=first|assumption|omega|simp only[nx]<;>omega|fail)only[hd,qr,qn,ZcW,↓YA,YY,sevalprocAttr,f1,d1,zaa])<;>try revert hd;refine ttr ?_)
  refine Zaz (by rfl)
 have d1:decide ((S.dims.length:Int)<1)=false:=decide_eq_false h1
 by_cases h2:(S.dims.length:Int) > 16
 ·have d2:decide ((S.dims.length:Int) > 16)=true:=decide_eq_true h2
  have hv:scE S=5:=by rw[scE,if_pos (.inr h2)]
  rw[hv]
  refine Zak hE cf13 (zac rfl) fun Q qr qn=>?_
  ((have hd:=tv;repeat' first|(first|apply Zad|apply Zac|apply Zab)<;>intro hd<;>try simp only[hd]|simp(disch:=first|assumption|omega|simp only[nx]<;>omega|fail)only[hd,qr,qn,ZcW,↓YA,YY,sevalprocAttr,f1,d1,d2,zaa])<;>try revert hd;refine ttr ?_)
  refine Zaz (by rfl)
 have d2:decide ((S.dims.length:Int) > 16)=false:=decide_eq_false h2
 obtain⟨D,hD⟩:∃D,Zd1 [] S.dims=D:=⟨_,rfl⟩
 have hv:scE S=if D≠0 then D else Zd8 S.meas:=by rw[scE,if_neg (fun h=>h.elim h1 h2),hD]
 rw[hv]
 obtain⟨T,hT⟩:∃T,(if D≠0 then D else Zd8 S.meas)=T:=⟨_,rfl⟩
 have hDT:D≠0->D=T:=fun h=>by rw[← hT,if_pos h]
 have hMT:D=0->Zd8 S.meas=T:=fun h=>by rw[← hT,if_neg (by simp[h])]
 rw[hT]
 clear hv hT
 have gg:(H.alloc (.cells (eSc S) 25)).get H.next=some (.cells (eSc S) 25):=Zaa.Zae
 have hx0:Zaa.Ext H (H.alloc (.cells (eSc S) 25)):=(Zaa.Ext.refl H).alloc
 refine Zak hE cf13 (zac rfl) fun Q qr qn=>?_
 ((have hd:=tv;repeat' first|(first|apply Zad|apply Zac|apply Zab)<;>intro hd<;>try simp only[hd]|simp(disch:=first|assumption|omega|simp only[nx]<;>omega|fail)only[hd,qr,qn,ZcW,↓YA,YY,sevalprocAttr,f1,d1,d2,zaa])<;>try revert hd;refine ttr ?_)
 generalize H.alloc (.cells (eSc S) 25)=G0 at *
 have l1:=Zaa.lt gg
 refine Zbs [1,20] (σ:=Unit) (fun(k:Nat) s=>D=Zd1 ((S.dims.take k).map (·.name)) (S.dims.drop k)) (fun k s=>[]) (fun k s=>[]) () (GStep.refl _ _) (by simp only[ZaA,Zav,Fr.put,Fr.get,↓reduceIte,Nat.reduceEqDiff];rfl) (by intro k s;rfl) (by intro k s;rfl) (by rfl) (by unfold maxLen;omega) ?_ (by simp only[ZaF]) (by simp only[ZaJ]) ?_ ?_
 ·exact hD.symm
 ·(rintro k u G hk ht hG hn;try simp only[nx]at hn)
  have hxG:Zaa.Ext H G:=hG.ZdB hx0 (by simp)
  have gG:=(hG.g _ l1 (by simp)).trans gg
  have lG:=Zaa.lt gG
  rw[zan hk,ZkJ]at ht
  have hr:=ZjQ hk
  obtain⟨t0,t1,t2,t3⟩:=Za7 S.dims[k]
  have hW:=fun G=>ZkC S.dims[k] G (hs _ (zam hk))
  by_cases c1:Zdv S.dims[k]≠0
  ·have d3:(Zdv S.dims[k] != 0)=true:=by simpa using c1
   rw[if_pos c1]at ht
   have hfin:Zdv S.dims[k]=T:=by rw[← ht];exact hDT (by rw[ht];exact c1)
   ((have hd:=tv;repeat' first|(first|apply Zad|apply Zac|apply Zab)<;>intro hd<;>try simp only[hd]|simp(disch:=first|assumption|omega|simp only[nx]<;>omega|fail)only[hd,qr,qn,ZcW,↓YA,YY,sevalprocAttr,gG,f0,f1,f3,hr,t0,t3,hk,zaa])<;>try revert hd;refine ttr ?_)
   (refine Zap.use (hW _) ?_;rintro _ _ ⟨rfl,k3,rfl⟩)
   ((have hd:=tv;repeat' first|(first|apply Zad|apply Zac|apply Zab)<;>intro hd<;>try simp only[hd]|simp(disch:=first|assumption|omega|simp only[nx]<;>omega|fail)only[hd,qr,qn,ZcW,↓YA,YY,sevalprocAttr,d3])<;>try revert hd;refine ttr ?_)
   exact Zaz hfin (hxG.bump)
  ·have d3:(Zdv S.dims[k] != 0)=false:=by simpa using c1
   rw[if_neg c1]at ht
   ((have hd:=tv;repeat' first|(first|apply Zad|apply Zac|apply Zab)<;>intro hd<;>try simp only[hd]|simp(disch:=first|assumption|omega|simp only[nx]<;>omega|fail)only[hd,qr,qn,ZcW,↓YA,YY,sevalprocAttr,gG,f0,f1,f3,hr,t0,t3,hk,zaa])<;>try revert hd;refine ttr ?_)
   (refine Zap.use (hW _) ?_;rintro _ _ ⟨rfl,k3,rfl⟩)
   ((have hd:=tv;repeat' first|(first|apply Zad|apply Zac|apply Zab)<;>intro hd<;>try simp only[hd]|simp(disch:=first|assumption|omega|simp only[nx]<;>omega|fail)only[hd,qr,qn,ZcW,↓YA,YY,sevalprocAttr,d3])<;>try revert hd;refine ttr ?_)
   refine Zcw [1,3,20,21] (σ:=Nat) (fun s=>s<=k/\∀t∈S.dims.take s,t.name≠S.dims[k].name) (fun s=>k - s) (fun s=>[(5,.i (s:Int))]) (fun s=>[]) 0 (GStep.refl _ _) (by simp only[ZaA,Zav,Fr.put,Fr.get,↓reduceIte,Nat.reduceEqDiff];rfl) ?_ (by simp only[ZaF,ZaX,Fr.put,Fr.get,↓reduceIte,Nat.reduceEqDiff,and_self]<;>simp) (by simp only[ZaJ]) ?_
   ·exact⟨zaG _,by simp⟩
   ·(rintro i G2 ⟨h4,h5⟩ hG2 hn2;try simp only[nx]at hn2)
    have gG2:=(hG2.g _ (by simp only[nx];omega) (by simp)).trans gG
    have lG2:=Zaa.lt gG2
    have hxG2:Zaa.Ext H G2:=hG2.ZdB hxG.bump (by simp)
    by_cases c:i<k
    ·have d4:decide ((i:Int)<(k:Int))=true:=decide_eq_true (by omega)
     have hil:i<S.dims.length:=by omega
     have hri:=ZjQ hil
     obtain⟨i0,i1,i2,i3⟩:=Za7 S.dims[i]
     have hi0:(0:Int)<=(i:Int):=by omega
     have hw:IntKind.i64.wrap ((i:Int)+1)=((i+1:Nat):Int):=by rw[Zaw (by omega) (by omega)];omega
     by_cases c2:S.dims[i].name=S.dims[k].name
     ·have d5:decide (S.dims[i].name=S.dims[k].name)=true:=decide_eq_true c2
      rw[if_pos (zau.2 ⟨S.dims[i],by rw[zbt];exact⟨i,by omega,rfl⟩,c2⟩)]at ht
      have hfin:11=T:=by rw[← ht];exact hDT (by rw[ht];decide)
      ((have hd:=tv;repeat' first|(first|apply Zad|apply Zac|apply Zab)<;>intro hd<;>try simp only[hd]|simp(disch:=first|assumption|omega|simp only[nx]<;>omega|fail)only[hd,qr,qn,ZcW,↓YA,YY,sevalprocAttr,d4,gG2,f0,f1,hr,hri,t0,t1,i0,i1,hk,hil,hi0,d5,zaa])<;>try revert hd;refine ttr ?_)
      exact Zaz hfin hxG2
     ·have d5:decide (S.dims[i].name=S.dims[k].name)=false:=decide_eq_false c2
      ((have hd:=tv;repeat' first|(first|apply Zad|apply Zac|apply Zab)<;>intro hd<;>try simp only[hd]|simp(disch:=first|assumption|omega|simp only[nx]<;>omega|fail)only[hd,qr,qn,ZcW,↓YA,YY,sevalprocAttr,d4,gG2,f0,f1,hr,hri,t0,t1,i0,i1,hk,hil,hi0,d5,hw,zaa])<;>try revert hd;refine ttr ?_)
      refine⟨i+1,⟨by omega,fun t ht'=>?_⟩,by omega,rfl,hG2⟩
      rw[zaq hil]at ht'
      rcases zaz.1 ht' with ht'|ht'
      ·exact h5 t ht'
      ·rw[zas.1 ht'];exact c2
    ·have d4:decide ((i:Int)<(k:Int))=false:=decide_eq_false (by omega)
     have hik:i=k:=by omega
     subst hik
     rw[if_neg (fun hm=>by obtain⟨t,ht1,ht2⟩:=zau.1 hm;exact h5 t ht1 ht2)]at ht
     ((have hd:=tv;repeat' first|(first|apply Zad|apply Zac|apply Zab)<;>intro hd<;>try simp only[hd]|simp(disch:=first|assumption|omega|simp only[nx]<;>omega|fail)only[hd,qr,qn,ZcW,↓YA,YY,sevalprocAttr,d4])<;>try revert hd;refine ttr ?_)
     refine⟨(),?_,(hG.bump).two hG2⟩
     rw[ht,zaq hk,za9];rfl
 ·(rintro u G ht hG hn;try simp only[nx]at hn)
  rw[zaT]at ht
  have hM:=hMT ht
  have hxG:Zaa.Ext H G:=hG.ZdB hx0 (by simp)
  have gG:=(hG.g _ l1 (by simp)).trans gg
  have lG:=Zaa.lt gG
  clear ht hDT hMT hD
  by_cases m1:(S.meas.length:Int)<1
  ·have d3:decide ((S.meas.length:Int)<1)=true:=decide_eq_true m1
   have hv:5=T:=by rw[← hM,Zd8,if_pos (.inl m1)]
   ((have hd:=tv;repeat' first|(first|apply Zad|apply Zac|apply Zab)<;>intro hd<;>try simp only[hd]|simp(disch:=first|assumption|omega|simp only[nx]<;>omega|fail)only[hd,qr,qn,ZcW,↓YA,YY,sevalprocAttr,gG,f2,d3,zaa])<;>try revert hd;refine ttr ?_)
   exact Zaz hv hxG
  have d3:decide ((S.meas.length:Int)<1)=false:=decide_eq_false m1
  by_cases m2:(S.meas.length:Int) > 3
  ·have d4:decide ((S.meas.length:Int) > 3)=true:=decide_eq_true m2
   have hv:5=T:=by rw[← hM,Zd8,if_pos (.inr m2)]
   ((have hd:=tv;repeat' first|(first|apply Zad|apply Zac|apply Zab)<;>intro hd<;>try simp only[hd]|simp(disch:=first|assumption|omega|simp only[nx]<;>omega|fail)only[hd,qr,qn,ZcW,↓YA,YY,sevalprocAttr,gG,f2,d3,d4,zaa])<;>try revert hd;refine ttr ?_)
   exact Zaz hv hxG
  have d4:decide ((S.meas.length:Int) > 3)=false:=decide_eq_false m2
  rw[Zd8,if_neg (fun h=>h.elim m1 m2)]at hM
  ((have hd:=tv;repeat' first|(first|apply Zad|apply Zac|apply Zab)<;>intro hd<;>try simp only[hd]|simp(disch:=first|assumption|omega|simp only[nx]<;>omega|fail)only[hd,qr,qn,ZcW,↓YA,YY,sevalprocAttr,gG,f2,d3,d4,zaa])<;>try revert hd;refine ttr ?_)
  refine Zbs [1,64] (σ:=Unit) (fun(k:Nat) s=>T=Zgh (S.meas.take k) (S.meas.drop k)) (fun k s=>[]) (fun k s=>[]) () (GStep.refl _ _) (by simp only[ZaA,Zav,Fr.put,Fr.get,↓reduceIte,Nat.reduceEqDiff];rfl) (by intro k s;rfl) (by intro k s;rfl) (by rfl) (by unfold maxLen;omega) ?_ (by simp only[ZaF]) (by simp only[ZaJ]) ?_ ?_
  ·exact hM.symm
  ·(rintro k u G3 hk ht hG3 hn3;try simp only[nx]at hn3)
   have hxG3:Zaa.Ext H G3:=hG3.ZdB hxG (by simp)
   have gG3:=(hG3.g _ lG (by simp)).trans gG
   have lG3:=Zaa.lt gG3
   rw[zan hk,ZkN]at ht
   have hr:(rS S.meas)[k]?=some [eS S.meas[k]]:=by simp[hk]
   have hN:=fun G=>Zd5 S.meas[k] G
   have hb:=bfb (ZbK S.meas[k])
   rcases hb with hb|hb
   ·rw[hb]at hN
    rw[if_pos hb]at ht
    ((have hd:=tv;repeat' first|(first|apply Zad|apply Zac|apply Zab)<;>intro hd<;>try simp only[hd]|simp(disch:=first|assumption|omega|simp only[nx]<;>omega|fail)only[hd,qr,qn,ZcW,↓YA,YY,sevalprocAttr,gG3,f2,hr,hk,zaa])<;>try revert hd;refine ttr ?_)
    (refine Zap.use (hN _) ?_;rintro _ _ ⟨rfl,k3,rfl⟩)
    ((have hd:=tv;repeat' first|(first|apply Zad|apply Zac|apply Zab)<;>intro hd<;>try simp only[hd]|simp(disch:=first|assumption|omega|simp only[nx]<;>omega|fail)only[hd,qr,qn,ZcW,↓YA,YY,sevalprocAttr])<;>try revert hd;refine ttr ?_)
    exact Zaz ht.symm hxG3.bump
   ·rw[hb]at hN
    rw[if_neg (by rw[hb];decide)]at ht
    ((have hd:=tv;repeat' first|(first|apply Zad|apply Zac|apply Zab)<;>intro hd<;>try simp only[hd]|simp(disch:=first|assumption|omega|simp only[nx]<;>omega|fail)only[hd,qr,qn,ZcW,↓YA,YY,sevalprocAttr,gG3,f2,hr,hk,zaa])<;>try revert hd;refine ttr ?_)
    (refine Zap.use (hN _) ?_;rintro _ _ ⟨rfl,k3,rfl⟩)
    ((have hd:=tv;repeat' first|(first|apply Zad|apply Zac|apply Zab)<;>intro hd<;>try simp only[hd]|simp(disch:=first|assumption|omega|simp only[nx]<;>omega|fail)only[hd,qr,qn,ZcW,↓YA,YY,sevalprocAttr])<;>try revert hd;refine ttr ?_)
    refine Zcw [1,6,64,65] (σ:=Nat) (fun s=>s<=k/\∀t∈S.meas.take s,t≠S.meas[k]) (fun s=>k - s) (fun s=>[(7,.i (s:Int))]) (fun s=>[]) 0 (GStep.refl _ _) (by simp only[ZaA,Zav,Fr.put,Fr.get,↓reduceIte,Nat.reduceEqDiff];rfl) ?_ (by simp only[ZaF,ZaX,Fr.put,Fr.get,↓reduceIte,Nat.reduceEqDiff,and_self]<;>simp) (by simp only[ZaJ]) ?_
    ·exact⟨zaG _,by simp⟩
    ·(rintro i G2 ⟨h4,h5⟩ hG2 hn2;try simp only[nx]at hn2)
     have gG2:=(hG2.g _ (by simp only[nx];omega) (by simp)).trans gG3
     have lG2:=Zaa.lt gG2
     have hxG2:Zaa.Ext H G2:=hG2.ZdB hxG3.bump (by simp)
     by_cases c:i<k
     ·have d6:decide ((i:Int)<(k:Int))=true:=decide_eq_true (by omega)
      have hil:i<S.meas.length:=by omega
      have hri:(rS S.meas)[i]?=some [eS S.meas[i]]:=by simp[hil]
      have hi0:(0:Int)<=(i:Int):=by omega
      have hw:IntKind.i64.wrap ((i:Int)+1)=((i+1:Nat):Int):=by rw[Zaw (by omega) (by omega)];omega
      by_cases c2:S.meas[i]=S.meas[k]
      ·have d5:decide (S.meas[i]=S.meas[k])=true:=decide_eq_true c2
       rw[if_pos (by rw[zbt];exact⟨i,by omega,c2⟩)]at ht
       ((have hd:=tv;repeat' first|(first|apply Zad|apply Zac|apply Zab)<;>intro hd<;>try simp only[hd]|simp(disch:=first|assumption|omega|simp only[nx]<;>omega|fail)only[hd,qr,qn,ZcW,↓YA,YY,sevalprocAttr,d6,gG2,f2,hr,hri,hk,hil,hi0,d5,zaa])<;>try revert hd;refine ttr ?_)
       exact Zaz ht.symm hxG2
      ·have d5:decide (S.meas[i]=S.meas[k])=false:=decide_eq_false c2
       ((have hd:=tv;repeat' first|(first|apply Zad|apply Zac|apply Zab)<;>intro hd<;>try simp only[hd]|simp(disch:=first|assumption|omega|simp only[nx]<;>omega|fail)only[hd,qr,qn,ZcW,↓YA,YY,sevalprocAttr,d6,gG2,f2,hr,hri,hk,hil,hi0,d5,hw,zaa])<;>try revert hd;refine ttr ?_)
       refine⟨i+1,⟨by omega,fun t ht'=>?_⟩,by omega,rfl,hG2⟩
       rw[zaq hil]at ht'
       rcases zaz.1 ht' with ht'|ht'
       ·exact h5 t ht'
       ·rw[zas.1 ht'];exact c2
     ·have d6:decide ((i:Int)<(k:Int))=false:=decide_eq_false (by omega)
      have hik:i=k:=by omega
      subst hik
      rw[if_neg (fun hm=>h5 _ hm rfl)]at ht
      ((have hd:=tv;repeat' first|(first|apply Zad|apply Zac|apply Zab)<;>intro hd<;>try simp only[hd]|simp(disch:=first|assumption|omega|simp only[nx]<;>omega|fail)only[hd,qr,qn,ZcW,↓YA,YY,sevalprocAttr,d6])<;>try revert hd;refine ttr ?_)
      refine⟨(),?_,(hG3.bump).two hG2⟩
      rw[ht,zaq hk]
  ·(rintro u G3 ht hG3 hn3;try simp only[nx]at hn3)
   rw[zaT]at ht
   ((have hd:=tv;repeat' first|(first|apply Zad|apply Zac|apply Zab)<;>intro hd<;>try simp only[hd]|simp(disch:=first|assumption|omega|simp only[nx]<;>omega|fail)only[hd,qr,qn,ZcW,↓YA,YY,sevalprocAttr])<;>try revert hd;refine ttr ?_)
   exact Zaz (by rw[ht];rfl) (hG3.ZdB hxG (by simp))
abbrev rIt (ts:List (Tok×List Int)):List (List AV):=ts.map fun p=>[.sl p.1 (rI p.2)]
theorem wkn_rIt (t:Tok) (ts:List (Tok×List Int)) (m:Int):Wkn (.agg [.sl t (rIt ts),.i m]) (.agg (Zc3 ⟨ts.map (·.2),m⟩)):=by
 rw[ZgU]
 refine .agg _ _ rfl (fun i a b ha hb=>?_)
 match i with
 | 0 =>
  simp only[List.getElem?_cons_zero,zad]at ha hb
  subst ha hb
  refine .sl _ _ _ (by simp) (fun i r r' h h'=>?_) (fun i r r' j x y h h' hx hy=>?_)
  ·simp only[zaR]at h h'
   cases hq:ts[i]? with
   | none=>rw[hq]at h;cases h
   | some q=>rw[hq]at h h';injection h with h;injection h' with h';rw[← h,← h'];rfl
  ·simp only[zaR]at h h'
   cases hq:ts[i]? with
   | none=>rw[hq]at h;cases h
   | some q =>
    rw[hq]at h h'
    injection h with h
    injection h' with h'
    subst h h'
    match j with
    | 0 =>
     simp only[List.getElem?_cons_zero,zad]at hx hy
     subst hx hy
     exact Zfm _ _
    | j+1=>simp at hx
 | 1=>simp only[List.getElem?_cons_zero,List.getElem?_cons_succ,zad]at ha hb;subst ha hb;exact .refl _
 | i+2=>simp at ha
set_option maxHeartbeats 4000000 in
theorem ZoZ (S:Sc) (H:Zaa) (hl:S.dims.length<=4000000000000) (hl2:∀d∈S.dims,d.tiers.length<=4000000000000):Zay Tryz.prog 15 [.agg (eSc S)] H (Pure H (.agg (Zc3 (Za3 S)))):=by
 obtain⟨f0,f1,f2,f3⟩:=ZbB S
 refine Zak hE cf15 (zac rfl) fun Q qr qn=>?_
 ((have hd:=tv;repeat' first|(first|apply Zad|apply Zac|apply Zab)<;>intro hd<;>try simp only[hd]|simp(disch:=first|assumption|omega|simp only[nx]<;>omega|fail)only[hd,qr,qn,ZkW,↓YA,YY,sevalprocAttr,f1,f2,zaa])<;>try revert hd;refine ttr ?_)
 have hx0:Zaa.Ext H ((((H.alloc (.cells (eSc S) 25)).alloc (.cells [.sl .full [],.i 0] 37)).alloc (.cells [.sl .full [],.i (S.meas.length:Int)] 37))):=by exact AXT
 have g1:((((H.alloc (.cells (eSc S) 25)).alloc (.cells [.sl .full [],.i 0] 37)).alloc (.cells [.sl .full [],.i (S.meas.length:Int)] 37))).get (H.next+1+1)=some (.cells [.sl .full [],.i (S.meas.length:Int)] 37):=Zaa.Zae (H:=(H.alloc _).alloc _)
 have g2:((((H.alloc (.cells (eSc S) 25)).alloc (.cells [.sl .full [],.i 0] 37)).alloc (.cells [.sl .full [],.i (S.meas.length:Int)] 37))).get (H.next+1)=some (.cells [.sl .full [],.i 0] 37):=by
  rw[Zaa.Zag (by simp only[nx];omega)]
  exact Zaa.Zae (H:=H.alloc _)
 have hn0:((((H.alloc (.cells (eSc S) 25)).alloc (.cells [.sl .full [],.i 0] 37)).alloc (.cells [.sl .full [],.i (S.meas.length:Int)] 37))).next=H.next+3:=rfl
 generalize (((H.alloc (.cells (eSc S) 25)).alloc (.cells [.sl .full [],.i 0] 37)).alloc (.cells [.sl .full [],.i (S.meas.length:Int)] 37))=G0 at *
 have l1:=Zaa.lt g1
 have l2:=Zaa.lt g2
 refine Zbs [2,3,14,15] (σ:=List (Tok×List Int)) (fun(k:Nat) s=>s.map (·.2)=(S.dims.take k).map fun d=>d.tiers.map szT) (fun k s=>[]) (fun k s=>[(H.next+1+1,.cells [.sl (.own G0.next) (rIt s),.i (S.meas.length:Int)] 37),(G0.next,.tok k 57 1)]) [] (GStep.ZdO (H.next+1+1) 0 37 57 1 g1 rfl) (by simp only[ZaA,Zav,Fr.put,Fr.get,↓reduceIte,Nat.reduceEqDiff];rfl) (by intro k s;rfl) (by intro k s;rfl) (by rfl) (by unfold maxLen;omega) ?_ (by simp only[ZaF]) ?_ ?_ ?_
 ·simp
 ·rw[ZaP,ZaP]
  refine⟨?_,Zaa.Zae (H:=G0.set _ _),by simp[Zc5]⟩
  rw[Zaa.Zag (by simp only[nx];omega)]
  exact Zaa.Zal l1
 ·(rintro k ts G hk ht hG hn;try simp only[nx]at hn)
  obtain⟨q0,q1,q2,q3⟩:=Za7 S.dims[k]
  have qd:(eDm S.dims[k]).drop 2=[]:=rfl
  have htl:=hl2 _ (zam hk)
  have hlen:ts.length=k:=by
   have:=congrArg List.length ht
   simp at this;omega
  ((have hd:=tv;repeat' first|(first|apply Zad|apply Zac|apply Zab)<;>intro hd<;>try simp only[hd]|simp(disch:=first|assumption|omega|simp only[nx]<;>omega|fail)only[hd,qr,qn,ZkW,↓YA,YY,sevalprocAttr,hk,q0,q2,q3,qd,zaw,zaa])<;>try revert hd;refine ttr ?_)
  have hG1:=hG.alloc (o:=.cells (eDm S.dims[k]) 102)
  have g5:(G.alloc (.cells (eDm S.dims[k]) 102)).get G.next=some (.cells (eDm S.dims[k]) 102):=Zaa.Zae
  generalize G.alloc (.cells (eDm S.dims[k]) 102)=G1 at *
  generalize hD:S.dims[k]=D at *
  refine Zbs [2,3,14,15,16,21,22] (σ:=Unit) (fun(k:Nat) s=>True) (fun k s=>[(6,.sl (.own G1.next) (rI ((D.tiers.take k).map szT)))]) (fun k s=>[(G1.next,.tok k 3 1)]) () (GStep.tok 6 3 1 rfl) (by simp only[ZaA,Zav,Fr.put,Fr.get,↓reduceIte,Nat.reduceEqDiff];rfl) (by intro k s;rfl) (by intro k s;rfl) (by rfl) (by unfold maxLen;omega) ?_ (by simp only[ZaF,ZaX,Fr.put,Fr.get,↓reduceIte,Nat.reduceEqDiff,and_self]<;>simp) ?_ ?_ ?_
  ·trivial
  ·rw[ZaP]
   exact⟨Zaa.Zae (H:=G1),by simp[Zc5]⟩
  ·(rintro j u G2 hj ht2 hG2 hn2;try simp only[nx]at hn2)
   have ho:=hG2.o1
   have lo:=Zaa.lt ho
   have hr:=Zdh hj
   obtain⟨t0,t1,t2,t3,t4⟩:=Zba D.tiers[j]
   have td:(eTr D.tiers[j]).drop 3=[]:=rfl
   have hsn:rI ((D.tiers.take j).map szT)++[[.i (D.tiers[j].terms.length:Int)]]=rI ((D.tiers.take (j+1)).map szT):=by rw[ZcR hj];simp[szT]
   have la1:ZaE 1 (rI ((D.tiers.take j).map szT))=true:=ZaU (f:=fun n:Int=>[AV.i n]) (fun _=>rfl) _
   have la2:ZaE 1 [[AV.i (D.tiers[j].terms.length:Int)]]=true:=rfl
   have lm1:j+1<=maxLen:=by unfold maxLen;omega
   have lm2:(j+1) * 8<=140737488355328:=by omega
   have hrl:(rI ((D.tiers.take j).map szT)).length=j:=by simp;omega
   ((have hd:=tv;repeat' first|(first|apply Zad|apply Zac|apply Zab)<;>intro hd<;>try simp only[hd]|simp(disch:=first|assumption|omega|simp only[nx]<;>omega|fail)only[hd,qr,qn,ZkW,↓YA,YY,sevalprocAttr,hr,t0,t2,t4,td,ho,la1,la2,lm1,lm2,hrl,ZaL,rowsOf,zaw,zaa,List.length_singleton])<;>try revert hd;refine ttr ?_)
   exact⟨(),congrArg (AV.sl _) hsn,hG2.alloc.put⟩
  ·(rintro u G2 ht2 hG2 hn2;try simp only[nx]at hn2)
   have ho1:=hG1.o1
   have ho2:=hG1.o2
   have lo1:=Zaa.lt ho1
   have lo2:=Zaa.lt ho2
   have e1:=(hG2.g _ (by simp only[nx];omega) (by simp;omega)).trans ((Zaa.Zag (by omega)).trans ho1)
   have e2:=(hG2.g _ (by simp only[nx];omega) (by simp;omega)).trans ((Zaa.Zag (by omega)).trans ho2)
   have le1:=Zaa.lt e1
   have le2:=Zaa.lt e2
   have la1:ZaE 1 (rIt ts)=true:=ZaU (f:=fun p:Tok×List Int=>[AV.sl p.1 (rI p.2)]) (fun _=>rfl) ts
   have la2:ZaE 1 [[AV.sl (.own G1.next) (rI (D.tiers.map szT))]]=true:=rfl
   have lm1:k+1<=maxLen:=by unfold maxLen;omega
   have lm2:(k+1) * 24<=140737488355328:=by omega
   have hrl:(rIt ts).length=k:=by simp;omega
   rw[zaN]
   ((have hd:=tv;repeat' first|(first|apply Zad|apply Zac|apply Zab)<;>intro hd<;>try simp only[hd]|simp(disch:=first|assumption|omega|simp only[nx]<;>omega|fail)only[hd,qr,qn,ZkW,↓YA,YY,sevalprocAttr,e1,e2,la1,la2,lm1,lm2,hrl,ZaL,rowsOf,zaa,List.length_singleton])<;>try revert hd;refine ttr ?_)
   have hkk:HX [] G1 G2:=by
    have kn:=hG2.n
    simp only[nx]at kn
    refine⟨by omega,by simp[Zc5],fun i hi _=>?_⟩
    exact(hG2.g i (by simp only[nx];omega) (by simp;omega)).trans (Zaa.Zag (by omega))
   have happ:rIt ts++[[.sl (.own G1.next) (rI (D.tiers.map szT))]]=rIt (ts++[(.own G1.next,D.tiers.map szT)]):=by simp[rIt]
   refine⟨ts++[(.own G1.next,D.tiers.map szT)],by rw[ZcR hk,za9,ht,hD];rfl,?_⟩
   rw[happ]
   exact(hG1.two hkk).put2 (by omega)
 ·(rintro ts G ht hG hn;try simp only[nx]at hn)
  have ho1:=hG.o1
  have hc:=(hG.g (H.next+1) (by simp only[nx];omega) (by simp;omega)).trans ((Zaa.Zag (by simp only[nx];omega)).trans ((Zaa.Zah (by omega)).trans g2))
  have lo1:=Zaa.lt ho1
  have lc:=Zaa.lt hc
  rw[zaN]at ht
  ((have hd:=tv;repeat' first|(first|apply Zad|apply Zac|apply Zab)<;>intro hd<;>try simp only[hd]|simp(disch:=first|assumption|omega|simp only[nx]<;>omega|fail)only[hd,qr,qn,ZkW,↓YA,YY,sevalprocAttr,ho1,hc])<;>try revert hd;refine ttr ?_)
  have hw:=wkn_rIt (.own G0.next) ts (S.meas.length:Int)
  rw[ht]at hw
  exact Zc1 hw ((hG.ZdB ((hx0.set (by omega)).alloc) (by simp;omega)).set (by omega))
theorem lt_at:∀{s:Nat} {a b:List Int} (ha:s<a.length) (hb:s<b.length),a.take s=b.take s->a[s]≠b[s]->decide (a<b)=decide (a[s]<b[s])
 | 0,x :: a,y :: b,_,_,_,hne=>by
  have hne:x≠y:=hne
  simp[zbE,hne]
 | s+1,x :: a,y :: b,ha,hb,ht,hne=>by
  simp only[List.take_succ_cons,List.cons.injEq]at ht
  obtain⟨rfl,ht⟩:=ht
  have ih:=lt_at (s:=s) (a:=a) (b:=b) (by simpa using ha) (by simpa using hb) ht (by simpa using hne)
  simpa [zbE] using ih
theorem Zmd:∀{s:Nat} {a b:List Int},s<=a.length->s<=b.length->a.take s=b.take s->(s=a.length∨s=b.length)->decide (a<b)=decide ((a.length:Int)<(b.length:Int))
 | 0,a,b,_,_,_,he=>by
  cases a<;>cases b<;>simp_all<;>omega
 | s+1,x :: a,y :: b,ha,hb,ht,he=>by
  simp only[List.take_succ_cons,List.cons.injEq]at ht
  obtain⟨rfl,ht⟩:=ht
  have ih:=Zmd (s:=s) (a:=a) (b:=b) (by simpa using ha) (by simpa using hb) ht (by simpa using he)
  simpa [zbE] using ih
set_option maxHeartbeats 2000000 in
theorem Zjw (f g:Fct) (H:Zaa) (hl:f.1.length<=1000000) (hm:g.1.length<=1000000):Zay Tryz.prog 57 [.agg (ZcI f),.agg (ZcI g)] H (Pure H (.b (decide (f.1<g.1)))):=by
 obtain⟨ks,a⟩:=f
 obtain⟨ms,b⟩:=g
 simp only at hl hm ⊢
 have e0:(ZcI (ks,a))[0]?=some (.sl .no (rI ks)):=rfl
 have e1:(ZcI (ms,b))[0]?=some (.sl .no (rI ms)):=rfl
 have el:(ZcI (ks,a)).length=11:=rfl
 have el1:(ZcI (ms,b)).length=11:=rfl
 refine Zak hE cf57 (zac rfl) fun Q qr qn=>?_
 ((have hd:=tv;repeat' first|(first|apply Zad|apply Zac|apply Zab)<;>intro hd<;>try simp only[hd]|simp(disch:=first|assumption|omega|simp only[nx]<;>omega|fail)only[hd,qr,qn,ZkX,↓YA,YY,sevalprocAttr,e0])<;>try revert hd;refine ttr ?_)
 have g2:((H.alloc (.cells (ZcI (ks,a)) 88)).alloc (.cells (ZcI (ms,b)) 88)).get H.next=some (.cells (ZcI (ks,a)) 88):=by
  rw[Zaa.Zag (by simp only[nx];omega)];exact Zaa.Zae
 have g3:((H.alloc (.cells (ZcI (ks,a)) 88)).alloc (.cells (ZcI (ms,b)) 88)).get (H.next+1)=some (.cells (ZcI (ms,b)) 88):=Zaa.Zae (H:=H.alloc _)
 have hx0:Zaa.Ext H ((H.alloc (.cells (ZcI (ks,a)) 88)).alloc (.cells (ZcI (ms,b)) 88)):=by exact AXT
 generalize (H.alloc (.cells (ZcI (ks,a)) 88)).alloc (.cells (ZcI (ms,b)) 88)=G0 at *
 have l2:=Zaa.lt g2
 have l3:=Zaa.lt g3
 refine Zcw [2,3] (σ:=Nat) (fun s=>s<=ks.length/\s<=ms.length/\ks.take s=ms.take s) (fun s=>ks.length - s) (fun s=>[(5,.i (s:Int))]) (fun s=>[]) (0:Nat) (GStep.refl _ _) (by simp only[ZaA,Zav,Fr.put,Fr.get,↓reduceIte,Nat.reduceEqDiff];rfl) ?_ (by simp only[ZaF,ZaX,Fr.put,Fr.get,↓reduceIte,Nat.reduceEqDiff,and_self]<;>simp) (by simp only[ZaJ]) ?_
 ·exact⟨zaG _,zaG _,rfl⟩
 ·(rintro s G ⟨hs1,hs2,ht⟩ hG hn1;try simp only[nx]at hn1)
  have h2:G.get H.next=_:=(hG.get _ l2).trans g2
  have h3:G.get (H.next+1)=_:=(hG.get _ l3).trans g3
  have h0:(0:Int)<=(s:Int):=by omega
  by_cases c:s<ks.length
  ·have d1:decide ((s:Int)<(ks.length:Int))=true:=by simp;omega
   by_cases c2:s<ms.length
   ·have d2:decide ((s:Int)<(ms.length:Int))=true:=by simp;omega
    by_cases he:ks[s]=ms[s]
    ·have d3:(ks[s] != ms[s])=false:=by simp[he]
     ((have hd:=tv;repeat' first|(first|apply Zad|apply Zac|apply Zab)<;>intro hd<;>try simp only[hd]|simp(disch:=first|assumption|omega|simp only[nx]<;>omega|fail)only[hd,qr,qn,ZkX,↓YA,YY,sevalprocAttr,h2,h3,e0,e1,d1,d2,d3,zaa,h0,c,c2])<;>try revert hd;refine ttr ?_)
     refine⟨s+1,⟨by omega,by omega,by rw[zaq c,zaq c2,ht,he]⟩,by omega,by simp,by exact HXT⟩
    ·have d3:(ks[s] != ms[s])=true:=by simp[he]
     have hv:=lt_at c c2 ht he
     ((have hd:=tv;repeat' first|(first|apply Zad|apply Zac|apply Zab)<;>intro hd<;>try simp only[hd]|simp(disch:=first|assumption|omega|simp only[nx]<;>omega|fail)only[hd,qr,qn,ZkX,↓YA,YY,sevalprocAttr,h2,h3,e0,e1,d1,d2,d3,zaa,h0,c,c2])<;>try revert hd;refine ttr ?_)
     exact ZbC hv.symm (hx0.trans hG.ext)
   ·have d2:decide ((s:Int)<(ms.length:Int))=false:=by simp;omega
    have hv:=Zmd hs1 hs2 ht (.inr (by omega))
    ((have hd:=tv;repeat' first|(first|apply Zad|apply Zac|apply Zab)<;>intro hd<;>try simp only[hd]|simp(disch:=first|assumption|omega|simp only[nx]<;>omega|fail)only[hd,qr,qn,ZkX,↓YA,YY,sevalprocAttr,h2,h3,e0,e1,d1,d2,zaa,h0,c])<;>try revert hd;refine ttr ?_)
    exact ZbC hv.symm (hx0.trans hG.ext)
  ·have d1:decide ((s:Int)<(ks.length:Int))=false:=by simp;omega
   have hv:=Zmd hs1 hs2 ht (.inl (by omega))
   ((have hd:=tv;repeat' first|(first|apply Zad|apply Zac|apply Zab)<;>intro hd<;>try simp only[hd]|simp(disch:=first|assumption|omega|simp only[nx]<;>omega|fail)only[hd,qr,qn,ZkX,↓YA,YY,sevalprocAttr,h2,h3,e0,e1,d1,zaa])<;>try revert hd;refine ttr ?_)
   exact ZbC hv.symm (hx0.trans hG.ext)
set_option maxHeartbeats 2000000 in
theorem Zh8 (x:Shp) (f:Fct) (H:Zaa) (hxl:x.sizes.length<=1000000):Zay Tryz.prog 56 [.agg (Zc3 x),.agg (ZcI f)] H (Pure H (.i (Zb8 x f))):=by
 obtain⟨f0,f1,f2,f3⟩:=Zbu f
 obtain⟨x0,x1,x2,x3⟩:=Zc6 x
 by_cases h1:f.1.length≠x.sizes.length
 ·have hv:Zb8 x f=2:=by rw[Zb8,if_pos h1]
  have d1:((f.1.length:Int) != (x.sizes.length:Int))=true:=by simp;omega
  rw[hv]
  refine Zak hE cf56 (zac rfl) fun Q qr qn=>?_
  ((have hd:=tv;repeat' first|(first|apply Zad|apply Zac|apply Zab)<;>intro hd<;>try simp only[hd]|simp(disch:=first|assumption|omega|simp only[nx]<;>omega|fail)only[hd,qr,qn,Zfd,↓YA,YY,sevalprocAttr,f1,x1,d1,zaa])<;>try revert hd;refine ttr ?_)
  refine Zaz (by rfl)
 have h1':f.1.length=x.sizes.length:=by simpa using h1
 have hl:f.1.length<=1000000:=by omega
 have d1:((f.1.length:Int) != (x.sizes.length:Int))=false:=by simp;omega
 have hv:Zb8 x f=if Zdr f.1 x.sizes≠0 then Zdr f.1 x.sizes else if Zbw x.measures f.2=false then 2 else 0:=by rw[Zb8,if_neg h1]
 rw[hv]
 generalize hT:Zdr f.1 x.sizes=T
 refine Zak hE cf56 (zac rfl) fun Q qr qn=>?_
 ((have hd:=tv;repeat' first|(first|apply Zad|apply Zac|apply Zab)<;>intro hd<;>try simp only[hd]|simp(disch:=first|assumption|omega|simp only[nx]<;>omega|fail)only[hd,qr,qn,Zfd,↓YA,YY,sevalprocAttr,f1,x1,d1,zaa])<;>try revert hd;refine ttr ?_)
 have hx0:Zaa.Ext H ((H.alloc (.cells (Zc3 x) 37)).alloc (.cells (ZcI f) 88)):=by exact AXT
 have g1:((H.alloc (.cells (Zc3 x) 37)).alloc (.cells (ZcI f) 88)).get H.next=some (.cells (Zc3 x) 37):=by
  rw[Zaa.Zag (by simp only[nx];omega)];exact Zaa.Zae (H:=H)
 have g2:((H.alloc (.cells (Zc3 x) 37)).alloc (.cells (ZcI f) 88)).get (H.next+1)=some (.cells (ZcI f) 88):=Zaa.Zae (H:=H.alloc _)
 generalize (H.alloc (.cells (Zc3 x) 37)).alloc (.cells (ZcI f) 88)=G0 at *
 have l1:=Zaa.lt g1
 have l2:=Zaa.lt g2
 refine Zbs [2,3,15] (σ:=Unit) (fun(k:Nat) s=>T=Zdr (f.1.drop k) (x.sizes.drop k)) (fun k s=>[]) (fun k s=>[]) () (GStep.refl _ _) (by simp only[ZaA,Zav,Fr.put,Fr.get,↓reduceIte,Nat.reduceEqDiff];rfl) (by intro k s;rfl) (by intro k s;rfl) (by rfl) (by unfold maxLen;omega) ?_ (by simp only[ZaF]) (by simp only[ZaJ]) ?_ ?_
 ·exact hT.symm
 ·(rintro k s G hk ht hG hn;try simp only[nx]at hn)
  have hc1:=(hG.get _ l1).trans g1
  have hc2:=(hG.get _ l2).trans g2
  have lc1:=Zaa.lt hc1
  have lc2:=Zaa.lt hc2
  have hk2:k<x.sizes.length:=by omega
  rw[zan hk,zan hk2,Zdr]at ht
  by_cases c:x.sizes[k].length=0∨f.1[k]<0∨f.1[k]≥x.sizes[k].headD 0
  ·rw[if_pos c]at ht
   cases hs:x.sizes[k]with
   | nil =>
    have e1:(((x.sizes[k].length:Nat):Int) == 0)=true:=by rw[hs];rfl
    ((have hd:=tv;repeat' first|(first|apply Zad|apply Zac|apply Zab)<;>intro hd<;>try simp only[hd]|simp(disch:=first|assumption|omega|simp only[nx]<;>omega|fail)only[hd,qr,qn,Zfd,↓YA,YY,sevalprocAttr,hc1,hc2,x1,f1,hk,hk2,e1,zaa])<;>try revert hd;refine ttr ?_)
    refine Zaz (by rw[ht];rfl)
   | cons z zs =>
    have e1:(((x.sizes[k].length:Nat):Int) == 0)=false:=by rw[hs,beq_eq_false_iff_ne];simp;omega
    have ez:(rI x.sizes[k])[0]?=some [.i z]:=by rw[hs];rfl
    rw[hs]at c
    by_cases c2:f.1[k]<0
    ·have e2:decide (f.1[k]<0)=true:=decide_eq_true c2
     ((have hd:=tv;repeat' first|(first|apply Zad|apply Zac|apply Zab)<;>intro hd<;>try simp only[hd]|simp(disch:=first|assumption|omega|simp only[nx]<;>omega|fail)only[hd,qr,qn,Zfd,↓YA,YY,sevalprocAttr,hc1,hc2,x1,f1,hk,hk2,e1,e2,zaa])<;>try revert hd;refine ttr ?_)
     refine Zaz (by rw[ht];rfl)
    ·have e2:decide (f.1[k]<0)=false:=decide_eq_false c2
     have e3:decide (f.1[k]≥z)=true:=decide_eq_true (by simpa [c2] using c)
     ((have hd:=tv;repeat' first|(first|apply Zad|apply Zac|apply Zab)<;>intro hd<;>try simp only[hd]|simp(disch:=first|assumption|omega|simp only[nx]<;>omega|fail)only[hd,qr,qn,Zfd,↓YA,YY,sevalprocAttr,hc1,hc2,x1,f1,hk,hk2,e1,e2,ez,e3,zaa])<;>try revert hd;refine ttr ?_)
     refine Zaz (by rw[ht];rfl)
  ·rw[if_neg c]at ht
   cases hs:x.sizes[k]with
   | nil=>exact absurd (.inl (by rw[hs];rfl)) c
   | cons z zs =>
    have e1:(((x.sizes[k].length:Nat):Int) == 0)=false:=by rw[hs,beq_eq_false_iff_ne];simp;omega
    have ez:(rI x.sizes[k])[0]?=some [.i z]:=by rw[hs];rfl
    rw[hs]at c
    simp only[List.headD_cons,not_or]at c
    have e2:decide (f.1[k]<0)=false:=decide_eq_false c.2.1
    have e3:decide (f.1[k]≥z)=false:=decide_eq_false c.2.2
    ((have hd:=tv;repeat' first|(first|apply Zad|apply Zac|apply Zab)<;>intro hd<;>try simp only[hd]|simp(disch:=first|assumption|omega|simp only[nx]<;>omega|fail)only[hd,qr,qn,Zfd,↓YA,YY,sevalprocAttr,hc1,hc2,x1,f1,hk,hk2,e1,e2,ez,e3,zaa])<;>try revert hd;refine ttr ?_)
    refine⟨(),by exact ht,by exact HXT⟩
 ·(rintro s G ht hG hn;try simp only[nx]at hn)
  have hc1:=(hG.get _ l1).trans g1
  have hc2:=(hG.get _ l2).trans g2
  rw[zaT]at ht
  have h0:T=0:=by rw[ht];simp[Zdr]
  have hM:=fun G=>Zjg x.measures f.2 G
  have hb:=bfb (Zbw x.measures f.2)
  rcases hb with hb|hb<;>rw[hb]at hM
  ·((have hd:=tv;repeat' first|(first|apply Zad|apply Zac|apply Zab)<;>intro hd<;>try simp only[hd]|simp(disch:=first|assumption|omega|simp only[nx]<;>omega|fail)only[hd,qr,qn,Zfd,↓YA,YY,sevalprocAttr,hc1,hc2,x2,f0,f2])<;>try revert hd;refine ttr ?_)
   (refine Zap.use (hM _) ?_;rintro _ _ ⟨rfl,k1,rfl⟩)
   ((have hd:=tv;repeat' first|(first|apply Zad|apply Zac|apply Zab)<;>intro hd<;>try simp only[hd]|simp(disch:=first|assumption|omega|simp only[nx]<;>omega|fail)only[hd,qr,qn,Zfd,↓YA,YY,sevalprocAttr])<;>try revert hd;refine ttr ?_)
   refine Zaz (by rw[h0,hb];rfl)
  ·((have hd:=tv;repeat' first|(first|apply Zad|apply Zac|apply Zab)<;>intro hd<;>try simp only[hd]|simp(disch:=first|assumption|omega|simp only[nx]<;>omega|fail)only[hd,qr,qn,Zfd,↓YA,YY,sevalprocAttr,hc1,hc2,x2,f0,f2])<;>try revert hd;refine ttr ?_)
   (refine Zap.use (hM _) ?_;rintro _ _ ⟨rfl,k1,rfl⟩)
   ((have hd:=tv;repeat' first|(first|apply Zad|apply Zac|apply Zab)<;>intro hd<;>try simp only[hd]|simp(disch:=first|assumption|omega|simp only[nx]<;>omega|fail)only[hd,qr,qn,Zfd,↓YA,YY,sevalprocAttr])<;>try revert hd;refine ttr ?_)
   refine Zaz (by rw[h0,hb];rfl)
theorem Zjt:∀(a b:List Int),decide (a<b)=!decide (cmpL a b≥0)
 | [],[]=>by simp[cmpL]
 | [],_ :: _=>by simp[cmpL]
 | _ :: _,[]=>by simp[cmpL]
 | x :: a,y :: b=>by
  have ih:=Zjt a b
  rw[cmpL]
  unfold Zgz
  rcases Int.lt_trichotomy x y with h|h|h
  ·have h2:¬y<x:=by omega
   simp[zbE,h,h2]
  ·subst h
   simp only[zbE,Int.lt_irrefl,false_or,true_and,ih]
   simp
  ·have h2:¬x<y:=by omega
   have h3:x≠y:=by omega
   simp[zbE,h,h2,h3]
set_option maxHeartbeats 2000000 in
theorem ZfV (t:Tok) (x:Shp) (l:List Fct) (H:Zaa) (hl:l.length<=1000000) (hxl:x.sizes.length<=1000000):Zay Tryz.prog 14 [.agg (Zc3 x),.sl t (rF l)] H (Pure H (.i (Zd7 x none l))):=by
 obtain⟨x0,x1,x2,x3⟩:=Zc6 x
 generalize hT:Zd7 x none l=T
 refine Zak hE cf14 (zac rfl) fun Q qr qn=>?_
 ((have hd:=tv;repeat' first|(first|apply Zad|apply Zac|apply Zab)<;>intro hd<;>try simp only[hd]|simp(disch:=first|assumption|omega|simp only[nx]<;>omega|fail)only[hd,qr,qn,Zew,↓YA,YY,sevalprocAttr,zaa])<;>try revert hd;refine ttr ?_)
 have hx0:Zaa.Ext H (H.alloc (.cells (Zc3 x) 37)):=by exact AXT
 have g1:(H.alloc (.cells (Zc3 x) 37)).get H.next=some (.cells (Zc3 x) 37):=Zaa.Zae (H:=H)
 generalize H.alloc (.cells (Zc3 x) 37)=G0 at *
 have l1:=Zaa.lt g1
 refine Zbs [1,2,8] (σ:=Unit) (fun(k:Nat) s=>T=Zd7 x (Ze2 l k) (l.drop k)/\∀f∈l.take k,f.1.length=x.sizes.length) (fun k s=>[]) (fun k s=>[]) () (GStep.refl _ _) (by simp only[ZaA,Zav,Fr.put,Fr.get,↓reduceIte,Nat.reduceEqDiff];rfl) (by intro k s;rfl) (by intro k s;rfl) (by rfl) (by unfold maxLen;omega) ?_ (by simp only[ZaF]) (by simp only[ZaJ]) ?_ ?_
 ·exact⟨hT.symm,by simp⟩
 ·(rintro k s G hk ⟨ht,hpre⟩ hG hn;try simp only[nx]at hn)
  have hc1:=(hG.get _ l1).trans g1
  have lc1:=Zaa.lt hc1
  rw[zan hk,Zf5]at ht
  have hC:=fun G=>Zh8 x l[k] G hxl
  have hnx:¬Zb8 x l[k]≠0->∀f∈l.take (k+1),f.1.length=x.sizes.length:=fun h f hf=>by
   rw[zaq hk]at hf
   rcases zaz.1 hf with hf|hf
   ·exact hpre f hf
   ·rw[zas.1 hf]
    have h:=zaW.1 h
    unfold Zb8 at h
    split at h
    ·omega
    ·omega
  obtain⟨f0,f1,f2,f3⟩:=Zbu l[k]
  by_cases c1:Zb8 x l[k]≠0
  ·have d1:(Zb8 x l[k] != 0)=true:=by simpa using c1
   rw[if_pos c1]at ht
   generalize Zb8 x l[k]=E at *
   ((have hd:=tv;repeat' first|(first|apply Zad|apply Zac|apply Zab)<;>intro hd<;>try simp only[hd]|simp(disch:=first|assumption|omega|simp only[nx]<;>omega|fail)only[hd,qr,qn,Zew,↓YA,YY,sevalprocAttr,hc1,hk,x0,x3,f0,f3,zaa])<;>try revert hd;refine ttr ?_)
   (refine Zap.use (hC _) ?_;rintro _ _ ⟨rfl,k1,rfl⟩)
   ((have hd:=tv;repeat' first|(first|apply Zad|apply Zac|apply Zab)<;>intro hd<;>try simp only[hd]|simp(disch:=first|assumption|omega|simp only[nx]<;>omega|fail)only[hd,qr,qn,Zew,↓YA,YY,sevalprocAttr,d1])<;>try revert hd;refine ttr ?_)
   refine Zaz (by rw[ht])
  ·have d1:(Zb8 x l[k] != 0)=false:=by simpa using c1
   rw[if_neg c1]at ht
   generalize Zb8 x l[k]=E at *
   cases k with
   | zero =>
    have d2:decide (((0:Nat):Int) > 0)=false:=by decide
    ((have hd:=tv;repeat' first|(first|apply Zad|apply Zac|apply Zab)<;>intro hd<;>try simp only[hd]|simp(disch:=first|assumption|omega|simp only[nx]<;>omega|fail)only[hd,qr,qn,Zew,↓YA,YY,sevalprocAttr,hc1,hk,x0,x3,f0,f3,zaa])<;>try revert hd;refine ttr ?_)
    (refine Zap.use (hC _) ?_;rintro _ _ ⟨rfl,k1,rfl⟩)
    ((have hd:=tv;repeat' first|(first|apply Zad|apply Zac|apply Zab)<;>intro hd<;>try simp only[hd]|simp(disch:=first|assumption|omega|simp only[nx]<;>omega|fail)only[hd,qr,qn,Zew,↓YA,YY,sevalprocAttr,d1,d2,hc1,hk,x0,x3,f0,f3,zaa])<;>try revert hd;refine ttr ?_)
    refine⟨(),by exact⟨by rw[ht];simp[Ze2,hk,geF],hnx c1⟩,by exact HXT⟩
   | succ j =>
    have d2:decide (((j+1:Nat):Int) > 0)=true:=decide_eq_true (by omega)
    have hj:j<l.length:=by omega
    have hlk:l[j+1].1.length<=1000000:=by rw[hnx c1 l[j+1] (by rw[zbt];exact⟨j+1,by omega,rfl⟩)];exact hxl
    have hw:IntKind.i64.wrap (((j+1:Nat):Int) - 1)=(j:Int):=by rw[show((j+1:Nat):Int) - 1=(j:Int) by omega];exact Zaw (by omega) (by omega)
    have hp:Ze2 l (j+1)=some l[j]:=by simp[Ze2,hj]
    have hp2:Ze2 l (j+1+1)=some l[j+1]:=by simp[Ze2,hk]
    obtain⟨j0,j1,j2,j3⟩:=Zbu l[j]
    have hK:=fun G=>Zjw l[j] l[j+1] G (by rw[hpre l[j] (by rw[zbt];exact⟨j,by omega,rfl⟩)];exact hxl) hlk
    rw[hp]at ht
    have hb0:=bfb (geF (some l[j]) l[j+1])
    rcases hb0 with hb0|hb0
    ·rw[if_neg (by rw[hb0];decide)]at ht
     have hb:decide (l[j].1<l[j+1].1)=true:=by rw[Zjt];rw[show decide (cmpL l[j].1 l[j+1].1≥0)=false from hb0];rfl
     ((have hd:=tv;repeat' first|(first|apply Zad|apply Zac|apply Zab)<;>intro hd<;>try simp only[hd]|simp(disch:=first|assumption|omega|simp only[nx]<;>omega|fail)only[hd,qr,qn,Zew,↓YA,YY,sevalprocAttr,hc1,hk,x0,x3,f0,f3,zaa])<;>try revert hd;refine ttr ?_)
     (refine Zap.use (hC _) ?_;rintro _ _ ⟨rfl,k1,rfl⟩)
     ((have hd:=tv;repeat' first|(first|apply Zad|apply Zac|apply Zab)<;>intro hd<;>try simp only[hd]|simp(disch:=first|assumption|omega|simp only[nx]<;>omega|fail)only[hd,qr,qn,Zew,↓YA,YY,sevalprocAttr,d1,d2,hw,hc1,hk,hj,x0,x3,f0,f3,j0,j3,zaa])<;>try revert hd;refine ttr ?_)
     (refine Zap.use (hK _) ?_;rintro _ _ ⟨rfl,k2,rfl⟩)
     ((have hd:=tv;repeat' first|(first|apply Zad|apply Zac|apply Zab)<;>intro hd<;>try simp only[hd]|simp(disch:=first|assumption|omega|simp only[nx]<;>omega|fail)only[hd,qr,qn,Zew,↓YA,YY,sevalprocAttr,hb,d1,d2,hw,hc1,hk,hj,x0,x3,f0,f3,j0,j3,zaa])<;>try revert hd;refine ttr ?_)
     refine⟨(),by exact⟨by rw[hp2];exact ht,hnx c1⟩,by exact HXT⟩
    ·rw[if_pos hb0]at ht
     have hb:decide (l[j].1<l[j+1].1)=false:=by rw[Zjt];rw[show decide (cmpL l[j].1 l[j+1].1≥0)=true from hb0];rfl
     ((have hd:=tv;repeat' first|(first|apply Zad|apply Zac|apply Zab)<;>intro hd<;>try simp only[hd]|simp(disch:=first|assumption|omega|simp only[nx]<;>omega|fail)only[hd,qr,qn,Zew,↓YA,YY,sevalprocAttr,hc1,hk,x0,x3,f0,f3,zaa])<;>try revert hd;refine ttr ?_)
     (refine Zap.use (hC _) ?_;rintro _ _ ⟨rfl,k1,rfl⟩)
     ((have hd:=tv;repeat' first|(first|apply Zad|apply Zac|apply Zab)<;>intro hd<;>try simp only[hd]|simp(disch:=first|assumption|omega|simp only[nx]<;>omega|fail)only[hd,qr,qn,Zew,↓YA,YY,sevalprocAttr,d1,d2,hw,hc1,hk,hj,x0,x3,f0,f3,j0,j3,zaa])<;>try revert hd;refine ttr ?_)
     (refine Zap.use (hK _) ?_;rintro _ _ ⟨rfl,k2,rfl⟩)
     ((have hd:=tv;repeat' first|(first|apply Zad|apply Zac|apply Zab)<;>intro hd<;>try simp only[hd]|simp(disch:=first|assumption|omega|simp only[nx]<;>omega|fail)only[hd,qr,qn,Zew,↓YA,YY,sevalprocAttr,hb,d1,d2,hw,hc1,hk,hj,x0,x3,f0,f3,j0,j3,zaa])<;>try revert hd;refine ttr ?_)
     refine Zaz (by rw[ht])
 ·(rintro s G ⟨ht,hpre⟩ hG hn;try simp only[nx]at hn)
  rw[zaT]at ht
  ((have hd:=tv;repeat' first|(first|apply Zad|apply Zac|apply Zab)<;>intro hd<;>try simp only[hd]|simp(disch:=first|assumption|omega|simp only[nx]<;>omega|fail)only[hd,qr,qn,Zew,↓YA,YY,sevalprocAttr])<;>try revert hd;refine ttr ?_)
  refine Zaz (by rw[ht];simp[Zd7])
def kyL (l:List Fct) (d i:Nat):Nat:=((l.getD i ([],ag0)).1.getD d 0).toNat
def undR (D:Dm) (l:List Fct) (d t:Nat) (key:Int) (part:List Nat):List Nat:=part.filter fun i=>Zdo D t (kyL l d i) == key
@[simp] theorem undR_nil {D:Dm} {l:List Fct} {d t:Nat} {key:Int}:undR D l d t key []=[]:=rfl
def PartIn (D:Dm) (l:List Fct) (d:Nat) (part:List Nat):Prop:=∀i∈part,i<l.length/\d<(l.getD i ([],ag0)).1.length/\0<=(l.getD i ([],ag0)).1.getD d 0/\kyL l d i<n0 D
end Go.Proofs.YtaapiigfmdhobaaGreat
