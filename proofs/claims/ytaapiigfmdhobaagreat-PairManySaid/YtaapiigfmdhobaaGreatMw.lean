/- Texts of the walk. -/
import Derived.Test.YtaapiigfmdhobaaGreatMk
import Derived.Test.YtaapiigfmdhobaaGreatMi
import Derived.Test.YtaapiigfmdhobaaGreatMp
namespace Go.Proofs.YtaapiigfmdhobaaGreat
set_option linter.defProp false
set_option linter.unusedSimpArgs false
set_option linter.unusedVariables false
open Go.RowKit
set_option maxHeartbeats 2000000 in
theorem Zd5 (q:Tx) (H:Zaa):Zay Tryz.prog 55 [eS q] H (Pure H (.b (ZbK q))):=by
 by_cases h0:(q.length:Int)<1
 ·have d0:decide ((q.length:Int)<1)=true:=decide_eq_true h0
  have hv:ZbK q=false:=by
   have:q=[]:=zaJ (by omega)
   subst this;rfl
  rw[hv]
  refine Zak hE cf55 (zab rfl) fun Q qr qn=>?_
  have hZ:=d0;refine Bz1 ?_
  refine ZbC (by rfl)
 have d0:decide ((q.length:Int)<1)=false:=decide_eq_false h0
 by_cases h1:(q.length:Int) > 12
 ·have d1:decide ((q.length:Int) > 12)=true:=decide_eq_true h1
  have hv:ZbK q=false:=by unfold ZbK;rw[d1];simp
  rw[hv]
  refine Zak hE cf55 (zab rfl) fun Q qr qn=>?_
  have hZ:=an7 d0<|d1;refine Bz1 ?_
  refine ZbC (by rfl)
 have d1:decide ((q.length:Int) > 12)=false:=decide_eq_false h1
 have hv:ZbK q=q.all ZcS:=by
  unfold ZbK
  rw[d1,decide_eq_false (fun h=>h0 (by rw[h];simp))]
  simp
 rw[hv]
 generalize hT:q.all ZcS=T
 refine Zak hE cf55 (zab rfl) fun Q qr qn=>?_
 have hZ:=an7 d0<|d1;refine Bz1 ?_
 refine Zcw [0] (σ:=Nat) (fun s=>s<=q.length/\T=(q.drop s).all ZcS) (fun s=>q.length - s) (fun s=>[(3,.i (s:Int))]) (fun s=>[]) 0 (GStep.refl _ _) (by simp only[ZaA,Zav,Fr.put,Fr.get,↓reduceIte,Nat.reduceEqDiff];rfl) ?_ (by simp only[ZaF,ZaX,Fr.put,Fr.get,↓reduceIte,Nat.reduceEqDiff,and_self]<;>simp) (by simp only[ZaJ]) ?_
 ·exact⟨zaD _,hT.symm⟩
 ·(rintro i G ⟨h2,h3⟩ hG hn;try simp only[nx]at hn)
  by_cases c:i<q.length
  ·have d2:decide ((i:Int)<(q.length:Int))=true:=decide_eq_true (by omega)
   have hs:=Zh9 c
   have hi0:(0:Int)<=(i:Int):=by omega
   have hw:IntKind.i64.wrap ((i:Int)+1)=((i+1:Nat):Int):=by rw[Zaw (by omega) (by omega)];omega
   rw[zao c,List.all_cons]at h3
   generalize q[i]=ch at *
   have hbad:ZcS ch=false->false=T:=fun h=>by rw[h3,h];rfl
   have hgood:ZcS ch=true->T=(q.drop (i+1)).all ZcS:=fun h=>by rw[h3,h];rfl
   clear h3 hv hT
   ((have hd:=tv;repeat' first|(first|apply Zad|apply Zac|apply Zab)<;>intro hd<;>try simp only[hd]|simp(disch:=first|assumption|omega|simp only[nx]<;>omega|fail)only[hd,qr,qn,ZkZ,↓YA,YY,sevalprocAttr,d2,hs,hi0,hw])<;>try revert hd;refine ttr ?_)
   all_goals first
    | (refine ZbC (hbad ?_);clear hbad hgood hs hw hG;unfold ZcS;first|(simp_all;done)|grind)
    | (refine⟨i+1,⟨by omega,hgood ?_⟩,by omega,rfl,by exact HXT⟩;clear hbad hgood hs hw hG;unfold ZcS;first|(simp_all;done)|grind)
  ·have d2:decide ((i:Int)<(q.length:Int))=false:=decide_eq_false (by omega)
   rw[zbn (by omega)]at h3
   have hZ:=d2;refine Bz1 ?_
   refine ZbC (by exact h3.symm)
theorem Zlh (q:Tx) (H:Zaa):Zay Tryz.prog 163 [eS q] H (Pure H (.b (isT q))):=by
 refine Zak hE cf163 (zab rfl) fun Q qr qn=>?_
 ((have hd:=tv;repeat' first|(first|apply Zad|apply Zac|apply Zab)<;>intro hd<;>try simp only[hd]|simp(disch:=first|assumption|omega|simp only[nx]<;>omega|fail)only[hd,qr,qn,ZvQ,↓YA,YY,sevalprocAttr])<;>try revert hd;refine ttr ?_)
 ·exact ZbC (by unfold isT;rw[hd];rfl)
 ·exact ZbC (by unfold isT;rw[hd];rfl)
theorem tle (a b:Tx):(decide (b<a) || decide (b=a))=!decide (a<b):=by
 rw[za8]
 simp only[Bool.or_eq_true,decide_eq_true_eq,zbQ,decide_eq_false_iff_not]
 rw[List.not_lt,zcH]
set_option maxHeartbeats 1000000 in
theorem Zki (t:Tok) (l:List Tx) (H:Zaa) (hl:l.length<=1000000):Zay Tryz.prog 141 [.sl t (rS l)] H (Pure H (.i (Zgt none l))):=by
 generalize hT:Zgt none l=T
 refine Zak hE cf141 (zab rfl) fun Q qr qn=>?_
 refine Bz0 ?_
 refine Zcw [0] (σ:=Nat) (fun s=>s<=l.length/\T=Zgt (Ze4 l s) (l.drop s)) (fun s=>l.length - s) (fun s=>[(3,.i (s:Int))]) (fun s=>[]) 0 (GStep.refl _ _) (by simp only[ZaA,Zav,Fr.put,Fr.get,↓reduceIte,Nat.reduceEqDiff];rfl) ?_ (by simp only[ZaF,ZaX,Fr.put,Fr.get,↓reduceIte,Nat.reduceEqDiff,and_self]<;>simp) (by simp only[ZaJ]) ?_
 ·exact⟨zaD _,hT.symm⟩
 ·(rintro i G ⟨h2,h3⟩ hG hn;try simp only[nx]at hn)
  by_cases c:i<l.length
  ·have d2:decide ((i:Int)<(l.length:Int))=true:=decide_eq_true (by omega)
   have hi0:(0:Int)<=(i:Int):=by omega
   have hw:IntKind.i64.wrap ((i:Int)+1)=((i+1:Nat):Int):=by rw[Zaw (by omega) (by omega)];omega
   have hr:(rS l)[i]?=some [eS l[i]]:=by simp[c]
   have hI:=fun G=>Zlh l[i] G
   rw[zao c,Zhp]at h3
   have hb:=bfb (isT l[i])
   rcases hb with hb|hb
   ·rw[if_pos hb]at h3
    rw[hb]at hI
    have hZ:=an7 d2<|an7 hi0<|an7 c<|hr;refine Bz3 ?_
    refine qcp (hI _) fun k1=>?_
    refine Bz0 ?_
    refine Zaz (by rw[h3])
   ·rw[if_neg (by rw[hb];decide)]at h3
    rw[hb]at hI
    cases i with
    | zero =>
     have d3:decide (((0:Nat):Int) > 0)=false:=by decide
     have d2z:decide ((0:Int)<(l.length:Int))=true:=d2
     have hZ:=an7 d2<|an7 d2z<|an7 hi0<|an7 c<|hr;refine Bz3 ?_
     refine qcp (hI _) fun k1=>?_
     have hZ:=an7 d3<|hw;refine Bz1 ?_
     exact⟨1,⟨by omega,by rw[h3];simp[Ze4,c,geT]⟩,by omega,rfl,by exact HXT⟩
    | succ j =>
     have d3:decide (((j+1:Nat):Int) > 0)=true:=decide_eq_true (by omega)
     have hj:j<l.length:=by omega
     have hr2:(rS l)[j]?=some [eS l[j]]:=by simp[hj]
     have hw2:IntKind.i64.wrap (((j+1:Nat):Int) - 1)=(j:Int):=by rw[show((j+1:Nat):Int) - 1=(j:Int) by omega];exact Zaw (by omega) (by omega)
     have hj0:(0:Int)<=(j:Int):=by omega
     have hp:Ze4 l (j+1)=some l[j]:=by simp[Ze4,hj]
     have hp2:Ze4 l (j+1+1)=some l[j+1]:=by simp[Ze4,c]
     rw[hp]at h3
     simp only[geT]at h3
     have hle:=tle l[j] l[j+1]
     have hlt:=bfb (decide (l[j]<l[j+1]))
     rcases hlt with hlt|hlt<;>rw[hlt]at hle
     ·have hZ:=an7 d2<|an7 hi0<|an7 c<|hr;refine Bz3 ?_
      refine qcp (hI _) fun k1=>?_
      have hZ:=an7 d2<|an7 d3<|an7 hi0<|an7 c<|an7 hr<|an7 hr2<|an7 hw<|an7 hw2<|an7 hj<|an7 hj0<|hle;refine Bz3 ?_
      refine Zaz (by rw[h3];simp[hlt])
     ·have hZ:=an7 d2<|an7 hi0<|an7 c<|hr;refine Bz3 ?_
      refine qcp (hI _) fun k1=>?_
      have hZ:=an7 d2<|an7 d3<|an7 hi0<|an7 c<|an7 hr<|an7 hr2<|an7 hw<|an7 hw2<|an7 hj<|an7 hj0<|hle;refine Bz3 ?_
      exact⟨j+1+1,⟨by omega,by rw[h3,hp2];simp[hlt]⟩,by omega,rfl,by exact HXT⟩
  ·have d2:decide ((i:Int)<(l.length:Int))=false:=decide_eq_false (by omega)
   rw[zbn (by omega)]at h3
   have hZ:=d2;refine Bz3 ?_
   refine Zaz (by rw[h3];rfl)
def Zmy (l:List Int) (n:Int):Bool:=l.any fun x=>x == n
set_option maxHeartbeats 1000000 in
theorem in_sound (t:Tok) (l:List Int) (n:Int) (H:Zaa) (hl:l.length<=1000000):Zay Tryz.prog 164 [.sl t (rI l),.i n] H (Pure H (.b (Zmy l n))):=by
 generalize hT:Zmy l n=T
 refine Zak hE cf164 (zab rfl) fun Q qr qn=>?_
 refine Bz2 ?_
 refine Zbs [1,7,8] (σ:=Unit) (fun(k:Nat) s=>T=Zmy (l.drop k) n) (fun k s=>[]) (fun k s=>[]) () (GStep.refl _ _) (by simp only[ZaA,Zav,Fr.put,Fr.get,↓reduceIte,Nat.reduceEqDiff];rfl) (by intro k s;rfl) (by intro k s;rfl) (by rfl) (by unfold maxLen;omega) ?_ (by simp only[ZaF]) (by simp only[ZaJ]) ?_ ?_
 ·exact hT.symm
 ·(rintro k u G hk ht hG hn;try simp only[nx]at hn)
  rw[zao hk]at ht
  unfold Zmy at ht
  rw[List.any_cons]at ht
  have hr:(rI l)[k]?=some [.i l[k]]:=by simp[hk]
  generalize l[k]=v at *
  have hb:=bfb (v == n)
  rcases hb with hb|hb
  ·rw[hb,zbP]at ht
   have hZ:=an7 hr<|hb;refine Bz1 ?_
   exact⟨(),ht,by exact HXT⟩
  ·rw[hb,Bool.true_or]at ht
   have hZ:=an7 hr<|hb;refine Bz1 ?_
   refine ZbC (by rw[ht])
 ·(rintro u G ht hG hn;try simp only[nx]at hn)
  rw[zaP]at ht
  refine Bz0 ?_
  refine ZbC (by rw[ht];rfl)
def ZeL (t:Tr) (above:Int):Bool :=
 if above<=0 then ((t.up.length:Int) == 0) else if (t.up.length:Int)≠(t.terms.length:Int)\/above > 200 then false else t.up.all (inU above)&&(List.range above.toNat).all fun i:Nat=>Zmy t.up (i:Int)
set_option maxHeartbeats 2000000 in
theorem ZiU (t:Tr) (above:Int) (H:Zaa) (hu:t.up.length<=1000000):Zay Tryz.prog 142 [.agg (eTr t),.i above] H (Pure H (.b (ZeL t above))):=by
 obtain⟨f0,f1,f2,f3,f4⟩:=Zba t
 by_cases h1:above<=0
 ·have d1:decide (above<=0)=true:=decide_eq_true h1
  have hv:ZeL t above=((t.up.length:Int) == 0):=by unfold ZeL;rw[if_pos h1]
  rw[hv]
  refine Zak hE cf142 (zab rfl) fun Q qr qn=>?_
  have hZ:=an7 d1<|f3;refine Bz3 ?_
  refine ZbC (by rfl)
 have d1:decide (above<=0)=false:=decide_eq_false h1
 by_cases h2:(t.up.length:Int)≠(t.terms.length:Int)
 ·have d2:((t.up.length:Int) != (t.terms.length:Int))=true:=by simpa using h2
  have hv:ZeL t above=false:=by unfold ZeL;rw[if_neg h1,if_pos (.inl h2)]
  rw[hv]
  refine Zak hE cf142 (zab rfl) fun Q qr qn=>?_
  have hZ:=an7 d1<|an7 d2<|an7 f2<|f3;refine Bz3 ?_
  refine ZbC (by rfl)
 have d2:((t.up.length:Int) != (t.terms.length:Int))=false:=by simpa using h2
 by_cases h3:above > 200
 ·have d3:decide (above > 200)=true:=decide_eq_true h3
  have hv:ZeL t above=false:=by unfold ZeL;rw[if_neg h1,if_pos (.inr h3)]
  rw[hv]
  refine Zak hE cf142 (zab rfl) fun Q qr qn=>?_
  have hZ:=an7 d1<|an7 d2<|an7 d3<|an7 f2<|f3;refine Bz3 ?_
  refine ZbC (by rfl)
 have d3:decide (above > 200)=false:=decide_eq_false h3
 have hv:ZeL t above=(t.up.all (inU above)&&(List.range above.toNat).all fun i:Nat=>Zmy t.up (i:Int)):=by unfold ZeL;rw[if_neg h1,if_neg (fun h=>h.elim h2 h3)]
 rw[hv]
 obtain⟨A,hA⟩:∃A:Nat,above=(A:Int):=⟨above.toNat,by omega⟩
 subst hA
 rw[Int.toNat_natCast]
 have g1:(H.alloc (.cells (eTr t) 107)).get H.next=some (.cells (eTr t) 107):=Zaa.Zae
 have l1:H.next<(H.alloc (.cells (eTr t) 107)).next:=by simp
 have hx0:Zaa.Ext H (H.alloc (.cells (eTr t) 107)):=(Zaa.Ext.refl H).alloc
 generalize hT:(t.up.all (inU (A:Int))&&(List.range A).all fun i:Nat=>Zmy t.up (i:Int))=T
 refine Zak hE cf142 (zab rfl) fun Q qr qn=>?_
 have hZ:=an7 d1<|an7 d2<|an7 d3<|an7 f2<|f3;refine Bz3 ?_
 generalize H.alloc (.cells (eTr t) 107)=G0 at *
 refine Zbs [1,2,26,27] (σ:=Unit) (fun(k:Nat) s=>(t.up.take k).all (inU (A:Int))=true) (fun k s=>[]) (fun k s=>[]) () (GStep.refl _ _) (by simp only[ZaA,Zav,Fr.put,Fr.get,↓reduceIte,Nat.reduceEqDiff];rfl) (by intro k s;rfl) (by intro k s;rfl) (by rfl) (by unfold maxLen;omega) ?_ (by simp only[ZaF]) (by simp only[ZaJ]) ?_ ?_
 ·rfl
 ·(rintro k u G hk ht hG hn;try simp only[nx]at hn)
  have hr:(rI t.up)[k]?=some [.i t.up[k]]:=by simp[hk]
  have hsn:=Zhg (p:=inU (A:Int)) hk
  rw[ht,zaY]at hsn
  have hbad:inU (A:Int) t.up[k]=false->false=T:=fun h=>by rw[<- hT,Zjc hk h];rfl
  generalize t.up[k]=v at *
  have e1:=bfb (decide (v<0))
  have e2:=bfb (decide (v≥(A:Int)))
  rcases e1 with e1|e1
  ·rcases e2 with e2|e2
   ·have hZ:=an7 hr<|an7 e1<|e2;refine Bz1 ?_
    exact⟨(),by rw[hsn];unfold inU;rw[e1,e2];rfl,by exact HXT⟩
   ·have hZ:=an7 hr<|an7 e1<|e2;refine Bz1 ?_
    exact ZbC (hbad (by unfold inU;rw[e1,e2];rfl)) (by exact AXT)
  ·have hZ:=an7 hr<|e1;refine Bz1 ?_
   exact ZbC (hbad (by unfold inU;rw[e1];rfl)) (by exact AXT)
 ·(rintro u G ht hG hn;try simp only[nx]at hn)
  rw[zaK]at ht
  rw[ht,zaY]at hT
  have hxG:Zaa.Ext H G:=hG.ZdB hx0 (by simp)
  have gG:=(hG.g _ l1 (by simp)).trans g1
  have lG:=Zaa.lt gG
  refine Bz0 ?_
  refine Zcw [1,2] (σ:=Nat) (fun s=>s<=A/\(List.range s).all (fun i:Nat=>Zmy t.up (i:Int))=true) (fun s=>A - s) (fun s=>[(7,.i (s:Int))]) (fun s=>[]) 0 (GStep.refl _ _) (by simp only[ZaA,Zav,Fr.put,Fr.get,↓reduceIte,Nat.reduceEqDiff];rfl) ?_ (by simp only[ZaF,ZaX,Fr.put,Fr.get,↓reduceIte,Nat.reduceEqDiff,and_self]<;>simp) (by simp only[ZaJ]) ?_
  ·exact⟨zaD _,rfl⟩
  ·(rintro i G2 ⟨h4,h5⟩ hG2 hn2;try simp only[nx]at hn2)
   have gG2:=(hG2.g _ lG (by simp)).trans gG
   have lG2:=Zaa.lt gG2
   have hxG2:Zaa.Ext H G2:=hG2.ZdB hxG (by simp)
   by_cases c:i<A
   ·have d4:decide ((i:Int)<(A:Int))=true:=decide_eq_true (by omega)
    have hw:IntKind.i64.wrap ((i:Int)+1)=((i+1:Nat):Int):=by rw[Zaw (by omega) (by omega)];omega
    have hI:=fun G=>in_sound .no t.up (i:Int) G hu
    have hb:=bfb (Zmy t.up (i:Int))
    rcases hb with hb|hb
    ·have hbad:false=T:=by
      rw[<- hT]
      refine Eq.symm (List.all_eq_false.2 ⟨i,by simpa using c,by simp[hb]⟩)
     rw[hb]at hI
     have hZ:=an7 d4<|an7 gG2<|f3;refine Bz1 ?_
     refine qcp (hI _) fun k1=>?_
     refine Bz0 ?_
     exact ZbC hbad (by exact AXT)
    ·rw[hb]at hI
     have hZ:=an7 d4<|an7 gG2<|f3;refine Bz1 ?_
     refine qcp (hI _) fun k1=>?_
     have hZ:=hw;refine Bz1 ?_
     exact⟨i+1,⟨by omega,by rw[List.range_succ,List.all_append,h5];simp[hb]⟩,by omega,rfl,hG2.bump⟩
   ·have d4:decide ((i:Int)<(A:Int))=false:=decide_eq_false (by omega)
    have hAi:i=A:=by omega
    subst hAi
    rw[h5]at hT
    have hZ:=d4;refine Bz1 ?_
    exact ZbC hT hxG2
theorem ZmF:∀(A:Nat) (K:List Int),K.Nodup->(∀x∈K,0<=x/\x<(A:Int))->K.length<=A/\(K.length=A ↔ ∀i:Nat,i<A->(i:Int)∈K)
 | 0,K,_,h=>by
  have:K=[]:=by
   cases K with
   | nil=>rfl
   | cons a r=>have:=h a zae;omega
  subst this
  simp
 | A+1,K,hn,h=>by
  by_cases c:(A:Int)∈K
  ·have h1:=zck c
   have hpos:=zb0 c
   obtain⟨k1,k2⟩:=ZmF A (K.erase (A:Int)) (hn.erase _) (fun x hx=>by
    obtain⟨e1,e2⟩:=(hn.mem_erase_iff).1 hx
    have:=h x e2
    omega)
   refine⟨by omega,fun e i hi=>?_,fun hall=>?_⟩
   ·by_cases ci:i=A
    ·subst ci;exact c
    ·exact((hn.mem_erase_iff).1 (k2.1 (by omega) i (by omega))).2
   ·have:=k2.2 (fun i hi=>(hn.mem_erase_iff).2 ⟨by omega,hall i (by omega)⟩)
    omega
  ·obtain⟨k1,_⟩:=ZmF A K hn (fun x hx=>by
    have h1:=h x hx
    have:x≠(A:Int):=fun e=>c (e ▸ hx)
    omega)
   exact⟨by omega,fun e=>by omega,fun hall=>absurd (hall A (by omega)) c⟩
theorem ZgN {K V:Type} [DecidableEq K] (k:K) (v:V):∀M:List (K×V),(ZbU k v M).map (·.1)=if k∈M.map (·.1) then M.map (·.1) else M.map (·.1)++[k]
 | []=>by simp[ZbU]
 | (k',u) :: M=>by
  have ih:=ZgN k v M
  unfold ZbU
  by_cases c:k=k'
  ·subst c;simp
  ·rw[if_neg c,zas,ih]
   by_cases c2:k∈M.map (·.1)
   ·rw[if_pos c2,if_pos (by rw[zas];exact zad _ c2),zas]
   ·rw[if_neg c2,if_neg (by rw[zas];intro hm;rcases zal.1 hm with h|h;exact c h;exact c2 h),zas,List.cons_append]
theorem ZmS (l:List Int):((Zg2 l).map (·.1)).Nodup/\∀x,x∈(Zg2 l).map (·.1) ↔ x∈l:=by
 suffices ∀(l:List Int) (M:List (Int×Int)),(M.map (·.1)).Nodup->((l.foldl (fun M n=>ZbU n 1 M) M).map (·.1)).Nodup/\∀x,x∈(l.foldl (fun M n=>ZbU n 1 M) M).map (·.1) ↔ x∈M.map (·.1)\/x∈l from by
  have:=this l [] (by simp)
  simpa [Zg2] using this
 intro l
 induction l with
 | nil=>intro M hM;simp[hM]
 | cons a r ih =>
  intro M hM
  rw[List.foldl_cons]
  have hk:=ZgN a (1:Int) M
  have hnd:((ZbU a (1:Int) M).map (·.1)).Nodup:=by
   rw[hk]
   split
   ·exact hM
   ·rename_i h
    rw[zcP]
    exact⟨hM,by simp,fun x hx y hy e=>by simp at hy;subst e hy;exact h hx⟩
  obtain⟨h1,h2⟩:=ih _ hnd
  refine⟨h1,fun x=>?_⟩
  rw[h2,hk]
  split
  ·rename_i h
   constructor
   ·rintro(h3|h3)
    ·exact .inl h3
    ·exact .inr (zad _ h3)
   ·rintro(h3|h3)
    ·exact .inl h3
    ·rcases zal.1 h3 with rfl|h3
     ·exact .inl h
     ·exact .inr h3
  ·constructor
   ·rintro(h3|h3)
    ·rcases zav.1 h3 with h3|h3
     ·exact .inl h3
     ·rw[zam.1 h3];exact .inr zae
    ·exact .inr (zad _ h3)
   ·rintro(h3|h3)
    ·exact .inl (zba _ h3)
    ·rcases zal.1 h3 with rfl|h3
     ·exact .inl (zbp _ (by simp))
     ·exact .inr h3
theorem ZjD (l:List Int) (n:Int):Zmy l n=true ↔ n∈l:=by
 unfold Zmy
 rw[zcw]
 constructor
 ·rintro⟨x,hx,h⟩;have:x=n:=by simpa using h
  exact this ▸ hx
 ·intro h;exact⟨n,h,by simp⟩
theorem treeR_eq {t:Tr} {above:Int} (hm:t.terms.length<=200):ZeL t above=ZdD t.up t.terms.length above:=by
 unfold ZeL ZdD
 by_cases h1:above<=0
 ·rw[if_pos h1,if_pos h1]
 rw[if_neg h1,if_neg h1]
 by_cases h2:(t.up.length:Int)≠(t.terms.length:Int)
 ·rw[if_pos (.inl h2),if_pos h2]
 rw[if_neg h2]
 obtain⟨A,hA⟩:∃A:Nat,above=(A:Int):=⟨above.toNat,by omega⟩
 subst hA
 obtain⟨n1,n2⟩:=ZmS t.up
 have hlen:(Zg2 t.up).length=((Zg2 t.up).map (·.1)).length:=by rw[zaj]
 have hle:=ZjE t.up
 by_cases h3:(A:Int) > 200
 ·rw[if_pos (.inr h3)]
  have:(((Zg2 t.up).length:Int) == (A:Int))=false:=by rw[beq_eq_false_iff_ne];omega
  rw[this,Bool.and_false]
 ·rw[if_neg (fun h=>h.elim h2 h3),Int.toNat_natCast]
  by_cases h4:t.up.all (inU (A:Int))=true
  ·rw[h4,zaY,zaY,za8]
   have hin:∀x∈(Zg2 t.up).map (·.1),0<=x/\x<(A:Int):=fun x hx=>by
    have:=zaO.1 h4 x ((n2 x).1 hx)
    unfold inU at this
    simp at this
    omega
   obtain⟨_,k2⟩:=ZmF A _ n1 hin
   rw[beq_iff_eq,hlen,zaO]
   constructor
   ·intro h
    have:=k2.2 fun i hi=>(n2 _).2 ((ZjD _ _).1 (h i (by simpa using hi)))
    omega
   ·intro h i hi
    exact(ZjD _ _).2 ((n2 _).1 (k2.1 (by omega) i (by simpa using hi)))
  ·have h5:t.up.all (inU (A:Int))=false:=by simpa using h4
   rw[h5,zcm,zcm]
set_option maxHeartbeats 2000000 in
theorem Zjl (t:Tr) (above:Int) (H:Zaa) (hu:t.up.length<=1000000):Zay Tryz.prog 100 [.agg (eTr t),.i above] H (Pure H (.i (ZbO t above))):=by
 obtain⟨f0,f1,f2,f3,f4⟩:=Zba t
 have hN:=fun G=>Zd5 t.name G
 have hb:=bfb (ZbK t.name)
 rcases hb with hb|hb
 ·have hv:ZbO t above=2:=by rw[ZbO,if_pos hb]
  rw[hv]
  rw[hb]at hN
  refine Zak hE ZkE (zab rfl) fun Q qr qn=>?_
  have hZ:=f1;refine Bz1 ?_
  refine qcp (hN _) fun k1=>?_
  refine Bz0 ?_
  refine Zaz (by rfl)
 rw[hb]at hN
 have e0:¬ZbK t.name=false:=by rw[hb];decide
 by_cases h1:(t.terms.length:Int)<1
 ·have d1:decide ((t.terms.length:Int)<1)=true:=decide_eq_true h1
  have hv:ZbO t above=5:=by rw[ZbO,if_neg e0,if_pos (.inl h1)]
  rw[hv]
  refine Zak hE ZkE (zab rfl) fun Q qr qn=>?_
  have hZ:=f1;refine Bz1 ?_
  refine qcp (hN _) fun k1=>?_
  have hZ:=an7 f2<|d1;refine Bz3 ?_
  refine Zaz (by rfl)
 have d1:decide ((t.terms.length:Int)<1)=false:=decide_eq_false h1
 by_cases h2:(t.terms.length:Int) > 200
 ·have d2:decide ((t.terms.length:Int) > 200)=true:=decide_eq_true h2
  have hv:ZbO t above=5:=by rw[ZbO,if_neg e0,if_pos (.inr h2)]
  rw[hv]
  refine Zak hE ZkE (zab rfl) fun Q qr qn=>?_
  have hZ:=f1;refine Bz1 ?_
  refine qcp (hN _) fun k1=>?_
  have hZ:=an7 f2<|an7 d1<|d2;refine Bz3 ?_
  refine Zaz (by rfl)
 have d2:decide ((t.terms.length:Int) > 200)=false:=decide_eq_false h2
 have e1:¬((t.terms.length:Int)<1\/(t.terms.length:Int) > 200):=fun h=>h.elim h1 h2
 have hR:=fun G=>Zki .no t.terms G (by omega)
 by_cases h3:Zgt none t.terms≠0
 ·have d3:(Zgt none t.terms != 0)=true:=by simpa using h3
  have hv:ZbO t above=Zgt none t.terms:=by rw[ZbO,if_neg e0,if_neg e1,if_pos h3]
  rw[hv]
  refine Zak hE ZkE (zab rfl) fun Q qr qn=>?_
  have hZ:=f1;refine Bz1 ?_
  refine qcp (hN _) fun k1=>?_
  have hZ:=an7 f2<|an7 d1<|d2;refine Bz3 ?_
  refine qcp (hR _) fun k2=>?_
  have hZ:=d3;refine Bz1 ?_
  refine Zaz (by rfl)
 have d3:(Zgt none t.terms != 0)=false:=by simpa using h3
 have hv:ZbO t above=if ZeL t above=false then 14 else 0:=by rw[ZbO,if_neg e0,if_neg e1,if_neg h3,treeR_eq (by omega)]
 rw[hv]
 have hT:=fun G=>ZiU t above G hu
 have hb4:=bfb (ZeL t above)
 rcases hb4 with hb4|hb4
 ·rw[hb4]at hT
  rw[hb4,if_pos rfl]
  refine Zak hE ZkE (zab rfl) fun Q qr qn=>?_
  have hZ:=f1;refine Bz1 ?_
  refine qcp (hN _) fun k1=>?_
  have hZ:=an7 f2<|an7 d1<|d2;refine Bz3 ?_
  refine qcp (hR _) fun k2=>?_
  have hZ:=an7 d3<|an7 f0<|f4;refine Bz1 ?_
  refine qcp (hT _) fun k3=>?_
  refine Bz0 ?_
  refine Zaz (by rfl)
 ·rw[hb4]at hT
  rw[hb4,if_neg (by decide)]
  refine Zak hE ZkE (zab rfl) fun Q qr qn=>?_
  have hZ:=f1;refine Bz1 ?_
  refine qcp (hN _) fun k1=>?_
  have hZ:=an7 f2<|an7 d1<|d2;refine Bz3 ?_
  refine qcp (hR _) fun k2=>?_
  have hZ:=an7 d3<|an7 f0<|f4;refine Bz1 ?_
  refine qcp (hT _) fun k3=>?_
  refine Bz0 ?_
  refine Zaz (by rfl)
theorem ZhJ (d:Dm) (k:Nat) (H:Zaa) (hk:k<d.tiers.length) (hl:d.tiers.length<=1000000):Zay Tryz.prog 101 [.agg (eDm d),.i (k:Int)] H (Pure H (.i (ZbR (d.tiers.drop (k+1))))):=by
 obtain⟨f0,f1,f2,f3⟩:=Za7 d
 have hw:IntKind.i64.wrap ((k:Int)+1)=((k+1:Nat):Int):=by rw[show(k:Int)+1=((k+1:Nat):Int) by omega];exact Zaw (by omega) (by omega)
 refine Zak hE cf101 (zab rfl) fun Q qr qn=>?_
 by_cases h:k+1<d.tiers.length
 ·have d1:decide (((k+1:Nat):Int)≥(d.tiers.length:Int))=false:=by simp;omega
  rw[zao h]at qr qn
  have hg:=Zdh h
  obtain⟨g0,g1,g2,g3,g4⟩:=Zba d.tiers[k+1]
  have hZ:=an7 f2<|an7 hw<|an7 d1<|an7 h<|an7 g0<|g2;refine Bz3 ?_
  refine Zaz (by rfl)
 ·have d1:decide (((k+1:Nat):Int)≥(d.tiers.length:Int))=true:=by simp;omega
  rw[zbw (by omega)]at qr qn
  have hZ:=an7 f2<|an7 hw<|d1;refine Bz3 ?_
  refine Zaz (by rfl)
theorem HX.two {O:List (Nat×Zb3)} {H G G1:Zaa} (h:HX O H G) (k:HX [] G G1):HX O H G1 :=
 ⟨zaB h.n k.n,fun p hp=>(k.g _ (Zaa.lt (h.o p hp)) (by simp)).trans (h.o p hp),fun j hj hne=>(k.g _ (zbf hj h.n) (by simp)).trans (h.g j hj hne)⟩
theorem Zmg (seen:List Tx) (t:Tr) (r:List Tr):Zkb seen (t :: r)=if ZbO t (ZbR r)≠0 then ZbO t (ZbR r) else if t.name∈seen then 11 else Zkb (seen++[t.name]) r:=by simp only[Zkb]
set_option maxHeartbeats 4000000 in
theorem ZkC (d:Dm) (H:Zaa) (hs:∀t∈d.tiers,Zgr t):Zay Tryz.prog 54 [.agg (eDm d)] H (Pure H (.i (Zdv d))):=by
 obtain⟨f0,f1,f2,f3⟩:=Za7 d
 have hN:=fun G=>Zd5 d.name G
 have hb:=bfb (ZbK d.name)
 rcases hb with hb|hb
 ·have hv:Zdv d=2:=by rw[Zdv,if_pos hb]
  rw[hv]
  rw[hb]at hN
  refine Zak hE cf54 (zab rfl) fun Q qr qn=>?_
  have hZ:=f1;refine Bz1 ?_
  refine qcp (hN _) fun k1=>?_
  refine Bz0 ?_
  refine Zaz (by rfl)
 rw[hb]at hN
 have e0:¬ZbK d.name=false:=by rw[hb];decide
 by_cases h1:(d.tiers.length:Int)<1
 ·have d1:decide ((d.tiers.length:Int)<1)=true:=decide_eq_true h1
  have hv:Zdv d=5:=by rw[Zdv,if_neg e0,if_pos (.inl h1)]
  rw[hv]
  refine Zak hE cf54 (zab rfl) fun Q qr qn=>?_
  have hZ:=f1;refine Bz1 ?_
  refine qcp (hN _) fun k1=>?_
  have hZ:=an7 f2<|d1;refine Bz3 ?_
  refine Zaz (by rfl)
 have d1:decide ((d.tiers.length:Int)<1)=false:=decide_eq_false h1
 by_cases h2:(d.tiers.length:Int) > 4
 ·have d2:decide ((d.tiers.length:Int) > 4)=true:=decide_eq_true h2
  have hv:Zdv d=5:=by rw[Zdv,if_neg e0,if_pos (.inr h2)]
  rw[hv]
  refine Zak hE cf54 (zab rfl) fun Q qr qn=>?_
  have hZ:=f1;refine Bz1 ?_
  refine qcp (hN _) fun k1=>?_
  have hZ:=an7 f2<|an7 d1<|d2;refine Bz3 ?_
  refine Zaz (by rfl)
 have d2:decide ((d.tiers.length:Int) > 4)=false:=decide_eq_false h2
 have hv:Zdv d=Zkb [] d.tiers:=by rw[Zdv,if_neg e0,if_neg (fun h=>h.elim h1 h2)]
 rw[hv]
 generalize hT:Zkb [] d.tiers=T
 have g1:(H.alloc (.cells (eDm d) 102)).get H.next=some (.cells (eDm d) 102):=Zaa.Zae
 refine Zak hE cf54 (zab rfl) fun Q qr qn=>?_
 have hZ:=f1;refine Bz1 ?_
 refine qcp (hN _) fun k1=>?_
 have hZ:=an7 f2<|an7 d1<|d2;refine Bz3 ?_
 have hx0:Zaa.Ext H ((H.alloc (.cells (eDm d) 102)).bump k1):=by exact AXT
 have gg:((H.alloc (.cells (eDm d) 102)).bump k1).get H.next=some (.cells (eDm d) 102):=g1
 generalize (H.alloc (.cells (eDm d) 102)).bump k1=G0 at *
 have l1:=Zaa.lt gg
 refine Zbs [1,22] (σ:=Unit) (fun(k:Nat) s=>T=Zkb ((d.tiers.take k).map (·.name)) (d.tiers.drop k)) (fun k s=>[]) (fun k s=>[]) () (GStep.refl _ _) (by simp only[ZaA,Zav,Fr.put,Fr.get,↓reduceIte,Nat.reduceEqDiff];rfl) (by intro k s;rfl) (by intro k s;rfl) (by rfl) (by unfold maxLen;omega) ?_ (by simp only[ZaF]) (by simp only[ZaJ]) ?_ ?_
 ·exact hT.symm
 ·(rintro k u G hk ht hG hn;try simp only[nx]at hn)
  have hxG:Zaa.Ext H G:=hG.ZdB hx0 (by simp)
  have gG:=(hG.g _ l1 (by simp)).trans gg
  have lG:=Zaa.lt gG
  rw[zao hk,Zmg]at ht
  have hr:=Zdh hk
  obtain⟨t0,t1,t2,t3,t4⟩:=Zba d.tiers[k]
  have hA:=fun G=>ZhJ d k G hk (by omega)
  have hW:=fun G=>Zjl d.tiers[k] (ZbR (d.tiers.drop (k+1))) G (hs _ (zaq hk))
  by_cases c1:ZbO d.tiers[k] (ZbR (d.tiers.drop (k+1)))≠0
  ·have d3:(ZbO d.tiers[k] (ZbR (d.tiers.drop (k+1))) != 0)=true:=by simpa using c1
   rw[if_pos c1]at ht
   have hZ:=an7 gG<|an7 f0<|an7 f2<|an7 f3<|an7 hr<|an7 t0<|an7 t4<|hk;refine Bz3 ?_
   refine qcp (hA _) fun k2=>?_
   have hZ:=an7 gG<|an7 f0<|an7 f2<|an7 f3<|an7 hr<|an7 t0<|an7 t4<|hk;refine Bz3 ?_
   refine qcp (hW _) fun k3=>?_
   have hZ:=d3;refine Bz1 ?_
   refine Zaz (by rw[ht])
  ·have d3:(ZbO d.tiers[k] (ZbR (d.tiers.drop (k+1))) != 0)=false:=by simpa using c1
   rw[if_neg c1]at ht
   have hZ:=an7 gG<|an7 f0<|an7 f2<|an7 f3<|an7 hr<|an7 t0<|an7 t4<|hk;refine Bz3 ?_
   refine qcp (hA _) fun k2=>?_
   have hZ:=an7 gG<|an7 f0<|an7 f2<|an7 f3<|an7 hr<|an7 t0<|an7 t4<|hk;refine Bz3 ?_
   refine qcp (hW _) fun k3=>?_
   have hZ:=d3;refine Bz1 ?_
   refine Zcw [1,3,22,23] (σ:=Nat) (fun s=>s<=k/\∀t∈d.tiers.take s,t.name≠d.tiers[k].name) (fun s=>k - s) (fun s=>[(5,.i (s:Int))]) (fun s=>[]) 0 (GStep.refl _ _) (by simp only[ZaA,Zav,Fr.put,Fr.get,↓reduceIte,Nat.reduceEqDiff];rfl) ?_ (by simp only[ZaF,ZaX,Fr.put,Fr.get,↓reduceIte,Nat.reduceEqDiff,and_self]<;>simp) (by simp only[ZaJ]) ?_
   ·exact⟨zaD _,by simp⟩
   ·(rintro i G2 ⟨h4,h5⟩ hG2 hn2;try simp only[nx]at hn2)
    have gG2:=(hG2.g _ (by simp only[nx];omega) (by simp)).trans gG
    have lG2:=Zaa.lt gG2
    have hxG2:Zaa.Ext H G2:=hG2.ZdB (hxG.bump.bump) (by simp)
    by_cases c:i<k
    ·have d4:decide ((i:Int)<(k:Int))=true:=decide_eq_true (by omega)
     have hil:i<d.tiers.length:=by omega
     have hri:=Zdh hil
     obtain⟨i0,i1,i2,i3,i4⟩:=Zba d.tiers[i]
     have hi0:(0:Int)<=(i:Int):=by omega
     have hw:IntKind.i64.wrap ((i:Int)+1)=((i+1:Nat):Int):=by rw[Zaw (by omega) (by omega)];omega
     by_cases c2:d.tiers[i].name=d.tiers[k].name
     ·have d5:decide (d.tiers[i].name=d.tiers[k].name)=true:=decide_eq_true c2
      rw[if_pos (zat.2 ⟨d.tiers[i],by rw[zby];exact⟨i,by omega,rfl⟩,c2⟩)]at ht
      have hZ:=an7 d4<|an7 gG2<|an7 f0<|an7 f2<|an7 hr<|an7 hri<|an7 t0<|an7 t1<|an7 i0<|an7 i1<|an7 hk<|an7 hil<|an7 hi0<|d5;refine Bz3 ?_
      exact Zaz ht.symm hxG2
     ·have d5:decide (d.tiers[i].name=d.tiers[k].name)=false:=decide_eq_false c2
      have hZ:=an7 d4<|an7 gG2<|an7 f0<|an7 f2<|an7 hr<|an7 hri<|an7 t0<|an7 t1<|an7 i0<|an7 i1<|an7 hk<|an7 hil<|an7 hi0<|an7 d5<|hw;refine Bz3 ?_
      refine⟨i+1,⟨by omega,fun t ht'=>?_⟩,by omega,rfl,hG2⟩
      rw[zar hil]at ht'
      rcases zav.1 ht' with ht'|ht'
      ·exact h5 t ht'
      ·rw[zam.1 ht'];exact c2
    ·have d4:decide ((i:Int)<(k:Int))=false:=decide_eq_false (by omega)
     have hik:i=k:=by omega
     subst hik
     rw[if_neg (fun hm=>by obtain⟨t,ht1,ht2⟩:=zat.1 hm;exact h5 t ht1 ht2)]at ht
     have hZ:=d4;refine Bz1 ?_
     refine⟨(),?_,(hG.bump.bump).two hG2⟩
     rw[ht,zar hk,zaV];rfl
 ·(rintro u G ht hG hn;try simp only[nx]at hn)
  rw[zaP]at ht
  refine Bz0 ?_
  refine Zaz (by rw[ht];rfl)
theorem ZkJ (seen:List Tx) (d:Dm) (r:List Dm):Zd1 seen (d :: r)=if Zdv d≠0 then Zdv d else if d.name∈seen then 11 else Zd1 (seen++[d.name]) r:=by simp only[Zd1]
theorem ZkN (seen:List Tx) (q:Tx) (r:List Tx):Zgh seen (q :: r)=if ZbK q=false then 2 else if q∈seen then 11 else Zgh (seen++[q]) r:=by simp only[Zgh]
set_option maxHeartbeats 4000000 in
theorem ZeE (S:Sc) (H:Zaa) (hs:Zh1 S):Zay Tryz.prog 13 [.agg (eSc S)] H (Pure H (.i (scE S))):=by
 obtain⟨f0,f1,f2,f3⟩:=ZbB S
 by_cases h1:(S.dims.length:Int)<1
 ·have d1:decide ((S.dims.length:Int)<1)=true:=decide_eq_true h1
  have hv:scE S=5:=by rw[scE,if_pos (.inl h1)]
  rw[hv]
  refine Zak hE cf13 (zab rfl) fun Q qr qn=>?_
  have hZ:=an7 f1<|d1;refine Bz3 ?_
  refine Zaz (by rfl)
 have d1:decide ((S.dims.length:Int)<1)=false:=decide_eq_false h1
 by_cases h2:(S.dims.length:Int) > 16
 ·have d2:decide ((S.dims.length:Int) > 16)=true:=decide_eq_true h2
  have hv:scE S=5:=by rw[scE,if_pos (.inr h2)]
  rw[hv]
  refine Zak hE cf13 (zab rfl) fun Q qr qn=>?_
  have hZ:=an7 f1<|an7 d1<|d2;refine Bz3 ?_
  refine Zaz (by rfl)
 have d2:decide ((S.dims.length:Int) > 16)=false:=decide_eq_false h2
 obtain⟨D,hD⟩:∃D,Zd1 [] S.dims=D:=⟨_,rfl⟩
 have hv:scE S=if D≠0 then D else Zd8 S.meas:=by rw[scE,if_neg (fun h=>h.elim h1 h2),hD]
 rw[hv]
 obtain⟨T,hT⟩:∃T,(if D≠0 then D else Zd8 S.meas)=T:=⟨_,rfl⟩
 have hDT:D≠0->D=T:=fun h=>by rw[<- hT,if_pos h]
 have hMT:D=0->Zd8 S.meas=T:=fun h=>by rw[<- hT,if_neg (by simp[h])]
 rw[hT]
 clear hv hT
 have gg:(H.alloc (.cells (eSc S) 25)).get H.next=some (.cells (eSc S) 25):=Zaa.Zae
 have hx0:Zaa.Ext H (H.alloc (.cells (eSc S) 25)):=(Zaa.Ext.refl H).alloc
 refine Zak hE cf13 (zab rfl) fun Q qr qn=>?_
 have hZ:=an7 f1<|an7 d1<|d2;refine Bz3 ?_
 generalize H.alloc (.cells (eSc S) 25)=G0 at *
 have l1:=Zaa.lt gg
 refine Zbs [1,20] (σ:=Unit) (fun(k:Nat) s=>D=Zd1 ((S.dims.take k).map (·.name)) (S.dims.drop k)) (fun k s=>[]) (fun k s=>[]) () (GStep.refl _ _) (by simp only[ZaA,Zav,Fr.put,Fr.get,↓reduceIte,Nat.reduceEqDiff];rfl) (by intro k s;rfl) (by intro k s;rfl) (by rfl) (by unfold maxLen;omega) ?_ (by simp only[ZaF]) (by simp only[ZaJ]) ?_ ?_
 ·exact hD.symm
 ·(rintro k u G hk ht hG hn;try simp only[nx]at hn)
  have hxG:Zaa.Ext H G:=hG.ZdB hx0 (by simp)
  have gG:=(hG.g _ l1 (by simp)).trans gg
  have lG:=Zaa.lt gG
  rw[zao hk,ZkJ]at ht
  have hr:=ZjQ hk
  obtain⟨t0,t1,t2,t3⟩:=Za7 S.dims[k]
  have hW:=fun G=>ZkC S.dims[k] G (hs _ (zaq hk))
  by_cases c1:Zdv S.dims[k]≠0
  ·have d3:(Zdv S.dims[k] != 0)=true:=by simpa using c1
   rw[if_pos c1]at ht
   have hfin:Zdv S.dims[k]=T:=by rw[<- ht];exact hDT (by rw[ht];exact c1)
   have hZ:=an7 gG<|an7 f0<|an7 f1<|an7 f3<|an7 hr<|an7 t0<|an7 t3<|hk;refine Bz3 ?_
   refine qcp (hW _) fun k3=>?_
   have hZ:=d3;refine Bz1 ?_
   exact Zaz hfin (hxG.bump)
  ·have d3:(Zdv S.dims[k] != 0)=false:=by simpa using c1
   rw[if_neg c1]at ht
   have hZ:=an7 gG<|an7 f0<|an7 f1<|an7 f3<|an7 hr<|an7 t0<|an7 t3<|hk;refine Bz3 ?_
   refine qcp (hW _) fun k3=>?_
   have hZ:=d3;refine Bz1 ?_
   refine Zcw [1,3,20,21] (σ:=Nat) (fun s=>s<=k/\∀t∈S.dims.take s,t.name≠S.dims[k].name) (fun s=>k - s) (fun s=>[(5,.i (s:Int))]) (fun s=>[]) 0 (GStep.refl _ _) (by simp only[ZaA,Zav,Fr.put,Fr.get,↓reduceIte,Nat.reduceEqDiff];rfl) ?_ (by simp only[ZaF,ZaX,Fr.put,Fr.get,↓reduceIte,Nat.reduceEqDiff,and_self]<;>simp) (by simp only[ZaJ]) ?_
   ·exact⟨zaD _,by simp⟩
   ·(rintro i G2 ⟨h4,h5⟩ hG2 hn2;try simp only[nx]at hn2)
    have gG2:=(hG2.g _ (by simp only[nx];omega) (by simp)).trans gG
    have lG2:=Zaa.lt gG2
    have hxG2:Zaa.Ext H G2:=hG2.ZdB hxG.bump (by simp)
    by_cases c:i<k
    ·have d4:decide ((i:Int)<(k:Int))=true:=decide_eq_true (by omega)
     have hil:i<S.dims.length:=by omega
     have hri:=ZjQ hil
     obtain⟨i0,i1,i2,i3⟩:=Za7 S.dims[i]
     have hi0:(0:Int)<=(i:Int):=by omega
     have hw:IntKind.i64.wrap ((i:Int)+1)=((i+1:Nat):Int):=by rw[Zaw (by omega) (by omega)];omega
     by_cases c2:S.dims[i].name=S.dims[k].name
     ·have d5:decide (S.dims[i].name=S.dims[k].name)=true:=decide_eq_true c2
      rw[if_pos (zat.2 ⟨S.dims[i],by rw[zby];exact⟨i,by omega,rfl⟩,c2⟩)]at ht
      have hfin:11=T:=by rw[<- ht];exact hDT (by rw[ht];decide)
      have hZ:=an7 d4<|an7 gG2<|an7 f0<|an7 f1<|an7 hr<|an7 hri<|an7 t0<|an7 t1<|an7 i0<|an7 i1<|an7 hk<|an7 hil<|an7 hi0<|d5;refine Bz3 ?_
      exact Zaz hfin hxG2
     ·have d5:decide (S.dims[i].name=S.dims[k].name)=false:=decide_eq_false c2
      have hZ:=an7 d4<|an7 gG2<|an7 f0<|an7 f1<|an7 hr<|an7 hri<|an7 t0<|an7 t1<|an7 i0<|an7 i1<|an7 hk<|an7 hil<|an7 hi0<|an7 d5<|hw;refine Bz3 ?_
      refine⟨i+1,⟨by omega,fun t ht'=>?_⟩,by omega,rfl,hG2⟩
      rw[zar hil]at ht'
      rcases zav.1 ht' with ht'|ht'
      ·exact h5 t ht'
      ·rw[zam.1 ht'];exact c2
    ·have d4:decide ((i:Int)<(k:Int))=false:=decide_eq_false (by omega)
     have hik:i=k:=by omega
     subst hik
     rw[if_neg (fun hm=>by obtain⟨t,ht1,ht2⟩:=zat.1 hm;exact h5 t ht1 ht2)]at ht
     have hZ:=d4;refine Bz1 ?_
     refine⟨(),?_,(hG.bump).two hG2⟩
     rw[ht,zar hk,zaV];rfl
 ·(rintro u G ht hG hn;try simp only[nx]at hn)
  rw[zaP]at ht
  have hM:=hMT ht
  have hxG:Zaa.Ext H G:=hG.ZdB hx0 (by simp)
  have gG:=(hG.g _ l1 (by simp)).trans gg
  have lG:=Zaa.lt gG
  clear ht hDT hMT hD
  by_cases m1:(S.meas.length:Int)<1
  ·have d3:decide ((S.meas.length:Int)<1)=true:=decide_eq_true m1
   have hv:5=T:=by rw[<- hM,Zd8,if_pos (.inl m1)]
   have hZ:=an7 gG<|an7 f2<|d3;refine Bz3 ?_
   exact Zaz hv hxG
  have d3:decide ((S.meas.length:Int)<1)=false:=decide_eq_false m1
  by_cases m2:(S.meas.length:Int) > 3
  ·have d4:decide ((S.meas.length:Int) > 3)=true:=decide_eq_true m2
   have hv:5=T:=by rw[<- hM,Zd8,if_pos (.inr m2)]
   have hZ:=an7 gG<|an7 f2<|an7 d3<|d4;refine Bz3 ?_
   exact Zaz hv hxG
  have d4:decide ((S.meas.length:Int) > 3)=false:=decide_eq_false m2
  rw[Zd8,if_neg (fun h=>h.elim m1 m2)]at hM
  have hZ:=an7 gG<|an7 f2<|an7 d3<|d4;refine Bz3 ?_
  refine Zbs [1,64] (σ:=Unit) (fun(k:Nat) s=>T=Zgh (S.meas.take k) (S.meas.drop k)) (fun k s=>[]) (fun k s=>[]) () (GStep.refl _ _) (by simp only[ZaA,Zav,Fr.put,Fr.get,↓reduceIte,Nat.reduceEqDiff];rfl) (by intro k s;rfl) (by intro k s;rfl) (by rfl) (by unfold maxLen;omega) ?_ (by simp only[ZaF]) (by simp only[ZaJ]) ?_ ?_
  ·exact hM.symm
  ·(rintro k u G3 hk ht hG3 hn3;try simp only[nx]at hn3)
   have hxG3:Zaa.Ext H G3:=hG3.ZdB hxG (by simp)
   have gG3:=(hG3.g _ lG (by simp)).trans gG
   have lG3:=Zaa.lt gG3
   rw[zao hk,ZkN]at ht
   have hr:(rS S.meas)[k]?=some [eS S.meas[k]]:=by simp[hk]
   have hN:=fun G=>Zd5 S.meas[k] G
   have hb:=bfb (ZbK S.meas[k])
   rcases hb with hb|hb
   ·rw[hb]at hN
    rw[if_pos hb]at ht
    have hZ:=an7 gG3<|an7 f2<|an7 hr<|hk;refine Bz3 ?_
    refine qcp (hN _) fun k3=>?_
    refine Bz0 ?_
    exact Zaz ht.symm hxG3.bump
   ·rw[hb]at hN
    rw[if_neg (by rw[hb];decide)]at ht
    have hZ:=an7 gG3<|an7 f2<|an7 hr<|hk;refine Bz3 ?_
    refine qcp (hN _) fun k3=>?_
    refine Bz0 ?_
    refine Zcw [1,6,64,65] (σ:=Nat) (fun s=>s<=k/\∀t∈S.meas.take s,t≠S.meas[k]) (fun s=>k - s) (fun s=>[(7,.i (s:Int))]) (fun s=>[]) 0 (GStep.refl _ _) (by simp only[ZaA,Zav,Fr.put,Fr.get,↓reduceIte,Nat.reduceEqDiff];rfl) ?_ (by simp only[ZaF,ZaX,Fr.put,Fr.get,↓reduceIte,Nat.reduceEqDiff,and_self]<;>simp) (by simp only[ZaJ]) ?_
    ·exact⟨zaD _,by simp⟩
    ·(rintro i G2 ⟨h4,h5⟩ hG2 hn2;try simp only[nx]at hn2)
     have gG2:=(hG2.g _ (by simp only[nx];omega) (by simp)).trans gG3
     have lG2:=Zaa.lt gG2
     have hxG2:Zaa.Ext H G2:=hG2.ZdB hxG3.bump (by simp)
     by_cases c:i<k
     ·have d6:decide ((i:Int)<(k:Int))=true:=decide_eq_true (by omega)
      have hil:i<S.meas.length:=by omega
      have hri:(rS S.meas)[i]?=some [eS S.meas[i]]:=by simp[hil]
      have hi0:(0:Int)<=(i:Int):=by omega
      have hw:IntKind.i64.wrap ((i:Int)+1)=((i+1:Nat):Int):=by rw[Zaw (by omega) (by omega)];omega
      by_cases c2:S.meas[i]=S.meas[k]
      ·have d5:decide (S.meas[i]=S.meas[k])=true:=decide_eq_true c2
       rw[if_pos (by rw[zby];exact⟨i,by omega,c2⟩)]at ht
       have hZ:=an7 d6<|an7 gG2<|an7 f2<|an7 hr<|an7 hri<|an7 hk<|an7 hil<|an7 hi0<|d5;refine Bz3 ?_
       exact Zaz ht.symm hxG2
      ·have d5:decide (S.meas[i]=S.meas[k])=false:=decide_eq_false c2
       have hZ:=an7 d6<|an7 gG2<|an7 f2<|an7 hr<|an7 hri<|an7 hk<|an7 hil<|an7 hi0<|an7 d5<|hw;refine Bz3 ?_
       refine⟨i+1,⟨by omega,fun t ht'=>?_⟩,by omega,rfl,hG2⟩
       rw[zar hil]at ht'
       rcases zav.1 ht' with ht'|ht'
       ·exact h5 t ht'
       ·rw[zam.1 ht'];exact c2
     ·have d6:decide ((i:Int)<(k:Int))=false:=decide_eq_false (by omega)
      have hik:i=k:=by omega
      subst hik
      rw[if_neg (fun hm=>h5 _ hm rfl)]at ht
      have hZ:=d6;refine Bz1 ?_
      refine⟨(),?_,(hG3.bump).two hG2⟩
      rw[ht,zar hk]
  ·(rintro u G3 ht hG3 hn3;try simp only[nx]at hn3)
   rw[zaP]at ht
   refine Bz0 ?_
   exact Zaz (by rw[ht];rfl) (hG3.ZdB hxG (by simp))
abbrev rIt (ts:List (Tok×List Int)):List (List AV):=ts.map fun p=>[.sl p.1 (rI p.2)]
theorem wkn_rIt (t:Tok) (ts:List (Tok×List Int)) (m:Int):Wkn (.agg [.sl t (rIt ts),.i m]) (.agg (Zc3 ⟨ts.map (·.2),m⟩)):=by
 rw[ZgU]
 refine .agg _ _ rfl (fun i a b ha hb=>?_)
 match i with
 | 0 =>
  simp only[List.getElem?_cons_zero,zac]at ha hb
  subst ha hb
  refine .sl _ _ _ (by simp) (fun i r r' h h'=>?_) (fun i r r' j x y h h' hx hy=>?_)
  ·simp only[zaL]at h h'
   cases hq:ts[i]? with
   | none=>rw[hq]at h;cases h
   | some q=>rw[hq]at h h';injection h with h;injection h' with h';rw[<- h,<- h'];rfl
  ·simp only[zaL]at h h'
   cases hq:ts[i]? with
   | none=>rw[hq]at h;cases h
   | some q =>
    rw[hq]at h h'
    injection h with h
    injection h' with h'
    subst h h'
    match j with
    | 0 =>
     simp only[List.getElem?_cons_zero,zac]at hx hy
     subst hx hy
     exact Zfm _ _
    | j+1=>simp at hx
 | 1=>simp only[List.getElem?_cons_zero,List.getElem?_cons_succ,zac]at ha hb;subst ha hb;exact .refl _
 | i+2=>simp at ha
set_option maxHeartbeats 4000000 in
theorem ZoZ (S:Sc) (H:Zaa) (hl:S.dims.length<=4000000000000) (hl2:∀d∈S.dims,d.tiers.length<=4000000000000):Zay Tryz.prog 15 [.agg (eSc S)] H (Pure H (.agg (Zc3 (Za3 S)))):=by
 obtain⟨f0,f1,f2,f3⟩:=ZbB S
 refine Zak hE cf15 (zab rfl) fun Q qr qn=>?_
 have hZ:=an7 f1<|f2;refine Bz3 ?_
 have hx0:Zaa.Ext H ((((H.alloc (.cells (eSc S) 25)).alloc (.cells [.sl .full [],.i 0] 37)).alloc (.cells [.sl .full [],.i (S.meas.length:Int)] 37))):=by exact AXT
 have g1:((((H.alloc (.cells (eSc S) 25)).alloc (.cells [.sl .full [],.i 0] 37)).alloc (.cells [.sl .full [],.i (S.meas.length:Int)] 37))).get (H.next+1+1)=some (.cells [.sl .full [],.i (S.meas.length:Int)] 37):=Zaa.Zae (H:=(H.alloc _).alloc _)
 have g2:((((H.alloc (.cells (eSc S) 25)).alloc (.cells [.sl .full [],.i 0] 37)).alloc (.cells [.sl .full [],.i (S.meas.length:Int)] 37))).get (H.next+1)=some (.cells [.sl .full [],.i 0] 37):=by
  rw[Zaa.Zag (by simp only[nx];omega)]
  exact Zaa.Zae (H:=H.alloc _)
 have hn0:((((H.alloc (.cells (eSc S) 25)).alloc (.cells [.sl .full [],.i 0] 37)).alloc (.cells [.sl .full [],.i (S.meas.length:Int)] 37))).next=H.next+3:=rfl
 generalize (((H.alloc (.cells (eSc S) 25)).alloc (.cells [.sl .full [],.i 0] 37)).alloc (.cells [.sl .full [],.i (S.meas.length:Int)] 37))=G0 at *
 have l1:=Zaa.lt g1
 have l2:=Zaa.lt g2
 refine Zbs [2,3,14,15] (σ:=List (Tok×List Int)) (fun(k:Nat) s=>s.map (·.2)=(S.dims.take k).map fun d=>d.tiers.map szT) (fun k s=>[]) (fun k s=>[(H.next+1+1,.cells [.sl (.own G0.next) (rIt s),.i (S.meas.length:Int)] 37),(G0.next,.tok k 57 1)]) [] (GStep.ZdO (H.next+1+1) 0 37 57 1 g1 rfl) (by simp only[ZaA,Zav,Fr.put,Fr.get,↓reduceIte,Nat.reduceEqDiff];rfl) (by intro k s;rfl) (by intro k s;rfl) (by rfl) (by unfold maxLen;omega) ?_ (by simp only[ZaF]) ?_ ?_ ?_
 ·simp
 ·rw[ZaP,ZaP]
  refine⟨?_,Zaa.Zae (H:=G0.set _ _),by simp[Zc5]⟩
  rw[Zaa.Zag (by simp only[nx];omega)]
  exact Zaa.Zal l1
 ·(rintro k ts G hk ht hG hn;try simp only[nx]at hn)
  obtain⟨q0,q1,q2,q3⟩:=Za7 S.dims[k]
  have qd:(eDm S.dims[k]).drop 2=[]:=rfl
  have htl:=hl2 _ (zaq hk)
  have hlen:ts.length=k:=by
   have:=congrArg List.length ht
   simp at this;omega
  have hZ:=an7 hk<|an7 q0<|an7 q2<|an7 q3<|qd;refine Bz5 ?_
  have hG1:=hG.alloc (o:=.cells (eDm S.dims[k]) 102)
  have g5:(G.alloc (.cells (eDm S.dims[k]) 102)).get G.next=some (.cells (eDm S.dims[k]) 102):=Zaa.Zae
  generalize G.alloc (.cells (eDm S.dims[k]) 102)=G1 at *
  generalize hD:S.dims[k]=D at *
  refine Zbs [2,3,14,15,16,21,22] (σ:=Unit) (fun(k:Nat) s=>True) (fun k s=>[(6,.sl (.own G1.next) (rI ((D.tiers.take k).map szT)))]) (fun k s=>[(G1.next,.tok k 3 1)]) () (GStep.tok 6 3 1 rfl) (by simp only[ZaA,Zav,Fr.put,Fr.get,↓reduceIte,Nat.reduceEqDiff];rfl) (by intro k s;rfl) (by intro k s;rfl) (by rfl) (by unfold maxLen;omega) ?_ (by simp only[ZaF,ZaX,Fr.put,Fr.get,↓reduceIte,Nat.reduceEqDiff,and_self]<;>simp) ?_ ?_ ?_
  ·trivial
  ·rw[ZaP]
   exact⟨Zaa.Zae (H:=G1),by simp[Zc5]⟩
  ·(rintro j u G2 hj ht2 hG2 hn2;try simp only[nx]at hn2)
   have ho:=hG2.o1
   have lo:=Zaa.lt ho
   have hr:=Zdh hj
   obtain⟨t0,t1,t2,t3,t4⟩:=Zba D.tiers[j]
   have td:(eTr D.tiers[j]).drop 3=[]:=rfl
   have hsn:rI ((D.tiers.take j).map szT)++[[.i (D.tiers[j].terms.length:Int)]]=rI ((D.tiers.take (j+1)).map szT):=by rw[ZcR hj];simp[szT]
   have la1:ZaE 1 (rI ((D.tiers.take j).map szT))=true:=ZaU (f:=fun n:Int=>[AV.i n]) (fun _=>rfl) _
   have la2:ZaE 1 [[AV.i (D.tiers[j].terms.length:Int)]]=true:=rfl
   have lm1:j+1<=maxLen:=by unfold maxLen;omega
   have lm2:(j+1) * 8<=140737488355328:=by omega
   have hrl:(rI ((D.tiers.take j).map szT)).length=j:=by simp;omega
   have hZ:=an7 hr<|an7 t0<|an7 t2<|an7 t4<|an7 td<|an7 ho<|an7 la1<|an7 la2<|an7 lm1<|an7 lm2<|hrl;refine Bz5 ?_
   exact⟨(),congrArg (AV.sl _) hsn,hG2.alloc.put⟩
  ·(rintro u G2 ht2 hG2 hn2;try simp only[nx]at hn2)
   have ho1:=hG1.o1
   have ho2:=hG1.o2
   have lo1:=Zaa.lt ho1
   have lo2:=Zaa.lt ho2
   have e1:=(hG2.g _ (by simp only[nx];omega) (by simp;omega)).trans ((Zaa.Zag (by omega)).trans ho1)
   have e2:=(hG2.g _ (by simp only[nx];omega) (by simp;omega)).trans ((Zaa.Zag (by omega)).trans ho2)
   have le1:=Zaa.lt e1
   have le2:=Zaa.lt e2
   have la1:ZaE 1 (rIt ts)=true:=ZaU (f:=fun p:Tok×List Int=>[AV.sl p.1 (rI p.2)]) (fun _=>rfl) ts
   have la2:ZaE 1 [[AV.sl (.own G1.next) (rI (D.tiers.map szT))]]=true:=rfl
   have lm1:k+1<=maxLen:=by unfold maxLen;omega
   have lm2:(k+1) * 24<=140737488355328:=by omega
   have hrl:(rIt ts).length=k:=by simp;omega
   rw[zaK]
   have hZ:=an7 e1<|an7 e2<|an7 la1<|an7 la2<|an7 lm1<|an7 lm2<|hrl;refine Bz5 ?_
   have hkk:HX [] G1 G2:=by
    have kn:=hG2.n
    simp only[nx]at kn
    refine⟨by omega,by simp[Zc5],fun i hi _=>?_⟩
    exact(hG2.g i (by simp only[nx];omega) (by simp;omega)).trans (Zaa.Zag (by omega))
   have happ:rIt ts++[[.sl (.own G1.next) (rI (D.tiers.map szT))]]=rIt (ts++[(.own G1.next,D.tiers.map szT)]):=by simp[rIt]
   refine⟨ts++[(.own G1.next,D.tiers.map szT)],by rw[ZcR hk,zaV,ht,hD];rfl,?_⟩
   rw[happ]
   exact(hG1.two hkk).put2 (by omega)
 ·(rintro ts G ht hG hn;try simp only[nx]at hn)
  have ho1:=hG.o1
  have hc:=(hG.g (H.next+1) (by simp only[nx];omega) (by simp;omega)).trans ((Zaa.Zag (by simp only[nx];omega)).trans ((Zaa.Zah (by omega)).trans g2))
  have lo1:=Zaa.lt ho1
  have lc:=Zaa.lt hc
  rw[zaK]at ht
  have hZ:=an7 ho1<|hc;refine Bz1 ?_
  have hw:=wkn_rIt (.own G0.next) ts (S.meas.length:Int)
  rw[ht]at hw
  exact Zc1 hw ((hG.ZdB ((hx0.set (by omega)).alloc) (by simp;omega)).set (by omega))
theorem lt_at:∀{s:Nat} {a b:List Int} (ha:s<a.length) (hb:s<b.length),a.take s=b.take s->a[s]≠b[s]->decide (a<b)=decide (a[s]<b[s])
 | 0,x :: a,y :: b,_,_,_,hne=>by
  have hne:x≠y:=hne
  simp[zbG,hne]
 | s+1,x :: a,y :: b,ha,hb,ht,hne=>by
  simp only[List.take_succ_cons,List.cons.injEq]at ht
  obtain⟨rfl,ht⟩:=ht
  have ih:=lt_at (s:=s) (a:=a) (b:=b) (by simpa using ha) (by simpa using hb) ht (by simpa using hne)
  simpa [zbG] using ih
theorem Zmd:∀{s:Nat} {a b:List Int},s<=a.length->s<=b.length->a.take s=b.take s->(s=a.length\/s=b.length)->decide (a<b)=decide ((a.length:Int)<(b.length:Int))
 | 0,a,b,_,_,_,he=>by
  cases a<;>cases b<;>simp_all<;>omega
 | s+1,x :: a,y :: b,ha,hb,ht,he=>by
  simp only[List.take_succ_cons,List.cons.injEq]at ht
  obtain⟨rfl,ht⟩:=ht
  have ih:=Zmd (s:=s) (a:=a) (b:=b) (by simpa using ha) (by simpa using hb) ht (by simpa using he)
  simpa [zbG] using ih
set_option maxHeartbeats 2000000 in
theorem Zjw (f g:Fct) (H:Zaa) (hl:f.1.length<=1000000) (hm:g.1.length<=1000000):Zay Tryz.prog 57 [.agg (ZcI f),.agg (ZcI g)] H (Pure H (.b (decide (f.1<g.1)))):=by
 obtain⟨ks,a⟩:=f
 obtain⟨ms,b⟩:=g
 simp only at hl hm ⊢
 have e0:(ZcI (ks,a))[0]?=some (.sl .no (rI ks)):=rfl
 have e1:(ZcI (ms,b))[0]?=some (.sl .no (rI ms)):=rfl
 have el:(ZcI (ks,a)).length=11:=rfl
 have el1:(ZcI (ms,b)).length=11:=rfl
 refine Zak hE cf57 (zab rfl) fun Q qr qn=>?_
 have hZ:=e0;refine Bz1 ?_
 have g2:((H.alloc (.cells (ZcI (ks,a)) 88)).alloc (.cells (ZcI (ms,b)) 88)).get H.next=some (.cells (ZcI (ks,a)) 88):=by
  rw[Zaa.Zag (by simp only[nx];omega)];exact Zaa.Zae
 have g3:((H.alloc (.cells (ZcI (ks,a)) 88)).alloc (.cells (ZcI (ms,b)) 88)).get (H.next+1)=some (.cells (ZcI (ms,b)) 88):=Zaa.Zae (H:=H.alloc _)
 have hx0:Zaa.Ext H ((H.alloc (.cells (ZcI (ks,a)) 88)).alloc (.cells (ZcI (ms,b)) 88)):=by exact AXT
 generalize (H.alloc (.cells (ZcI (ks,a)) 88)).alloc (.cells (ZcI (ms,b)) 88)=G0 at *
 have l2:=Zaa.lt g2
 have l3:=Zaa.lt g3
 refine Zcw [2,3] (σ:=Nat) (fun s=>s<=ks.length/\s<=ms.length/\ks.take s=ms.take s) (fun s=>ks.length - s) (fun s=>[(5,.i (s:Int))]) (fun s=>[]) (0:Nat) (GStep.refl _ _) (by simp only[ZaA,Zav,Fr.put,Fr.get,↓reduceIte,Nat.reduceEqDiff];rfl) ?_ (by simp only[ZaF,ZaX,Fr.put,Fr.get,↓reduceIte,Nat.reduceEqDiff,and_self]<;>simp) (by simp only[ZaJ]) ?_
 ·exact⟨zaD _,zaD _,rfl⟩
 ·(rintro s G ⟨hs1,hs2,ht⟩ hG hn1;try simp only[nx]at hn1)
  have h2:G.get H.next=_:=(hG.get _ l2).trans g2
  have h3:G.get (H.next+1)=_:=(hG.get _ l3).trans g3
  have h0:(0:Int)<=(s:Int):=by omega
  by_cases c:s<ks.length
  ·have d1:decide ((s:Int)<(ks.length:Int))=true:=by simp;omega
   by_cases c2:s<ms.length
   ·have d2:decide ((s:Int)<(ms.length:Int))=true:=by simp;omega
    by_cases he:ks[s]=ms[s]
    ·have d3:(ks[s] != ms[s])=false:=by simp[he]
     have hZ:=an7 h2<|an7 h3<|an7 e0<|an7 e1<|an7 d1<|an7 d2<|an7 d3<|an7 h0<|an7 c<|c2;refine Bz3 ?_
     refine⟨s+1,⟨by omega,by omega,by rw[zar c,zar c2,ht,he]⟩,by omega,by simp,by exact HXT⟩
    ·have d3:(ks[s] != ms[s])=true:=by simp[he]
     have hv:=lt_at c c2 ht he
     have hZ:=an7 h2<|an7 h3<|an7 e0<|an7 e1<|an7 d1<|an7 d2<|an7 d3<|an7 h0<|an7 c<|c2;refine Bz3 ?_
     exact ZbC hv.symm (hx0.trans hG.ext)
   ·have d2:decide ((s:Int)<(ms.length:Int))=false:=by simp;omega
    have hv:=Zmd hs1 hs2 ht (.inr (by omega))
    have hZ:=an7 h2<|an7 h3<|an7 e0<|an7 e1<|an7 d1<|an7 d2<|an7 h0<|c;refine Bz3 ?_
    exact ZbC hv.symm (hx0.trans hG.ext)
  ·have d1:decide ((s:Int)<(ks.length:Int))=false:=by simp;omega
   have hv:=Zmd hs1 hs2 ht (.inl (by omega))
   have hZ:=an7 h2<|an7 h3<|an7 e0<|an7 e1<|d1;refine Bz3 ?_
   exact ZbC hv.symm (hx0.trans hG.ext)
set_option maxHeartbeats 2000000 in
theorem Zh8 (x:Shp) (f:Fct) (H:Zaa) (hxl:x.sizes.length<=1000000):Zay Tryz.prog 56 [.agg (Zc3 x),.agg (ZcI f)] H (Pure H (.i (Zb8 x f))):=by
 obtain⟨f0,f1,f2,f3⟩:=Zbu f
 obtain⟨x0,x1,x2,x3⟩:=Zc6 x
 by_cases h1:f.1.length≠x.sizes.length
 ·have hv:Zb8 x f=2:=by rw[Zb8,if_pos h1]
  have d1:((f.1.length:Int) != (x.sizes.length:Int))=true:=by simp;omega
  rw[hv]
  refine Zak hE cf56 (zab rfl) fun Q qr qn=>?_
  have hZ:=an7 f1<|an7 x1<|d1;refine Bz3 ?_
  refine Zaz (by rfl)
 have h1':f.1.length=x.sizes.length:=by simpa using h1
 have hl:f.1.length<=1000000:=by omega
 have d1:((f.1.length:Int) != (x.sizes.length:Int))=false:=by simp;omega
 have hv:Zb8 x f=if Zdr f.1 x.sizes≠0 then Zdr f.1 x.sizes else if Zbw x.measures f.2=false then 2 else 0:=by rw[Zb8,if_neg h1]
 rw[hv]
 generalize hT:Zdr f.1 x.sizes=T
 refine Zak hE cf56 (zab rfl) fun Q qr qn=>?_
 have hZ:=an7 f1<|an7 x1<|d1;refine Bz3 ?_
 have hx0:Zaa.Ext H ((H.alloc (.cells (Zc3 x) 37)).alloc (.cells (ZcI f) 88)):=by exact AXT
 have g1:((H.alloc (.cells (Zc3 x) 37)).alloc (.cells (ZcI f) 88)).get H.next=some (.cells (Zc3 x) 37):=by
  rw[Zaa.Zag (by simp only[nx];omega)];exact Zaa.Zae (H:=H)
 have g2:((H.alloc (.cells (Zc3 x) 37)).alloc (.cells (ZcI f) 88)).get (H.next+1)=some (.cells (ZcI f) 88):=Zaa.Zae (H:=H.alloc _)
 generalize (H.alloc (.cells (Zc3 x) 37)).alloc (.cells (ZcI f) 88)=G0 at *
 have l1:=Zaa.lt g1
 have l2:=Zaa.lt g2
 refine Zbs [2,3,15] (σ:=Unit) (fun(k:Nat) s=>T=Zdr (f.1.drop k) (x.sizes.drop k)) (fun k s=>[]) (fun k s=>[]) () (GStep.refl _ _) (by simp only[ZaA,Zav,Fr.put,Fr.get,↓reduceIte,Nat.reduceEqDiff];rfl) (by intro k s;rfl) (by intro k s;rfl) (by rfl) (by unfold maxLen;omega) ?_ (by simp only[ZaF]) (by simp only[ZaJ]) ?_ ?_
 ·exact hT.symm
 ·(rintro k s G hk ht hG hn;try simp only[nx]at hn)
  have hc1:=(hG.get _ l1).trans g1
  have hc2:=(hG.get _ l2).trans g2
  have lc1:=Zaa.lt hc1
  have lc2:=Zaa.lt hc2
  have hk2:k<x.sizes.length:=by omega
  rw[zao hk,zao hk2,Zdr]at ht
  by_cases c:x.sizes[k].length=0\/f.1[k]<0\/f.1[k]≥x.sizes[k].headD 0
  ·rw[if_pos c]at ht
   cases hs:x.sizes[k]with
   | nil =>
    have e1:(((x.sizes[k].length:Nat):Int) == 0)=true:=by rw[hs];rfl
    have hZ:=an7 hc1<|an7 hc2<|an7 x1<|an7 f1<|an7 hk<|an7 hk2<|e1;refine Bz3 ?_
    refine Zaz (by rw[ht];rfl)
   | cons z zs =>
    have e1:(((x.sizes[k].length:Nat):Int) == 0)=false:=by rw[hs,beq_eq_false_iff_ne];simp;omega
    have ez:(rI x.sizes[k])[0]?=some [.i z]:=by rw[hs];rfl
    rw[hs]at c
    by_cases c2:f.1[k]<0
    ·have e2:decide (f.1[k]<0)=true:=decide_eq_true c2
     have hZ:=an7 hc1<|an7 hc2<|an7 x1<|an7 f1<|an7 hk<|an7 hk2<|an7 e1<|e2;refine Bz3 ?_
     refine Zaz (by rw[ht];rfl)
    ·have e2:decide (f.1[k]<0)=false:=decide_eq_false c2
     have e3:decide (f.1[k]≥z)=true:=decide_eq_true (by simpa [c2] using c)
     have hZ:=an7 hc1<|an7 hc2<|an7 x1<|an7 f1<|an7 hk<|an7 hk2<|an7 e1<|an7 e2<|an7 ez<|e3;refine Bz3 ?_
     refine Zaz (by rw[ht];rfl)
  ·rw[if_neg c]at ht
   cases hs:x.sizes[k]with
   | nil=>exact absurd (.inl (by rw[hs];rfl)) c
   | cons z zs =>
    have e1:(((x.sizes[k].length:Nat):Int) == 0)=false:=by rw[hs,beq_eq_false_iff_ne];simp;omega
    have ez:(rI x.sizes[k])[0]?=some [.i z]:=by rw[hs];rfl
    rw[hs]at c
    simp only[List.headD_cons,not_or]at c
    have e2:decide (f.1[k]<0)=false:=decide_eq_false c.2.1
    have e3:decide (f.1[k]≥z)=false:=decide_eq_false c.2.2
    have hZ:=an7 hc1<|an7 hc2<|an7 x1<|an7 f1<|an7 hk<|an7 hk2<|an7 e1<|an7 e2<|an7 ez<|e3;refine Bz3 ?_
    refine⟨(),by exact ht,by exact HXT⟩
 ·(rintro s G ht hG hn;try simp only[nx]at hn)
  have hc1:=(hG.get _ l1).trans g1
  have hc2:=(hG.get _ l2).trans g2
  rw[zaP]at ht
  have h0:T=0:=by rw[ht];simp[Zdr]
  have hM:=fun G=>Zjg x.measures f.2 G
  have hb:=bfb (Zbw x.measures f.2)
  rcases hb with hb|hb<;>rw[hb]at hM
  ·have hZ:=an7 hc1<|an7 hc2<|an7 x2<|an7 f0<|f2;refine Bz1 ?_
   refine qcp (hM _) fun k1=>?_
   refine Bz0 ?_
   refine Zaz (by rw[h0,hb];rfl)
  ·have hZ:=an7 hc1<|an7 hc2<|an7 x2<|an7 f0<|f2;refine Bz1 ?_
   refine qcp (hM _) fun k1=>?_
   refine Bz0 ?_
   refine Zaz (by rw[h0,hb];rfl)
theorem Zjt:∀(a b:List Int),decide (a<b)=!decide (cmpL a b≥0)
 | [],[]=>by simp[cmpL]
 | [],_ :: _=>by simp[cmpL]
 | _ :: _,[]=>by simp[cmpL]
 | x :: a,y :: b=>by
  have ih:=Zjt a b
  rw[cmpL]
  unfold Zgz
  rcases Int.lt_trichotomy x y with h|h|h
  ·have h2:¬y<x:=by omega
   simp[zbG,h,h2]
  ·subst h
   simp only[zbG,Int.lt_irrefl,false_or,true_and,ih]
   simp
  ·have h2:¬x<y:=by omega
   have h3:x≠y:=by omega
   simp[zbG,h,h2,h3]
set_option maxHeartbeats 2000000 in
theorem ZfV (t:Tok) (x:Shp) (l:List Fct) (H:Zaa) (hl:l.length<=1000000) (hxl:x.sizes.length<=1000000):Zay Tryz.prog 14 [.agg (Zc3 x),.sl t (rF l)] H (Pure H (.i (Zd7 x none l))):=by
 obtain⟨x0,x1,x2,x3⟩:=Zc6 x
 generalize hT:Zd7 x none l=T
 refine Zak hE cf14 (zab rfl) fun Q qr qn=>?_
 refine Bz2 ?_
 have hx0:Zaa.Ext H (H.alloc (.cells (Zc3 x) 37)):=by exact AXT
 have g1:(H.alloc (.cells (Zc3 x) 37)).get H.next=some (.cells (Zc3 x) 37):=Zaa.Zae (H:=H)
 generalize H.alloc (.cells (Zc3 x) 37)=G0 at *
 have l1:=Zaa.lt g1
 refine Zbs [1,2,8] (σ:=Unit) (fun(k:Nat) s=>T=Zd7 x (Ze2 l k) (l.drop k)/\∀f∈l.take k,f.1.length=x.sizes.length) (fun k s=>[]) (fun k s=>[]) () (GStep.refl _ _) (by simp only[ZaA,Zav,Fr.put,Fr.get,↓reduceIte,Nat.reduceEqDiff];rfl) (by intro k s;rfl) (by intro k s;rfl) (by rfl) (by unfold maxLen;omega) ?_ (by simp only[ZaF]) (by simp only[ZaJ]) ?_ ?_
 ·exact⟨hT.symm,by simp⟩
 ·(rintro k s G hk ⟨ht,hpre⟩ hG hn;try simp only[nx]at hn)
  have hc1:=(hG.get _ l1).trans g1
  have lc1:=Zaa.lt hc1
  rw[zao hk,Zf5]at ht
  have hC:=fun G=>Zh8 x l[k] G hxl
  have hnx:¬Zb8 x l[k]≠0->∀f∈l.take (k+1),f.1.length=x.sizes.length:=fun h f hf=>by
   rw[zar hk]at hf
   rcases zav.1 hf with hf|hf
   ·exact hpre f hf
   ·rw[zam.1 hf]
    have h:=zaQ.1 h
    unfold Zb8 at h
    split at h
    ·omega
    ·omega
  obtain⟨f0,f1,f2,f3⟩:=Zbu l[k]
  by_cases c1:Zb8 x l[k]≠0
  ·have d1:(Zb8 x l[k] != 0)=true:=by simpa using c1
   rw[if_pos c1]at ht
   generalize Zb8 x l[k]=E at *
   have hZ:=an7 hc1<|an7 hk<|an7 x0<|an7 x3<|an7 f0<|f3;refine Bz3 ?_
   refine qcp (hC _) fun k1=>?_
   have hZ:=d1;refine Bz1 ?_
   refine Zaz (by rw[ht])
  ·have d1:(Zb8 x l[k] != 0)=false:=by simpa using c1
   rw[if_neg c1]at ht
   generalize Zb8 x l[k]=E at *
   cases k with
   | zero =>
    have d2:decide (((0:Nat):Int) > 0)=false:=by decide
    have hZ:=an7 hc1<|an7 hk<|an7 x0<|an7 x3<|an7 f0<|f3;refine Bz3 ?_
    refine qcp (hC _) fun k1=>?_
    have hZ:=an7 d1<|an7 d2<|an7 hc1<|an7 hk<|an7 x0<|an7 x3<|an7 f0<|f3;refine Bz3 ?_
    refine⟨(),by exact⟨by rw[ht];simp[Ze2,hk,geF],hnx c1⟩,by exact HXT⟩
   | succ j =>
    have d2:decide (((j+1:Nat):Int) > 0)=true:=decide_eq_true (by omega)
    have hj:j<l.length:=by omega
    have hlk:l[j+1].1.length<=1000000:=by rw[hnx c1 l[j+1] (by rw[zby];exact⟨j+1,by omega,rfl⟩)];exact hxl
    have hw:IntKind.i64.wrap (((j+1:Nat):Int) - 1)=(j:Int):=by rw[show((j+1:Nat):Int) - 1=(j:Int) by omega];exact Zaw (by omega) (by omega)
    have hp:Ze2 l (j+1)=some l[j]:=by simp[Ze2,hj]
    have hp2:Ze2 l (j+1+1)=some l[j+1]:=by simp[Ze2,hk]
    obtain⟨j0,j1,j2,j3⟩:=Zbu l[j]
    have hK:=fun G=>Zjw l[j] l[j+1] G (by rw[hpre l[j] (by rw[zby];exact⟨j,by omega,rfl⟩)];exact hxl) hlk
    rw[hp]at ht
    have hb0:=bfb (geF (some l[j]) l[j+1])
    rcases hb0 with hb0|hb0
    ·rw[if_neg (by rw[hb0];decide)]at ht
     have hb:decide (l[j].1<l[j+1].1)=true:=by rw[Zjt];rw[show decide (cmpL l[j].1 l[j+1].1≥0)=false from hb0];rfl
     have hZ:=an7 hc1<|an7 hk<|an7 x0<|an7 x3<|an7 f0<|f3;refine Bz3 ?_
     refine qcp (hC _) fun k1=>?_
     have hZ:=an7 d1<|an7 d2<|an7 hw<|an7 hc1<|an7 hk<|an7 hj<|an7 x0<|an7 x3<|an7 f0<|an7 f3<|an7 j0<|j3;refine Bz3 ?_
     refine qcp (hK _) fun k2=>?_
     have hZ:=an7 hb<|an7 d1<|an7 d2<|an7 hw<|an7 hc1<|an7 hk<|an7 hj<|an7 x0<|an7 x3<|an7 f0<|an7 f3<|an7 j0<|j3;refine Bz3 ?_
     refine⟨(),by exact⟨by rw[hp2];exact ht,hnx c1⟩,by exact HXT⟩
    ·rw[if_pos hb0]at ht
     have hb:decide (l[j].1<l[j+1].1)=false:=by rw[Zjt];rw[show decide (cmpL l[j].1 l[j+1].1≥0)=true from hb0];rfl
     have hZ:=an7 hc1<|an7 hk<|an7 x0<|an7 x3<|an7 f0<|f3;refine Bz3 ?_
     refine qcp (hC _) fun k1=>?_
     have hZ:=an7 d1<|an7 d2<|an7 hw<|an7 hc1<|an7 hk<|an7 hj<|an7 x0<|an7 x3<|an7 f0<|an7 f3<|an7 j0<|j3;refine Bz3 ?_
     refine qcp (hK _) fun k2=>?_
     have hZ:=an7 hb<|an7 d1<|an7 d2<|an7 hw<|an7 hc1<|an7 hk<|an7 hj<|an7 x0<|an7 x3<|an7 f0<|an7 f3<|an7 j0<|j3;refine Bz3 ?_
     refine Zaz (by rw[ht])
 ·(rintro s G ⟨ht,hpre⟩ hG hn;try simp only[nx]at hn)
  rw[zaP]at ht
  refine Bz0 ?_
  refine Zaz (by rw[ht];simp[Zd7])
structure DSt where
 N:List Nod
 P:List (List Nat)
 over:Bool
def Zc2 (facts:List Fct) (f:DSt->List Nat->DSt×Int) (last:Bool) (c:DSt) (key:Int) (part:List Nat):DSt×Cel :=
 if last=true then (⟨c.N,c.P,c.over || (ZdJ facts ag0 part).isNone⟩,⟨key,0,(ZdJ facts ag0 part).getD ag0⟩) else ((f c part).1,⟨key,(f c part).2,ag0⟩)
def cellsD (g:DSt->Int->List Nat->DSt×Cel):DSt->List (Int×List Nat)->DSt×List Cel
 | c,[]=>(c,[])
 | c,p :: ps=>((cellsD g (g c p.1 p.2).1 ps).1,(g c p.1 p.2).2 :: (cellsD g (g c p.1 p.2).1 ps).2)
def ZbW (g:DSt->Int->List Nat->DSt×Cel):DSt->List (List (Int×List Nat))->DSt×List (List Cel)
 | c,[]=>(c,[])
 | c,p :: ps=>((ZbW g (cellsD g c p).1 ps).1,(cellsD g c p).2 :: (ZbW g (cellsD g c p).1 ps).2)
def ZdH:Nod:=⟨0,[],ZcE⟩
def ZgB (d:Nat) (part:List Nat) (N:List Nod) (P:List (List Nat)) (i:Nat):Bool:=decide ((N.getD i ZdH).dim=(d:Int))&&decide (P.getD i []=part)
def Ze3 (d:Nat) (part:List Nat) (N:List Nod) (P:List (List Nat)):Option Nat:=(List.range N.length).find? (ZgB d part N P)
def Ze8 (d:Nat) (part:List Nat) (a:DSt×Cel) (ls:List (List Cel)):DSt×Int:=(⟨a.1.N++[⟨d,ls,a.2⟩],a.1.P++[part],a.1.over⟩,(a.1.N.length:Int))
def visM (c:DSt) (r:DSt×Int):Option Nat->DSt×Int
 | some i=>(c,(i:Int))
 | none=>r
def ZpU (x:Shp) (L:List (List (List Int))) (facts:List Fct) (f:DSt->List Nat->DSt×Int) (d:Nat) (c:DSt) (part:List Nat):DSt×Int :=
 visM c (Ze8 d part (Zc2 facts f (decide (d+1=L.length)) (ZbW (Zc2 facts f (decide (d+1=L.length))) c (ZaC x L facts d part)).1 0 part) (ZbW (Zc2 facts f (decide (d+1=L.length))) c (ZaC x L facts d part)).2) (Ze3 d part c.N c.P)
def Zhq (x:Shp) (L:List (List (List Int))) (facts:List Fct):Nat->DSt->List Nat->DSt×Int
 | 0,c,_=>(c,0)
 | n+1,c,part=>ZpU x L facts (Zhq x L facts n) (L.length - (n+1)) c part
def Zdd (e:Int) (c c':DSt):Prop:=∃N' P',c'.N=c.N++N'/\c'.P=c.P++P'/\N'.length=P'.length/\(∀n∈N',e<=n.dim)/\(c.over=true->c'.over=true)
theorem Zdd.refl (e:Int) (c:DSt):Zdd e c c:=⟨[],[],by simp,by simp,rfl,by simp,id⟩
theorem Zdd.trans {e:Int} {c c' c'':DSt} (h:Zdd e c c') (k:Zdd e c' c''):Zdd e c c'':=by
 obtain⟨N1,P1,h1,h2,h3,h4,h5⟩:=h
 obtain⟨N2,P2,k1,k2,k3,k4,k5⟩:=k
 refine⟨N1++N2,P1++P2,by rw[k1,h1,zaM],by rw[k2,h2,zaM],by simp[h3,k3],fun n hn=>?_,fun h=>k5 (h5 h)⟩
 rcases zav.1 hn with hn|hn
 ·exact h4 n hn
 ·exact k4 n hn
theorem Zdd.weak {e e':Int} {c c':DSt} (h:Zdd e c c') (he:e'<=e):Zdd e' c c':=by
 obtain⟨N1,P1,h1,h2,h3,h4,h5⟩:=h
 exact⟨N1,P1,h1,h2,h3,fun n hn=>Int.le_trans he (h4 n hn),h5⟩
theorem Zdd.pre {e:Int} {c c':DSt} (h:Zdd e c c'):c.N <+: c'.N:=by
 obtain⟨N1,P1,h1,_⟩:=h
 exact⟨N1,h1.symm⟩
theorem Zdd.len {e:Int} {c c':DSt} (h:Zdd e c c') (hl:c.N.length=c.P.length):c'.N.length=c'.P.length:=by
 obtain⟨N1,P1,h1,h2,h3,_⟩:=h
 rw[h1,h2,zai,zai,hl,h3]
theorem Zld {d:Nat} {part:List Nat} {N N':List Nod} {P P':List (List Nat)} (hl:N.length=P.length) :
  Ze3 d part (N++N') (P++P')=match Ze3 d part N P with|some i=>some i|none=>(Ze3 d part N' P').map (N.length+·):=by
 have e:List.range (N++N').length=List.range N.length++(List.range N'.length).map (N.length+·):=by rw[zai];exact List.range_add ..
 have h1:(List.range N.length).find? (ZgB d part (N++N') (P++P'))=(List.range N.length).find? (ZgB d part N P):=by
  have:∀l:List Nat,(∀i∈l,i<N.length)->l.find? (ZgB d part (N++N') (P++P'))=l.find? (ZgB d part N P):=by
   intro l
   induction l with
   | nil=>intro _;rfl
   | cons a l ih =>
    intro h
    have ha:=h a zae
    have hh:ZgB d part (N++N') (P++P') a=ZgB d part N P a:=by
     unfold ZgB
     simp only[zah]
     rw[zaC ha,zaC (by omega)]
    rw[List.find?_cons,List.find?_cons,hh,ih fun i hi=>h i (zad _ hi)]
  exact this _ fun i hi=>by simpa using hi
 have h2:((List.range N'.length).map (N.length+·)).find? (ZgB d part (N++N') (P++P'))=(Ze3 d part N' P').map (N.length+·):=by
  rw[List.find?_map]
  congr 1
  have hf:(ZgB d part (N++N') (P++P') ∘ (N.length+·))=ZgB d part N' P':=by
   funext i
   simp only[Function.comp_apply,ZgB,zah]
   rw[zaN (by omega),zaN (by omega),hl,Nat.add_sub_cancel_left]
  rw[hf];rfl
 unfold Ze3 at *
 rw[e,List.find?_append,h1,h2]
 cases (List.range N.length).find? (ZgB d part N P)<;>rfl
theorem fnd_none {d:Nat} {part:List Nat} {N:List Nod} {P:List (List Nat)} (h:∀n∈N,n.dim≠(d:Int)):Ze3 d part N P=none:=by
 unfold Ze3
 rw[zcl]
 intro i hi
 have hi:i<N.length:=by simpa using hi
 unfold ZgB
 rw[zah,zaa hi]
 simp[h _ (zaq hi)]
theorem Zdd.fnd {e:Int} {c c':DSt} (h:Zdd e c c') (hl:c.N.length=c.P.length) {d:Nat} (hd:(d:Int)<e) (part:List Nat):Ze3 d part c'.N c'.P=Ze3 d part c.N c.P:=by
 obtain⟨N1,P1,h1,h2,h3,h4,_⟩:=h
 rw[h1,h2,Zld hl,fnd_none (N:=N1) (fun n hn=>by have:=h4 n hn;omega)]
 cases Ze3 d part c.N c.P<;>rfl
theorem fnd_one (d d':Nat) (part part':List Nat) (ls:List (List Cel)) (a:Cel):Ze3 d' part' [⟨(d:Int),ls,a⟩] [part]=if d'=d/\part'=part then some 0 else none:=by
 have h:Ze3 d' part' [⟨(d:Int),ls,a⟩] [part]=if ZgB d' part' [⟨(d:Int),ls,a⟩] [part] 0=true then some 0 else none:=by
  unfold Ze3
  rw[show List.range ([(⟨(d:Int),ls,a⟩:Nod)]).length=[0]from rfl,List.find?_cons]
  cases ZgB d' part' [⟨(d:Int),ls,a⟩] [part] 0<;>rfl
 rw[h]
 have:(ZgB d' part' [⟨(d:Int),ls,a⟩] [part] 0=true) ↔ (d'=d/\part'=part):=by
  unfold ZgB
  simp only[List.getD_cons_zero,zax,decide_eq_true_eq]
  constructor
  ·rintro⟨h1,h2⟩;exact⟨by omega,h2.symm⟩
  ·rintro⟨h1,h2⟩;exact⟨by omega,h2.symm⟩
 by_cases hc:d'=d/\part'=part
 ·rw[if_pos (this.2 hc),if_pos hc]
 ·rw[if_neg (fun h=>hc (this.1 h)),if_neg hc]
theorem Zly {d:Nat} {part:List Nat} {N:List Nod} {P:List (List Nat)} {i:Nat} (h:Ze3 d part N P=some i):i<N.length/\(N.getD i ZdH).dim=(d:Int)/\P.getD i []=part:=by
 unfold Ze3 at h
 have h1:=List.mem_of_find?_eq_some h
 have h2:=List.find?_some h
 unfold ZgB at h2
 simp only[zax,decide_eq_true_eq]at h2
 exact⟨by simpa using h1,h2⟩
structure Rel (facts:List Fct) (D:Nat) (most:Int) (s:BSt) (c:DSt):Prop where
 len:c.N.length=c.P.length
 ok:s.e=0->s.N=c.N/\c.over=false/\(c.N.length:Int)<=most/\∀d part,d<D->Zbz facts part->Zcz (nmP d part) s.M=(Ze3 d part c.N c.P).map fun i:Nat=>(i:Int)
 bad:s.e≠0->(s.e=12/\c.over=true)\/(s.e=7/\most<c.N.length)
theorem Rel.mono {facts:List Fct} {D:Nat} {most e:Int} {s s':BSt} {c c':DSt} (h:Rel facts D most s c) (he:s.e≠0) (hm:Zdd e c c') (hs:s'.e=s.e\/(s'.e=12/\c'.over=true)):Rel facts D most s' c':=by
 refine⟨hm.len h.len,fun h0=>?_,fun _=>?_⟩
 ·rcases hs with hs|hs
  ·exact absurd (hs.symm.trans h0) he
  ·omega
 ·rcases hs with hs|hs
  ·obtain⟨N1,P1,h1,h2,h3,h4,h5⟩:=hm
   rcases h.bad he with⟨k1,k2⟩|⟨k1,k2⟩
   ·exact .inl ⟨hs.trans k1,h5 k2⟩
   ·refine .inr ⟨hs.trans k1,?_⟩
    rw[h1,zai]
    omega
  ·exact .inl hs
def LdOk (last:Bool) (d:Nat) (N:List Nod) (c:Cel):Prop:=last=false->0<=c.child/\c.child<N.length/\(N.getD c.child.toNat ⟨0,[],ZcE⟩).dim=(d:Int)+1
theorem LdOk.pre {last:Bool} {d:Nat} {N N':List Nod} {c:Cel} (h:LdOk last d N c) (hp:N <+: N'):LdOk last d N' c:=fun hl=>by
 obtain⟨h1,h2,h3⟩:=h hl
 obtain⟨t,rfl⟩:=hp
 refine⟨h1,by rw[zai];omega,?_⟩
 rw[zah,zaC (by omega),<- zah]
 exact h3
section
variable {x:Shp} {L:List (List (List Int))} {facts:List Fct} {most:Int}
def CelL (x:Shp) (facts:List Fct) (D:Nat) (most:Int) (last:Bool) (d:Nat) (g:BSt->Int->List Nat->BSt×Cel) (h:DSt->Int->List Nat->DSt×Cel):Prop :=
 ∀s c k p,Zbz facts p->Rel facts D most s c->Rel facts D most (g s k p).1 (h c k p).1/\Zdd ((d:Int)+1) c (h c k p).1 /\
  ((g s k p).1.e=0->s.e=0/\(g s k p).2=(h c k p).2/\(h c k p).2.key=k/\ZbQ x d (h c k p).2=true/\LdOk last d (h c k p).1.N (h c k p).2)
theorem ZhB {D d:Nat} {last:Bool} {g:BSt->Int->List Nat->BSt×Cel} {h:DSt->Int->List Nat->DSt×Cel} (hg:CelL x facts D most last d g h):∀(l:List (Int×List Nat)) (s:BSt) (c:DSt),(∀q∈l,Zbz facts q.2)->Rel facts D most s c->Rel facts D most (ZbG g s l).1 (cellsD h c l).1/\Zdd ((d:Int)+1) c (cellsD h c l).1 /\
  ((ZbG g s l).1.e=0->s.e=0/\(ZbG g s l).2=(cellsD h c l).2/\(cellsD h c l).2.map Cel.key=l.map (·.1)/\∀z∈(cellsD h c l).2,ZbQ x d z=true/\LdOk last d (cellsD h c l).1.N z)
 | [],s,c,_,hr=>⟨hr,Zdd.refl _ _,fun h=>⟨h,rfl,rfl,fun z hz=>by cases hz⟩⟩
 | p :: ps,s,c,hp,hr=>by
  obtain⟨h1,h2,h3⟩:=hg s c p.1 p.2 (hp p zae) hr
  obtain⟨k1,k2,k3⟩:=ZhB hg ps _ _ (fun q hq=>hp q (zad _ hq)) h1
  refine⟨k1,h2.trans k2,fun h0=>?_⟩
  obtain⟨m1,m2,m3,m4⟩:=k3 h0
  obtain⟨n1,n2,n3,n4,n5⟩:=h3 m1
  refine⟨n1,?_,?_,?_⟩
  ·show _ :: _=_ :: _
   rw[n2,m2]
  ·show _ :: _=_ :: _
   rw[n3,m3]
  ·intro z hz
   rcases zal.1 (show z∈(h c p.1 p.2).2 :: (cellsD h (h c p.1 p.2).1 ps).2 from hz)with rfl|hz
   ·exact⟨n4,n5.pre k2.pre⟩
   ·exact m4 z hz
theorem Zig {D d:Nat} {last:Bool} {g:BSt->Int->List Nat->BSt×Cel} {h:DSt->Int->List Nat->DSt×Cel} (hg:CelL x facts D most last d g h):∀(l:List (List (Int×List Nat))) (s:BSt) (c:DSt),(∀t∈l,∀q∈t,Zbz facts q.2)->Rel facts D most s c->Rel facts D most (Zbc g s l).1 (ZbW h c l).1/\Zdd ((d:Int)+1) c (ZbW h c l).1 /\
  ((Zbc g s l).1.e=0->s.e=0/\(Zbc g s l).2=(ZbW h c l).2/\(ZbW h c l).2.map (List.map Cel.key)=l.map (List.map (·.1))/\∀t∈(ZbW h c l).2,∀z∈t,ZbQ x d z=true/\LdOk last d (ZbW h c l).1.N z)
 | [],s,c,_,hr=>⟨hr,Zdd.refl _ _,fun h=>⟨h,rfl,rfl,fun z hz=>by cases hz⟩⟩
 | p :: ps,s,c,hp,hr=>by
  obtain⟨h1,h2,h3⟩:=ZhB hg p s c (hp p zae) hr
  obtain⟨k1,k2,k3⟩:=Zig hg ps _ _ (fun q hq=>hp q (zad _ hq)) h1
  refine⟨k1,h2.trans k2,fun h0=>?_⟩
  obtain⟨m1,m2,m3,m4⟩:=k3 h0
  obtain⟨n1,n2,n3,n4⟩:=h3 m1
  refine⟨n1,?_,?_,?_⟩
  ·show _ :: _=_ :: _
   rw[n2,m2]
  ·show _ :: _=_ :: _
   rw[n3,m3]
  ·intro t ht z hz
   rcases zal.1 (show t∈(cellsD h c p).2 :: (ZbW h (cellsD h c p).1 ps).2 from ht)with rfl|ht
   ·exact⟨(n4 z hz).1,(n4 z hz).2.pre k2.pre⟩
   ·exact m4 t ht z hz
theorem ZfP {i:Int} {m n1 n2 s1 s2 l1 l2 h1 h2:Int} (q1:1<=n1) (q2:1<=n2) (a:Zb2 i m n1 s1 l1 h1=true) (b:Zb2 i m n2 s2 l2 h2=true):Zb2 i m (n1+n2) (s1+s2) (if l2<l1 then l2 else l1) (if h2 > h1 then h2 else h1)=true:=by
 unfold Zb2 at *
 by_cases c:m<=i
 ·rw[if_pos c]at *
  simp only[decide_eq_true_eq]at *
  obtain⟨rfl,rfl,rfl⟩:=a
  obtain⟨rfl,rfl,rfl⟩:=b
  simp
 ·rw[if_neg c]at *
  simp only[zax,decide_eq_true_eq]at *
  have hn:decide (n1+n2=1)=false:=decide_eq_false (by omega)
  rw[hn]
  refine⟨?_,rfl⟩
  have h3:=a.1
  have h4:=b.1
  split<;>split<;>omega
theorem ZlJ {m:Int} {a b c:Ag} (ha:Zbw m a=true) (hb:Zbw m b=true) (h:Zdl a b=some c):Zbw m c=true:=by
 unfold Zbw at ha hb
 simp only[zax,decide_eq_true_eq]at ha hb
 obtain⟨⟨⟨⟨⟨a1,a2⟩,a3⟩,a4⟩,a5⟩,a6⟩:=ha
 obtain⟨⟨⟨⟨⟨b1,b2⟩,b3⟩,b4⟩,b5⟩,b6⟩:=hb
 unfold Zdl at h
 rw[if_neg (by omega),if_neg (by omega)]at h
 split at h
 ·cases h
 split at h
 ·cases h
 split at h
 ·cases h
 split at h
 ·cases h
 obtain rfl:=zbZ h
 have k0:=ZfP a3 b3 a4 b4
 have k1:=ZfP a3 b3 a5 b5
 have k2:=ZfP a3 b3 a6 b6
 unfold Zbw Zem
 simp only[show(0:Nat)<3 from by decide,show(1:Nat)<3 from by decide,show(2:Nat)<3 from by decide,if_true,zax,decide_eq_true_eq]
 exact⟨⟨⟨⟨⟨a1,a2⟩,by omega⟩,k0⟩,k1⟩,k2⟩
theorem ZjU {m:Int} (hf:∀f∈facts,Zbw m f.2=true):∀(part:List Nat) (a b:Ag),(∀i∈part,i<facts.length)->(Zbw m a=true\/(a=ag0/\part≠[]))->ZdJ facts a part=some b->Zbw m b=true
 | [],a,b,_,ha,h=>by
  injection h with h
  subst h
  rcases ha with ha|⟨_,ha⟩
  ·exact ha
  ·exact absurd rfl ha
 | i :: r,a,b,hp,ha,h=>by
  have hi:=hp i zae
  have hg:facts.getD i ([],ag0)=facts[i]:=by rw[zah,zaa hi];rfl
  have hm:=hf _ (zaq hi)
  unfold ZdJ at h
  rw[hg]at h
  split at h
  ·cases h
  ·rename_i c hc
   refine ZjU hf r c b (fun j hj=>hp j (zad _ hj)) (.inl ?_) h
   rcases ha with ha|⟨rfl,_⟩
   ·exact ZlJ ha hm hc
   ·have:Zdl ag0 facts[i].2=some facts[i].2:=by unfold Zdl;exact if_pos (show ag0.n=0 from rfl)
    rw[this]at hc
    injection hc with hc
    exact hc ▸ hm
theorem ZeS {dim size:Int}:∀{l:List Cel} {p:Option Int},(l.map Cel.key).Pairwise (·<·)->(∀q,p=some q->∀c∈l,q<c.key)->(∀c∈l,0<=c.key/\c.key<size)->(∀c∈l,ZbQ x dim c=true)->ZcA x dim size p l=0
 | [],_,_,_,_,_=>rfl
 | c :: r,p,h1,h2,h3,h4=>by
  obtain⟨k1,k2⟩:=zaR.1 h1
  have hc:=h3 c zae
  rw[ZcA,if_neg (by omega),if_neg ?_,if_neg (by rw[h4 c zae];decide)]
  ·exact ZeS k2 (fun q hq d hd=>by injection hq with hq;subst hq;exact k1 _ (zcf hd)) (fun d hd=>h3 d (zad _ hd)) fun d hd=>h4 d (zad _ hd)
  ·cases p with
   | none=>simp[ZiJ]
   | some q=>have:=h2 q rfl c zae;simp[ZiJ];omega
theorem Zec {dim:Int}:∀{ls:List (List Cel)} {ss:List Int} {p:Option Nat},(∀i (h:i<ls.length) (h':i<ss.length),ZbN x dim ss[i] ls[i]=0)->(∀i (h:i+1<ls.length),ls[i+1].length<=ls[i].length)->(∀q,p=some q->∀h:0<ls.length,ls[0].length<=q)->ZbH x dim p ss ls=0
 | [],ss,p,_,_,_=>ZeZ x dim p ss
 | l :: r,[],p,_,_,_=>by cases p<;>rfl
 | l :: r,s :: ss,p,h1,h2,h3=>by
  have h0:ZbN x dim s l=0:=h1 0 (by simp) (by simp)
  rw[ZbH,if_neg (by rw[h0];decide),if_neg ?_]
  ·refine Zec (fun i h h'=>?_) (fun i h=>?_) fun q hq h=>?_
   ·exact h1 (i+1) (by simpa using h) (by simpa using h')
   ·exact h2 (i+1) (by simpa using h)
   ·injection hq with hq
    subst hq
    exact h2 0 (by simpa using h)
  ·cases p with
   | none=>simp[Zkf]
   | some q=>have:=h3 q rfl (by simp);simp[Zkf]at *;omega
theorem Zep:∀{l m:List Int},l.Nodup->(∀a∈l,a∈m)->l.length<=m.length
 | [],_,_,_=>zaD _
 | a :: l,m,h1,h2=>by
  obtain⟨k1,k2⟩:=zbg.1 h1
  have hm:=h2 a zae
  have:=Zep (m:=m.erase a) k2 fun b hb=>(zb9 fun(e:b=a)=>k1 (by rw[<- e];exact hb)).2 (h2 b (zad _ hb))
  rw[zck hm]at this
  have:0<m.length:=zb0 hm
  simp only[List.length_cons]
  omega
def UpOk (L:List (List (List Int))) (facts:List Fct):Prop:=∀d t i j,d<L.length->t+1<(L.getD d []).length->i<facts.length->j<facts.length->Zdm L facts d t i=Zdm L facts d t j->Zdm L facts d (t+1) i=Zdm L facts d (t+1) j
theorem Zl5 {key:Nat->Int} {n:Nat} {part:List Nat} {k:Int} (h:k∈(grs key n part).map (·.1)):(0<=k/\k<n)/\∃i∈part,key i=k:=by
 obtain⟨g,hg,rfl⟩:=zat.1 h
 have h2:=Zfb hg
 unfold grs at hg
 obtain⟨m,hm,h⟩:=zbA.1 hg
 have hm:m<n:=by simpa using hm
 split at h
 ·cases h
 ·injection h with h
  subst h
  obtain⟨i,hi⟩:=zbz _ h2.1
  obtain⟨i1,i2⟩:=za7.1 hi
  exact⟨⟨by simp,by simp;omega⟩,i,i1,by simpa using i2⟩
theorem Zfg {key:Nat->Int} {n:Nat} {part:List Nat} {i:Nat} (hi:i∈part) (h:0<=key i/\key i<n):key i∈(grs key n part).map (·.1):=by
 refine zat.2 ⟨(key i,part.filter fun j=>decide (key j=key i)),?_,rfl⟩
 unfold grs
 refine zbA.2 ⟨(key i).toNat,by simp;omega,?_⟩
 have e:((key i).toNat:Int)=key i:=by omega
 simp only[e]
 rw[if_neg]
 exact List.ne_nil_of_mem (za7.2 ⟨hi,by simp⟩)
theorem Zkj {l:List Int} (h:l.Pairwise (·<·)):l.Nodup:=h.imp fun h=>by omega
theorem grs_less {part:List Nat} (hF:ZbI x L facts) (hU:UpOk L facts) (hp:Zbz facts part) {d t:Nat} (hd:d<L.length) (ht:t+1<L[d].length):(grs (Zdm L facts d (t+1)) (Zch x d (t+1)) part).length<=(grs (Zdm L facts d t) (Zch x d t) part).length:=by
 have h1:=(hF.Ziy hp hd (t:=t) (by omega)).2
 have h2:=(hF.Ziy hp hd (t:=t+1) ht).2
 -- each key of the tier above is that of a member below
 have hn:((grs (Zdm L facts d (t+1)) (Zch x d (t+1)) part).map (·.1)).Nodup:=Zkj (zbR.2 (Ze9 _ _ _))
 have key:∀k:Int,∃u:Int,∀i∈part,Zdm L facts d t i=k->Zdm L facts d (t+1) i=u:=fun k=>by
  by_cases c:∃i∈part,Zdm L facts d t i=k
  ·obtain⟨i,hi,he⟩:=c
   exact⟨Zdm L facts d (t+1) i,fun j hj hk=>hU d t j i hd (by simpa [zaa hd] using ht) (hp.2.2 j hj) (hp.2.2 i hi) (hk.trans he.symm)⟩
  ·exact⟨0,fun i hi hk=>absurd ⟨i,hi,hk⟩ c⟩
 obtain⟨u,hu⟩:=zbV key
 have:=Zep (m:=((grs (Zdm L facts d t) (Zch x d t) part).map (·.1)).map u) hn fun a ha=>by
  obtain⟨_,i,hi,he⟩:=Zl5 ha
  refine zat.2 ⟨Zdm L facts d t i,Zfg hi (h1 i hi),?_⟩
  rw[<- he]
  exact(hu _ i hi rfl).symm
 simpa using this
def NodL (facts:List Fct) (D:Nat) (most:Int) (d:Nat) (f:BSt->List Nat->BSt×Int) (h:DSt->List Nat->DSt×Int):Prop :=
 ∀s c p,Zbz facts p->Rel facts D most s c->Rel facts D most (f s p).1 (h c p).1/\Zdd d c (h c p).1 /\
  ((f s p).1.e=0->s.e=0/\(f s p).2=(h c p).2/\0<=(h c p).2/\(h c p).2<(h c p).1.N.length/\((h c p).1.N.getD (h c p).2.toNat ⟨0,[],ZcE⟩).dim=(d:Int))
theorem cell_law {D d:Nat} {last:Bool} {f:BSt->List Nat->BSt×Int} {h:DSt->List Nat->DSt×Int} (hm:∀f∈facts,Zbw x.measures f.2=true) (hl:last=lastB x d) (hf:last=false->NodL facts D most (d+1) f h):CelL x facts D most last d (ZbM facts f last) (Zc2 facts h last):=by
 intro s c k p hp hr
 cases last with
 | true =>
  have e1:ZbM facts f true s k p=(sumE s (ZdJ facts ag0 p),⟨k,0,(ZdJ facts ag0 p).getD ag0⟩):=rfl
  have e2:Zc2 facts h true c k p=(⟨c.N,c.P,c.over || (ZdJ facts ag0 p).isNone⟩,⟨k,0,(ZdJ facts ag0 p).getD ag0⟩):=rfl
  rw[e1,e2]
  have hM:Zdd ((d:Int)+1) c ⟨c.N,c.P,c.over || (ZdJ facts ag0 p).isNone⟩:=⟨[],[],by simp,by simp,rfl,by simp,fun h=>by simp[h]⟩
  cases hs:ZdJ facts ag0 p with
  | none =>
   rw[hs]at hM
   refine⟨⟨hr.len,fun h=>absurd (show(12:Int)=0 from h) (by decide),fun _=>.inl ⟨rfl,by simp⟩⟩,hM,fun h=>absurd (show(12:Int)=0 from h) (by decide)⟩
  | some a =>
   rw[hs]at hM
   have ho:(c.over || (some a:Option Ag).isNone)=c.over:=by simp
   rw[ho]at hM ⊢
   refine⟨hr,hM,fun h=>⟨h,rfl,rfl,?_,fun h=>by cases h⟩⟩
   unfold ZbQ
   rw[if_pos hl.symm]
   have:=ZjU hm p ag0 a hp.2.2 (.inr ⟨rfl,hp.1⟩) hs
   simp[this]
 | false =>
  have e1:ZbM facts f false s k p=((f s p).1,⟨k,(f s p).2,ag0⟩):=rfl
  have e2:Zc2 facts h false c k p=((h c p).1,⟨k,(h c p).2,ag0⟩):=rfl
  rw[e1,e2]
  obtain⟨h1,h2,h3⟩:=hf rfl s c p hp hr
  refine⟨h1,by simpa using h2,fun h=>?_⟩
  obtain⟨k1,k2,k3,k4,k5⟩:=h3 h
  refine⟨k1,?_,rfl,?_,fun _=>⟨k3,k4,?_⟩⟩
  ·show(⟨_,_,_⟩:Cel)=⟨_,_,_⟩
   rw[k2]
  ·unfold ZbQ
   rw[if_neg (by rw[<- hl];decide)]
   simp[k3]
  ·rw[k5];simp
theorem ZkV {d:Nat} {part:List Nat} {ls:List (List Cel)} {a:Cel} {N:List Nod} (hF:ZbI x L facts) (hU:UpOk L facts) (hp:Zbz facts part) (hd:d<L.length) (hk:ls.map (List.map Cel.key)=(ZaC x L facts d part).map (List.map (·.1))) (hc:∀t∈ls,∀z∈t,ZbQ x d z=true/\LdOk (lastB x d) d N z) (ha:a.key=0/\ZbQ x d a=true/\LdOk (lastB x d) d N a) :
  Zbf x ⟨(d:Int),ls,a⟩=0/\ZeO x N ⟨(d:Int),ls,a⟩=true:=by
 have hGl:(ZaC x L facts d part).length=L[d].length:=by unfold ZaC;simp[zaa hd]
 have hGg:∀k (h:k<(ZaC x L facts d part).length),(ZaC x L facts d part)[k]=grs (Zdm L facts d k) (Zch x d k) part:=fun k h=>by simp[ZaC]
 obtain⟨t1,t2,t3⟩:=hF.tier d hd
 have hll:ls.length=L[d].length:=by have:=congrArg List.length hk;simp only[zaj]at this;omega
 have hlk:∀i (h:i<ls.length),ls[i].map Cel.key=(grs (Zdm L facts d i) (Zch x d i) part).map (·.1):=fun i h=>by
  have e:(ls.map (List.map Cel.key))[i]'(by simpa using h)=((ZaC x L facts d part).map (List.map (·.1)))[i]'(by simp;omega):=by congr 1
  rw[zbU,zbU,hGg i (by omega)]at e
  exact e
 have hln:∀i (h:i<ls.length),ls[i].length=(grs (Zdm L facts d i) (Zch x d i) part).length:=fun i h=>by
  have:=congrArg List.length (hlk i h)
  simpa using this
 have hsz:∀i (h:i<(x.sizes.getD d []).length),(x.sizes.getD d [])[i]=(Zch x d i:Int)\/(x.sizes.getD d [])[i]<0:=fun i h=>by
  unfold Zch
  rw[zah (l:=x.sizes.getD d []),zaa h]
  simp only[Option.getD_some]
  omega
 constructor
 ·unfold Zbf
  rw[if_neg (by simp only;have:=hF.len;omega)]
  simp only[Int.toNat_natCast]
  rw[if_neg (by omega)]
  have hz:ZbH x (d:Int) none (x.sizes.getD d []) ls=0:=by
   refine Zec (fun i h h'=>?_) (fun i h=>?_) (fun q hq=>by cases hq)
   ·obtain⟨i0,hi0⟩:=zbz _ hp.1
    have hr:=(hF.Ziy hp hd (t:=i) (by omega)).2
    have hk0:=Zfg hi0 (hr i0 hi0)
    have hpos:=zb0 hk0
    rw[zaj]at hpos
    unfold ZbN
    rw[if_neg (by rw[hln i h];omega)]
    refine ZeS ?_ (fun q hq=>by cases hq) (fun c hc'=>?_) fun c hc'=>(hc _ (zaq h) c hc').1
    ·rw[hlk i h];exact zbR.2 (Ze9 _ _ _)
    ·have hm:c.key∈(grs (Zdm L facts d i) (Zch x d i) part).map (·.1):=by rw[<- hlk i h];exact zcf hc'
     have hb:=(Zl5 hm).1
     have hb0:=(hr i0 hi0)
     rcases hsz i h' with e|e
     ·rw[e];exact hb
     ·exfalso
      unfold Zch at hb0
      rw[zah (l:=x.sizes.getD d []),zaa h']at hb0
      simp only[Option.getD_some]at hb0
      omega
   ·rw[hln i (by omega),hln (i+1) h]
    exact grs_less hF hU hp hd (by omega)
  rw[hz,if_neg (by decide),if_neg]
  rintro(h|h)
  ·exact h ha.1
  ·rw[ha.2.1]at h;cases h
 ·unfold ZeO
  cases hl:lastB x d with
  | true=>rfl
  | false =>
   rw[hl]at hc ha
   rw[zbP,zaO]
   intro c hcm
   have hco:LdOk false d N c:=by
    unfold each at hcm
    rcases zav.1 hcm with hcm|hcm
    ·obtain⟨t,ht,hct⟩:=zbm.1 hcm
     exact(hc t ht c hct).2
    ·rw[zam.1 hcm];exact ha.2.2
   obtain⟨c1,c2,c3⟩:=hco rfl
   rw[c3]
   simp[c2]
theorem nmP_inj' {d e:Nat} {p q:List Nat} (hd:d<256) (he:e<256) (hp:∀i∈p,i<65536) (hq:∀i∈q,i<65536) (h:nmP d p=nmP e q):d=e/\p=q:=by
 have b2i:∀{i j:Nat},i<65536->j<65536->b2 i=b2 j->i=j:=fun {i j} hi hj h=>by
  unfold b2 at h
  injection h with h1 h2
  injection h2 with h2 _
  have e1:=congrArg UInt8.toNat h1
  have e2:=congrArg UInt8.toNat h2
  simp only[UInt8.toNat_ofNat']at e1 e2
  omega
 have fli:∀{p q:List Nat},(∀i∈p,i<65536)->(∀i∈q,i<65536)->p.flatMap b2=q.flatMap b2->p=q:=by
  intro p
  induction p with
  | nil =>
   intro q _ _ h
   cases q with
   | nil=>rfl
   | cons a q=>simp[b2]at h
  | cons a p ih =>
   intro q hp hq h
   cases q with
   | nil=>simp[b2]at h
   | cons b q =>
    rw[zbj,zbj]at h
    obtain⟨h1,h2⟩:=List.append_inj h rfl
    rw[b2i (hp a zae) (hq b zae) h1,ih (fun i hi=>hp i (zad _ hi)) (fun i hi=>hq i (zad _ hi)) h2]
 unfold nmP at h
 injection h with h1 h2
 have e1:=congrArg UInt8.toNat h1
 simp only[UInt8.toNat_ofNat']at e1
 exact⟨by omega,fli hp hq h2⟩
theorem Zj0 {d:Nat} {f:BSt->List Nat->BSt×Int} {h:DSt->List Nat->DSt×Int} (hF:ZbI x L facts) (hU:UpOk L facts) (hm:∀f∈facts,Zbw x.measures f.2=true) (hd:d<L.length) (hf:d+1≠L.length->NodL facts L.length most (d+1) f h) :
  NodL facts L.length most d (Zdq x L facts most f d) (ZpU x L facts h d):=by
 intro s c p hp hr
 have hlb:decide (d+1=L.length)=lastB x d:=by
  unfold lastB
  rw[za8]
  simp only[beq_iff_eq,decide_eq_true_eq]
  have:=hF.len
  omega
 have hcel:=cell_law (f:=f) (h:=h) (D:=L.length) (most:=most) (d:=d) (last:=decide (d+1=L.length)) hm hlb (fun hl=>hf (of_decide_eq_false hl))
 have hgp:∀t∈ZaC x L facts d p,∀q∈t,Zbz facts q.2:=fun t ht q hq=>by
  unfold ZaC at ht
  obtain⟨k,_,rfl⟩:=zat.1 ht
  exact hp.grs hq
 obtain⟨t1,t2,t3⟩:=Zig hcel (ZaC x L facts d p) s c hgp hr
 obtain⟨a1,a2,a3⟩:=hcel (Zbc (ZbM facts f (decide (d+1=L.length))) s (ZaC x L facts d p)).1 (ZbW (Zc2 facts h (decide (d+1=L.length))) c (ZaC x L facts d p)).1 0 p hp t1
 have hck:=fun N=>ZkV (N:=N) (ls:=(ZbW (Zc2 facts h (decide (d+1=L.length))) c (ZaC x L facts d p)).2) (a:=(Zc2 facts h (decide (d+1=L.length)) (ZbW (Zc2 facts h (decide (d+1=L.length))) c (ZaC x L facts d p)).1 0 p).2) hF hU hp hd
 rw[<- hlb]at hck
 unfold Zdq ZpU
 have hdl:=hF.dims
 have hfew:=hF.few
 generalize (Zbc (ZbM facts f (decide (d+1=L.length))) s (ZaC x L facts d p))=T at *
 generalize (ZbW (Zc2 facts h (decide (d+1=L.length))) c (ZaC x L facts d p))=U at *
 generalize (ZbM facts f (decide (d+1=L.length)) T.1 0 p)=A at *
 generalize (Zc2 facts h (decide (d+1=L.length)) U.1 0 p)=B at *
 -- the document's node,once it is made
 have hmk:Zdd d c (Ze8 d p B U.2).1:=by
  have hM:Zdd d c B.1:=(t2.trans a2).weak (by omega)
  exact hM.trans ⟨[⟨d,U.2,B.2⟩],[p],rfl,rfl,rfl,by simp,id⟩
 by_cases he:s.e=0
 ·obtain⟨r1,r2,_,r3⟩:=hr.ok he
  have hg:=r3 d p hd hp
  cases hfn:Ze3 d p c.N c.P with
  | some i =>
   rw[hfn,Option.map_some]at hg
   rw[hg]
   obtain⟨i1,i2,i3⟩:=Zly hfn
   exact⟨hr,Zdd.refl _ _,fun _=>⟨he,rfl,Int.natCast_nonneg i,Int.ofNat_lt.2 i1,i2⟩⟩
  | none =>
   rw[hfn,Option.map_none]at hg
   rw[hg]
   simp only
   rw[if_neg (by simp[he])]
   unfold Zha
   by_cases ha:A.1.e=0
   ·rw[if_neg (by simp[ha])]
    obtain⟨b1,b2,b3,b4,b5⟩:=a3 ha
    obtain⟨u1,u2,u3,u4⟩:=t3 b1
    obtain⟨c1,c2,_,c3⟩:=a1.ok ha
    obtain⟨v1,v2⟩:=hck B.1.N u3 (fun t ht z hz=>⟨(u4 t ht z hz).1,(u4 t ht z hz).2.pre a2.pre⟩) ⟨b3,b4,b5⟩
    rw[c1,u2,b2]
    by_cases hfull:most<=B.1.N.length
    ·have ea:ZbF x most B.1.N ⟨d,U.2,B.2⟩=7:=by
      unfold ZbF
      rw[if_neg (by rw[v1];decide),if_neg (by rw[v2];decide),if_pos hfull]
     rw[ea,if_pos (by decide)]
     refine⟨⟨hmk.len hr.len,fun h=>absurd (show(7:Int)=0 from h) (by decide),fun _=>.inr ⟨rfl,?_⟩⟩,hmk,fun h=>absurd (show(7:Int)=0 from h) (by decide)⟩
     show most<((B.1.N++[(⟨d,U.2,B.2⟩:Nod)]).length:Int)
     rw[zai,List.length_singleton]
     omega
    ·have ea:ZbF x most B.1.N ⟨d,U.2,B.2⟩=0:=by
      unfold ZbF
      rw[if_neg (by rw[v1];decide),if_neg (by rw[v2];decide),if_neg hfull]
     rw[ea,if_neg (by decide)]
     have hfB:Ze3 d p B.1.N B.1.P=none:=by rw[(t2.trans a2).fnd hr.len (by omega) p];exact hfn
     refine⟨⟨hmk.len hr.len,fun _=>⟨rfl,c2,?_,fun d' p' hd' hp'=>?_⟩,fun h=>absurd rfl h⟩,hmk,fun _=>⟨he,rfl,?_,?_,?_⟩⟩
     ·show((B.1.N++[(⟨d,U.2,B.2⟩:Nod)]).length:Int)<=most
      rw[zai,List.length_singleton]
      omega
     ·show Zcz (nmP d' p') (ZbU (nmP d p) (B.1.N.length:Int) A.1.M)=Option.map _ (Ze3 d' p' (B.1.N++[(⟨d,U.2,B.2⟩:Nod)]) (B.1.P++[p]))
      rw[Zeg,Zld a1.len,fnd_one]
      by_cases hc:d'=d/\p'=p
      ·obtain⟨rfl,rfl⟩:=hc
       rw[if_pos rfl,hfB,if_pos ⟨rfl,rfl⟩]
       simp
      ·rw[if_neg hc,if_neg]
       ·rw[c3 d' p' hd' hp']
        cases Ze3 d' p' B.1.N B.1.P<;>rfl
       ·intro hn
        exact hc (nmP_inj' (by omega) (by omega) (fun i hi=>by have:=hp'.2.2 i hi;omega) (fun i hi=>by have:=hp.2.2 i hi;omega) hn)
     ·show(0:Int)<=(B.1.N.length:Int);omega
     ·show(B.1.N.length:Int)<((B.1.N++[(⟨d,U.2,B.2⟩:Nod)]).length:Int)
      rw[zai,List.length_singleton]
      omega
     ·show((B.1.N++[(⟨d,U.2,B.2⟩:Nod)]).getD (B.1.N.length:Int).toNat ⟨0,[],ZcE⟩).dim=(d:Int)
      simp
   ·rw[if_pos ha]
    refine⟨?_,hmk,fun h=>absurd h ha⟩
    exact a1.mono (e:=d) ha ⟨[⟨d,U.2,B.2⟩],[p],rfl,rfl,rfl,by simp,id⟩ (.inl rfl)
 ·have key:∀(r:BSt×Int) (q:DSt×Int),r.1=s->Zdd d c q.1->Rel facts L.length most r.1 q.1/\Zdd d c q.1/\(r.1.e=0->s.e=0/\r.2=q.2/\0<=q.2/\q.2<q.1.N.length/\(q.1.N.getD q.2.toNat ⟨0,[],ZcE⟩).dim=(d:Int)):=fun r q hr1 hq=>by
   rw[hr1]
   exact⟨hr.mono he hq (.inl rfl),hq,fun h=>absurd h he⟩
  refine key _ _ ?_ ?_
  ·split
   ·rfl
   ·rw[if_pos he]
  ·unfold visM
   split
   ·exact Zdd.refl _ _
   ·exact hmk
theorem Zf7 (hF:ZbI x L facts) (hU:UpOk L facts) (hm:∀f∈facts,Zbw x.measures f.2=true):∀(n:Nat),n+1<=L.length->NodL facts L.length most (L.length - (n+1)) (ZcV x L facts most (n+1)) (Zhq x L facts (n+1))
 | 0,h=>Zj0 (d:=L.length - 1) (f:=ZcV x L facts most 0) (h:=Zhq x L facts 0) hF hU hm (by have:1<=L.length:=h;omega) (fun h2=>absurd (show L.length - 1+1=L.length by have:1<=L.length:=h;omega) h2)
 | n+1,h=>by
  refine Zj0 (d:=L.length - (n+1+1)) (f:=ZcV x L facts most (n+1)) (h:=Zhq x L facts (n+1)) hF hU hm (by omega) (fun _=>?_)
  have:=Zf7 hF hU hm n (by omega)
  rw[show L.length - (n+1+1)+1=L.length - (n+1) by omega]
  exact this
end
def Zcn (S:Sc) (facts:List Fct):DSt:=if facts=[] then ⟨[],[],false⟩ else (Zhq (Za3 S) (Zan S) facts (Zan S).length ⟨[],[],false⟩ (List.range facts.length)).1
theorem ZmY {S:Sc} {most:Int} {facts:List Fct} (hF:ZbI (Za3 S) (Zan S) facts) (hU:UpOk (Zan S) facts) (hm:∀f∈facts,Zbw (Za3 S).measures f.2=true) (hL:1<=(Zan S).length) (hne:facts≠[]) (h0m:0<=most) :
  Rel facts (Zan S).length most (Zfa S most facts) (Zcn S facts):=by
 have hpo:Zbz facts (List.range facts.length):=⟨by simp;exact hne,by simp,fun i hi=>by simpa using hi⟩
 have h0:Rel facts (Zan S).length most ⟨[],[],0⟩ ⟨[],[],false⟩:=⟨rfl,fun _=>⟨rfl,rfl,h0m,fun d part _ _=>rfl⟩,fun h=>absurd rfl h⟩
 have:=(Zf7 (most:=most) hF hU hm ((Zan S).length - 1) (by omega) _ _ _ hpo h0).1
 rw[show(Zan S).length - 1+1=(Zan S).length by omega]at this
 unfold Zcn Zfa
 rw[if_neg hne]
 exact this
theorem dim_tier {d:Dm} (h:Zdv d=0) {k:Nat} (hk:k+1<d.tiers.length):d.tiers[k+1].terms.length<=d.tiers[k].terms.length/\ZdD d.tiers[k].up d.tiers[k].terms.length (d.tiers[k+1].terms.length:Int)=true:=by
 obtain⟨h1,h2,h3⟩:=Zce h
 obtain⟨t1,t2,t3⟩:=Zcd (h3 k (by omega))
 obtain⟨u1,u2,u3⟩:=Zcd (h3 (k+1) hk)
 have e:ZbR (d.tiers.drop (k+1))=(d.tiers[k+1].terms.length:Int):=by rw[zao hk];rfl
 rw[e]at t3
 refine⟨?_,t3⟩
 unfold ZdD at t3
 rw[if_neg (by omega)]at t3
 split at t3
 ·cases t3
 ·rename_i h4
  rw[zax]at t3
  have h5:=t3.2
  have h6:=ZjE d.tiers[k].up
  have h7:((Zg2 d.tiers[k].up).length:Int)=(d.tiers[k+1].terms.length:Int):=by simpa using h5
  have h8:(d.tiers[k].up.length:Int)=(d.tiers[k].terms.length:Int):=zaQ.1 h4
  omega
theorem Zil:∀{ss:List Int} {p:Option Int},(∀n∈ss,1<=n/\n<=200)->(∀k (h:k+1<ss.length),ss[k+1]<=ss[k])->(∀q,p=some q->∀h:0<ss.length,ss[0]<=q)->ZcZ p ss=true
 | [],_,_,_,_=>by simp[ZcZ]
 | n :: r,p,h1,h2,h3=>by
  have h0:=h1 n zae
  have hr:=Zil (ss:=r) (p:=some n) (fun m hm=>h1 m (zad _ hm)) (fun k h=>h2 (k+1) (by simpa using h)) (fun q hq h=>by injection hq with hq;subst hq;exact h2 0 (by simpa using h))
  cases p with
  | none=>simp only[ZcZ,hr];simp[h0]
  | some q=>have:=h3 q rfl (by simp);simp at this;simp only[ZcZ,hr];simp[h0,this]
theorem ZiG {S:Sc} (h:scE S=0):ZbS (Za3 S)=true:=by
 obtain⟨h1,h2,h3,h4⟩:=Zb7 h
 have hm:1<=(S.meas.length:Int)/\(S.meas.length:Int)<=3:=by
  unfold Zd8 at h4
  split at h4
  ·omega
  ·omega
 have hs:(Za3 S).sizes.all ZbT=true:=by
  rw[zaO]
  intro s hs
  unfold Za3 at hs
  obtain⟨d,hd,rfl⟩:=zat.1 hs
  obtain⟨d1,d2,d3⟩:=Zce (h3 d hd)
  unfold ZbT
  have hr:ZcZ none (d.tiers.map szT)=true:=by
   refine Zil (fun n hn=>?_) (fun k hk=>?_) (fun q hq=>by cases hq)
   ·obtain⟨t,ht,rfl⟩:=zat.1 hn
    obtain⟨k,hk,rfl⟩:=zay ht
    obtain⟨t1,t2,_⟩:=Zcd (d3 k hk)
    unfold szT
    omega
   ·have:=(dim_tier (h3 d hd) (k:=k) (by simpa using hk)).1
    simp only[zbU,szT]
    omega
  rw[hr]
  simp[d1,d2]
 unfold ZbS
 rw[hs]
 unfold Za3
 simp only[zaj]
 simp[hm,h1,h2]
theorem Zg0:∀{l:List Tr} {t:Tr} {i:Int},ups (l++[t]) i=if ups l i≥0 then Zdj t (ups l i) else ups l i
 | [],t,i=>by
  show ups [t] i=if i≥0 then Zdj t i else i
  rw[ups];rfl
 | a :: l,t,i=>by
  show(if i≥0 then ups (l++[t]) (Zdj a i) else i)=_
  by_cases c:i≥0
  ·have e:ups (a :: l) i=ups l (Zdj a i):=by rw[ups,if_pos c]
   rw[if_pos c,Zg0,e]
  ·have e:ups (a :: l) i=i:=by rw[ups,if_neg c]
   rw[if_neg c,e,if_neg c]
theorem lift_up {d:Dm} (h:Zdv d=0) {t i j:Nat} (ht:t+1<d.tiers.length) (hi:i<n0 d) (hj:j<n0 d) (he:Zdo d t i=Zdo d t j):Zdo d (t+1) i=Zdo d (t+1) j:=by
 have h1:=ZgR h (to:=t) (by omega) hi
 have h2:=ZgR h (to:=t) (by omega) hj
 have b:∀v:Int,0<=bot v->bot v=v:=fun v hv=>by unfold bot at *;split at hv<;>omega
 unfold Zdo at *
 rw[b _ h1.1,b _ h2.1]at he
 rw[zar (by omega),Zg0,Zg0,he]
theorem Zdk {S:Sc} {facts:List Fct} (hs:scE S=0) (hr:Zd7 (Za3 S) none facts=0) {d t i:Nat} (hd:d<S.dims.length) (ht:t<S.dims[d].tiers.length) (hi:i<facts.length):∃k:Nat,k<n0 S.dims[d]/\(facts.getD i ([],ag0)).1.getD d 0=(k:Int)/\d<(facts.getD i ([],ag0)).1.length/\Zdm (Zan S) facts d t i=Zdo S.dims[d] t k:=by
 obtain⟨k1,k2,k3⟩:=Zcp (Zcu hr _ (zaq hi))
 have hx:(Za3 S).sizes.length=S.dims.length:=by unfold Za3;simp
 have hdf:d<facts[i].1.length:=by omega
 have hk:=ZeA k2 d hdf
 have hsz:(Za3 S).sizes.getD d []=S.dims[d].tiers.map szT:=by unfold Za3;simp[hd]
 rw[hsz]at hk
 have hh:(S.dims[d].tiers.map szT).headD 0=(n0 S.dims[d]:Int):=by
  unfold n0
  generalize S.dims[d].tiers=l at *
  cases l with
  | nil=>simp at ht
  | cons a r=>rfl
 rw[hh]at hk
 have hg:facts.getD i ([],ag0)=facts[i]:=by rw[zah,zaa hi];rfl
 rw[hg]
 have e1:facts[i].1.getD d 0=facts[i].1[d]:=by rw[zah,zaa hdf];rfl
 refine⟨facts[i].1[d].toNat,by omega,by rw[e1];omega,hdf,?_⟩
 unfold Zdm
 rw[hg,e1]
 have hL:(Zan S).getD d []=Zct S.dims[d]:=by unfold Zan;simp[hd]
 have hT:(Zct S.dims[d]).getD t []=mapD S.dims[d] t:=by unfold Zct;simp[ht]
 rw[hL,hT]
 unfold mapD
 rw[zah,zaa (by simp;omega)]
 simp
theorem up_ok {S:Sc} {facts:List Fct} (hs:scE S=0) (hr:Zd7 (Za3 S) none facts=0):UpOk (Zan S) facts:=by
 intro d t i j hd ht hi hj he
 have hL:(Zan S).length=S.dims.length:=by unfold Zan;simp
 have hd':d<S.dims.length:=by omega
 have hLd:(Zan S).getD d []=Zct S.dims[d]:=by unfold Zan;simp[hd']
 rw[hLd]at ht
 have ht':t+1<S.dims[d].tiers.length:=by unfold Zct at ht;simpa using ht
 obtain⟨k1,a1,_,_,b1⟩:=Zdk hs hr hd' (t:=t) (by omega) hi
 obtain⟨k2,a2,_,_,b2⟩:=Zdk hs hr hd' (t:=t) (by omega) hj
 obtain⟨k3,a3,c3,_,b3⟩:=Zdk hs hr hd' (t:=t+1) ht' hi
 obtain⟨k4,a4,c4,_,b4⟩:=Zdk hs hr hd' (t:=t+1) ht' hj
 obtain⟨k1',a1',c1,_,b1'⟩:=Zdk hs hr hd' (t:=t) (by omega) hi
 obtain⟨k2',a2',c2,_,b2'⟩:=Zdk hs hr hd' (t:=t) (by omega) hj
 have e1:k1'=k3:=by omega
 have e2:k2'=k4:=by omega
 subst e1 e2
 rw[b3,b4]
 exact lift_up ((Zb7 hs).2.2.1 _ (zaq hd')) ht' a1' a2' (by rw[<- b1',<- b2'];exact he)
theorem ZlM {S:Sc} {most:Int} {facts:List Fct} (hs:scE S=0) (hr:Zd7 (Za3 S) none facts=0) (ha:∀f∈facts,Zho f.2) (h0m:0<=most) (hfl:facts.length<=4000) (h:Zet S most facts=0):Zlb (Za3 S) (Ze6 S most facts)=true:=by
 obtain⟨hard,hled⟩:=ZlU h ha
 by_cases h5:facts=[]
 ·have e:Ze6 S most facts=[]:=by unfold Ze6;rw[if_pos h5]
  rw[e];rfl
 ·have e:Ze6 S most facts=(Zfa S most facts).N:=by unfold Ze6;rw[if_neg h5]
  have hF:=ZdS hs hr hfl ha
  have hL1:1<=(Zan S).length:=by have:=(Zby hard.may).1;have:=hF.len;omega
  have hm:∀f∈facts,Zbw (Za3 S).measures f.2=true:=fun f hf=>(Zcp (Zcu hr f hf)).2.2
  have h:(Zfa S most facts).e=0:=by
   unfold Zet at h
   rw[if_neg (by simp[hs]),if_neg (by simp[hr]),if_neg (by omega)]at h
   split at h
   ·omega
   ·exact h
  have hpo:Zbz facts (List.range facts.length):=⟨by simp;exact h5,by simp,fun i hi=>by simpa using hi⟩
  have h0:Rel facts (Zan S).length most ⟨[],[],0⟩ ⟨[],[],false⟩:=⟨rfl,fun _=>⟨rfl,rfl,h0m,fun d part _ _=>rfl⟩,fun h=>absurd rfl h⟩
  obtain⟨q1,q2,q3⟩:=Zf7 (most:=most) hF (up_ok hs hr) hm ((Zan S).length - 1) (by omega) _ _ _ hpo h0
  have hrl:=ZhY (x:=Za3 S) (L:=Zan S) (facts:=facts) (most:=most) ((Zan S).length - 1) ⟨[],[],0⟩ (List.range facts.length) rfl
  rw[show(Zan S).length - 1+1=(Zan S).length by omega]at q1 q3 hrl
  have hrl:=hrl h
  obtain⟨_,e2,e3,e4,e5⟩:=q3 h
  obtain⟨e6,_⟩:=q1.ok h
  have hN:(Zfa S most facts).N=(Zhq (Za3 S) (Zan S) facts (Zan S).length ⟨[],[],false⟩ (List.range facts.length)).1.N:=e6
  rw[<- e6,<- e2]at e5
  rw[<- e6,<- e2]at e4
  rw[<- e2]at e3
  rw[e]at hard hled ⊢
  generalize hNN:(Zfa S most facts).N=N at *
  have hNN':(ZcV (Za3 S) (Zan S) facts most (Zan S).length ⟨[],[],0⟩ (List.range facts.length)).1.N=N:=hNN
  rw[hNN']at hrl e4 e5
  generalize (ZcV (Za3 S) (Zan S) facts most (Zan S).length ⟨[],[],0⟩ (List.range facts.length)).2=top at *
  have hpos:0<N.length:=by omega
  have hdim:(Zdw N ((N.length:Int) - 1)).dim=0:=by
   have ht:top.toNat=N.length - 1:=by omega
   rw[ht,zah,zaa (by omega)]at e5
   unfold Zdw
   rw[if_pos (by omega),show((N.length:Int) - 1).toNat=N.length - 1 by omega,zaa (by omega)]
   simpa using e5
  unfold Zlb
  rw[if_neg (by omega),hdim]
  simp only[beq_self_eq_true,zaY,zbQ]
  refine Bool.eq_false_iff.2 fun hc=>?_
  rw[zbq]at hc
  obtain⟨j,hj,hje⟩:=zay hc
  have hj':j<N.length - 1:=by rw[za9,ZlV]at hj;omega
  rw[zcO,ZqA (by omega)]at hje
  have hcz:List.count (j:Int) (kids (Za3 S) N)=0:=by omega
  rw[List.count_eq_zero]at hcz
  obtain⟨k,hk,hkd,c,hcm,hcc⟩:=hled j (by omega)
  refine hcz ?_
  unfold kids
  refine zbo.2 ⟨N[k],zaq hk,?_⟩
  have hlb:lastB (Za3 S) N[k].dim=false:=by unfold lastB;rw[beq_eq_false_iff_ne];omega
  rw[if_neg (by rw[hlb];decide)]
  exact zat.2 ⟨c,hcm,hcc⟩
def ZsE (S:Sc) (most:Int) (facts:List Fct):Int:=if scE S≠0 then scE S else if Zd7 (Za3 S) none facts≠0 then Zd7 (Za3 S) none facts else if most<0\/most > 131072 then 2 else 0
theorem ZkG {S:Sc} {most:Int} {facts:List Fct} (hfl:facts.length<=4000) (ha:∀f∈facts,Zho f.2) (h:ZsE S most facts=0) :
  ((Zcn S facts).over=true->Zet S most facts=12\/(Zet S most facts=7/\most<(Zcn S facts).N.length))/\((Zcn S facts).over=false->most<(Zcn S facts).N.length->Zet S most facts=7) /\
  ((Zcn S facts).over=false->(Zcn S facts).N.length<=most->Zet S most facts=0/\Ze6 S most facts=(Zcn S facts).N/\Zlb (Za3 S) (Zcn S facts).N=true):=by
 have hall:scE S=0/\Zd7 (Za3 S) none facts=0/\0<=most/\most<=131072:=by
  unfold ZsE at h
  split at h
  ·rename_i h1;exact absurd h h1
  rename_i h1
  split at h
  ·rename_i h2;exact absurd h h2
  rename_i h2
  split at h
  ·omega
  ·exact⟨zaQ.1 h1,zaQ.1 h2,by omega,by omega⟩
 obtain⟨hs,hr,h3,h4⟩:=hall
 have hn:newE (Za3 S) most=0:=by unfold newE;rw[if_pos ⟨ZiG hs,h3,h4⟩]
 by_cases h5:facts=[]
 ·have e1:Zcn S facts=⟨[],[],false⟩:=by unfold Zcn;rw[if_pos h5]
  have e2:Zet S most facts=0:=by
   unfold Zet
   rw[if_neg (by simp[hs]),if_neg (by simp[hr]),if_neg (by omega),if_neg (by simp[hn]),if_pos h5]
  have e3:Ze6 S most facts=[]:=by unfold Ze6;rw[if_pos h5]
  rw[e1,e2,e3]
  exact⟨fun h=>(by cases h),fun _ h=>(by simp at h;omega),fun _ _=>⟨rfl,rfl,rfl⟩⟩
 ·have hF:=ZdS hs hr hfl ha
  have hm:∀f∈facts,Zbw (Za3 S).measures f.2=true:=fun f hf=>(Zcp (Zcu hr f hf)).2.2
  have hL1:1<=(Zan S).length:=by have:=(Zby (ZiG hs)).1;have:=hF.len;omega
  have hR:=ZmY (most:=most) hF (up_ok hs hr) hm hL1 h5 h3
  have e2:Zet S most facts=(Zfa S most facts).e:=by
   unfold Zet
   rw[if_neg (by simp[hs]),if_neg (by simp[hr]),if_neg (by omega),if_neg (by simp[hn]),if_neg h5]
  have e3:Ze6 S most facts=(Zfa S most facts).N:=by unfold Ze6;rw[if_neg h5]
  have hW:=fun h=>ZlM (most:=most) hs hr ha h3 hfl h
  rw[e2]at hW ⊢
  rw[e3]at hW ⊢
  refine⟨fun ho=>?_,fun ho hl=>?_,fun ho hl=>?_⟩
  ·by_cases he:(Zfa S most facts).e=0
   ·have:=(hR.ok he).2.1
    rw[ho]at this;cases this
   ·rcases hR.bad he with⟨k1,_⟩|k
    ·exact .inl k1
    ·exact .inr k
  ·by_cases he:(Zfa S most facts).e=0
   ·have:=(hR.ok he).2.2.1
    omega
   ·rcases hR.bad he with⟨_,k2⟩|k
    ·rw[ho]at k2;cases k2
    ·exact k.1
  ·by_cases he:(Zfa S most facts).e=0
   ·have e:=(hR.ok he).1
    refine⟨he,e,?_⟩
    rw[<- e];exact hW he
   ·rcases hR.bad he with⟨_,k2⟩|k
    ·rw[ho]at k2;cases k2
    ·omega
theorem Zku {x:Shp} {L:List (List (List Int))} {facts:List Fct} {d:Nat} {part:List Nat} (hp:Zbz facts part):∀t∈ZaC x L facts d part,∀q∈t,Zbz facts q.2:=fun t ht q hq=>by
 unfold ZaC at ht
 obtain⟨k,_,rfl⟩:=zat.1 ht
 exact hp.grs hq
section
variable (x:Shp) (L:List (List (List Int))) (facts:List Fct)
def ZiH (c:DSt) (b d:Nat) (p:List Nat) (z:Cel):Prop :=
 if d+1=L.length then z.child=0/\z.agg=(ZdJ facts ag0 p).getD ag0
 else z.agg=ag0/\∃j:Nat,z.child=(j:Int)/\j<b/\j<c.N.length/\(c.N.getD j ZdH).dim=((d+1:Nat):Int)/\c.P.getD j []=p
def NodD (c:DSt) (b d:Nat) (p:List Nat) (n:Nod):Prop :=
 n.dim=(d:Int)/\n.all.key=0/\ZiH L facts c b d p n.all/\ZeK (ZeK fun(z:Cel) (g:Int×List Nat)=>z.key=g.1/\ZiH L facts c b d g.2 z) n.lists (ZaC x L facts d p)
def Zd3 (p:List Nat):Prop:=p≠[]/\p.Sublist (List.range facts.length)
structure ZdW (c:DSt):Prop where
 len:c.N.length=c.P.length
 nod:∀i,i<c.N.length->∃d,d<L.length/\NodD x L facts c i d (c.P.getD i []) (c.N.getD i ZdH)
 uniq:∀i j,i<c.N.length->j<c.N.length->(c.N.getD i ZdH).dim=(c.N.getD j ZdH).dim->c.P.getD i []=c.P.getD j []->i=j
 part:∀i,i<c.N.length->Zd3 facts (c.P.getD i [])
end
section
variable {x:Shp} {L:List (List (List Int))} {facts:List Fct}
theorem Zd3.ok {p:List Nat} (h:Zd3 facts p):Zbz facts p:=⟨h.1,by have:=h.2.length_le;simpa using this,fun i hi=>by have:=h.2.subset hi;simpa using this⟩
theorem Zd3.grs {p:List Nat} (h:Zd3 facts p) {key:Nat->Int} {n:Nat} {g:Int×List Nat} (hg:g∈grs key n p):Zd3 facts g.2:=by
 have h1:=Zfb hg
 unfold Go.Proofs.YtaapiigfmdhobaaGreat.grs at hg
 obtain⟨k,_,hk⟩:=zbA.1 hg
 split at hk
 ·cases hk
 ·injection hk with hk
  subst hk
  exact⟨h1.1,List.filter_sublist.trans h.2⟩
theorem Zd3.groups {p:List Nat} (h:Zd3 facts p) {d:Nat}:∀t∈ZaC x L facts d p,∀q∈t,Zd3 facts q.2:=fun t ht q hq=>by
 unfold ZaC at ht
 obtain⟨k,_,rfl⟩:=zat.1 ht
 exact h.grs hq
theorem ZjP {α:Type} {l m:List α} {i:Nat} {a:α} (h:i<l.length):(l++m).getD i a=l.getD i a:=by
 rw[zah,zaC h,<- zah]
theorem Zih {α:Type} {l:List α} {b a:α}:(l++[b]).getD l.length a=b:=by simp
theorem ZiH.mono {c c':DSt} {e:Int} {b b' d:Nat} {p:List Nat} {z:Cel} (h:ZiH L facts c b d p z) (hm:Zdd e c c') (hl:c.N.length=c.P.length) (hb:b<=b'):ZiH L facts c' b' d p z:=by
 obtain⟨N1,P1,h1,h2,h3,h4,_⟩:=hm
 unfold ZiH at *
 split
 ·rename_i hd;rw[if_pos hd]at h;exact h
 ·rename_i hd
  rw[if_neg hd]at h
  obtain⟨k1,j,k2,k3,k4,k5,k6⟩:=h
  refine⟨k1,j,k2,by omega,by rw[h1,zai];omega,?_,?_⟩
  ·rw[h1,ZjP k4];exact k5
  ·rw[h2,ZjP (by omega)];exact k6
theorem NodD.mono {c c':DSt} {e:Int} {b d:Nat} {p:List Nat} {n:Nod} (h:NodD x L facts c b d p n) (hm:Zdd e c c') (hl:c.N.length=c.P.length):NodD x L facts c' b d p n:=by
 obtain⟨h1,h2,h3,h4⟩:=h
 exact⟨h1,h2,h3.mono hm hl (zaf _),h4.imp fun a b h=>h.imp fun z g ⟨k1,k2⟩=>⟨k1,k2.mono hm hl (zaf _)⟩⟩
def CelS (x:Shp) (L:List (List (List Int))) (facts:List Fct) (d:Nat) (h:DSt->Int->List Nat->DSt×Cel):Prop :=
 ∀c k p,Zd3 facts p->ZdW x L facts c->ZdW x L facts (h c k p).1/\Zdd ((d:Int)+1) c (h c k p).1/\(h c k p).2.key=k/\ZiH L facts (h c k p).1 (h c k p).1.N.length d p (h c k p).2
def NodS (x:Shp) (L:List (List (List Int))) (facts:List Fct) (d:Nat) (f:DSt->List Nat->DSt×Int):Prop :=
 ∀c p,Zd3 facts p->ZdW x L facts c->ZdW x L facts (f c p).1/\Zdd d c (f c p).1/\∃j:Nat,(f c p).2=(j:Int)/\j<(f c p).1.N.length/\((f c p).1.N.getD j ZdH).dim=(d:Int)/\(f c p).1.P.getD j []=p
theorem Zmp {d:Nat} {h:DSt->Int->List Nat->DSt×Cel} (hh:CelS x L facts d h):∀(l:List (Int×List Nat)) (c:DSt),(∀q∈l,Zd3 facts q.2)->ZdW x L facts c->ZdW x L facts (cellsD h c l).1/\Zdd ((d:Int)+1) c (cellsD h c l).1 /\
  ZeK (fun(z:Cel) (g:Int×List Nat)=>z.key=g.1/\ZiH L facts (cellsD h c l).1 (cellsD h c l).1.N.length d g.2 z) (cellsD h c l).2 l
 | [],c,_,hc=>⟨hc,Zdd.refl _ _,.nil⟩
 | p :: ps,c,hp,hc=>by
  obtain⟨h1,h2,h3,h4⟩:=hh c p.1 p.2 (hp p zae) hc
  obtain⟨k1,k2,k3⟩:=Zmp hh ps _ (fun q hq=>hp q (zad _ hq)) h1
  exact⟨k1,h2.trans k2,.cons ⟨h3,h4.mono k2 h1.len k2.pre.length_le⟩ k3⟩
theorem Zmj {d:Nat} {h:DSt->Int->List Nat->DSt×Cel} (hh:CelS x L facts d h):∀(l:List (List (Int×List Nat))) (c:DSt),(∀t∈l,∀q∈t,Zd3 facts q.2)->ZdW x L facts c->ZdW x L facts (ZbW h c l).1/\Zdd ((d:Int)+1) c (ZbW h c l).1 /\
  ZeK (ZeK fun(z:Cel) (g:Int×List Nat)=>z.key=g.1/\ZiH L facts (ZbW h c l).1 (ZbW h c l).1.N.length d g.2 z) (ZbW h c l).2 l
 | [],c,_,hc=>⟨hc,Zdd.refl _ _,.nil⟩
 | p :: ps,c,hp,hc=>by
  obtain⟨h1,h2,h3⟩:=Zmp hh p c (hp p zae) hc
  obtain⟨k1,k2,k3⟩:=Zmj hh ps _ (fun q hq=>hp q (zad _ hq)) h1
  exact⟨k1,h2.trans k2,.cons (h3.imp fun z g ⟨m1,m2⟩=>⟨m1,m2.mono k2 h1.len k2.pre.length_le⟩) k3⟩
theorem cell_s {d:Nat} {f:DSt->List Nat->DSt×Int} (hf:d+1≠L.length->NodS x L facts (d+1) f):CelS x L facts d (Zc2 facts f (decide (d+1=L.length))):=by
 intro c k p hp hc
 by_cases hl:d+1=L.length
 ·have e:Zc2 facts f (decide (d+1=L.length)) c k p=(⟨c.N,c.P,c.over || (ZdJ facts ag0 p).isNone⟩,⟨k,0,(ZdJ facts ag0 p).getD ag0⟩):=by unfold Zc2;rw[decide_eq_true hl,if_pos rfl]
  rw[e]
  have hM:Zdd ((d:Int)+1) c ⟨c.N,c.P,c.over || (ZdJ facts ag0 p).isNone⟩:=⟨[],[],by simp,by simp,rfl,by simp,fun h=>by simp[h]⟩
  refine⟨⟨hc.len,fun i hi=>?_,hc.uniq,hc.part⟩,hM,rfl,?_⟩
  ·obtain⟨e,he,hn⟩:=hc.nod i hi
   exact⟨e,he,hn.mono hM hc.len⟩
  ·unfold ZiH
   rw[if_pos hl]
   exact⟨rfl,rfl⟩
 ·have e:Zc2 facts f (decide (d+1=L.length)) c k p=((f c p).1,⟨k,(f c p).2,ag0⟩):=by unfold Zc2;rw[decide_eq_false hl,if_neg (by simp)]
  rw[e]
  obtain⟨h1,h2,j,h3,h4,h5,h6⟩:=hf hl c p hp hc
  refine⟨h1,by simpa using h2,rfl,?_⟩
  unfold ZiH
  rw[if_neg hl]
  exact⟨rfl,j,h3,h4,h4,h5,h6⟩
theorem vis_s {d:Nat} {f:DSt->List Nat->DSt×Int} (hd:d<L.length) (hf:d+1≠L.length->NodS x L facts (d+1) f):NodS x L facts d (ZpU x L facts f d):=by
 intro c p hp hc
 have hcel:=cell_s (d:=d) (f:=f) hf
 obtain⟨t1,t2,t3⟩:=Zmj hcel (ZaC x L facts d p) c hp.groups hc
 obtain⟨a1,a2,a3,a4⟩:=hcel (ZbW (Zc2 facts f (decide (d+1=L.length))) c (ZaC x L facts d p)).1 0 p hp t1
 unfold ZpU
 generalize (ZbW (Zc2 facts f (decide (d+1=L.length))) c (ZaC x L facts d p))=U at *
 generalize (Zc2 facts f (decide (d+1=L.length)) U.1 0 p)=B at *
 cases hfn:Ze3 d p c.N c.P with
 | some i =>
  obtain⟨i1,i2,i3⟩:=Zly hfn
  exact⟨hc,Zdd.refl _ _,i,rfl,i1,i2,i3⟩
 | none =>
  have hM:Zdd d c B.1:=(t2.trans a2).weak (by omega)
  have hfB:Ze3 d p B.1.N B.1.P=none:=by rw[(t2.trans a2).fnd hc.len (by omega) p];exact hfn
  have hnew:∀i,i<B.1.N.length->¬((B.1.N.getD i ZdH).dim=(d:Int)/\B.1.P.getD i []=p):=fun i hi=>by
   unfold Ze3 at hfB
   rw[zcl]at hfB
   have:=hfB i (by simpa using hi)
   unfold ZgB at this
   simpa using this
  have hM2:Zdd d B.1 (Ze8 d p B U.2).1:=⟨[⟨d,U.2,B.2⟩],[p],rfl,rfl,rfl,by simp,id⟩
  have eN:(Ze8 d p B U.2).1.N=B.1.N++[⟨d,U.2,B.2⟩]:=rfl
  have eP:(Ze8 d p B U.2).1.P=B.1.P++[p]:=rfl
  have oN:∀i,i<B.1.N.length->(Ze8 d p B U.2).1.N.getD i ZdH=B.1.N.getD i ZdH:=fun i hi=>by rw[eN,ZjP hi]
  have oP:∀i,i<B.1.N.length->(Ze8 d p B U.2).1.P.getD i []=B.1.P.getD i []:=fun i hi=>by rw[eP,ZjP (by rw[<- a1.len];exact hi)]
  have nN:(Ze8 d p B U.2).1.N.getD B.1.N.length ZdH=⟨d,U.2,B.2⟩:=by rw[eN,Zih]
  have nP:(Ze8 d p B U.2).1.P.getD B.1.N.length []=p:=by rw[eP,a1.len,Zih]
  have hlen:(Ze8 d p B U.2).1.N.length=B.1.N.length+1:=by rw[eN,zai];rfl
  have hcase:∀i,i<(Ze8 d p B U.2).1.N.length->i<B.1.N.length\/i=B.1.N.length:=fun i hi=>by omega
  refine⟨⟨hM2.len a1.len,fun i hi=>?_,fun i j hi hj h1 h2=>?_,fun i hi=>?_⟩,hM.trans hM2,B.1.N.length,rfl,by show _<(Ze8 d p B U.2).1.N.length;omega,?_,?_⟩
  ·rcases hcase i hi with hi|rfl
   ·obtain⟨e,he,hn⟩:=a1.nod i hi
    show ∃d',_/\NodD x L facts (Ze8 d p B U.2).1 i d' ((Ze8 d p B U.2).1.P.getD i []) ((Ze8 d p B U.2).1.N.getD i ZdH)
    rw[oN i hi,oP i hi]
    exact⟨e,he,hn.mono hM2 a1.len⟩
   ·show ∃d',_/\NodD x L facts (Ze8 d p B U.2).1 B.1.N.length d' ((Ze8 d p B U.2).1.P.getD B.1.N.length []) ((Ze8 d p B U.2).1.N.getD B.1.N.length ZdH)
    rw[nN,nP]
    refine⟨d,hd,rfl,a3,a4.mono hM2 a1.len (zaf _),t3.imp fun l m h=>h.imp fun z g ⟨m1,m2⟩=>⟨m1,?_⟩⟩
    exact(m2.mono a2 t1.len a2.pre.length_le).mono hM2 a1.len (zaf _)
  ·have h1:((Ze8 d p B U.2).1.N.getD i ZdH).dim=((Ze8 d p B U.2).1.N.getD j ZdH).dim:=h1
   have h2:(Ze8 d p B U.2).1.P.getD i []=(Ze8 d p B U.2).1.P.getD j []:=h2
   rcases hcase i hi with hi|rfl
   ·rcases hcase j hj with hj|rfl
    ·rw[oN i hi,oN j hj]at h1
     rw[oP i hi,oP j hj]at h2
     exact a1.uniq i j hi hj h1 h2
    ·rw[oN i hi,nN]at h1
     rw[oP i hi,nP]at h2
     exact absurd ⟨h1,h2⟩ (hnew i hi)
   ·rcases hcase j hj with hj|rfl
    ·rw[oN j hj,nN]at h1
     rw[oP j hj,nP]at h2
     exact absurd ⟨h1.symm,h2.symm⟩ (hnew j hj)
    ·rfl
  ·show Zd3 facts ((Ze8 d p B U.2).1.P.getD i [])
   rcases hcase i hi with hi|rfl
   ·rw[oP i hi];exact a1.part i hi
   ·rw[nP];exact hp
  ·show((Ze8 d p B U.2).1.N.getD B.1.N.length ZdH).dim=_
   rw[nN]
  ·exact nP
theorem Zls:∀(n:Nat),n+1<=L.length->NodS x L facts (L.length - (n+1)) (Zhq x L facts (n+1))
 | 0,h=>vis_s (d:=L.length - 1) (f:=Zhq x L facts 0) (by have:1<=L.length:=h;omega) (fun h2=>absurd (show L.length - 1+1=L.length by have:1<=L.length:=h;omega) h2)
 | n+1,h=>vis_s (d:=L.length - (n+1+1)) (f:=Zhq x L facts (n+1)) (by omega) (fun _=>by
  have:=Zls n (by omega)
  rw[show L.length - (n+1+1)+1=L.length - (n+1) by omega]
  exact this)
theorem Zf8:ZdW x L facts ⟨[],[],false⟩:=⟨rfl,fun i hi=>absurd hi (zbO i),fun i j hi=>absurd hi (zbO i),fun i hi=>absurd hi (zbO i)⟩
theorem Zhu (h:facts≠[]):Zd3 facts (List.range facts.length):=⟨by simp;exact h,List.Sublist.refl _⟩
theorem ZjN {α:Type} [DecidableEq α]:∀{l m:List α},l.Nodup->(∀a∈l,a∈m)->l.length<=m.length
 | [],m,_,_=>zaD _
 | a :: l,m,h1,h2=>by
  obtain⟨k1,k2⟩:=zbg.1 h1
  have hm:=h2 a zae
  have:=ZjN (m:=m.erase a) k2 fun b hb=>(zb9 fun(e:b=a)=>k1 (by rw[<- e];exact hb)).2 (h2 b (zad _ hb))
  rw[zck hm]at this
  have:0<m.length:=zb0 hm
  simp only[List.length_cons]
  omega
structure WAg (k:Nat) (a:Ag):Prop where
 n0:0<=a.n
 n1:a.n<=(k:Int) * 1000000000
 s0 : -((k:Int) * 1000000000000)<=a.s0/\a.s0<=(k:Int) * 1000000000000
 s1 : -((k:Int) * 1000000000000)<=a.s1/\a.s1<=(k:Int) * 1000000000000
 s2 : -((k:Int) * 1000000000000)<=a.s2/\a.s2<=(k:Int) * 1000000000000
theorem WAg.more {k m:Nat} {a:Ag} (h:WAg k a) (hk:k<=m):WAg m a:=by
 obtain⟨h0,h1,h2,h3,h4⟩:=h
 exact⟨h0,by omega,by omega,by omega,by omega⟩
theorem Zkv {j k:Nat} {a b:Ag} (ha:WAg j a) (hb:WAg k b) (hjk:j+k<=2000):∃c,Zdl a b=some c/\WAg (j+k) c:=by
 obtain⟨a0,a1,a2,a3,a4⟩:=ha
 obtain⟨b0,b1,b2,b3,b4⟩:=hb
 have f:∀v:Int,-9223372036854775808<=v->v<=9223372036854775807->ZeW v=true:=fun v h1 h2=>decide_eq_true (by unfold In64;omega)
 unfold Zdl
 by_cases h1:a.n=0
 ·exact⟨b,if_pos h1,(WAg.mk b0 b1 b2 b3 b4).more (by omega)⟩
 rw[if_neg h1]
 by_cases h2:b.n=0
 ·exact⟨a,if_pos h2,(WAg.mk a0 a1 a2 a3 a4).more (by omega)⟩
 rw[if_neg h2,f _ (by omega) (by omega),f (a.s0+b.s0) (by omega) (by omega),f (a.s1+b.s1) (by omega) (by omega),f (a.s2+b.s2) (by omega) (by omega)]
 refine⟨_,rfl,?_⟩
 unfold Zem
 simp only[show(0:Nat)<3 from by decide,show(1:Nat)<3 from by decide,show(2:Nat)<3 from by decide,if_true]
 exact⟨by simp only;omega,by simp only;omega,by simp only;omega,by simp only;omega,by simp only;omega⟩
theorem wag0:WAg 0 ag0:=⟨by decide,by decide,by decide,by decide,by decide⟩
theorem ZfB {h:DSt->Int->List Nat->DSt×Cel} (hh:∀c k p,Zbz facts p->(h c k p).1.over=c.over):∀(l:List (Int×List Nat)) (c:DSt),(∀q∈l,Zbz facts q.2)->(cellsD h c l).1.over=c.over
 | [],_,_=>rfl
 | p :: ps,c,hp=>(ZfB hh ps _ fun q hq=>hp q (zad _ hq)).trans (hh c p.1 p.2 (hp p zae))
theorem Zf2 {h:DSt->Int->List Nat->DSt×Cel} (hh:∀c k p,Zbz facts p->(h c k p).1.over=c.over):∀(l:List (List (Int×List Nat))) (c:DSt),(∀t∈l,∀q∈t,Zbz facts q.2)->(ZbW h c l).1.over=c.over
 | [],_,_=>rfl
 | p :: ps,c,hp=>(Zf2 hh ps _ fun q hq=>hp q (zad _ hq)).trans (ZfB hh p c (hp p zae))
theorem Zit (hs:∀p,Zbz facts p->(ZdJ facts ag0 p).isNone=false):∀(n:Nat) (c:DSt) (p:List Nat),Zbz facts p->(Zhq x L facts n c p).1.over=c.over
 | 0,_,_,_=>rfl
 | n+1,c,p,hp=>by
  have hc:∀c k p,Zbz facts p->(Zc2 facts (Zhq x L facts n) (decide (L.length - (n+1)+1=L.length)) c k p).1.over=c.over:=fun c k p hp=>by
   cases (decide (L.length - (n+1)+1=L.length))with
   | true =>
    show(c.over || (ZdJ facts ag0 p).isNone)=c.over
    rw[hs p hp,Bool.or_false]
   | false=>exact Zit hs n c p hp
  show(ZpU x L facts (Zhq x L facts n) (L.length - (n+1)) c p).1.over=c.over
  unfold ZpU visM
  split
  ·rfl
  ·exact(hc _ 0 p hp).trans (Zf2 hc _ c (Zku hp))
end
theorem Zst {x:Shp} {L:List (List (List Int))} {facts:List Fct} {f:DSt->List Nat->DSt×Int} {d:Nat} {c:DSt} {p:List Nat} (h:Ze3 d p c.N c.P=none):(ZpU x L facts f d c p).2+1=((ZpU x L facts f d c p).1.N.length:Int):=by
 unfold ZpU visM
 rw[h]
 show(_:Int)+1=((_++[_]).length:Int)
 rw[zai,List.length_singleton]
 rfl
theorem ZmL {S:Sc} {facts:List Fct} (hs:scE S=0) (hne:facts≠[]):0<(Zcn S facts).N.length/\((Zcn S facts).N.getD ((Zcn S facts).N.length - 1) ZdH).dim=0/\(Zcn S facts).P.getD ((Zcn S facts).N.length - 1) []=List.range facts.length:=by
 have hLl:(Zan S).length=S.dims.length:=by unfold Zan;rw[zaj]
 have hs1:=(Zb7 hs).1
 have hp:=Zhu hne
 have h1:=Zls (x:=Za3 S) (L:=Zan S) (facts:=facts) ((Zan S).length - 1) (by omega) ⟨[],[],false⟩ _ hp Zf8
 have h2:=Zst (x:=Za3 S) (L:=Zan S) (facts:=facts) (f:=Zhq (Za3 S) (Zan S) facts ((Zan S).length - 1)) (d:=(Zan S).length - ((Zan S).length - 1+1)) (c:=⟨[],[],false⟩) (p:=List.range facts.length) rfl
 have h2:(Zhq (Za3 S) (Zan S) facts ((Zan S).length - 1+1) ⟨[],[],false⟩ (List.range facts.length)).2+1=_:=h2
 have h2:(Zhq (Za3 S) (Zan S) facts ((Zan S).length - 1+1) ⟨[],[],false⟩ (List.range facts.length)).2+1=((Zhq (Za3 S) (Zan S) facts ((Zan S).length - 1+1) ⟨[],[],false⟩ (List.range facts.length)).1.N.length:Int):=h2
 rw[show(Zan S).length - 1+1=(Zan S).length by omega]at h1 h2
 rw[Nat.sub_self]at h1
 obtain⟨_,_,j,e,h3,h4,h5⟩:=h1
 unfold Zcn
 rw[if_neg hne]
 have hj:j=(Zhq (Za3 S) (Zan S) facts (Zan S).length ⟨[],[],false⟩ (List.range facts.length)).1.N.length - 1:=by omega
 rw[<- hj]
 exact⟨by omega,h4,h5⟩
def Za9 (L:List (List (List Int))) (facts:List Fct):Nat->List (Int×Int)->Nat->Bool
 | _,[],_=>true
 | d,q :: w,i=>(decide (q.1<0) || (Zdm L facts d q.1.toNat i == q.2))&&Za9 L facts (d+1) w i
def Zek (n:Nod) (q:Int×Int):Option Cel :=
 if n.lists.length=0\/(n.lists.length:Int)<=q.1 then none else if q.1<0 then some n.all else (n.lists.getD q.1.toNat []).find? fun c=>c.key == q.2
def ZmK:Option Cel->Cel×Int
 | none=>(ZcE,10)
 | some c=>(c,0)
def ZcB (N:List Nod) (at' dim:Int) (q:Int×Int):Cel×Int :=
 if at'<0\/(N.length:Int)<=at' then (ZcE,9) else
 if (N.getD at'.toNat ZdH).dim≠dim\/((N.getD at'.toNat ZdH).lists.length:Int)<=q.1 then (ZcE,15) else ZmK (Zek (N.getD at'.toNat ZdH) q)
def ZfF (x:Shp) (L:List (List (List Int))) (d:Nat) (q:Int×Int):Prop:=(q.1<0/\q.2=0)\/∃t:Nat,q.1=(t:Int)/\t<(L.getD d []).length/\0<=q.2/\q.2<Zch x d t
section
variable {x:Shp} {L:List (List (List Int))} {facts:List Fct}
theorem ZhW {R:Cel->Int×List Nat->Prop} (hR:∀z g,R z g->z.key=g.1) (k:Int):∀{l:List Cel} {m:List (Int×List Nat)},ZeK R l m->(∃z g,(l.find? fun c=>c.key == k)=some z/\(m.find? fun g=>g.1 == k)=some g/\R z g)\/((l.find? fun c=>c.key == k)=none/\(m.find? fun g=>g.1 == k)=none)
 | _,_,.nil=>.inr ⟨rfl,rfl⟩
 | _,_,.cons (a:=a) (b:=b) h t=>by
  have hk:=hR _ _ h
  by_cases c:b.1=k
  ·refine .inl ⟨a,b,?_,?_,h⟩
   ·rw[List.find?_cons,show(a.key == k)=true by simp[hk,c]]
   ·rw[List.find?_cons,show(b.1 == k)=true by simp[c]]
  ·rw[List.find?_cons,List.find?_cons,show(a.key == k)=false by simp[hk,c],show(b.1 == k)=false by simp[c]]
   exact ZhW hR k t
theorem grs_of {key:Nat->Int} {n:Nat} {part:List Nat} {g:Int×List Nat} (hg:g∈grs key n part):g.2=part.filter fun i=>decide (key i=g.1):=by
 unfold grs at hg
 obtain⟨k,_,h⟩:=zbA.1 hg
 split at h
 ·cases h
 ·injection h with h;rw[<- h]
theorem grs_find {key:Nat->Int} {n:Nat} {part:List Nat} {k:Int} (h0:0<=k) (h1:k<n):(grs key n part).find? (fun g=>g.1 == k)=if part.filter (fun i=>decide (key i=k))=[] then none else some (k,part.filter fun i=>decide (key i=k)):=by
 cases hf:(grs key n part).find? (fun g=>g.1 == k)with
 | some g =>
  have hm:=List.mem_of_find?_eq_some hf
  have hk:=List.find?_some hf
  have hk:g.1=k:=by simpa using hk
  have h2:=grs_of hm
  have h3:=(Zfb hm).1
  rw[hk]at h2
  rw[if_neg (by rw[<- h2];exact h3),<- h2,<- hk]
 | none =>
  rw[zcl]at hf
  split
  ·rfl
  ·rename_i hne
   exfalso
   obtain⟨i,hi⟩:=zbz _ hne
   obtain⟨i1,i2⟩:=za7.1 hi
   have i2:key i=k:=by simpa using i2
   have:=Zfg (key:=key) (n:=n) i1 (by rw[i2];exact⟨h0,h1⟩)
   rw[i2]at this
   obtain⟨g,hg,he⟩:=zat.1 this
   exact hf g hg (by simpa using he)
theorem ZgZ {α β:Type} {R:α->β->Prop}:∀{l:List α} {m:List β},ZeK R l m->∀(i:Nat) (h:i<l.length) (h':i<m.length),R l[i] m[i]
 | _,_,.nil,i,h,_=>by simp at h
 | _,_,.cons h t,0,_,_=>h
 | _,_,.cons h t,i+1,h1,h2=>ZgZ t i (by simpa using h1) (by simpa using h2)
def ZeD (L:List (List (List Int))) (facts:List Fct) (d:Nat) (p:List Nat) (q:Int×Int):List Nat:=if q.1<0 then p else p.filter fun i=>decide (Zdm L facts d q.1.toNat i=q.2)
theorem ZjL {c:DSt} (hF:ZbI x L facts) (hc:ZdW x L facts c) {j d:Nat} (hj:j<c.N.length) (hd:(c.N.getD j ZdH).dim=(d:Int)) {q:Int×Int} (hq:ZfF x L d q) :
  (ZeD L facts d (c.P.getD j []) q=[]->ZcB c.N j d q=(ZcE,10))/\(ZeD L facts d (c.P.getD j []) q≠[]->(ZcB c.N j d q).2=0/\ZiH L facts c j d (ZeD L facts d (c.P.getD j []) q) (ZcB c.N j d q).1):=by
 obtain⟨e,he,hn⟩:=hc.nod j hj
 obtain⟨n1,n2,n3,n4⟩:=hn
 obtain rfl:e=d:=by rw[hd]at n1;omega
 have hpart:=hc.part j hj
 have hgl:(ZaC x L facts e (c.P.getD j [])).length=(L.getD e []).length:=by unfold ZaC;simp
 have hll:=n4.length
 have hL:(L.getD e [])=L[e]:=by rw[zah,zaa he];rfl
 obtain⟨t1,t2,t3⟩:=hF.tier e he
 have hgl2:(L.getD e []).length=L[e].length:=by rw[hL]
 have hgg:∀k (h:k<(ZaC x L facts e (c.P.getD j [])).length),(ZaC x L facts e (c.P.getD j []))[k]=grs (Zdm L facts e k) (Zch x e k) (c.P.getD j []):=fun k h=>by simp[ZaC]
 have h0:¬((j:Int)<0\/(c.N.length:Int)<=j):=by omega
 generalize hp:c.P.getD j []=p at *
 have hnz:((c.N.getD ((j:Int)).toNat ZdH))=c.N.getD j ZdH:=by rw[Int.toNat_natCast]
 rcases hq with⟨q1,q2⟩|⟨t,q1,q2,q3,q4⟩
 ·have hs:ZcB c.N j e q=((c.N.getD j ZdH).all,0):=by
   unfold ZcB Zek
   rw[if_neg h0,hnz,if_neg (by rw[hd];omega),if_neg (by omega),if_pos q1];rfl
  have hpq:ZeD L facts e p q=p:=by unfold ZeD;rw[if_pos q1]
  rw[hpq,hs]
  exact⟨fun h=>absurd h hpart.1,fun _=>⟨rfl,n3⟩⟩
 ·have htn:t<(c.N.getD j ZdH).lists.length:=by omega
  have hs:ZcB c.N j e q=ZmK (((c.N.getD j ZdH).lists[t]).find? fun c=>c.key == q.2):=by
   unfold ZcB Zek
   rw[if_neg h0,hnz,if_neg (by rw[hd];omega),if_neg (by omega),if_neg (by omega),q1,Int.toNat_natCast,zah,zaa htn];rfl
  have hpq:ZeD L facts e p q=p.filter fun i=>decide (Zdm L facts e t i=q.2):=by unfold ZeD;rw[if_neg (by omega),q1,Int.toNat_natCast]
  have h4:=ZgZ n4 t htn (by omega)
  rw[hgg t (by omega)]at h4
  have hgf:=grs_find (key:=Zdm L facts e t) (n:=Zch x e t) (part:=p) q3 q4
  rw[hpq,hs]
  rcases ZhW (fun z g h=>h.1) q.2 h4 with⟨z,g,e1,e2,hr⟩|⟨e1,e2⟩
  ·rw[e1]
   rw[e2]at hgf
   split at hgf
   ·cases hgf
   ·rename_i hne
    injection hgf with hgf
    rw[hgf]at hr
    exact⟨fun h=>absurd h hne,fun _=>⟨rfl,hr.2⟩⟩
  ·rw[e1]
   rw[e2]at hgf
   split at hgf
   ·rename_i hem;exact⟨fun _=>rfl,fun h=>absurd hem h⟩
   ·cases hgf
end
theorem ZkF {N:List Nod} {i:Int} (h:0<=i):Zdw N i=N.getD i.toNat ZdH:=by
 unfold Zdw ZdH
 rw[if_pos h,zah];rfl
@[simp] theorem matchP_nil {L:List (List (List Int))} {facts:List Fct} {d i:Nat}:Za9 L facts d [] i=true:=rfl
theorem ZgG {L:List (List (List Int))} {facts:List Fct} (i:Nat) (q:Int×Int):∀(w:List (Int×Int)) (d:Nat),Za9 L facts d (w++[q]) i=(Za9 L facts d w i&&(decide (q.1<0) || (Zdm L facts (d+w.length) q.1.toNat i == q.2)))
 | [],d=>by simp[Za9]
 | p :: w,d=>by
  have ih:=ZgG (L:=L) (facts:=facts) i q w (d+1)
  show(_&&Za9 L facts (d+1) (w++[q]) i)=_
  rw[ih,Za9,Bool.and_assoc,List.length_cons,show d+(w.length+1)=d+1+w.length by omega]
def ZlW (l:List Fct):Prop:=l.length<=1000/\∀f∈l,f.2.n<=1000000000/\(-1000000000000<=f.2.s0/\f.2.s0<=1000000000000)/\(-1000000000000<=f.2.s1/\f.2.s1<=1000000000000)/\(-1000000000000<=f.2.s2/\f.2.s2<=1000000000000)
theorem ZlW.wag {l:List Fct} (h:ZlW l) {m:Int} (hm:∀f∈l,Zbw m f.2=true):∀f∈l,WAg 1 f.2:=fun f hf=>by
 obtain⟨h1,h2,h3,h4⟩:=h.2 f hf
 have:=hm f hf
 unfold Zbw at this
 simp only[zax,decide_eq_true_eq]at this
 obtain⟨⟨⟨⟨⟨_,_⟩,a3⟩,_⟩,_⟩,_⟩:=this
 exact⟨by omega,by omega,by omega,by omega,by omega⟩
def WideQ (l:List Fct) (H:Zaa) (r:AV) (H':Zaa):Prop:=HX [] H H'/\∃b,r=.b b/\(b=true->ZlW l)
def prtS (a:Ag):Nat->Int
 | 0=>a.s0
 | 1=>a.s1
 | _=>a.s2
set_option maxHeartbeats 4000000 in
theorem Zkx (t:Tok) (l:List Fct) (H:Zaa) (hl:l.length<=1000000):Zay Tryz.prog 20 [.sl t (rF l)] H (WideQ l H):=by
 refine Zak hE cf20 (zab rfl) fun Q qr qn=>?_
 refine Bz2 ?_
 refine Zbs [0,6,7] (σ:=Unit) (fun(k:Nat) s=>∀j (h:j<l.length),j<k->l[j].2.n<=1000000000/\∀m,m<3 -> -1000000000000<=prtS l[j].2 m/\prtS l[j].2 m<=1000000000000) (fun k s=>[]) (fun k s=>[]) () (GStep.refl _ _) (by simp only[ZaA,Zav,Fr.put,Fr.get,↓reduceIte,Nat.reduceEqDiff];rfl) (by intro k s;rfl) (by intro k s;rfl) (by rfl) (by unfold maxLen;omega) ?_ (by simp only[ZaF]) (by simp only[ZaJ]) ?_ ?_
 ·exact fun j _ h=>absurd h (zbO j)
 ·(rintro k s G hk hno hG hn;try simp only[nx]at hn)
  have h0:(0:Int)<=(k:Int):=by omega
  have hrf:=ZjV hk
  obtain⟨j0,j1,j2,j3⟩:=Zbu l[k]
  have en:(ZcI l[k])[1]?=some (.i l[k].2.n):=rfl
  have es:∀m,m<3->(ZcI l[k])[2+m * 3]?=some (.i (prtS l[k].2 m)):=fun m hm=>by
   obtain rfl|rfl|rfl:m=0\/m=1\/m=2:=by omega
   ·rfl
   ·rfl
   ·rfl
  have hnk:∀P:Prop,(l[k].2.n<=1000000000/\∀m,m<3 -> -1000000000000<=prtS l[k].2 m/\prtS l[k].2 m<=1000000000000)->(∀j (h:j<l.length),j<k+1->l[j].2.n<=1000000000/\∀m,m<3 -> -1000000000000<=prtS l[j].2 m/\prtS l[j].2 m<=1000000000000):=fun _ hq j hj hjk=>by
   rcases Nat.lt_or_eq_of_le (Nat.lt_succ_iff.1 hjk)with h|rfl
   ·exact hno j hj h
   ·exact hq
  generalize l[k]=f at *
  have hG1:HX [] H (G.alloc (.cells (ZcI f) 88)):=hG.alloc
  by_cases c1:f.2.n > 1000000000
  ·have d1:decide (f.2.n > 1000000000)=true:=decide_eq_true c1
   have hZ:=an7 hrf<|an7 h0<|an7 hk<|an7 j0<|an7 j3<|an7 en<|d1;refine Bz1 ?_
   exact Zaq ⟨hG1,false,rfl,fun h=>by cases h⟩
  ·have d1:decide (f.2.n > 1000000000)=false:=decide_eq_false c1
   have hZ:=an7 hrf<|an7 h0<|an7 hk<|an7 j0<|an7 j3<|an7 en<|d1;refine Bz1 ?_
   have g4:(G.alloc (.cells (ZcI f) 88)).get G.next=some (.cells (ZcI f) 88):=Zaa.Zae
   have l4:=Zaa.lt g4
   generalize G.alloc (.cells (ZcI f) 88)=G1 at *
   generalize G.next=i4 at *
   refine Zbs (N:=3) [0,4,6,7,8] (σ:=Unit) (fun(k:Nat) s=>∀m,m<k -> -1000000000000<=prtS f.2 m/\prtS f.2 m<=1000000000000) (fun k s=>[]) (fun k s=>[]) () (GStep.refl _ _) (by simp only[ZaA,Zav,Fr.put,Fr.get,↓reduceIte,Nat.reduceEqDiff];rfl) (by intro k s;rfl) (by intro k s;rfl) (by rfl) (by unfold maxLen;omega) ?_ (by simp only[ZaF]) (by simp only[ZaJ]) ?_ ?_
   ·exact fun m h=>absurd h (zbO m)
   ·(rintro m s2 G2 hm hno2 hG2 hn2;try simp only[nx]at hn2)
    have g4:=(hG2.g _ l4 (by simp)).trans g4
    have hes:=es m hm
    have hm0:(0:Int)<=(m:Int):=by omega
    have hm3:(m:Int)<((3:Nat):Int):=by omega
    have hm3b:(m:Int)<3:=hm3
    generalize hv:prtS f.2 m=v at *
    by_cases c2:v > 1000000000000
    ·have d2:decide (v > 1000000000000)=true:=decide_eq_true c2
     have hZ:=an7 g4<|an7 j0<|an7 j3<|an7 hes<|an7 d2<|an7 hm0<|an7 hm3<|an7 hm3b<|hm;refine Bz1 ?_
     exact Zaq ⟨hG1.ZeP hG2,false,rfl,fun h=>by cases h⟩
    ·have d2:decide (v > 1000000000000)=false:=decide_eq_false c2
     by_cases c3:v < -1000000000000
     ·have d3:decide (v < -1000000000000)=true:=decide_eq_true c3
      have hZ:=an7 g4<|an7 j0<|an7 j3<|an7 hes<|an7 d2<|an7 d3<|an7 hm0<|an7 hm3<|an7 hm3b<|hm;refine Bz1 ?_
      exact Zaq ⟨hG1.ZeP hG2,false,rfl,fun h=>by cases h⟩
     ·have d3:decide (v < -1000000000000)=false:=decide_eq_false c3
      have hZ:=an7 g4<|an7 j0<|an7 j3<|an7 hes<|an7 d2<|an7 d3<|an7 hm0<|an7 hm3<|an7 hm3b<|hm;refine Bz1 ?_
      exact⟨(),fun q hq=>by
       rcases Nat.lt_or_eq_of_le (Nat.lt_succ_iff.1 hq)with h|rfl
       ·exact hno2 q h
       ·rw[hv];omega,hG2⟩
   ·(rintro s2 G2 hno2 hG2 hn2;try simp only[nx]at hn2)
    refine Bz0 ?_
    exact⟨(),hnk True ⟨by omega,hno2⟩,hG1.ZeP hG2⟩
 ·(rintro s G hno hG hn;try simp only[nx]at hn)
  by_cases c1:l.length<=1000
  ·have d1:decide ((l.length:Int)<=1000)=true:=decide_eq_true (by omega)
   have hZ:=d1;refine Bz3 ?_
   refine Zap.use (Zfs t l 1000 _ (by omega)) ?_
   rintro r H2 ⟨hx2,b,rfl,hfl⟩
   refine Bz0 ?_
   exact Zaq ⟨hG.ZeP hx2,b,rfl,fun _=>⟨c1,fun f hf=>by
    obtain⟨j,hj,rfl⟩:=zay hf
    obtain⟨q1,q2⟩:=hno j hj hj
    exact⟨q1,q2 0 (by decide),q2 1 (by decide),q2 2 (by decide)⟩⟩⟩
  ·have d1:decide ((l.length:Int)<=1000)=false:=decide_eq_false (by omega)
   have hZ:=d1;refine Bz3 ?_
   exact Zaq ⟨hG,false,rfl,fun h=>by cases h⟩
end Go.Proofs.YtaapiigfmdhobaaGreat
