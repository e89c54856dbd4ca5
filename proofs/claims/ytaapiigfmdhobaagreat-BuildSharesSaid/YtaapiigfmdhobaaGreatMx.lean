/- Texts of the walk, joined: Dq. -/
import Derived.Test.YtaapiigfmdhobaaGreatMw
import Derived.Test.YtaapiigfmdhobaaGreatMt
namespace Go.Proofs.YtaapiigfmdhobaaGreat
set_option linter.unusedSimpArgs false
set_option linter.unusedVariables false
open Go.RowKit
def twoD (c:UInt8):Dm:=⟨[c],[⟨[116],[[97],[98]],[]⟩]⟩
def twoS:Sc:=⟨[twoD 120,twoD 121],[[109]]⟩
set_option maxHeartbeats 1000000 in
theorem ZeR (c:UInt8) (hc:c=120∨c=121) (H:Zaa):Zay Tryz.prog 87 [eS [c]] H (Pure H (.agg (eDm (twoD c)))):=by
 rcases hc with rfl|rfl
 ·refine Zak hE cf87 (Nat.le_of_ble_eq_true rfl) fun Q hQr hQn=>?_
  ((have hd:=trivial;repeat' (first|((first|apply Zad|apply Zac|apply Zab)<;>intro hd<;>(try simp only[hd]))|simp(disch:=first|assumption|omega|(simp only[nx]<;>omega)|fail)only [hd,hQr,hQn,c87_0,↓YA,YB,YC,YE,YF,YZ,sevalprocAttr]))<;>(try (have hd_:True:=hd;clear hd_ hd)))
  exact Zc1 (Zea (n:=10) rfl) (by exact AXT)
 ·refine Zak hE cf87 (Nat.le_of_ble_eq_true rfl) fun Q hQr hQn=>?_
  ((have hd:=trivial;repeat' (first|((first|apply Zad|apply Zac|apply Zab)<;>intro hd<;>(try simp only[hd]))|simp(disch:=first|assumption|omega|(simp only[nx]<;>omega)|fail)only [hd,hQr,hQn,c87_0,↓YA,YB,YC,YE,YF,YZ,sevalprocAttr]))<;>(try (have hd_:True:=hd;clear hd_ hd)))
  exact Zc1 (Zea (n:=10) rfl) (by exact AXT)
set_option maxHeartbeats 1000000 in
theorem ZiR (H:Zaa):Zay Tryz.prog 47 [] H (Pure H (.agg (eSc twoS))):=by
 obtain⟨f0,f1,f2,f3⟩:=Za7 (twoD 120)
 obtain⟨g0,g1,g2,g3⟩:=Za7 (twoD 121)
 refine Zak hE cf47 (Nat.le_of_ble_eq_true rfl) fun Q hQr hQn=>?_
 ((have hd:=trivial;repeat' (first|((first|apply Zad|apply Zac|apply Zab)<;>intro hd<;>(try simp only[hd]))|simp(disch:=first|assumption|omega|(simp only[nx]<;>omega)|fail)only [hd,hQr,hQn,c47_0,↓YA,YB,YC,YE,YF,YZ,sevalprocAttr]))<;>(try (have hd_:True:=hd;clear hd_ hd)))
 refine Zap.use (ZeR 120 (.inl rfl) _) ?_
 rintro _ _ ⟨rfl,k1,rfl⟩
 ((have hd:=trivial;repeat' (first|((first|apply Zad|apply Zac|apply Zab)<;>intro hd<;>(try simp only[hd]))|simp(disch:=first|assumption|omega|(simp only[nx]<;>omega)|fail)only [hd,hQr,hQn,c47_0,↓YA,YB,YC,YE,YF,YZ,sevalprocAttr]))<;>(try (have hd_:True:=hd;clear hd_ hd)))
 refine Zap.use (ZeR 121 (.inr rfl) _) ?_
 rintro _ _ ⟨rfl,k2,rfl⟩
 ((have hd:=trivial;repeat' (first|((first|apply Zad|apply Zac|apply Zab)<;>intro hd<;>(try simp only[hd]))|simp(disch:=first|assumption|omega|(simp only[nx]<;>omega)|fail)only [hd,hQr,hQn,c47_0,↓YA,YB,YC,YE,YF,YZ,sevalprocAttr,f0,g0,f3,g3]))<;>(try (have hd_:True:=hd;clear hd_ hd)))
 exact Zc1 (Zea (n:=10) rfl) (by exact AXT)
def twoF:List Fct:=[([1,0],⟨1,0,0,0,0,0,0,0,0,0⟩)]
theorem two_ok:Zet twoS 9 twoF=0:=by decide
theorem ZlP:Ze6 twoS 9 twoF=[⟨1,[[⟨0,0,⟨1,0,0,0,0,0,0,0,0,0⟩⟩]],⟨0,0,⟨1,0,0,0,0,0,0,0,0,0⟩⟩⟩,⟨0,[[⟨1,0,ag0⟩]],⟨0,0,ag0⟩⟩]:=by rfl
theorem ZmC:Zh1 twoS:=fun d hd t ht=>by
 have h1:d=twoD 120∨d=twoD 121:=by simpa [twoS] using hd
 have h2:∀c,∀t∈(twoD c).tiers,Zgr t:=fun c t ht=>by
  have:t=⟨[116],[[97],[98]],[]⟩:=by simpa [twoD] using ht
  subst this;unfold Zgr;decide
 rcases h1 with rfl|rfl
 ·exact h2 _ t ht
 ·exact h2 _ t ht
set_option maxHeartbeats 2000000 in
theorem Zb0 (H:Zaa):Zay Tryz.prog 11 [] H (PureE H (.b true)):=by
 have hB:∀G,Zay Tryz.prog 12 [.agg (eSc twoS),.i 9,.sl .no (rF twoF)] G (ZdZ twoS 9 twoF G):=fun G=>ZfY .no twoS 9 twoF G ZmC (by decide) (fun h1 h2 h3 _=>ZdS h1 h2 h3 (by
  intro f hf
  have:f=([1,0],⟨1,0,0,0,0,0,0,0,0,0⟩):=by simpa [twoF] using hf
  subst this
  exact⟨by decide,by decide,by decide,by decide⟩))
 unfold ZdZ at hB
 rw[two_ok,ZlP]at hB
 refine Zak hE cf11 (Nat.le_of_ble_eq_true rfl) fun Q hQr hQn=>?_
 ((have hd:=trivial;repeat' (first|((first|apply Zad|apply Zac|apply Zab)<;>intro hd<;>(try simp only[hd]))|simp(disch:=first|assumption|omega|(simp only[nx]<;>omega)|fail)only [hd,hQr,hQn,ZlE,↓YA,YB,YC,YE,YF,YZ,sevalprocAttr]))<;>(try (have hd_:True:=hd;clear hd_ hd)))
 (refine Zap.use (ZiR _) ?_;rintro _ _ ⟨rfl,k1,rfl⟩)
 ((have hd:=trivial;repeat' (first|((first|apply Zad|apply Zac|apply Zab)<;>intro hd<;>(try simp only[hd]))|simp(disch:=first|assumption|omega|(simp only[nx]<;>omega)|fail)only [hd,hQr,hQn,ZlE,↓YA,YB,YC,YE,YF,YZ,sevalprocAttr]))<;>(try (have hd_:True:=hd;clear hd_ hd)))
 refine Zap.use (Zay.wknA (hB _) rfl fun i a b ha hb=>?_) ?_
 ·match i with
  | 0=>simp only[List.getElem?_cons_zero,Option.some.injEq]at ha hb;subst ha hb;exact .refl _
  | 1=>simp only[List.getElem?_cons_zero,List.getElem?_cons_succ,Option.some.injEq]at ha hb;subst ha hb;exact .refl _
  | 2=>simp only[List.getElem?_cons_zero,List.getElem?_cons_succ,Option.some.injEq]at ha hb;subst ha hb;exact Zea (n:=10) rfl
  | i+3=>simp at ha
 rintro r G1 ⟨hx1,hr⟩
 rcases hr with⟨h1,rfl⟩|⟨_,id,rfl,h2⟩
 ·exact absurd rfl h1
 have hx1:Zaa.Ext H G1:=((Zaa.Ext.refl H).bump).trans hx1
 have hO:=ZhQ h2 (show 1≤(Za3 twoS).sizes.length by decide)
 ((have hd:=trivial;repeat' (first|((first|apply Zad|apply Zac|apply Zab)<;>intro hd<;>(try simp only[hd]))|simp(disch:=first|assumption|omega|(simp only[nx]<;>omega)|fail)only [hd,hQr,hQn,ZlE,↓YA,YB,YC,YE,YF,YZ,sevalprocAttr]))<;>(try (have hd_:True:=hd;clear hd_ hd)))
 refine Zap.use hO ?_
 rintro _ G2 ⟨rfl,hx2⟩
 have hx2:=hx1.trans hx2
 ((have hd:=trivial;repeat' (first|((first|apply Zad|apply Zac|apply Zab)<;>intro hd<;>(try simp only[hd]))|simp(disch:=first|assumption|omega|(simp only[nx]<;>omega)|fail)only [hd,hQr,hQn,ZlE,↓YA,YB,YC,YE,YF,YZ,sevalprocAttr,List.length_cons,List.length_nil]))<;>(try (have hd_:True:=hd;clear hd_ hd)))
 exact Zaq ⟨rfl,by exact AXT⟩
def LightQ (S:Sc) (l:List Fct) (H:Zaa) (r:AV) (H':Zaa):Prop:=HX [] H H'∧∃b,r=.b b∧(b=true→FewS S∧S.dims.length≤5∧l.length≤12)
set_option maxHeartbeats 1000000 in
theorem Zi6 (t:Tok) (S:Sc) (l:List Fct) (H:Zaa):Zay Tryz.prog 10 [.agg (eSc S),.sl t (rF l)] H (LightQ S l H):=by
 obtain⟨f0,f1,f2,f3⟩:=ZbB S
 have hx0:HX [] H (H.alloc (.cells (eSc S) 25)):=(HX.refl H).alloc
 have g1:(H.alloc (.cells (eSc S) 25)).get H.next=some (.cells (eSc S) 25):=Zaa.Zae
 refine Zak hE cf10 (Nat.le_of_ble_eq_true rfl) fun Q hQr hQn=>?_
 ((have hd:=trivial;repeat' (first|((first|apply Zad|apply Zac|apply Zab)<;>intro hd<;>(try simp only[hd]))|simp(disch:=first|assumption|omega|(simp only[nx]<;>omega)|fail)only [hd,hQr,hQn,ZkB,↓YA,YB,YC,YE,YF,YZ,sevalprocAttr,f0,f3]))<;>(try (have hd_:True:=hd;clear hd_ hd)))
 refine Zap.use (ZiT S _) ?_
 rintro r H1 ⟨hx1,b,rfl,hb⟩
 have g1:=hx1.ext.get _ _ g1
 have l1:=Zaa.lt g1
 cases b with
 | false =>
  ((have hd:=trivial;repeat' (first|((first|apply Zad|apply Zac|apply Zab)<;>intro hd<;>(try simp only[hd]))|simp(disch:=first|assumption|omega|(simp only[nx]<;>omega)|fail)only [hd,hQr,hQn,ZkB,↓YA,YB,YC,YE,YF,YZ,sevalprocAttr]))<;>(try (have hd_:True:=hd;clear hd_ hd)))
  exact Zaq ⟨hx0.ZeP hx1,false,rfl,fun h=>by cases h⟩
 | true =>
 have hb:=hb rfl
 by_cases c1:S.dims.length≤5
 ·have d1:decide ((S.dims.length:Int)≤5)=true:=by simp;omega
  ((have hd:=trivial;repeat' (first|((first|apply Zad|apply Zac|apply Zab)<;>intro hd<;>(try simp only[hd]))|simp(disch:=first|assumption|omega|(simp only[nx]<;>omega)|fail)only [hd,hQr,hQn,ZkB,↓YA,YB,YC,YE,YF,YZ,sevalprocAttr,g1,f1,d1,List.length_map]))<;>(try (have hd_:True:=hd;clear hd_ hd)))
  refine Zap.use (Zfs t l 12 _ (by omega)) ?_
  rintro r H2 ⟨hx2,b,rfl,hfl⟩
  ((have hd:=trivial;repeat' (first|((first|apply Zad|apply Zac|apply Zab)<;>intro hd<;>(try simp only[hd]))|simp(disch:=first|assumption|omega|(simp only[nx]<;>omega)|fail)only [hd,hQr,hQn,ZkB,↓YA,YB,YC,YE,YF,YZ,sevalprocAttr]))<;>(try (have hd_:True:=hd;clear hd_ hd)))
  exact Zaq ⟨(hx0.ZeP hx1).ZeP hx2,b,rfl,fun h=>⟨hb,c1,hfl h⟩⟩
 ·have d1:decide ((S.dims.length:Int)≤5)=false:=by simp;omega
  ((have hd:=trivial;repeat' (first|((first|apply Zad|apply Zac|apply Zab)<;>intro hd<;>(try simp only[hd]))|simp(disch:=first|assumption|omega|(simp only[nx]<;>omega)|fail)only [hd,hQr,hQn,ZkB,↓YA,YB,YC,YE,YF,YZ,sevalprocAttr,g1,f1,d1,List.length_map]))<;>(try (have hd_:True:=hd;clear hd_ hd)))
  exact Zaq ⟨hx0.ZeP hx1,false,rfl,fun h=>by cases h⟩
end Go.Proofs.YtaapiigfmdhobaaGreat
