/- Texts of the walk, joined: Dq. -/
import Derived.Test.YtaapiigfmdhobaaGreatMw
import Derived.Test.YtaapiigfmdhobaaGreatMt
namespace Go.Proofs.YtaapiigfmdhobaaGreat
set_option linter.unusedSimpArgs false
set_option linter.unusedVariables false
open Go.RowKit
def twoD (c:UInt8):Dm:=⟨[c],[⟨[116],[[97],[98]],[]⟩]⟩
def twoS:Sc:=⟨[twoD 120,twoD 121],[[109]]⟩
set_option maxHeartbeats 1000000 in
theorem two26d_sound (c:UInt8) (hc:c=120∨c=121) (H:AHeap):Sound Tryz.prog 87 [eS [c]] H (Pure H (.agg (eDm (twoD c)))):=by
 rcases hc with rfl|rfl
 ·refine fn_soundQ hE cf87 (Nat.le_of_ble_eq_true rfl) fun Q hQr hQn=>?_
  ((have hd:=trivial;repeat' (first|((first|apply GdK_st|apply GdK_sf|apply CondK_s)<;>intro hd<;>(try simp only [hd]))|simp (disch:=first|assumption|omega|(simp only [nx]<;>omega)|fail) only [hd,hQr,hQn,c87_0,↓YA,YB,YC,YE,YF,YZ,sevalprocAttr]))<;>(try (have hd_:True:=hd;clear hd_ hd)))
  exact fin_wkn (wknB_ok (n:=10) rfl) (by exact AXT)
 ·refine fn_soundQ hE cf87 (Nat.le_of_ble_eq_true rfl) fun Q hQr hQn=>?_
  ((have hd:=trivial;repeat' (first|((first|apply GdK_st|apply GdK_sf|apply CondK_s)<;>intro hd<;>(try simp only [hd]))|simp (disch:=first|assumption|omega|(simp only [nx]<;>omega)|fail) only [hd,hQr,hQn,c87_0,↓YA,YB,YC,YE,YF,YZ,sevalprocAttr]))<;>(try (have hd_:True:=hd;clear hd_ hd)))
  exact fin_wkn (wknB_ok (n:=10) rfl) (by exact AXT)
set_option maxHeartbeats 1000000 in
theorem two26_sound (H:AHeap):Sound Tryz.prog 47 [] H (Pure H (.agg (eSc twoS))):=by
 obtain ⟨f0,f1,f2,f3⟩:=eDm_facts (twoD 120)
 obtain ⟨g0,g1,g2,g3⟩:=eDm_facts (twoD 121)
 refine fn_soundQ hE cf47 (Nat.le_of_ble_eq_true rfl) fun Q hQr hQn=>?_
 ((have hd:=trivial;repeat' (first|((first|apply GdK_st|apply GdK_sf|apply CondK_s)<;>intro hd<;>(try simp only [hd]))|simp (disch:=first|assumption|omega|(simp only [nx]<;>omega)|fail) only [hd,hQr,hQn,c47_0,↓YA,YB,YC,YE,YF,YZ,sevalprocAttr]))<;>(try (have hd_:True:=hd;clear hd_ hd)))
 refine CallK.use (two26d_sound 120 (.inl rfl) _) ?_
 rintro _ _ ⟨rfl,k1,rfl⟩
 ((have hd:=trivial;repeat' (first|((first|apply GdK_st|apply GdK_sf|apply CondK_s)<;>intro hd<;>(try simp only [hd]))|simp (disch:=first|assumption|omega|(simp only [nx]<;>omega)|fail) only [hd,hQr,hQn,c47_0,↓YA,YB,YC,YE,YF,YZ,sevalprocAttr]))<;>(try (have hd_:True:=hd;clear hd_ hd)))
 refine CallK.use (two26d_sound 121 (.inr rfl) _) ?_
 rintro _ _ ⟨rfl,k2,rfl⟩
 ((have hd:=trivial;repeat' (first|((first|apply GdK_st|apply GdK_sf|apply CondK_s)<;>intro hd<;>(try simp only [hd]))|simp (disch:=first|assumption|omega|(simp only [nx]<;>omega)|fail) only [hd,hQr,hQn,c47_0,↓YA,YB,YC,YE,YF,YZ,sevalprocAttr,f0,g0,f3,g3]))<;>(try (have hd_:True:=hd;clear hd_ hd)))
 exact fin_wkn (wknB_ok (n:=10) rfl) (by exact AXT)
def twoF:List Fct:=[([1,0],⟨1,0,0,0,0,0,0,0,0,0⟩)]
theorem two_ok:bldE twoS 9 twoF=0:=by decide
theorem two_nodes:bldL twoS 9 twoF=[⟨1,[[⟨0,0,⟨1,0,0,0,0,0,0,0,0,0⟩⟩]],⟨0,0,⟨1,0,0,0,0,0,0,0,0,0⟩⟩⟩,⟨0,[[⟨1,0,ag0⟩]],⟨0,0,ag0⟩⟩]:=by rfl
theorem two_small:smallS twoS:=fun d hd t ht=>by
 have h1:d=twoD 120∨d=twoD 121:=by simpa [twoS] using hd
 have h2:∀ c,∀ t ∈ (twoD c).tiers,smallT t:=fun c t ht=>by
  have:t=⟨[116],[[97],[98]],[]⟩:=by simpa [twoD] using ht
  subst this;unfold smallT;decide
 rcases h1 with rfl|rfl
 ·exact h2 _ t ht
 ·exact h2 _ t ht
set_option maxHeartbeats 2000000 in
theorem awake26_sound (H:AHeap):Sound Tryz.prog 11 [] H (PureE H (.b true)):=by
 have hB:∀ G,Sound Tryz.prog 12 [.agg (eSc twoS),.i 9,.sl .no (rF twoF)] G (BuildQ twoS 9 twoF G):=fun G=>build_sound .no twoS 9 twoF G two_small (by decide) (fun h1 h2 h3 _=>facts_ok h1 h2 h3 (by
  intro f hf
  have:f=([1,0],⟨1,0,0,0,0,0,0,0,0,0⟩):=by simpa [twoF] using hf
  subst this
  exact ⟨by decide,by decide,by decide,by decide⟩))
 unfold BuildQ at hB
 rw [two_ok,two_nodes] at hB
 refine fn_soundQ hE cf11 (Nat.le_of_ble_eq_true rfl) fun Q hQr hQn=>?_
 ((have hd:=trivial;repeat' (first|((first|apply GdK_st|apply GdK_sf|apply CondK_s)<;>intro hd<;>(try simp only [hd]))|simp (disch:=first|assumption|omega|(simp only [nx]<;>omega)|fail) only [hd,hQr,hQn,c11_0,↓YA,YB,YC,YE,YF,YZ,sevalprocAttr]))<;>(try (have hd_:True:=hd;clear hd_ hd)))
 (refine CallK.use (two26_sound _) ?_;rintro _ _ ⟨rfl,k1,rfl⟩)
 ((have hd:=trivial;repeat' (first|((first|apply GdK_st|apply GdK_sf|apply CondK_s)<;>intro hd<;>(try simp only [hd]))|simp (disch:=first|assumption|omega|(simp only [nx]<;>omega)|fail) only [hd,hQr,hQn,c11_0,↓YA,YB,YC,YE,YF,YZ,sevalprocAttr]))<;>(try (have hd_:True:=hd;clear hd_ hd)))
 refine CallK.use (Sound.wknA (hB _) rfl fun i a b ha hb=>?_) ?_
 ·match i with
  | 0=>simp only [List.getElem?_cons_zero,Option.some.injEq] at ha hb;subst ha hb;exact .refl _
  | 1=>simp only [List.getElem?_cons_zero,List.getElem?_cons_succ,Option.some.injEq] at ha hb;subst ha hb;exact .refl _
  | 2=>simp only [List.getElem?_cons_zero,List.getElem?_cons_succ,Option.some.injEq] at ha hb;subst ha hb;exact wknB_ok (n:=10) rfl
  | i+3=>simp at ha
 rintro r G1 ⟨hx1,hr⟩
 rcases hr with ⟨h1,rfl⟩|⟨_,id,rfl,h2⟩
 ·exact absurd rfl h1
 have hx1:AHeap.Ext H G1:=((AHeap.Ext.refl H).bump).trans hx1
 have hO:=len_sound h2 (show 1≤(shpS twoS).sizes.length by decide)
 ((have hd:=trivial;repeat' (first|((first|apply GdK_st|apply GdK_sf|apply CondK_s)<;>intro hd<;>(try simp only [hd]))|simp (disch:=first|assumption|omega|(simp only [nx]<;>omega)|fail) only [hd,hQr,hQn,c11_0,↓YA,YB,YC,YE,YF,YZ,sevalprocAttr]))<;>(try (have hd_:True:=hd;clear hd_ hd)))
 refine CallK.use hO ?_
 rintro _ G2 ⟨rfl,hx2⟩
 have hx2:=hx1.trans hx2
 ((have hd:=trivial;repeat' (first|((first|apply GdK_st|apply GdK_sf|apply CondK_s)<;>intro hd<;>(try simp only [hd]))|simp (disch:=first|assumption|omega|(simp only [nx]<;>omega)|fail) only [hd,hQr,hQn,c11_0,↓YA,YB,YC,YE,YF,YZ,sevalprocAttr,List.length_cons,List.length_nil]))<;>(try (have hd_:True:=hd;clear hd_ hd)))
 exact fin_keep ⟨rfl,by exact AXT⟩
def LightQ (S:Sc) (l:List Fct) (H:AHeap) (r:AV) (H':AHeap):Prop:=HX [] H H'∧∃ b,r=.b b∧(b=true→FewS S∧S.dims.length≤5∧l.length≤12)
set_option maxHeartbeats 1000000 in
theorem light_sound (t:Tok) (S:Sc) (l:List Fct) (H:AHeap):Sound Tryz.prog 10 [.agg (eSc S),.sl t (rF l)] H (LightQ S l H):=by
 obtain ⟨f0,f1,f2,f3⟩:=eSc_facts S
 have hx0:HX [] H (H.alloc (.cells (eSc S) 25)):=(HX.refl H).alloc
 have g1:(H.alloc (.cells (eSc S) 25)).get H.next=some (.cells (eSc S) 25):=AHeap.get_alloc_self
 refine fn_soundQ hE cf10 (Nat.le_of_ble_eq_true rfl) fun Q hQr hQn=>?_
 ((have hd:=trivial;repeat' (first|((first|apply GdK_st|apply GdK_sf|apply CondK_s)<;>intro hd<;>(try simp only [hd]))|simp (disch:=first|assumption|omega|(simp only [nx]<;>omega)|fail) only [hd,hQr,hQn,c10_0,↓YA,YB,YC,YE,YF,YZ,sevalprocAttr,f0,f3]))<;>(try (have hd_:True:=hd;clear hd_ hd)))
 refine CallK.use (few17_sound S _) ?_
 rintro r H1 ⟨hx1,b,rfl,hb⟩
 have g1:=hx1.ext.get _ _ g1
 have l1:=AHeap.lt g1
 cases b with
 | false =>
  ((have hd:=trivial;repeat' (first|((first|apply GdK_st|apply GdK_sf|apply CondK_s)<;>intro hd<;>(try simp only [hd]))|simp (disch:=first|assumption|omega|(simp only [nx]<;>omega)|fail) only [hd,hQr,hQn,c10_0,↓YA,YB,YC,YE,YF,YZ,sevalprocAttr]))<;>(try (have hd_:True:=hd;clear hd_ hd)))
  exact fin_keep ⟨hx0.trans0 hx1,false,rfl,fun h=>by cases h⟩
 | true =>
 have hb:=hb rfl
 by_cases c1:S.dims.length≤5
 ·have d1:decide ((S.dims.length:Int)≤5)=true:=by simp;omega
  ((have hd:=trivial;repeat' (first|((first|apply GdK_st|apply GdK_sf|apply CondK_s)<;>intro hd<;>(try simp only [hd]))|simp (disch:=first|assumption|omega|(simp only [nx]<;>omega)|fail) only [hd,hQr,hQn,c10_0,↓YA,YB,YC,YE,YF,YZ,sevalprocAttr,g1,f1,d1,List.length_map]))<;>(try (have hd_:True:=hd;clear hd_ hd)))
  refine CallK.use (few19_sound t l 12 _ (by omega)) ?_
  rintro r H2 ⟨hx2,b,rfl,hfl⟩
  ((have hd:=trivial;repeat' (first|((first|apply GdK_st|apply GdK_sf|apply CondK_s)<;>intro hd<;>(try simp only [hd]))|simp (disch:=first|assumption|omega|(simp only [nx]<;>omega)|fail) only [hd,hQr,hQn,c10_0,↓YA,YB,YC,YE,YF,YZ,sevalprocAttr]))<;>(try (have hd_:True:=hd;clear hd_ hd)))
  exact fin_keep ⟨(hx0.trans0 hx1).trans0 hx2,b,rfl,fun h=>⟨hb,c1,hfl h⟩⟩
 ·have d1:decide ((S.dims.length:Int)≤5)=false:=by simp;omega
  ((have hd:=trivial;repeat' (first|((first|apply GdK_st|apply GdK_sf|apply CondK_s)<;>intro hd<;>(try simp only [hd]))|simp (disch:=first|assumption|omega|(simp only [nx]<;>omega)|fail) only [hd,hQr,hQn,c10_0,↓YA,YB,YC,YE,YF,YZ,sevalprocAttr,g1,f1,d1,List.length_map]))<;>(try (have hd_:True:=hd;clear hd_ hd)))
  exact fin_keep ⟨hx0.trans0 hx1,false,rfl,fun h=>by cases h⟩
end Go.Proofs.YtaapiigfmdhobaaGreat
