/- Texts of the walk, joined: Dq. -/
import Derived.Test.YtaapiigfmdhobaaGreatMw
import Derived.Test.YtaapiigfmdhobaaGreatMt
namespace Go.Proofs.YtaapiigfmdhobaaGreat
set_option linter.unusedSimpArgs false
set_option linter.unusedVariables false
open Go.RowKit
def twoD (c:UInt8):Dm:=⟨[c],[⟨[116],[[97],[98]],[]⟩]⟩
def twoS:Sc:=⟨[twoD 120,twoD 121],[[109]]⟩
set_option maxHeartbeats 1000000 in
theorem two26d_sound (c:UInt8) (hc:c=120∨c=121) (H:AHeap):Sound Tryz.prog 87 [eS [c]] H (Pure H (.agg (eDm (twoD c)))):=by
 rcases hc with rfl|rfl
 ·refine fn_soundQ hE cf87 (Nat.le_of_ble_eq_true rfl) fun Q hQr hQn=>?_
  ((have hd:=trivial;repeat' (first|((first|apply GdK_st|apply GdK_sf|apply CondK_s)<;>intro hd<;>(try simp only [hd]))|simp (disch:=first|assumption|omega|(simp only [nx]<;>omega)|fail) only [hd,hQr,hQn,c87_0,↓YA,YB,YC,YE,YF,YZ,sevalprocAttr]))<;>(try (have hd_:True:=hd;clear hd_ hd)))
  exact fin_wkn (wknB_ok (n:=10) rfl) (by exact AXT)
 ·refine fn_soundQ hE cf87 (Nat.le_of_ble_eq_true rfl) fun Q hQr hQn=>?_
  ((have hd:=trivial;repeat' (first|((first|apply GdK_st|apply GdK_sf|apply CondK_s)<;>intro hd<;>(try simp only [hd]))|simp (disch:=first|assumption|omega|(simp only [nx]<;>omega)|fail) only [hd,hQr,hQn,c87_0,↓YA,YB,YC,YE,YF,YZ,sevalprocAttr]))<;>(try (have hd_:True:=hd;clear hd_ hd)))
  exact fin_wkn (wknB_ok (n:=10) rfl) (by exact AXT)
set_option maxHeartbeats 1000000 in
theorem two26_sound (H:AHeap):Sound Tryz.prog 47 [] H (Pure H (.agg (eSc twoS))):=by
 obtain ⟨f0,f1,f2,f3⟩:=eDm_facts (twoD 120)
 obtain ⟨g0,g1,g2,g3⟩:=eDm_facts (twoD 121)
 refine fn_soundQ hE cf47 (Nat.le_of_ble_eq_true rfl) fun Q hQr hQn=>?_
 ((have hd:=trivial;repeat' (first|((first|apply GdK_st|apply GdK_sf|apply CondK_s)<;>intro hd<;>(try simp only [hd]))|simp (disch:=first|assumption|omega|(simp only [nx]<;>omega)|fail) only [hd,hQr,hQn,c47_0,↓YA,YB,YC,YE,YF,YZ,sevalprocAttr]))<;>(try (have hd_:True:=hd;clear hd_ hd)))
 refine CallK.use (two26d_sound 120 (.inl rfl) _) ?_
 rintro _ _ ⟨rfl,k1,rfl⟩
 ((have hd:=trivial;repeat' (first|((first|apply GdK_st|apply GdK_sf|apply CondK_s)<;>intro hd<;>(try simp only [hd]))|simp (disch:=first|assumption|omega|(simp only [nx]<;>omega)|fail) only [hd,hQr,hQn,c47_0,↓YA,YB,YC,YE,YF,YZ,sevalprocAttr]))<;>(try (have hd_:True:=hd;clear hd_ hd)))
 refine CallK.use (two26d_sound 121 (.inr rfl) _) ?_
 rintro _ _ ⟨rfl,k2,rfl⟩
 ((have hd:=trivial;repeat' (first|((first|apply GdK_st|apply GdK_sf|apply CondK_s)<;>intro hd<;>(try simp only [hd]))|simp (disch:=first|assumption|omega|(simp only [nx]<;>omega)|fail) only [hd,hQr,hQn,c47_0,↓YA,YB,YC,YE,YF,YZ,sevalprocAttr,f0,g0,f3,g3]))<;>(try (have hd_:True:=hd;clear hd_ hd)))
 exact fin_wkn (wknB_ok (n:=10) rfl) (by exact AXT)
def twoF:List Fct:=[([1,0],⟨1,0,0,0,0,0,0,0,0,0⟩)]
theorem two_ok:bldE twoS 9 twoF=0:=by decide
theorem two_nodes:bldL twoS 9 twoF=[⟨1,[[⟨0,0,⟨1,0,0,0,0,0,0,0,0,0⟩⟩]],⟨0,0,⟨1,0,0,0,0,0,0,0,0,0⟩⟩⟩,⟨0,[[⟨1,0,ag0⟩]],⟨0,0,ag0⟩⟩]:=by rfl
theorem two_small:smallS twoS:=fun d hd t ht=>by
 have h1:d=twoD 120∨d=twoD 121:=by simpa [twoS] using hd
 have h2:∀ c,∀ t ∈ (twoD c).tiers,smallT t:=fun c t ht=>by
  have:t=⟨[116],[[97],[98]],[]⟩:=by simpa [twoD] using ht
  subst this;unfold smallT;decide
 rcases h1 with rfl|rfl
 ·exact h2 _ t ht
 ·exact h2 _ t ht
set_option maxHeartbeats 2000000 in
theorem awake26_sound (H:AHeap):Sound Tryz.prog 11 [] H (PureE H (.b true)):=by
 have hB:∀ G,Sound Tryz.prog 12 [.agg (eSc twoS),.i 9,.sl .no (rF twoF)] G (BuildQ twoS 9 twoF G):=fun G=>build_sound .no twoS 9 twoF G two_small (by decide) (fun h1 h2 h3 _=>facts_ok h1 h2 h3 (by
  intro f hf
  have:f=([1,0],⟨1,0,0,0,0,0,0,0,0,0⟩):=by simpa [twoF] using hf
  subst this
  exact ⟨by decide,by decide,by decide,by decide⟩))
 unfold BuildQ at hB
 rw [two_ok,two_nodes] at hB
 refine fn_soundQ hE cf11 (Nat.le_of_ble_eq_true rfl) fun Q hQr hQn=>?_
 ((have hd:=trivial;repeat' (first|((first|apply GdK_st|apply GdK_sf|apply CondK_s)<;>intro hd<;>(try simp only [hd]))|simp (disch:=first|assumption|omega|(simp only [nx]<;>omega)|fail) only [hd,hQr,hQn,c11_0,↓YA,YB,YC,YE,YF,YZ,sevalprocAttr]))<;>(try (have hd_:True:=hd;clear hd_ hd)))
 (refine CallK.use (two26_sound _) ?_;rintro _ _ ⟨rfl,k1,rfl⟩)
 ((have hd:=trivial;repeat' (first|((first|apply GdK_st|apply GdK_sf|apply CondK_s)<;>intro hd<;>(try simp only [hd]))|simp (disch:=first|assumption|omega|(simp only [nx]<;>omega)|fail) only [hd,hQr,hQn,c11_0,↓YA,YB,YC,YE,YF,YZ,sevalprocAttr]))<;>(try (have hd_:True:=hd;clear hd_ hd)))
 refine CallK.use (Sound.wknA (hB _) rfl fun i a b ha hb=>?_) ?_
 ·match i with
  | 0=>simp only [List.getElem?_cons_zero,Option.some.injEq] at ha hb;subst ha hb;exact .refl _
  | 1=>simp only [List.getElem?_cons_zero,List.getElem?_cons_succ,Option.some.injEq] at ha hb;subst ha hb;exact .refl _
  | 2=>simp only [List.getElem?_cons_zero,List.getElem?_cons_succ,Option.some.injEq] at ha hb;subst ha hb;exact wknB_ok (n:=10) rfl
  | i+3=>simp at ha
 rintro r G1 ⟨hx1,hr⟩
 rcases hr with ⟨h1,rfl⟩|⟨_,id,rfl,h2⟩
 ·exact absurd rfl h1
 have hx1:AHeap.Ext H G1:=((AHeap.Ext.refl H).bump).trans hx1
 have hO:=len_sound h2 (show 1≤(shpS twoS).sizes.length by decide)
 ((have hd:=trivial;repeat' (first|((first|apply GdK_st|apply GdK_sf|apply CondK_s)<;>intro hd<;>(try simp only [hd]))|simp (disch:=first|assumption|omega|(simp only [nx]<;>omega)|fail) only [hd,hQr,hQn,c11_0,↓YA,YB,YC,YE,YF,YZ,sevalprocAttr]))<;>(try (have hd_:True:=hd;clear hd_ hd)))
 refine CallK.use hO ?_
 rintro _ G2 ⟨rfl,hx2⟩
 have hx2:=hx1.trans hx2
 ((have hd:=trivial;repeat' (first|((first|apply GdK_st|apply GdK_sf|apply CondK_s)<;>intro hd<;>(try simp only [hd]))|simp (disch:=first|assumption|omega|(simp only [nx]<;>omega)|fail) only [hd,hQr,hQn,c11_0,↓YA,YB,YC,YE,YF,YZ,sevalprocAttr,List.length_cons,List.length_nil]))<;>(try (have hd_:True:=hd;clear hd_ hd)))
 exact fin_keep ⟨rfl,by exact AXT⟩
def LightQ (S:Sc) (l:List Fct) (H:AHeap) (r:AV) (H':AHeap):Prop:=HX [] H H'∧∃ b,r=.b b∧(b=true→FewS S∧S.dims.length≤5∧l.length≤12)
set_option maxHeartbeats 1000000 in
theorem light_sound (t:Tok) (S:Sc) (l:List Fct) (H:AHeap):Sound Tryz.prog 10 [.agg (eSc S),.sl t (rF l)] H (LightQ S l H):=by
 obtain ⟨f0,f1,f2,f3⟩:=eSc_facts S
 have hx0:HX [] H (H.alloc (.cells (eSc S) 25)):=(HX.refl H).alloc
 have g1:(H.alloc (.cells (eSc S) 25)).get H.next=some (.cells (eSc S) 25):=AHeap.get_alloc_self
 refine fn_soundQ hE cf10 (Nat.le_of_ble_eq_true rfl) fun Q hQr hQn=>?_
 ((have hd:=trivial;repeat' (first|((first|apply GdK_st|apply GdK_sf|apply CondK_s)<;>intro hd<;>(try simp only [hd]))|simp (disch:=first|assumption|omega|(simp only [nx]<;>omega)|fail) only [hd,hQr,hQn,c10_0,↓YA,YB,YC,YE,YF,YZ,sevalprocAttr,f0,f3]))<;>(try (have hd_:True:=hd;clear hd_ hd)))
 refine CallK.use (few17_sound S _) ?_
 rintro r H1 ⟨hx1,b,rfl,hb⟩
 have g1:=hx1.ext.get _ _ g1
 have l1:=AHeap.lt g1
 cases b with
 | false =>
  ((have hd:=trivial;repeat' (first|((first|apply GdK_st|apply GdK_sf|apply CondK_s)<;>intro hd<;>(try simp only [hd]))|simp (disch:=first|assumption|omega|(simp only [nx]<;>omega)|fail) only [hd,hQr,hQn,c10_0,↓YA,YB,YC,YE,YF,YZ,sevalprocAttr]))<;>(try (have hd_:True:=hd;clear hd_ hd)))
  exact fin_keep ⟨hx0.trans0 hx1,false,rfl,fun h=>by cases h⟩
 | true =>
 have hb:=hb rfl
 by_cases c1:S.dims.length≤5
 ·have d1:decide ((S.dims.length:Int)≤5)=true:=by simp;omega
  ((have hd:=trivial;repeat' (first|((first|apply GdK_st|apply GdK_sf|apply CondK_s)<;>intro hd<;>(try simp only [hd]))|simp (disch:=first|assumption|omega|(simp only [nx]<;>omega)|fail) only [hd,hQr,hQn,c10_0,↓YA,YB,YC,YE,YF,YZ,sevalprocAttr,g1,f1,d1,List.length_map]))<;>(try (have hd_:True:=hd;clear hd_ hd)))
  refine CallK.use (few19_sound t l 12 _ (by omega)) ?_
  rintro r H2 ⟨hx2,b,rfl,hfl⟩
  ((have hd:=trivial;repeat' (first|((first|apply GdK_st|apply GdK_sf|apply CondK_s)<;>intro hd<;>(try simp only [hd]))|simp (disch:=first|assumption|omega|(simp only [nx]<;>omega)|fail) only [hd,hQr,hQn,c10_0,↓YA,YB,YC,YE,YF,YZ,sevalprocAttr]))<;>(try (have hd_:True:=hd;clear hd_ hd)))
  exact fin_keep ⟨(hx0.trans0 hx1).trans0 hx2,b,rfl,fun h=>⟨hb,c1,hfl h⟩⟩
 ·have d1:decide ((S.dims.length:Int)≤5)=false:=by simp;omega
  ((have hd:=trivial;repeat' (first|((first|apply GdK_st|apply GdK_sf|apply CondK_s)<;>intro hd<;>(try simp only [hd]))|simp (disch:=first|assumption|omega|(simp only [nx]<;>omega)|fail) only [hd,hQr,hQn,c10_0,↓YA,YB,YC,YE,YF,YZ,sevalprocAttr,g1,f1,d1,List.length_map]))<;>(try (have hd_:True:=hd;clear hd_ hd)))
  exact fin_keep ⟨hx0.trans0 hx1,false,rfl,fun h=>by cases h⟩
set_option maxHeartbeats 8000000 in
theorem builds_walk (S:Sc) (most:Int) (facts:List Fct) (H:AHeap) (ha:∀ f ∈ facts,AgIn f.2):Sound Tryz.prog 3 [.agg (eSc S),.i most,.sl .no (rF facts)] H fun r _=>r=.b true:=by
 obtain ⟨f0,f1,f2,f3⟩:=eSc_facts S
 have g1:(H.alloc (.cells (eSc S) 25)).get H.next=some (.cells (eSc S) 25):=AHeap.get_alloc_self
 have e3:∀ t u c,(eCubeD t u c).length=3:=fun _ _ _=>rfl
 have e4:∀ t u c,(eCubeD t u c).take 3=eCubeD t u c:=fun _ _ _=>rfl
 have e5:∀ t u c,(eCubeD t u c)[0]?=some (.sl t (rN c.N)):=fun _ _ _=>rfl
 have e6:∀ t u c,(eCubeD t u c).drop 3=[]:=fun _ _ _=>rfl
 have e8:∀ t u c,(eCubeD t u c)[2]?=some (.b c.over):=fun _ _ _=>rfl
 refine fn_soundQ hE cf3 (Nat.le_of_ble_eq_true rfl) fun Q hQr hQn=>?_
 ((have hd:=trivial;repeat' (first|((first|apply GdK_st|apply GdK_sf|apply CondK_s)<;>intro hd<;>(try simp only [hd]))|simp (disch:=first|assumption|omega|(simp only [nx]<;>omega)|fail) only [hd,hQr,hQn,c3_0,↓YA,YB,YC,YE,YF,YZ,sevalprocAttr,f0,f3]))<;>(try (have hd_:True:=hd;clear hd_ hd)))
 refine CallK.use (light_sound .no S facts _) ?_
 rintro r H1 ⟨hx1,b,rfl,hb⟩
 have g1:=hx1.ext.get _ _ g1
 cases b with
 | false =>
  ((have hd:=trivial;repeat' (first|((first|apply GdK_st|apply GdK_sf|apply CondK_s)<;>intro hd<;>(try simp only [hd]))|simp (disch:=first|assumption|omega|(simp only [nx]<;>omega)|fail) only [hd,hQr,hQn,c3_0,↓YA,YB,YC,YE,YF,YZ,sevalprocAttr]))<;>(try (have hd_:True:=hd;clear hd_ hd)))
  refine CallK.use (awake26_sound _) ?_
  rintro r H2 ⟨rfl,hx2⟩
  ((have hd:=trivial;repeat' (first|((first|apply GdK_st|apply GdK_sf|apply CondK_s)<;>intro hd<;>(try simp only [hd]))|simp (disch:=first|assumption|omega|(simp only [nx]<;>omega)|fail) only [hd,hQr,hQn,c3_0,↓YA,YB,YC,YE,YF,YZ,sevalprocAttr]))<;>(try (have hd_:True:=hd;clear hd_ hd)))
  exact fin_keep rfl
 | true =>
 obtain ⟨hfs,h5,hfl⟩:=hb rfl
 have hS:smallS S:=fun d hd t ht=>by have:=((hfs.2 d hd).2 t ht).2;unfold smallT;omega
 have hdt:∀ d ∈ S.dims,d.tiers.length≤1000000:=fun d hd=>by have:=(hfs.2 d hd).1;omega
 ((have hd:=trivial;repeat' (first|((first|apply GdK_st|apply GdK_sf|apply CondK_s)<;>intro hd<;>(try simp only [hd]))|simp (disch:=first|assumption|omega|(simp only [nx]<;>omega)|fail) only [hd,hQr,hQn,c3_0,↓YA,YB,YC,YE,YF,YZ,sevalprocAttr,g1,f0,f3]))<;>(try (have hd_:True:=hd;clear hd_ hd)))
 refine CallK.use (build_sound .no S most facts _ hS (by omega) (fun q1 q2 q3 _=>facts_ok q1 q2 q3 ha)) ?_
 rintro r H3 ⟨hx3,hr⟩
 obtain ⟨r1,hr1⟩:∃ r1,r=.tup [r1,.i (bldE S most facts)]∧((bldE S most facts≠0∧r1=.sc (.pointer none))∨(bldE S most facts=0∧∃ id,r1=.ptr id 0∧ArA H3 id (shpS S) (bldL S most facts))):=by
  rcases hr with ⟨h1,rfl⟩|⟨h1,id,rfl,h2⟩
  ·exact ⟨_,rfl,.inl ⟨h1,rfl⟩⟩
  ·exact ⟨_,by rw [h1],.inr ⟨h1,id,rfl,h2⟩⟩
 obtain ⟨rfl,hr1⟩:=hr1
 clear hr
 have g1:=hx3.get _ _ g1
 have hw:=want_law (S:=S) (most:=most) (facts:=facts) (by omega)
 by_cases hz:wantB S most facts=0
 ·have hall:scE S=0∧rowF (shpS S) none facts=0∧0≤most∧most≤131072:=by
   have h:=hz
   unfold wantB at h
   split at h
   ·rename_i h1;exact absurd h h1
   rename_i h1
   split at h
   ·rename_i h2;exact absurd h h2
   rename_i h2
   split at h
   ·omega
   ·exact ⟨Classical.not_not.1 h1,Classical.not_not.1 h2,by omega,by omega⟩
  obtain ⟨h1,h2,h3,h4⟩:=hall
  have hF:=facts_ok h1 h2 (by omega) ha
  have hLl:(liftsS S).length=S.dims.length:=by unfold liftsS;rw [List.length_map]
  have hdl:=docD_len hF (by omega)
  obtain ⟨w1,w2,w3⟩:=builds_law (S:=S) (most:=most) (facts:=facts) (by omega) ha hz
  have hbl:=fun h=>bld_ard (S:=S) (most:=most) (facts:=facts) h ha
  have hB26:=fun G=>rbuild26_sound .no G h1 h2 (by omega) ha hdl
  have d1:decide (most<0)=false:=decide_eq_false (by omega)
  have d2:decide (most > 131072)=false:=decide_eq_false (by omega)
  have d0:((0:Int) == 0)=true:=rfl
  have hx1:shpMay (shpS S)=true:=shp_may h1
  obtain ⟨b1,b2,b3,b4,b5⟩:=shpMay_bounds hx1
  unfold limD at hdl
  generalize docD S facts=D at *
  obtain ⟨DN,DP,Do⟩:=D
  simp only at w1 w2 w3 hdl
  ((have hd:=trivial;repeat' (first|((first|apply GdK_st|apply GdK_sf|apply CondK_s)<;>intro hd<;>(try simp only [hd]))|simp (disch:=first|assumption|omega|(simp only [nx]<;>omega)|fail) only [hd,hQr,hQn,c3_0,↓YA,YB,YC,YE,YF,YZ,sevalprocAttr,g1,f0,f3]))<;>(try (have hd_:True:=hd;clear hd_ hd)))
  (refine CallK.use (rsch_sound S _ hS) ?_;rintro _ _ ⟨rfl,k1,rfl⟩)
  ((have hd:=trivial;repeat' (first|((first|apply GdK_st|apply GdK_sf|apply CondK_s)<;>intro hd<;>(try simp only [hd]))|simp (disch:=first|assumption|omega|(simp only [nx]<;>omega)|fail) only [hd,hQr,hQn,c3_0,↓YA,YB,YC,YE,YF,YZ,sevalprocAttr,g1,f0,f3,h1]))<;>(try (have hd_:True:=hd;clear hd_ hd)))
  (refine CallK.use (rshape_sound S _ (by omega) hdt) ?_;rintro _ _ ⟨rfl,k2,rfl⟩)
  ((have hd:=trivial;repeat' (first|((first|apply GdK_st|apply GdK_sf|apply CondK_s)<;>intro hd<;>(try simp only [hd]))|simp (disch:=first|assumption|omega|(simp only [nx]<;>omega)|fail) only [hd,hQr,hQn,c3_0,↓YA,YB,YC,YE,YF,YZ,sevalprocAttr]))<;>(try (have hd_:True:=hd;clear hd_ hd)))
  (refine CallK.use (rrowf_sound .no (shpS S) facts _ (by omega) (by unfold shpS;simp;omega)) ?_;rintro _ _ ⟨rfl,k3,rfl⟩)
  ((have hd:=trivial;repeat' (first|((first|apply GdK_st|apply GdK_sf|apply CondK_s)<;>intro hd<;>(try simp only [hd]))|simp (disch:=first|assumption|omega|(simp only [nx]<;>omega)|fail) only [hd,hQr,hQn,c3_0,↓YA,YB,YC,YE,YF,YZ,sevalprocAttr,h2,d1,d2,g1,f0,f3]))<;>(try (have hd_:True:=hd;clear hd_ hd)))
  (refine CallK.use (hB26 _) ?_;rintro _ _ ⟨rfl,k4,rfl⟩)
  have hx4:AHeap.Ext H3 ((((((H3.bump k1).bump k2).bump k3).bump k4).alloc (.cells (eCubeD .no .no ⟨DN,DP,Do⟩) 41))):=by exact AXT
  have ho:=bfb Do
  rcases ho with ho|ho
  ·subst ho
   by_cases hlen:(DN.length:Int) > most
   ·have hE:=w2 rfl (by omega)
    rcases hr1 with ⟨e1,rfl⟩|⟨e1,ia,rfl,hA⟩
    ·rw [hE]
     have d5:decide ((DN.length:Int) > most)=true:=decide_eq_true hlen
     ((have hd:=trivial;repeat' (first|((first|apply GdK_st|apply GdK_sf|apply CondK_s)<;>intro hd<;>(try simp only [hd]))|simp (disch:=first|assumption|omega|(simp only [nx]<;>omega)|fail) only [hd,hQr,hQn,c3_0,↓YA,YB,YC,YE,YF,YZ,sevalprocAttr,eCubeD,d5,List.length_map]))<;>(try (have hd_:True:=hd;clear hd_ hd)))
     refine CallK.use (awake26_sound _) ?_
     rintro r H4 ⟨rfl,hx4⟩
     ((have hd:=trivial;repeat' (first|((first|apply GdK_st|apply GdK_sf|apply CondK_s)<;>intro hd<;>(try simp only [hd]))|simp (disch:=first|assumption|omega|(simp only [nx]<;>omega)|fail) only [hd,hQr,hQn,c3_0,↓YA,YB,YC,YE,YF,YZ,sevalprocAttr]))<;>(try (have hd_:True:=hd;clear hd_ hd)))
     exact fin_keep rfl
    ·omega
   ·have d5:decide ((DN.length:Int) > most)=false:=decide_eq_false hlen
    obtain ⟨hE,hN,hW⟩:=w3 rfl (by omega)
    rcases hr1 with ⟨e1,rfl⟩|⟨e1,ia,rfl,hA⟩
    ·exact absurd hE e1
    ·obtain ⟨hard,_⟩:=hbl hE
     rw [hN] at hA hard
     have hsm:=hard.sm
     have hdn:decide (DN=DN)=true:=decide_eq_true rfl
     rw [hE]
     have hA4:=hA.ext hx4
     have hch:∀ n ∈ DN,lastB (shpS S) n.dim=false→∀ c ∈ each n,0≤c.child∧c.child<DN.length:=fun n hn hb c hc=>by
      obtain ⟨k,hk,rfl⟩:=List.getElem_of_mem hn
      have:=hard.led k hk (by unfold lastB at hb;rw [beq_eq_false_iff_ne] at hb;have:=hard.dim _ (List.getElem_mem hk);omega) c hc
      omega
     have hwh:=fun G (h:AHeap.Ext ((((((H3.bump k1).bump k2).bump k3).bump k4).alloc (.cells (eCubeD .no .no ⟨DN,DP,false⟩) 41))) G)=>whole_sound (hA4.ext h) b1 (by omega) (by have:=hard.len;omega) hsm hch
     rw [hW] at hwh
     unfold eCubeD at hA4 hwh
     have hns:=nodes_sound hA4 b1 (by have:=hard.len;omega) hsm
     have hal:=fun G=>rall_sound .no .no DN DN G (by have:=hard.len;omega) hsm
     rw [hdn] at hal
     ((have hd:=trivial;repeat' (first|((first|apply GdK_st|apply GdK_sf|apply CondK_s)<;>intro hd<;>(try simp only [hd]))|simp (disch:=first|assumption|omega|(simp only [nx]<;>omega)|fail) only [hd,hQr,hQn,c3_0,↓YA,YB,YC,YE,YF,YZ,sevalprocAttr,eCubeD,d5,List.length_map]))<;>(try (have hd_:True:=hd;clear hd_ hd)))
     (refine CallK.use (hns) ?_;rintro _ _ ⟨rfl,k5,rfl⟩)
     ((have hd:=trivial;repeat' (first|((first|apply GdK_st|apply GdK_sf|apply CondK_s)<;>intro hd<;>(try simp only [hd]))|simp (disch:=first|assumption|omega|(simp only [nx]<;>omega)|fail) only [hd,hQr,hQn,c3_0,↓YA,YB,YC,YE,YF,YZ,sevalprocAttr]))<;>(try (have hd_:True:=hd;clear hd_ hd)))
     (refine CallK.use (hal _) ?_;rintro _ _ ⟨rfl,k6,rfl⟩)
     ((have hd:=trivial;repeat' (first|((first|apply GdK_st|apply GdK_sf|apply CondK_s)<;>intro hd<;>(try simp only [hd]))|simp (disch:=first|assumption|omega|(simp only [nx]<;>omega)|fail) only [hd,hQr,hQn,c3_0,↓YA,YB,YC,YE,YF,YZ,sevalprocAttr]))<;>(try (have hd_:True:=hd;clear hd_ hd)))
     refine CallK.use (hwh _ (by exact AXT)) ?_
     rintro _ _ ⟨rfl,k7,rfl⟩
     ((have hd:=trivial;repeat' (first|((first|apply GdK_st|apply GdK_sf|apply CondK_s)<;>intro hd<;>(try simp only [hd]))|simp (disch:=first|assumption|omega|(simp only [nx]<;>omega)|fail) only [hd,hQr,hQn,c3_0,↓YA,YB,YC,YE,YF,YZ,sevalprocAttr]))<;>(try (have hd_:True:=hd;clear hd_ hd)))
     refine CallK.use (awake26_sound _) ?_
     rintro r H4 ⟨rfl,hx4⟩
     ((have hd:=trivial;repeat' (first|((first|apply GdK_st|apply GdK_sf|apply CondK_s)<;>intro hd<;>(try simp only [hd]))|simp (disch:=first|assumption|omega|(simp only [nx]<;>omega)|fail) only [hd,hQr,hQn,c3_0,↓YA,YB,YC,YE,YF,YZ,sevalprocAttr]))<;>(try (have hd_:True:=hd;clear hd_ hd)))
     exact fin_keep rfl
  ·subst ho
   have hE:=w1 rfl
   rcases hr1 with ⟨e1,rfl⟩|⟨e1,ia,rfl,hA⟩
   ·rcases hE with hE|⟨hE,hlen⟩
    ·rw [hE]
     ((have hd:=trivial;repeat' (first|((first|apply GdK_st|apply GdK_sf|apply CondK_s)<;>intro hd<;>(try simp only [hd]))|simp (disch:=first|assumption|omega|(simp only [nx]<;>omega)|fail) only [hd,hQr,hQn,c3_0,↓YA,YB,YC,YE,YF,YZ,sevalprocAttr,eCubeD]))<;>(try (have hd_:True:=hd;clear hd_ hd)))
     refine CallK.use (awake26_sound _) ?_
     rintro r H4 ⟨rfl,hx4⟩
     ((have hd:=trivial;repeat' (first|((first|apply GdK_st|apply GdK_sf|apply CondK_s)<;>intro hd<;>(try simp only [hd]))|simp (disch:=first|assumption|omega|(simp only [nx]<;>omega)|fail) only [hd,hQr,hQn,c3_0,↓YA,YB,YC,YE,YF,YZ,sevalprocAttr]))<;>(try (have hd_:True:=hd;clear hd_ hd)))
     exact fin_keep rfl
    ·rw [hE]
     have d5:decide ((DN.length:Int) > most)=true:=decide_eq_true (by omega)
     ((have hd:=trivial;repeat' (first|((first|apply GdK_st|apply GdK_sf|apply CondK_s)<;>intro hd<;>(try simp only [hd]))|simp (disch:=first|assumption|omega|(simp only [nx]<;>omega)|fail) only [hd,hQr,hQn,c3_0,↓YA,YB,YC,YE,YF,YZ,sevalprocAttr,eCubeD,d5,List.length_map]))<;>(try (have hd_:True:=hd;clear hd_ hd)))
     refine CallK.use (awake26_sound _) ?_
     rintro r H4 ⟨rfl,hx4⟩
     ((have hd:=trivial;repeat' (first|((first|apply GdK_st|apply GdK_sf|apply CondK_s)<;>intro hd<;>(try simp only [hd]))|simp (disch:=first|assumption|omega|(simp only [nx]<;>omega)|fail) only [hd,hQr,hQn,c3_0,↓YA,YB,YC,YE,YF,YZ,sevalprocAttr]))<;>(try (have hd_:True:=hd;clear hd_ hd)))
     exact fin_keep rfl
   ·omega
 ·have hwz:=hw hz
  rcases hr1 with ⟨e1,rfl⟩|⟨e1,ia,rfl,hA⟩
  ·clear e1
   by_cases h1:scE S=0
   ·by_cases h2:rowF (shpS S) none facts=0
    ·have hm:most<0∨most > 131072:=by
      refine Classical.byContradiction fun h=>hz ?_
      unfold wantB;rw [if_neg (by simp [h1]),if_neg (by simp [h2]),if_neg h]
     have hv:wantB S most facts=2:=by unfold wantB;rw [if_neg (by simp [h1]),if_neg (by simp [h2]),if_pos hm]
     rw [hv] at hwz
     rw [hwz]
     by_cases c1:most<0
     ·have d1:decide (most<0)=true:=decide_eq_true c1
      ((have hd:=trivial;repeat' (first|((first|apply GdK_st|apply GdK_sf|apply CondK_s)<;>intro hd<;>(try simp only [hd]))|simp (disch:=first|assumption|omega|(simp only [nx]<;>omega)|fail) only [hd,hQr,hQn,c3_0,↓YA,YB,YC,YE,YF,YZ,sevalprocAttr,g1,f0,f3]))<;>(try (have hd_:True:=hd;clear hd_ hd)))
      (refine CallK.use (rsch_sound S _ hS) ?_;rintro _ _ ⟨rfl,k1,rfl⟩)
      ((have hd:=trivial;repeat' (first|((first|apply GdK_st|apply GdK_sf|apply CondK_s)<;>intro hd<;>(try simp only [hd]))|simp (disch:=first|assumption|omega|(simp only [nx]<;>omega)|fail) only [hd,hQr,hQn,c3_0,↓YA,YB,YC,YE,YF,YZ,sevalprocAttr,g1,f0,f3,h1]))<;>(try (have hd_:True:=hd;clear hd_ hd)))
      (refine CallK.use (rshape_sound S _ (by omega) hdt) ?_;rintro _ _ ⟨rfl,k2,rfl⟩)
      ((have hd:=trivial;repeat' (first|((first|apply GdK_st|apply GdK_sf|apply CondK_s)<;>intro hd<;>(try simp only [hd]))|simp (disch:=first|assumption|omega|(simp only [nx]<;>omega)|fail) only [hd,hQr,hQn,c3_0,↓YA,YB,YC,YE,YF,YZ,sevalprocAttr]))<;>(try (have hd_:True:=hd;clear hd_ hd)))
      (refine CallK.use (rrowf_sound .no (shpS S) facts _ (by omega) (by unfold shpS;simp;omega)) ?_;rintro _ _ ⟨rfl,k3,rfl⟩)
      ((have hd:=trivial;repeat' (first|((first|apply GdK_st|apply GdK_sf|apply CondK_s)<;>intro hd<;>(try simp only [hd]))|simp (disch:=first|assumption|omega|(simp only [nx]<;>omega)|fail) only [hd,hQr,hQn,c3_0,↓YA,YB,YC,YE,YF,YZ,sevalprocAttr,h2,d1]))<;>(try (have hd_:True:=hd;clear hd_ hd)))
      refine CallK.use (awake26_sound _) ?_
      rintro r H4 ⟨rfl,hx4⟩
      ((have hd:=trivial;repeat' (first|((first|apply GdK_st|apply GdK_sf|apply CondK_s)<;>intro hd<;>(try simp only [hd]))|simp (disch:=first|assumption|omega|(simp only [nx]<;>omega)|fail) only [hd,hQr,hQn,c3_0,↓YA,YB,YC,YE,YF,YZ,sevalprocAttr]))<;>(try (have hd_:True:=hd;clear hd_ hd)))
      exact fin_keep rfl
     ·have d1:decide (most<0)=false:=decide_eq_false c1
      have d2:decide (most > 131072)=true:=decide_eq_true (by omega)
      ((have hd:=trivial;repeat' (first|((first|apply GdK_st|apply GdK_sf|apply CondK_s)<;>intro hd<;>(try simp only [hd]))|simp (disch:=first|assumption|omega|(simp only [nx]<;>omega)|fail) only [hd,hQr,hQn,c3_0,↓YA,YB,YC,YE,YF,YZ,sevalprocAttr,g1,f0,f3]))<;>(try (have hd_:True:=hd;clear hd_ hd)))
      (refine CallK.use (rsch_sound S _ hS) ?_;rintro _ _ ⟨rfl,k1,rfl⟩)
      ((have hd:=trivial;repeat' (first|((first|apply GdK_st|apply GdK_sf|apply CondK_s)<;>intro hd<;>(try simp only [hd]))|simp (disch:=first|assumption|omega|(simp only [nx]<;>omega)|fail) only [hd,hQr,hQn,c3_0,↓YA,YB,YC,YE,YF,YZ,sevalprocAttr,g1,f0,f3,h1]))<;>(try (have hd_:True:=hd;clear hd_ hd)))
      (refine CallK.use (rshape_sound S _ (by omega) hdt) ?_;rintro _ _ ⟨rfl,k2,rfl⟩)
      ((have hd:=trivial;repeat' (first|((first|apply GdK_st|apply GdK_sf|apply CondK_s)<;>intro hd<;>(try simp only [hd]))|simp (disch:=first|assumption|omega|(simp only [nx]<;>omega)|fail) only [hd,hQr,hQn,c3_0,↓YA,YB,YC,YE,YF,YZ,sevalprocAttr]))<;>(try (have hd_:True:=hd;clear hd_ hd)))
      (refine CallK.use (rrowf_sound .no (shpS S) facts _ (by omega) (by unfold shpS;simp;omega)) ?_;rintro _ _ ⟨rfl,k3,rfl⟩)
      ((have hd:=trivial;repeat' (first|((first|apply GdK_st|apply GdK_sf|apply CondK_s)<;>intro hd<;>(try simp only [hd]))|simp (disch:=first|assumption|omega|(simp only [nx]<;>omega)|fail) only [hd,hQr,hQn,c3_0,↓YA,YB,YC,YE,YF,YZ,sevalprocAttr,h2,d1,d2]))<;>(try (have hd_:True:=hd;clear hd_ hd)))
      refine CallK.use (awake26_sound _) ?_
      rintro r H4 ⟨rfl,hx4⟩
      ((have hd:=trivial;repeat' (first|((first|apply GdK_st|apply GdK_sf|apply CondK_s)<;>intro hd<;>(try simp only [hd]))|simp (disch:=first|assumption|omega|(simp only [nx]<;>omega)|fail) only [hd,hQr,hQn,c3_0,↓YA,YB,YC,YE,YF,YZ,sevalprocAttr]))<;>(try (have hd_:True:=hd;clear hd_ hd)))
      exact fin_keep rfl
    ·have hv:wantB S most facts=rowF (shpS S) none facts:=by unfold wantB;rw [if_neg (by simp [h1]),if_pos h2]
     rw [hv] at hwz
     rw [hwz]
     have d2:(rowF (shpS S) none facts == 0)=false:=by simpa using h2
     have d3:(rowF (shpS S) none facts != 0)=true:=by simpa using h2
     have d4:(rowF (shpS S) none facts == rowF (shpS S) none facts)=true:=by simp
     ((have hd:=trivial;repeat' (first|((first|apply GdK_st|apply GdK_sf|apply CondK_s)<;>intro hd<;>(try simp only [hd]))|simp (disch:=first|assumption|omega|(simp only [nx]<;>omega)|fail) only [hd,hQr,hQn,c3_0,↓YA,YB,YC,YE,YF,YZ,sevalprocAttr,g1,f0,f3]))<;>(try (have hd_:True:=hd;clear hd_ hd)))
     (refine CallK.use (rsch_sound S _ hS) ?_;rintro _ _ ⟨rfl,k1,rfl⟩)
     ((have hd:=trivial;repeat' (first|((first|apply GdK_st|apply GdK_sf|apply CondK_s)<;>intro hd<;>(try simp only [hd]))|simp (disch:=first|assumption|omega|(simp only [nx]<;>omega)|fail) only [hd,hQr,hQn,c3_0,↓YA,YB,YC,YE,YF,YZ,sevalprocAttr,g1,f0,f3,h1]))<;>(try (have hd_:True:=hd;clear hd_ hd)))
     (refine CallK.use (rshape_sound S _ (by omega) hdt) ?_;rintro _ _ ⟨rfl,k2,rfl⟩)
     ((have hd:=trivial;repeat' (first|((first|apply GdK_st|apply GdK_sf|apply CondK_s)<;>intro hd<;>(try simp only [hd]))|simp (disch:=first|assumption|omega|(simp only [nx]<;>omega)|fail) only [hd,hQr,hQn,c3_0,↓YA,YB,YC,YE,YF,YZ,sevalprocAttr]))<;>(try (have hd_:True:=hd;clear hd_ hd)))
     (refine CallK.use (rrowf_sound .no (shpS S) facts _ (by omega) (by unfold shpS;simp;omega)) ?_;rintro _ _ ⟨rfl,k3,rfl⟩)
     ((have hd:=trivial;repeat' (first|((first|apply GdK_st|apply GdK_sf|apply CondK_s)<;>intro hd<;>(try simp only [hd]))|simp (disch:=first|assumption|omega|(simp only [nx]<;>omega)|fail) only [hd,hQr,hQn,c3_0,↓YA,YB,YC,YE,YF,YZ,sevalprocAttr,d2,d3,d4]))<;>(try (have hd_:True:=hd;clear hd_ hd)))
     refine CallK.use (awake26_sound _) ?_
     rintro r H4 ⟨rfl,hx4⟩
     ((have hd:=trivial;repeat' (first|((first|apply GdK_st|apply GdK_sf|apply CondK_s)<;>intro hd<;>(try simp only [hd]))|simp (disch:=first|assumption|omega|(simp only [nx]<;>omega)|fail) only [hd,hQr,hQn,c3_0,↓YA,YB,YC,YE,YF,YZ,sevalprocAttr]))<;>(try (have hd_:True:=hd;clear hd_ hd)))
     exact fin_keep rfl
   ·have hv:wantB S most facts=scE S:=by unfold wantB;exact if_pos h1
    rw [hv] at hwz
    rw [hwz]
    have d2:(scE S == 0)=false:=by simpa using h1
    have d3:(scE S != 0)=true:=by simpa using h1
    have d4:(scE S == scE S)=true:=by simp
    ((have hd:=trivial;repeat' (first|((first|apply GdK_st|apply GdK_sf|apply CondK_s)<;>intro hd<;>(try simp only [hd]))|simp (disch:=first|assumption|omega|(simp only [nx]<;>omega)|fail) only [hd,hQr,hQn,c3_0,↓YA,YB,YC,YE,YF,YZ,sevalprocAttr,g1,f0,f3]))<;>(try (have hd_:True:=hd;clear hd_ hd)))
    (refine CallK.use (rsch_sound S _ hS) ?_;rintro _ _ ⟨rfl,k1,rfl⟩)
    ((have hd:=trivial;repeat' (first|((first|apply GdK_st|apply GdK_sf|apply CondK_s)<;>intro hd<;>(try simp only [hd]))|simp (disch:=first|assumption|omega|(simp only [nx]<;>omega)|fail) only [hd,hQr,hQn,c3_0,↓YA,YB,YC,YE,YF,YZ,sevalprocAttr,d2,d3,d4]))<;>(try (have hd_:True:=hd;clear hd_ hd)))
    refine CallK.use (awake26_sound _) ?_
    rintro r H4 ⟨rfl,hx4⟩
    ((have hd:=trivial;repeat' (first|((first|apply GdK_st|apply GdK_sf|apply CondK_s)<;>intro hd<;>(try simp only [hd]))|simp (disch:=first|assumption|omega|(simp only [nx]<;>omega)|fail) only [hd,hQr,hQn,c3_0,↓YA,YB,YC,YE,YF,YZ,sevalprocAttr]))<;>(try (have hd_:True:=hd;clear hd_ hd)))
    exact fin_keep rfl
  ·exact absurd (hwz.symm.trans e1) hz
end Go.Proofs.YtaapiigfmdhobaaGreat
