/- Texts of the walk, joined: Ej Eh. -/
import Derived.Test.YtaapiigfmdhobaaGreatMz
import Derived.Test.YtaapiigfmdhobaaGreatMx
namespace Go.Proofs.YtaapiigfmdhobaaGreat
set_option linter.unusedSimpArgs false
set_option linter.unusedVariables false
open Go.RowKit
theorem wayF_of {x:Shp} {L:List (List (List Int))}:∀ {w:List (Int×Int)} {d:Nat},(∀ k (h:k<w.length),PosOk x L (d+k) w[k])→WayF x L d w
 | [],_,_=>trivial
 | q :: w,d,h=>⟨h 0 (by simp),wayF_of fun k hk=>by
   have:=h (k+1) (by simpa using hk)
   rw [show d+1+k=d+(k+1) by omega]
   exact this⟩
theorem all2_keys {R:Cel→Int×List Nat→Prop} (hR:∀ z g,R z g→z.key=g.1):∀ {l:List Cel} {m:List (Int×List Nat)},All2 R l m→l.map Cel.key=m.map (·.1)
 | _,_,.nil=>rfl
 | _,_,.cons h t=>by rw [List.map_cons,List.map_cons,hR _ _ h,all2_keys hR t]
theorem srch_of {x:Shp} {L:List (List (List Int))} {facts:List Fct} {c:DSt} (hF:FactsOk x L facts) (hc:DocOk x L facts c):Srch c.N:=fun n hn=>by
 obtain ⟨i,hi,rfl⟩:=List.getElem_of_mem hn
 obtain ⟨d,hd,n1,n2,n3,n4⟩:=hc.nod i hi
 have e:c.N.getD i nod0=c.N[i]:=by rw [List.getD_eq_getElem?_getD,List.getElem?_eq_getElem hi];rfl
 rw [e] at n4
 have hgl:(groupsB x L facts d (c.P.getD i [])).length=(L.getD d []).length:=by unfold groupsB;simp
 have hll:=n4.length
 obtain ⟨t1,t2,t3⟩:=hF.tier d hd
 have hL:(L.getD d []).length=L[d].length:=by rw [List.getD_eq_getElem?_getD,List.getElem?_eq_getElem hd];rfl
 refine ⟨by omega,fun l hl=>?_⟩
 obtain ⟨k,hk,rfl⟩:=List.getElem_of_mem hl
 have h4:=all2_get n4 k hk (by omega)
 have hgg:(groupsB x L facts d (c.P.getD i []))[k]'(by omega)=grs (keyB L facts d k) (tierN x d k) (c.P.getD i []):=by simp [groupsB]
 rw [hgg] at h4
 have hlen:=h4.length
 have hg2:=grs_len (keyB L facts d k) (tierN x d k) (c.P.getD i [])
 have hsz:=hF.size d k
 refine ⟨by omega,?_⟩
 rw [all2_keys (fun z g h=>h.1) h4]
 exact List.pairwise_map.2 (grs_rise _ _ _)
structure SmallB (S:Sc) (facts:List Fct):Prop where
 e:bldE S 131072 facts=0
 l:bldL S 131072 facts=(docD S facts).N
 doc:DocOk (shpS S) (liftsS S) facts (docD S facts)
 fok:FactsOk (shpS S) (liftsS S) facts
 may:shpMay (shpS S)=true
 sm:∀ n ∈ (docD S facts).N,smallN n
 len:(docD S facts).N.length≤131072
theorem small_built {S:Sc} {facts:List Fct} (hs:scE S=0) (hr:rowF (shpS S) none facts=0) (ha:∀ f ∈ facts,AgIn f.2) (hw:WideP facts) (h5:S.dims.length≤5) (h12:facts.length≤12):SmallB S facts:=by
 have hm:∀ f ∈ facts,aggMay (shpS S).measures f.2=true:=fun f hf=>(factE_zero (rowF_zero hr f hf)).2.2
 obtain ⟨h1,h2⟩:=doc_small hs hr (by omega) (hw.wag hm)
 have hlen:=docOk_len h1
 have hLl:(liftsS S).length=S.dims.length:=by unfold liftsS;rw [List.length_map]
 have hp:(2:Nat) ^ facts.length≤2 ^ 12:=Nat.pow_le_pow_right (by decide) h12
 have hle:(docD S facts).N.length≤131072:=by
  have h3:(liftsS S).length * 2 ^ facts.length≤5 * 2 ^ 12:=Nat.mul_le_mul (by omega) hp
  have h4:(5:Nat) * 2 ^ 12≤131072:=by decide
  omega
 have hz:wantB S 131072 facts=0:=by unfold wantB;rw [if_neg (by simp [hs]),if_neg (by simp [hr]),if_neg (by decide)]
 obtain ⟨q1,q2,q3⟩:=(builds_law (S:=S) (most:=131072) (facts:=facts) (by omega) ha hz).2.2 h2 (by omega)
 have hard:=(bld_ard q1 ha).1
 rw [q2] at hard
 exact ⟨q1,q2,h1,facts_ok hs hr (by omega) ha,shp_may hs,hard.sm,hle⟩
theorem point_law {S:Sc} {facts:List Fct} (hB:SmallB S facts) (hs:scE S=0) (hw:WideP facts) (hm:∀ f ∈ facts,WAg 1 f.2) {w:List (Int×Int)} (hl:w.length=S.dims.length) (hv:WayV (shpS S) (liftsS S) w) :
  ((List.range facts.length).filter (matchP (liftsS S) facts 0 w)=[]→pointP (docD S facts).N w=(ag0,10)) ∧
  ((List.range facts.length).filter (matchP (liftsS S) facts 0 w)≠[]→∃ b,sumP facts ag0 ((List.range facts.length).filter (matchP (liftsS S) facts 0 w))=some b∧pointP (docD S facts).N w=(b,0)):=by
 have hs1:=(scE_zero hs).1
 have hLl:(liftsS S).length=S.dims.length:=by unfold liftsS;rw [List.length_map]
 by_cases hne:facts=[]
 ·have hd:docD S facts=⟨[],[],false⟩:=by unfold docD;rw [if_pos hne]
  have hp:(List.range facts.length).filter (matchP (liftsS S) facts 0 w)=[]:=by rw [hne];rfl
  rw [hp,hd]
  exact ⟨fun _=>rfl,fun h=>absurd rfl h⟩
 ·obtain ⟨t1,t2,t3⟩:=doc_top hs hne
  have hw0:w≠[]:=fun h=>by rw [h] at hl;simp at hl;omega
  have hWF:WayF (shpS S) (liftsS S) 0 w:=wayF_of fun k hk=>by rw [Nat.zero_add];exact hv k hk
  obtain ⟨a1,a2⟩:=along_law hB.fok hB.doc w ((docD S facts).N.length - 1) 0 0 cel0 hw0 (by omega) (by omega) t2 hWF
  rw [t3] at a1 a2
  have hcast:(((docD S facts).N.length - 1:Nat):Int)=((docD S facts).N.length:Int) - 1:=by omega
  rw [hcast] at a1 a2
  have hP:pointP (docD S facts).N w=((alongP (docD S facts).N (((docD S facts).N.length:Int) - 1) 0 0 cel0 w).1,(alongP (docD S facts).N (((docD S facts).N.length:Int) - 1) 0 0 cel0 w).2.2):=by unfold pointP;rw [if_neg (by omega)]
  rw [hP]
  refine ⟨fun h=>by rw [(a1 h).1,(a1 h).2],fun h=>?_⟩
  obtain ⟨b,hb,_⟩:=sumP_wide hm ((List.range facts.length).filter (matchP (liftsS S) facts 0 w)) ag0 0 wag0 (by have:=List.length_filter_le (matchP (liftsS S) facts 0 w) (List.range facts.length);rw [List.length_range] at this;have:=hw.1;omega) (fun i hi=>by simpa using (List.mem_filter.1 hi).1)
  obtain ⟨c1,c2⟩:=a2 h
  rw [hb] at c1
  exact ⟨b,hb,by rw [c1,c2];rfl⟩
set_option maxRecDepth 10000 in
set_option maxHeartbeats 8000000 in
theorem tells_walk (S:Sc) (facts:List Fct) (H:AHeap) (ha:∀ f ∈ facts,AgIn f.2):Sound Tryz.prog 4 [.agg (eSc S),.sl .no (rF facts)] H fun r _=>r=.b true:=by
 obtain ⟨f0,f1,f2,f3⟩:=eSc_facts S
 have g1:(H.alloc (.cells (eSc S) 25)).get H.next=some (.cells (eSc S) 25):=AHeap.get_alloc_self
 have hx0:AHeap.Ext H (H.alloc (.cells (eSc S) 25)):=(AHeap.Ext.refl H).alloc
 refine fn_soundQ hE cf4 (Nat.le_of_ble_eq_true rfl) fun Q hQr hQn=>?_
 ((have hd:=trivial;repeat' (first|((first|apply GdK_st|apply GdK_sf|apply CondK_s)<;>intro hd<;>(try simp only [hd]))|simp (disch:=first|assumption|omega|(simp only [nx]<;>omega)|fail) only [hd,hQr,hQn,c4_0,↓YA,YB,YC,YE,YF,YZ,sevalprocAttr,f0,f3]))<;>(try (have hd_:True:=hd;clear hd_ hd)))
 refine CallK.use (light_sound .no S facts _) ?_
 rintro r H1 ⟨hx1,b,rfl,hb⟩
 have g1:=hx1.ext.get _ _ g1
 have hx1:=hx0.trans hx1.ext
 cases b with
 | false =>
  ((have hd:=trivial;repeat' (first|((first|apply GdK_st|apply GdK_sf|apply CondK_s)<;>intro hd<;>(try simp only [hd]))|simp (disch:=first|assumption|omega|(simp only [nx]<;>omega)|fail) only [hd,hQr,hQn,c4_0,↓YA,YB,YC,YE,YF,YZ,sevalprocAttr]))<;>(try (have hd_:True:=hd;clear hd_ hd)))
  refine CallK.use (awake26_sound _) ?_
  rintro r H2 ⟨rfl,hx2⟩
  ((have hd:=trivial;repeat' (first|((first|apply GdK_st|apply GdK_sf|apply CondK_s)<;>intro hd<;>(try simp only [hd]))|simp (disch:=first|assumption|omega|(simp only [nx]<;>omega)|fail) only [hd,hQr,hQn,c4_0,↓YA,YB,YC,YE,YF,YZ,sevalprocAttr]))<;>(try (have hd_:True:=hd;clear hd_ hd)))
  exact fin_keep rfl
 | true =>
 obtain ⟨hfs,h5,hfl⟩:=hb rfl
 have hS:smallS S:=fun d hd t ht=>by have:=((hfs.2 d hd).2 t ht).2;unfold smallT;omega
 have hdt:∀ d ∈ S.dims,d.tiers.length≤1000000:=fun d hd=>by have:=(hfs.2 d hd).1;omega
 by_cases h1:scE S=0
 ·by_cases h2:rowF (shpS S) none facts=0
  ·have d0:((0:Int) != 0)=false:=rfl
   ((have hd:=trivial;repeat' (first|((first|apply GdK_st|apply GdK_sf|apply CondK_s)<;>intro hd<;>(try simp only [hd]))|simp (disch:=first|assumption|omega|(simp only [nx]<;>omega)|fail) only [hd,hQr,hQn,c4_0,↓YA,YB,YC,YE,YF,YZ,sevalprocAttr,g1,f0,f3]))<;>(try (have hd_:True:=hd;clear hd_ hd)))
   (refine CallK.use (rsch_sound S _ hS) ?_;rintro _ _ ⟨rfl,k1,rfl⟩)
   ((have hd:=trivial;repeat' (first|((first|apply GdK_st|apply GdK_sf|apply CondK_s)<;>intro hd<;>(try simp only [hd]))|simp (disch:=first|assumption|omega|(simp only [nx]<;>omega)|fail) only [hd,hQr,hQn,c4_0,↓YA,YB,YC,YE,YF,YZ,sevalprocAttr,g1,f0,f3,h1]))<;>(try (have hd_:True:=hd;clear hd_ hd)))
   (refine CallK.use (rshape_sound S _ (by omega) hdt) ?_;rintro _ _ ⟨rfl,k2,rfl⟩)
   ((have hd:=trivial;repeat' (first|((first|apply GdK_st|apply GdK_sf|apply CondK_s)<;>intro hd<;>(try simp only [hd]))|simp (disch:=first|assumption|omega|(simp only [nx]<;>omega)|fail) only [hd,hQr,hQn,c4_0,↓YA,YB,YC,YE,YF,YZ,sevalprocAttr]))<;>(try (have hd_:True:=hd;clear hd_ hd)))
   (refine CallK.use (rrowf_sound .no (shpS S) facts _ (by omega) (by unfold shpS;simp;omega)) ?_;rintro _ _ ⟨rfl,k3,rfl⟩)
   ((have hd:=trivial;repeat' (first|((first|apply GdK_st|apply GdK_sf|apply CondK_s)<;>intro hd<;>(try simp only [hd]))|simp (disch:=first|assumption|omega|(simp only [nx]<;>omega)|fail) only [hd,hQr,hQn,c4_0,↓YA,YB,YC,YE,YF,YZ,sevalprocAttr,h2]))<;>(try (have hd_:True:=hd;clear hd_ hd)))
   refine CallK.use (wide_sound .no facts _ (by omega)) ?_
   rintro r H2 ⟨hx2,b,rfl,hw⟩
   have g1:=hx2.ext.get _ _ ((((AHeap.Ext.refl H1).bump).bump).bump.get _ _ g1)
   have hx2:=((hx1.bump).bump).bump.trans hx2.ext
   cases b with
   | false =>
    ((have hd:=trivial;repeat' (first|((first|apply GdK_st|apply GdK_sf|apply CondK_s)<;>intro hd<;>(try simp only [hd]))|simp (disch:=first|assumption|omega|(simp only [nx]<;>omega)|fail) only [hd,hQr,hQn,c4_0,↓YA,YB,YC,YE,YF,YZ,sevalprocAttr]))<;>(try (have hd_:True:=hd;clear hd_ hd)))
    refine CallK.use (awake26_sound _) ?_
    rintro r H2 ⟨rfl,hx2⟩
    ((have hd:=trivial;repeat' (first|((first|apply GdK_st|apply GdK_sf|apply CondK_s)<;>intro hd<;>(try simp only [hd]))|simp (disch:=first|assumption|omega|(simp only [nx]<;>omega)|fail) only [hd,hQr,hQn,c4_0,↓YA,YB,YC,YE,YF,YZ,sevalprocAttr]))<;>(try (have hd_:True:=hd;clear hd_ hd)))
    exact fin_keep rfl
   | true =>
   have hw:=hw rfl
   have hB:=small_built h1 h2 ha hw h5 hfl
   have hm:∀ f ∈ facts,WAg 1 f.2:=hw.wag (m:=(shpS S).measures) fun f hf=>(factE_zero (rowF_zero h2 f hf)).2.2
   have hbs:=fun G=>build_sound .no S 131072 facts G hS (by omega) (fun q1 q2 q3 _=>facts_ok q1 q2 q3 ha)
   unfold BuildQ at hbs
   rw [hB.e,hB.l] at hbs
   ((have hd:=trivial;repeat' (first|((first|apply GdK_st|apply GdK_sf|apply CondK_s)<;>intro hd<;>(try simp only [hd]))|simp (disch:=first|assumption|omega|(simp only [nx]<;>omega)|fail) only [hd,hQr,hQn,c4_0,↓YA,YB,YC,YE,YF,YZ,sevalprocAttr,g1,f0,f3]))<;>(try (have hd_:True:=hd;clear hd_ hd)))
   refine CallK.use (hbs _) ?_
   rintro r H3 ⟨hx3,hr⟩
   rcases hr with ⟨e1,rfl⟩|⟨_,ia,rfl,hA⟩
   ·exact absurd rfl e1
   have g1:=hx3.get _ _ g1
   have hx3:=hx2.trans hx3
   ((have hd:=trivial;repeat' (first|((first|apply GdK_st|apply GdK_sf|apply CondK_s)<;>intro hd<;>(try simp only [hd]))|simp (disch:=first|assumption|omega|(simp only [nx]<;>omega)|fail) only [hd,hQr,hQn,c4_0,↓YA,YB,YC,YE,YF,YZ,sevalprocAttr,g1,f0,f3]))<;>(try (have hd_:True:=hd;clear hd_ hd)))
   refine CallK.use (ways_sound S _ h1) ?_
   rintro r H4 ⟨W,hW1,hW2,rfl,k4,rfl⟩
   have hpl:=fun w hw1 hw2=>point_law hB h1 hw hm (w:=w) hw1 hw2
   have hsr:=srch_of hB.fok hB.doc
   have hms:=fun w (hv:WayV (shpS S) (liftsS S) w) (hl:w.length=S.dims.length) G=>matches_sound h1 h2 .no .no w G hv (by omega) (by omega)
   have hsum:=fun part (hp:∀ i ∈ part,i<facts.length) (hpl:part.length≤1000000) G=>rsum_sound .no .no facts part G hp hpl ha
   have hwx:=fun w (hl:w.length=S.dims.length) (hv:WayV (shpS S) (liftsS S) w)=>wayX_of hB.fok (w:=w) (by rw [hl];unfold liftsS;rw [List.length_map]) (wayF_of fun k hk=>by rw [Nat.zero_add];exact hv k hk)
   have hsm:=hB.sm
   have hmay:=hB.may
   have hlen:=hB.len
   generalize (docD S facts).N=N at *
   have hpt:=fun w (hl:w.length=S.dims.length) (hv:WayV (shpS S) (liftsS S) w) G (hA:ArA G ia (shpS S) N)=>point_sound .no w hA hmay hsm hsr (by omega) (hwx w hl hv)
   clear hB hwx
   have g1:(H3.bump k4).get H.next=some (.cells (eSc S) 25):=g1
   have hx4:AHeap.Ext H (H3.bump k4):=hx3.bump
   have hA4:ArA (H3.bump k4) ia (shpS S) N:=hA.ext (AHeap.Ext.refl H3).bump
   generalize H3.bump k4=G0 at *
   ((have hd:=trivial;repeat' (first|((first|apply GdK_st|apply GdK_sf|apply CondK_s)<;>intro hd<;>(try simp only [hd]))|simp (disch:=first|assumption|omega|(simp only [nx]<;>omega)|fail) only [hd,hQr,hQn,c4_0,↓YA,YB,YC,YE,YF,YZ,sevalprocAttr,List.length_map]))<;>(try (have hd_:True:=hd;clear hd_ hd)))
   refine AW_forI (N:=W.length) (fun k F G=>Fr.get F 47=.i (k:Int)∧Fr.get F 46=.i (W.length:Int)∧Fr.get F 45=.sl .no (W.map fun w=>[AV.sl .no (rW w)])∧Fr.get F 1=.sl .no (rF facts)∧Fr.get F 2=.ptr H.next 0∧Fr.get F 5=.ptr ia 0∧G.get H.next=some (.cells (eSc S) 25)∧ArA G ia (shpS S) N) (by unfold maxLen;omega) (fun k F G h=>⟨h.1,h.2.1⟩) (GStep.refl _ _)
    ⟨rfl,rfl,rfl,rfl,rfl,rfl,g1,hA4⟩ ?_ ?_
   ·rintro k F G hk ⟨f47,f46,f45,f1',f2',f5,g1,hA⟩
    have hrow:(W.map fun w=>[AV.sl .no (rW w)])[k]?=some [.sl .no (rW W[k])]:=by simp [hk]
    obtain ⟨w1,w2⟩:=hW2 _ (List.getElem_mem hk)
    have h0:(0:Int)≤(k:Int):=by omega
    generalize W[k]=w at *
    obtain ⟨p1,p2⟩:=hpl w w1 w2
    have hM:=hms w w2 w1
    have hpl2:=List.length_filter_le (matchP (liftsS S) facts 0 w) (List.range facts.length)
    rw [List.length_range] at hpl2
    have hsm2:=hsum ((List.range facts.length).filter (matchP (liftsS S) facts 0 w)) (fun i hi=>by simpa using (List.mem_filter.1 hi).1) (by omega)
    generalize (List.range facts.length).filter (matchP (liftsS S) facts 0 w)=part at *
    have ez1:scs [.int .i64,.int .i64,.int .i64,.int .i64,.int .i64,.int .i64,.int .i64,.int .i64,.int .i64,.int .i64] [AV.sc (.int .i64 0),.sc (.int .i64 0),.sc (.int .i64 0),.sc (.int .i64 0),.sc (.int .i64 0),.sc (.int .i64 0),.sc (.int .i64 0),.sc (.int .i64 0),.sc (.int .i64 0),.sc (.int .i64 0)]=some (vAg ag0):=rfl
    ((have hd:=trivial;repeat' (first|((first|apply GdK_st|apply GdK_sf|apply CondK_s)<;>intro hd<;>(try simp only [hd]))|simp (disch:=first|assumption|omega|(simp only [nx]<;>omega)|fail) only [hd,hQr,hQn,c4_0,↓YA,YB,YC,YE,YF,YZ,sevalprocAttr,f47,f46,f45,f1',f2',f5,hrow,h0,hk]))<;>(try (have hd_:True:=hd;clear hd_ hd)))
    refine CallK.use (hpt w w1 w2 _ hA) ?_
    rintro r G2 ⟨hx,rfl⟩
    have g1:=hx.get _ _ g1
    have hA2:=hA.ext hx
    have l1:=AHeap.lt g1
    by_cases hp:part=[]
    ·rw [p1 hp]
     have dd:decide (ag0=ag0)=true:=decide_eq_true rfl
     subst hp
     have d00:(((0:Nat):Int) == 0)=true:=rfl
     ((have hd:=trivial;repeat' (first|((first|apply GdK_st|apply GdK_sf|apply CondK_s)<;>intro hd<;>(try simp only [hd]))|simp (disch:=first|assumption|omega|(simp only [nx]<;>omega)|fail) only [hd,hQr,hQn,c4_0,↓YA,YB,YC,YE,YF,YZ,sevalprocAttr,f47,f46,f45,f1',f2',f5,g1,f0,f3]))<;>(try (have hd_:True:=hd;clear hd_ hd)))
     (refine CallK.use (hM _) ?_;rintro _ _ ⟨rfl,k5,rfl⟩)
     ((have hd:=trivial;repeat' (first|((first|apply GdK_st|apply GdK_sf|apply CondK_s)<;>intro hd<;>(try simp only [hd]))|simp (disch:=first|assumption|omega|(simp only [nx]<;>omega)|fail) only [hd,hQr,hQn,c4_0,↓YA,YB,YC,YE,YF,YZ,sevalprocAttr,f47,f46,f45,f1',f2',f5,List.map_nil,List.length_nil,ez1,dd,d00]))<;>(try (have hd_:True:=hd;clear hd_ hd)))
     exact ⟨g1,hA2.ext (by exact AXT)⟩
    ·obtain ⟨b,hb,hpb⟩:=p2 hp
     rw [hpb]
     have dd:decide (b=b)=true:=decide_eq_true rfl
     have dl:((part.length:Int) == 0)=false:=by
      have:=List.length_pos_iff.2 hp
      rw [beq_eq_false_iff_ne];omega
     rw [hb] at hsm2
     unfold joinV at hsm2
     ((have hd:=trivial;repeat' (first|((first|apply GdK_st|apply GdK_sf|apply CondK_s)<;>intro hd<;>(try simp only [hd]))|simp (disch:=first|assumption|omega|(simp only [nx]<;>omega)|fail) only [hd,hQr,hQn,c4_0,↓YA,YB,YC,YE,YF,YZ,sevalprocAttr,f47,f46,f45,f1',f2',f5,g1,f0,f3]))<;>(try (have hd_:True:=hd;clear hd_ hd)))
     (refine CallK.use (hM _) ?_;rintro _ _ ⟨rfl,k5,rfl⟩)
     ((have hd:=trivial;repeat' (first|((first|apply GdK_st|apply GdK_sf|apply CondK_s)<;>intro hd<;>(try simp only [hd]))|simp (disch:=first|assumption|omega|(simp only [nx]<;>omega)|fail) only [hd,hQr,hQn,c4_0,↓YA,YB,YC,YE,YF,YZ,sevalprocAttr,f47,f46,f45,f1',f2',f5,List.length_map,dl]))<;>(try (have hd_:True:=hd;clear hd_ hd)))
     (refine CallK.use (hsm2 _) ?_;rintro _ _ ⟨rfl,k6,rfl⟩)
     ((have hd:=trivial;repeat' (first|((first|apply GdK_st|apply GdK_sf|apply CondK_s)<;>intro hd<;>(try simp only [hd]))|simp (disch:=first|assumption|omega|(simp only [nx]<;>omega)|fail) only [hd,hQr,hQn,c4_0,↓YA,YB,YC,YE,YF,YZ,sevalprocAttr,f47,f46,f45,f1',f2',f5,Option.getD_some,Option.isSome_some,dd]))<;>(try (have hd_:True:=hd;clear hd_ hd)))
     exact ⟨g1,hA2.ext (by exact AXT)⟩
   ·rintro F G ⟨f47,f46,f45,f1',f2',f5,g1,hA⟩
    ((have hd:=trivial;repeat' (first|((first|apply GdK_st|apply GdK_sf|apply CondK_s)<;>intro hd<;>(try simp only [hd]))|simp (disch:=first|assumption|omega|(simp only [nx]<;>omega)|fail) only [hd,hQr,hQn,c4_0,↓YA,YB,YC,YE,YF,YZ,sevalprocAttr]))<;>(try (have hd_:True:=hd;clear hd_ hd)))
    refine CallK.use (awake26_sound _) ?_
    rintro r H2 ⟨rfl,hx2⟩
    ((have hd:=trivial;repeat' (first|((first|apply GdK_st|apply GdK_sf|apply CondK_s)<;>intro hd<;>(try simp only [hd]))|simp (disch:=first|assumption|omega|(simp only [nx]<;>omega)|fail) only [hd,hQr,hQn,c4_0,↓YA,YB,YC,YE,YF,YZ,sevalprocAttr]))<;>(try (have hd_:True:=hd;clear hd_ hd)))
    exact fin_keep rfl
  ·have d2:(rowF (shpS S) none facts != 0)=true:=by simpa using h2
   ((have hd:=trivial;repeat' (first|((first|apply GdK_st|apply GdK_sf|apply CondK_s)<;>intro hd<;>(try simp only [hd]))|simp (disch:=first|assumption|omega|(simp only [nx]<;>omega)|fail) only [hd,hQr,hQn,c4_0,↓YA,YB,YC,YE,YF,YZ,sevalprocAttr,g1,f0,f3]))<;>(try (have hd_:True:=hd;clear hd_ hd)))
   (refine CallK.use (rsch_sound S _ hS) ?_;rintro _ _ ⟨rfl,k1,rfl⟩)
   ((have hd:=trivial;repeat' (first|((first|apply GdK_st|apply GdK_sf|apply CondK_s)<;>intro hd<;>(try simp only [hd]))|simp (disch:=first|assumption|omega|(simp only [nx]<;>omega)|fail) only [hd,hQr,hQn,c4_0,↓YA,YB,YC,YE,YF,YZ,sevalprocAttr,g1,f0,f3,h1]))<;>(try (have hd_:True:=hd;clear hd_ hd)))
   (refine CallK.use (rshape_sound S _ (by omega) hdt) ?_;rintro _ _ ⟨rfl,k2,rfl⟩)
   ((have hd:=trivial;repeat' (first|((first|apply GdK_st|apply GdK_sf|apply CondK_s)<;>intro hd<;>(try simp only [hd]))|simp (disch:=first|assumption|omega|(simp only [nx]<;>omega)|fail) only [hd,hQr,hQn,c4_0,↓YA,YB,YC,YE,YF,YZ,sevalprocAttr]))<;>(try (have hd_:True:=hd;clear hd_ hd)))
   (refine CallK.use (rrowf_sound .no (shpS S) facts _ (by omega) (by unfold shpS;simp;omega)) ?_;rintro _ _ ⟨rfl,k3,rfl⟩)
   ((have hd:=trivial;repeat' (first|((first|apply GdK_st|apply GdK_sf|apply CondK_s)<;>intro hd<;>(try simp only [hd]))|simp (disch:=first|assumption|omega|(simp only [nx]<;>omega)|fail) only [hd,hQr,hQn,c4_0,↓YA,YB,YC,YE,YF,YZ,sevalprocAttr,d2]))<;>(try (have hd_:True:=hd;clear hd_ hd)))
   refine CallK.use (awake26_sound _) ?_
   rintro r H4 ⟨rfl,hx4⟩
   ((have hd:=trivial;repeat' (first|((first|apply GdK_st|apply GdK_sf|apply CondK_s)<;>intro hd<;>(try simp only [hd]))|simp (disch:=first|assumption|omega|(simp only [nx]<;>omega)|fail) only [hd,hQr,hQn,c4_0,↓YA,YB,YC,YE,YF,YZ,sevalprocAttr]))<;>(try (have hd_:True:=hd;clear hd_ hd)))
   exact fin_keep rfl
 ·have d2:(scE S != 0)=true:=by simpa using h1
  ((have hd:=trivial;repeat' (first|((first|apply GdK_st|apply GdK_sf|apply CondK_s)<;>intro hd<;>(try simp only [hd]))|simp (disch:=first|assumption|omega|(simp only [nx]<;>omega)|fail) only [hd,hQr,hQn,c4_0,↓YA,YB,YC,YE,YF,YZ,sevalprocAttr,g1,f0,f3]))<;>(try (have hd_:True:=hd;clear hd_ hd)))
  (refine CallK.use (rsch_sound S _ hS) ?_;rintro _ _ ⟨rfl,k1,rfl⟩)
  ((have hd:=trivial;repeat' (first|((first|apply GdK_st|apply GdK_sf|apply CondK_s)<;>intro hd<;>(try simp only [hd]))|simp (disch:=first|assumption|omega|(simp only [nx]<;>omega)|fail) only [hd,hQr,hQn,c4_0,↓YA,YB,YC,YE,YF,YZ,sevalprocAttr,d2]))<;>(try (have hd_:True:=hd;clear hd_ hd)))
  refine CallK.use (awake26_sound _) ?_
  rintro r H4 ⟨rfl,hx4⟩
  ((have hd:=trivial;repeat' (first|((first|apply GdK_st|apply GdK_sf|apply CondK_s)<;>intro hd<;>(try simp only [hd]))|simp (disch:=first|assumption|omega|(simp only [nx]<;>omega)|fail) only [hd,hQr,hQn,c4_0,↓YA,YB,YC,YE,YF,YZ,sevalprocAttr]))<;>(try (have hd_:True:=hd;clear hd_ hd)))
  exact fin_keep rfl
end Go.Proofs.YtaapiigfmdhobaaGreat
