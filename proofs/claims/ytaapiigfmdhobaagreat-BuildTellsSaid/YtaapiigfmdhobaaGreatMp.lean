/- Texts of the walk, joined: Hc Hd Na Ne Ob. -/
import Derived.Test.YtaapiigfmdhobaaGreatMo
import Derived.Test.YtaapiigfmdhobaaGreatMj
namespace Go.Proofs.YtaapiigfmdhobaaGreat
set_option linter.unusedSimpArgs false
set_option linter.unusedVariables false
open Go.RowKit
def newE (x:Shp) (most:Int):Int:=if shpMay x=true∧0≤most∧most≤131072 then 0 else 2
def bldN (S:Sc) (most:Int) (facts:List Fct):BSt:=(nodeB (shpS S) (liftsS S) facts most (liftsS S).length ⟨[],[],0⟩ (List.range facts.length)).1
def bldE (S:Sc) (most:Int) (facts:List Fct):Int :=
 if scE S≠0 then scE S else if rowF (shpS S) none facts≠0 then rowF (shpS S) none facts else if (facts.length:Int) > 4000 then 6 else if newE (shpS S) most≠0 then 2 else if facts=[] then 0 else (bldN S most facts).e
def bldL (S:Sc) (most:Int) (facts:List Fct):List Nod:=if facts=[] then [] else (bldN S most facts).N
def BuildQ (S:Sc) (most:Int) (facts:List Fct) (H:AHeap) (r:AV) (H':AHeap):Prop :=
 AHeap.Ext H H'∧((bldE S most facts≠0∧r=.tup [.sc (.pointer none),.i (bldE S most facts)])∨(bldE S most facts=0∧∃ id,r=.tup [.ptr id 0,.i 0]∧ArA H' id (shpS S) (bldL S most facts)))
theorem dimsF_zero:∀ {l:List Dm} {seen:List Tx},dimsF seen l=0→∀ d ∈ l,dimE d=0
 | [],_,_,d,h=>by cases h
 | c :: r,seen,h,d,hd=>by
  unfold dimsF at h
  split at h
  ·rename_i h1;exact absurd h h1
  ·rename_i h1
   split at h
   ·omega
   ·rcases List.mem_cons.1 hd with rfl|hd
    ·exact Classical.not_not.1 h1
    ·exact dimsF_zero h d hd
theorem scE_zero {S:Sc} (h:scE S=0):1≤S.dims.length∧S.dims.length≤16∧(∀ d ∈ S.dims,dimE d=0)∧measE S.meas=0:=by
 unfold scE at h
 split at h
 ·omega
 ·rename_i h1
  split at h
  ·rename_i h2;exact absurd h h2
  ·rename_i h2
   exact ⟨by omega,by omega,dimsF_zero (Classical.not_not.1 h2),h⟩
theorem dimF_zero:∀ {l:List Tr} {seen:List Tx},dimF seen l=0→∀ k (h:k<l.length),tierE l[k] (aboveL (l.drop (k+1)))=0
 | [],_,_,k,h=>by simp at h
 | t :: r,seen,h,k,hk=>by
  unfold dimF at h
  split at h
  ·rename_i h1;exact absurd h h1
  ·rename_i h1
   split at h
   ·omega
   ·cases k with
    | zero=>simpa using Classical.not_not.1 h1
    | succ k=>simpa using dimF_zero h k (by simpa using hk)
theorem dimE_zero {d:Dm} (h:dimE d=0):1≤d.tiers.length∧d.tiers.length≤4∧∀ k (h:k<d.tiers.length),tierE d.tiers[k] (aboveL (d.tiers.drop (k+1)))=0:=by
 unfold dimE at h
 split at h
 ·omega
 ·split at h
  ·omega
  ·exact ⟨by omega,by omega,dimF_zero h⟩
theorem tierE_zero {t:Tr} {a:Int} (h:tierE t a=0):1≤t.terms.length∧t.terms.length≤200∧treeB t.up t.terms.length a=true:=by
 unfold tierE at h
 split at h
 ·omega
 ·split at h
  ·omega
  ·rename_i h2
   split at h
   ·rename_i h1;exact absurd h h1
   ·split at h
    ·omega
    ·rename_i h3
     exact ⟨by omega,by omega,by simpa using h3⟩
theorem scE_tiers {S:Sc} (h:scE S=0):∀ d ∈ S.dims,d.tiers.length≤1000000∧n0 d≤1000000:=fun d hd=>by
 obtain ⟨h1,h2,h3⟩:=dimE_zero ((scE_zero h).2.2.1 d hd)
 refine ⟨by omega,?_⟩
 have:=tierE_zero (h3 0 (by omega))
 unfold n0
 rw [List.getElem?_eq_getElem (by omega)]
 simp only [Option.map_some,Option.getD_some]
 omega
set_option maxHeartbeats 4000000 in
theorem build_sound (t:Tok) (S:Sc) (most:Int) (facts:List Fct) (H:AHeap) (hS:smallS S) (hl:facts.length≤1000000) (hF:scE S=0→rowF (shpS S) none facts=0→facts.length≤4000→shpMay (shpS S)=true→FactsOk (shpS S) (liftsS S) facts) :
  Sound Tryz.prog 12 [.agg (eSc S),.i most,.sl t (rF facts)] H (BuildQ S most facts H):=by
 obtain ⟨f0,f1,f2,f3⟩:=eSc_facts S
 obtain ⟨x0,x1,x2,x3⟩:=eShp_facts (shpS S)
 have xd:(eShp (shpS S)).drop 2=[]:=rfl
 by_cases h1:scE S=0
 ·obtain ⟨b1,b2,b3,b4⟩:=scE_zero h1
  have hxl:(shpS S).sizes.length≤1000000:=by unfold shpS;simp;omega
  have hT:=scE_tiers h1
  have hshp:∀ G,Sound Tryz.prog 49 [.agg (eSc S)] G (Pure G (.agg (eShp (shpS S)))):=fun G=>shape_sound S G (by omega) (fun d hd=>(hT d hd).1)
  by_cases h2:rowF (shpS S) none facts=0
  ·by_cases h3:(facts.length:Int) > 4000
   ·have hv:bldE S most facts=6:=by unfold bldE;rw [if_neg (by simp [h1]),if_neg (by simp [h2]),if_pos h3]
    have d3:decide ((facts.length:Int) > 4000)=true:=decide_eq_true h3
    unfold BuildQ
    rw [hv]
    refine fn_soundQ hE cf12 (Nat.le_of_ble_eq_true rfl) fun Q hQr hQn=>?_
    ((have hd:=trivial;repeat' (first|((first|apply GdK_st|apply GdK_sf|apply CondK_s)<;>intro hd<;>(try simp only [hd]))|simp (disch:=first|assumption|omega|(simp only [nx]<;>omega)|fail) only [hd,hQr,hQn,c12_0,↓YA,YB,YC,YE,YF,YZ,sevalprocAttr,f0,f3]))<;>(try (have hd_:True:=hd;clear hd_ hd)))
    (refine CallK.use (sch_sound S _ hS) ?_;rintro _ _ ⟨rfl,k1,rfl⟩)
    ((have hd:=trivial;repeat' (first|((first|apply GdK_st|apply GdK_sf|apply CondK_s)<;>intro hd<;>(try simp only [hd]))|simp (disch:=first|assumption|omega|(simp only [nx]<;>omega)|fail) only [hd,hQr,hQn,c12_0,↓YA,YB,YC,YE,YF,YZ,sevalprocAttr,f0,f3,h1]))<;>(try (have hd_:True:=hd;clear hd_ hd)))
    (refine CallK.use (hshp _) ?_;rintro _ _ ⟨rfl,k2,rfl⟩)
    ((have hd:=trivial;repeat' (first|((first|apply GdK_st|apply GdK_sf|apply CondK_s)<;>intro hd<;>(try simp only [hd]))|simp (disch:=first|assumption|omega|(simp only [nx]<;>omega)|fail) only [hd,hQr,hQn,c12_0,↓YA,YB,YC,YE,YF,YZ,sevalprocAttr,x0,x3,xd,List.append_nil]))<;>(try (have hd_:True:=hd;clear hd_ hd)))
    (refine CallK.use (frow_sound t (shpS S) facts _ hl hxl) ?_;rintro _ _ ⟨rfl,k3,rfl⟩)
    ((have hd:=trivial;repeat' (first|((first|apply GdK_st|apply GdK_sf|apply CondK_s)<;>intro hd<;>(try simp only [hd]))|simp (disch:=first|assumption|omega|(simp only [nx]<;>omega)|fail) only [hd,hQr,hQn,c12_0,↓YA,YB,YC,YE,YF,YZ,sevalprocAttr,h2,d3,List.length_map]))<;>(try (have hd_:True:=hd;clear hd_ hd)))
    exact fin_keep ⟨by exact AXT,by first|exact .inl ⟨by decide,rfl⟩|exact .inl rfl⟩
   ·have d3:decide ((facts.length:Int) > 4000)=false:=decide_eq_false h3
    have hH:∀ k1 k2 k3,AHeap.Ext H ((((((H.alloc (.cells (eSc S) 25)).bump k1).bump k2).alloc (.cells (eShp (shpS S)) 37)).bump k3)):=fun k1 k2 k3=>by exact AXT
    by_cases h4:shpMay (shpS S)=true∧0≤most∧most≤131072
    ·have hn:newE (shpS S) most=0:=if_pos h4
     by_cases h5:facts=[]
     ·have hv:bldE S most facts=0:=by unfold bldE;rw [if_neg (by simp [h1]),if_neg (by simp [h2]),if_neg h3,if_neg (by simp [hn]),if_pos h5]
      have hw:bldL S most facts=[]:=by unfold bldL;rw [if_pos h5]
      have d5:((facts.length:Int) == 0)=true:=by rw [h5];rfl
      unfold BuildQ
      rw [hv,hw]
      refine fn_soundQ hE cf12 (Nat.le_of_ble_eq_true rfl) fun Q hQr hQn=>?_
      ((have hd:=trivial;repeat' (first|((first|apply GdK_st|apply GdK_sf|apply CondK_s)<;>intro hd<;>(try simp only [hd]))|simp (disch:=first|assumption|omega|(simp only [nx]<;>omega)|fail) only [hd,hQr,hQn,c12_0,↓YA,YB,YC,YE,YF,YZ,sevalprocAttr,f0,f3]))<;>(try (have hd_:True:=hd;clear hd_ hd)))
      (refine CallK.use (sch_sound S _ hS) ?_;rintro _ _ ⟨rfl,k1,rfl⟩)
      ((have hd:=trivial;repeat' (first|((first|apply GdK_st|apply GdK_sf|apply CondK_s)<;>intro hd<;>(try simp only [hd]))|simp (disch:=first|assumption|omega|(simp only [nx]<;>omega)|fail) only [hd,hQr,hQn,c12_0,↓YA,YB,YC,YE,YF,YZ,sevalprocAttr,f0,f3,h1]))<;>(try (have hd_:True:=hd;clear hd_ hd)))
      (refine CallK.use (hshp _) ?_;rintro _ _ ⟨rfl,k2,rfl⟩)
      ((have hd:=trivial;repeat' (first|((first|apply GdK_st|apply GdK_sf|apply CondK_s)<;>intro hd<;>(try simp only [hd]))|simp (disch:=first|assumption|omega|(simp only [nx]<;>omega)|fail) only [hd,hQr,hQn,c12_0,↓YA,YB,YC,YE,YF,YZ,sevalprocAttr,x0,x3,xd,List.append_nil]))<;>(try (have hd_:True:=hd;clear hd_ hd)))
      (refine CallK.use (frow_sound t (shpS S) facts _ hl hxl) ?_;rintro _ _ ⟨rfl,k3,rfl⟩)
      ((have hd:=trivial;repeat' (first|((first|apply GdK_st|apply GdK_sf|apply CondK_s)<;>intro hd<;>(try simp only [hd]))|simp (disch:=first|assumption|omega|(simp only [nx]<;>omega)|fail) only [hd,hQr,hQn,c12_0,↓YA,YB,YC,YE,YF,YZ,sevalprocAttr,h2,d3,x0,x3,List.length_map]))<;>(try (have hd_:True:=hd;clear hd_ hd)))
      refine CallK.use (new_sound (shpS S) most _) ?_
      rintro r G ⟨hx,hr⟩
      rw [if_pos h4] at hr
      obtain ⟨oid,tok,rfl,ho1,ho2⟩:=hr
      ((have hd:=trivial;repeat' (first|((first|apply GdK_st|apply GdK_sf|apply CondK_s)<;>intro hd<;>(try simp only [hd]))|simp (disch:=first|assumption|omega|(simp only [nx]<;>omega)|fail) only [hd,hQr,hQn,c12_0,↓YA,YB,YC,YE,YF,YZ,sevalprocAttr,d5,List.length_map]))<;>(try (have hd_:True:=hd;clear hd_ hd)))
      exact fin_keep ⟨(hH k1 k2 k3).trans hx,.inr ⟨oid,rfl,tok,.full,most,ho2⟩⟩
     ·have d5:((facts.length:Int) == 0)=false:=by
       have:facts.length≠0:=fun h=>h5 (List.eq_nil_of_length_eq_zero h)
       simp only [beq_eq_false_iff_ne];omega
      have hv:bldE S most facts=(bldN S most facts).e:=by unfold bldE;rw [if_neg (by simp [h1]),if_neg (by simp [h2]),if_neg h3,if_neg (by simp [hn]),if_neg h5]
      have hw:bldL S most facts=(bldN S most facts).N:=by unfold bldL;rw [if_neg h5]
      have hok:=hF h1 h2 (by omega) h4.1
      unfold BuildQ
      rw [hv,hw]
      have hlf:∀ G,Sound Tryz.prog 52 [.agg (eSc S)] G (Pure G (.sl .no (rIII (liftsS S)))):=fun G=>lifts_sound S G (by omega) hT
      have hbn:bldN S most facts=(nodeB (shpS S) (liftsS S) facts most (liftsS S).length ⟨[],[],0⟩ (List.range facts.length)).1:=rfl
      have hLl:(liftsS S).length=S.dims.length:=by unfold liftsS;rw [List.length_map]
      generalize liftsS S=L at *
      have hnode:∀ mg oid tk mid tok tf tl,NodK mg oid tk mid (shpS S) tok tf tl L facts most (nodeB (shpS S) L facts most L.length) 0:=fun mg oid tk mid tok tf tl=>by
       have:=bnode_sound (mg:=mg) (oid:=oid) (tk:=tk) (mid:=mid) (tok:=tok) (tf:=tf) (tl:=tl) (most:=most) hok h4.1 (L.length - 1) (by omega)
       rw [show L.length - 1+1=L.length by omega,Nat.sub_self] at this
       exact this
      have hpo:PartOk facts (List.range facts.length):=⟨by simp;exact h5,by simp,fun i hi=>by simpa using hi⟩
      refine fn_soundQ hE cf12 (Nat.le_of_ble_eq_true rfl) fun Q hQr hQn=>?_
      ((have hd:=trivial;repeat' (first|((first|apply GdK_st|apply GdK_sf|apply CondK_s)<;>intro hd<;>(try simp only [hd]))|simp (disch:=first|assumption|omega|(simp only [nx]<;>omega)|fail) only [hd,hQr,hQn,c12_0,↓YA,YB,YC,YE,YF,YZ,sevalprocAttr,f0,f3]))<;>(try (have hd_:True:=hd;clear hd_ hd)))
      (refine CallK.use (sch_sound S _ hS) ?_;rintro _ _ ⟨rfl,k1,rfl⟩)
      ((have hd:=trivial;repeat' (first|((first|apply GdK_st|apply GdK_sf|apply CondK_s)<;>intro hd<;>(try simp only [hd]))|simp (disch:=first|assumption|omega|(simp only [nx]<;>omega)|fail) only [hd,hQr,hQn,c12_0,↓YA,YB,YC,YE,YF,YZ,sevalprocAttr,f0,f3,h1]))<;>(try (have hd_:True:=hd;clear hd_ hd)))
      (refine CallK.use (hshp _) ?_;rintro _ _ ⟨rfl,k2,rfl⟩)
      ((have hd:=trivial;repeat' (first|((first|apply GdK_st|apply GdK_sf|apply CondK_s)<;>intro hd<;>(try simp only [hd]))|simp (disch:=first|assumption|omega|(simp only [nx]<;>omega)|fail) only [hd,hQr,hQn,c12_0,↓YA,YB,YC,YE,YF,YZ,sevalprocAttr,x0,x3,xd,List.append_nil]))<;>(try (have hd_:True:=hd;clear hd_ hd)))
      (refine CallK.use (frow_sound t (shpS S) facts _ hl hxl) ?_;rintro _ _ ⟨rfl,k3,rfl⟩)
      ((have hd:=trivial;repeat' (first|((first|apply GdK_st|apply GdK_sf|apply CondK_s)<;>intro hd<;>(try simp only [hd]))|simp (disch:=first|assumption|omega|(simp only [nx]<;>omega)|fail) only [hd,hQr,hQn,c12_0,↓YA,YB,YC,YE,YF,YZ,sevalprocAttr,h2,d3,x0,x3,List.length_map]))<;>(try (have hd_:True:=hd;clear hd_ hd)))
      refine CallK.use (new_sound (shpS S) most _) ?_
      rintro r G ⟨hx,hr⟩
      rw [if_pos h4] at hr
      obtain ⟨oid,tok,rfl,ho1,ho2⟩:=hr
      have hs3:G.get H.next=some (.cells (eSc S) 25):=hx.get _ _ (by
       rw [AHeap.get_bump,AHeap.get_alloc_ne (by simp only [nx];omega),AHeap.get_bump,AHeap.get_bump]
       exact AHeap.get_alloc_self)
      ((have hd:=trivial;repeat' (first|((first|apply GdK_st|apply GdK_sf|apply CondK_s)<;>intro hd<;>(try simp only [hd]))|simp (disch:=first|assumption|omega|(simp only [nx]<;>omega)|fail) only [hd,hQr,hQn,c12_0,↓YA,YB,YC,YE,YF,YZ,sevalprocAttr,d5,hs3,f0,f3,List.length_map]))<;>(try (have hd_:True:=hd;clear hd_ hd)))
      (refine CallK.use (hlf _) ?_;rintro _ _ ⟨rfl,k4,rfl⟩)
      ((have hd:=trivial;repeat' (first|((first|apply GdK_st|apply GdK_sf|apply CondK_s)<;>intro hd<;>(try simp only [hd]))|simp (disch:=first|assumption|omega|(simp only [nx]<;>omega)|fail) only [hd,hQr,hQn,c12_0,↓YA,YB,YC,YE,YF,YZ,sevalprocAttr,d5,hs3,f0,f3,List.length_map]))<;>(try (have hd_:True:=hd;clear hd_ hd)))
      have hgo:=AHeap.lt ho2
      have hHG:=((hH k1 k2 k3).trans hx).next
      refine AW_forI (N:=facts.length) (fun k F S2=>Fr.get F 54=.i (k:Int)∧Fr.get F 53=.i (facts.length:Int)∧Fr.get F 11=.ptr oid 0∧Fr.get F 13=.ptr (G.next+k4+1) 0∧Fr.get F 14=.sl (.own (G.next+k4+1+1+1)) (rP (List.range k)) ∧
       Bld (G.next+k4+1) oid (G.next+k4+1+1) (G.next+k4) (shpS S) tok t .no L facts most ⟨[],[],0⟩ S2∧S2.get (G.next+k4+1+1+1)=some (.tok k 3 1)∧AHeap.Ext H S2) (by unfold maxLen;omega) (fun k F G h=>⟨h.1,h.2.1⟩)
       (((GStep.tokCell oid 2 117 115 14 (cs:=eAr (shpS S) tok (.sl .full []) most) (by rw [AHeap.get_alloc_ne (by simp only [nx];omega),AHeap.get_alloc_ne (by simp only [nx];omega),AHeap.get_bump];exact ho2) rfl).trans (GStep.tok 14 3 1 rfl)).trans (GStep.fr (F':=[(54,.i ((0:Nat):Int)),(53,.i (facts.length:Int)),(11,.ptr oid 0),(13,.ptr (G.next+k4+1) 0),(14,.sl (.own (G.next+k4+1+1+1)) [])]) (by simp [Fr.get,Fr.put,nx]))) ?_ ?_ ?_
      ·refine ⟨rfl,rfl,rfl,rfl,rfl,⟨?_,⟨by omega,?_,?_⟩,?_,?_,h4.2.2⟩,AHeap.get_alloc_self,?_⟩
       ·rw [AHeap.get_alloc_ne (by simp only [nx];omega),AHeap.get_alloc_ne (by simp only [nx];omega),AHeap.get_set_ne (by omega)]
        exact AHeap.get_alloc_self (H:=(G.bump k4).alloc _)
       ·rw [AHeap.get_alloc_ne (by simp only [nx];omega),AHeap.get_alloc_ne (by simp only [nx];omega),AHeap.get_set_self (by simp only [nx];omega)]
        rfl
       ·rw [AHeap.get_alloc_ne (by simp only [nx];omega)]
        exact AHeap.get_alloc_self (H:=AHeap.set _ _ _)
       ·rw [AHeap.get_alloc_ne (by simp only [nx];omega),AHeap.get_alloc_ne (by simp only [nx];omega),AHeap.get_set_ne (by omega),AHeap.get_alloc_ne (by simp only [nx];omega)]
        exact AHeap.get_alloc_self (H:=G.bump k4)
       ·exact h4.2.1
       ·have hxG:=(hH k1 k2 k3).trans hx
        have hxn:=(hH k1 k2 k3).next
        exact (((((hxG.bump).alloc).alloc).set (by omega)).alloc).alloc
      ·rintro k F S2 hk ⟨f54,f53,f11,f13,f14,hB,ht,hx2⟩
       have lt:=AHeap.lt ht
       have la1:allLen 1 (rP (List.range k))=true:=allLen_map (f:=fun i:Nat=>[AV.i (i:Int)]) (fun _=>rfl) _
       have la2:allLen 1 [[AV.i (k:Int)]]=true:=rfl
       have lm1:k+1≤maxLen:=by unfold maxLen;omega
       have lm2:(k+1) * 8≤140737488355328:=by omega
       have hrl:(rP (List.range k)).length=k:=by simp
       have hrs:rP (List.range k)++[[AV.i (k:Int)]]=rP (List.range (k+1)):=by rw [List.range_succ];simp
       ((have hd:=trivial;repeat' (first|((first|apply GdK_st|apply GdK_sf|apply CondK_s)<;>intro hd<;>(try simp only [hd]))|simp (disch:=first|assumption|omega|(simp only [nx]<;>omega)|fail) only [hd,hQr,hQn,c12_0,↓YA,YB,YC,YE,YF,YZ,sevalprocAttr,f54,f53,f11,f13,f14,ht,la1,la2,lm1,lm2,hrl,hrs,rowsIn,rowsOf,List.length_map]))<;>(try (have hd_:True:=hd;clear hd_ hd)))
       exact ⟨⟨by rw [AHeap.get_set_ne (by omega)];exact hB.o,⟨hB.out.ne,by rw [AHeap.get_set_ne (by omega)];exact hB.out.cell,by rw [AHeap.get_set_ne (by omega)];exact hB.out.row⟩,by rw [AHeap.get_set_ne (by omega)];exact hB.mp,hB.few,hB.most⟩,hx2.set (by omega)⟩
      ·rintro F S2 ⟨f54,f53,f11,f13,f14,hB,ht,hx2⟩
       ((have hd:=trivial;repeat' (first|((first|apply GdK_st|apply GdK_sf|apply CondK_s)<;>intro hd<;>(try simp only [hd]))|simp (disch:=first|assumption|omega|(simp only [nx]<;>omega)|fail) only [hd,hQr,hQn,c12_0,↓YA,YB,YC,YE,YF,YZ,sevalprocAttr,f54,f53,f11,f13,f14]))<;>(try (have hd_:True:=hd;clear hd_ hd)))
       refine CallK.use (hnode _ _ _ _ _ _ _ ⟨[],[],0⟩ _ (.own (G.next+k4+1+1+1)) S2 hpo hB) ?_
       rintro r S3 ⟨rfl,hx3,hB3⟩
       rw [← hbn] at hB3
       have h03:=hB3.o
       have hoid:H.next≤oid:=Nat.le_trans (hH k1 k2 k3).next ho1
       have hx4:AHeap.Ext H S3:=⟨Nat.le_trans hx2.next hx3.next,fun i o hi=>hx3.get _ _ (by have:=AHeap.lt hi;simp only [List.mem_cons,List.not_mem_nil,or_false];omega) (hx2.get _ _ hi)⟩
       by_cases h6:(bldN S most facts).e=0
       ·have d6:((bldN S most facts).e != 0)=false:=by simpa using h6
        ((have hd:=trivial;repeat' (first|((first|apply GdK_st|apply GdK_sf|apply CondK_s)<;>intro hd<;>(try simp only [hd]))|simp (disch:=first|assumption|omega|(simp only [nx]<;>omega)|fail) only [hd,hQr,hQn,c12_0,↓YA,YB,YC,YE,YF,YZ,sevalprocAttr,f54,f53,f11,f13,f14,h03,d6]))<;>(try (have hd_:True:=hd;clear hd_ hd)))
        exact fin_keep ⟨hx4,.inr ⟨h6,oid,rfl,hB3.out.ara⟩⟩
       ·have d6:((bldN S most facts).e != 0)=true:=by simpa using h6
        ((have hd:=trivial;repeat' (first|((first|apply GdK_st|apply GdK_sf|apply CondK_s)<;>intro hd<;>(try simp only [hd]))|simp (disch:=first|assumption|omega|(simp only [nx]<;>omega)|fail) only [hd,hQr,hQn,c12_0,↓YA,YB,YC,YE,YF,YZ,sevalprocAttr,f54,f53,f11,f13,f14,h03,d6]))<;>(try (have hd_:True:=hd;clear hd_ hd)))
        exact fin_keep ⟨hx4,.inl ⟨h6,rfl⟩⟩
    ·have hn:newE (shpS S) most=2:=if_neg h4
     have hv:bldE S most facts=2:=by unfold bldE;rw [if_neg (by simp [h1]),if_neg (by simp [h2]),if_neg h3,if_pos (by simp [hn])]
     unfold BuildQ
     rw [hv]
     refine fn_soundQ hE cf12 (Nat.le_of_ble_eq_true rfl) fun Q hQr hQn=>?_
     ((have hd:=trivial;repeat' (first|((first|apply GdK_st|apply GdK_sf|apply CondK_s)<;>intro hd<;>(try simp only [hd]))|simp (disch:=first|assumption|omega|(simp only [nx]<;>omega)|fail) only [hd,hQr,hQn,c12_0,↓YA,YB,YC,YE,YF,YZ,sevalprocAttr,f0,f3]))<;>(try (have hd_:True:=hd;clear hd_ hd)))
     (refine CallK.use (sch_sound S _ hS) ?_;rintro _ _ ⟨rfl,k1,rfl⟩)
     ((have hd:=trivial;repeat' (first|((first|apply GdK_st|apply GdK_sf|apply CondK_s)<;>intro hd<;>(try simp only [hd]))|simp (disch:=first|assumption|omega|(simp only [nx]<;>omega)|fail) only [hd,hQr,hQn,c12_0,↓YA,YB,YC,YE,YF,YZ,sevalprocAttr,f0,f3,h1]))<;>(try (have hd_:True:=hd;clear hd_ hd)))
     (refine CallK.use (hshp _) ?_;rintro _ _ ⟨rfl,k2,rfl⟩)
     ((have hd:=trivial;repeat' (first|((first|apply GdK_st|apply GdK_sf|apply CondK_s)<;>intro hd<;>(try simp only [hd]))|simp (disch:=first|assumption|omega|(simp only [nx]<;>omega)|fail) only [hd,hQr,hQn,c12_0,↓YA,YB,YC,YE,YF,YZ,sevalprocAttr,x0,x3,xd,List.append_nil]))<;>(try (have hd_:True:=hd;clear hd_ hd)))
     (refine CallK.use (frow_sound t (shpS S) facts _ hl hxl) ?_;rintro _ _ ⟨rfl,k3,rfl⟩)
     ((have hd:=trivial;repeat' (first|((first|apply GdK_st|apply GdK_sf|apply CondK_s)<;>intro hd<;>(try simp only [hd]))|simp (disch:=first|assumption|omega|(simp only [nx]<;>omega)|fail) only [hd,hQr,hQn,c12_0,↓YA,YB,YC,YE,YF,YZ,sevalprocAttr,h2,d3,x0,x3,List.length_map]))<;>(try (have hd_:True:=hd;clear hd_ hd)))
     refine CallK.use (new_sound (shpS S) most _) ?_
     rintro r G ⟨hx,hr⟩
     rw [if_neg h4] at hr
     subst hr
     ((have hd:=trivial;repeat' (first|((first|apply GdK_st|apply GdK_sf|apply CondK_s)<;>intro hd<;>(try simp only [hd]))|simp (disch:=first|assumption|omega|(simp only [nx]<;>omega)|fail) only [hd,hQr,hQn,c12_0,↓YA,YB,YC,YE,YF,YZ,sevalprocAttr]))<;>(try (have hd_:True:=hd;clear hd_ hd)))
     exact fin_keep ⟨(hH k1 k2 k3).trans hx,by first|exact .inl ⟨by decide,rfl⟩|exact .inl rfl⟩
  ·have hv:bldE S most facts=rowF (shpS S) none facts:=by unfold bldE;rw [if_neg (by simp [h1]),if_pos h2]
   have d2:(rowF (shpS S) none facts != 0)=true:=by simpa using h2
   unfold BuildQ
   rw [hv]
   refine fn_soundQ hE cf12 (Nat.le_of_ble_eq_true rfl) fun Q hQr hQn=>?_
   ((have hd:=trivial;repeat' (first|((first|apply GdK_st|apply GdK_sf|apply CondK_s)<;>intro hd<;>(try simp only [hd]))|simp (disch:=first|assumption|omega|(simp only [nx]<;>omega)|fail) only [hd,hQr,hQn,c12_0,↓YA,YB,YC,YE,YF,YZ,sevalprocAttr,f0,f3]))<;>(try (have hd_:True:=hd;clear hd_ hd)))
   (refine CallK.use (sch_sound S _ hS) ?_;rintro _ _ ⟨rfl,k1,rfl⟩)
   ((have hd:=trivial;repeat' (first|((first|apply GdK_st|apply GdK_sf|apply CondK_s)<;>intro hd<;>(try simp only [hd]))|simp (disch:=first|assumption|omega|(simp only [nx]<;>omega)|fail) only [hd,hQr,hQn,c12_0,↓YA,YB,YC,YE,YF,YZ,sevalprocAttr,f0,f3,h1]))<;>(try (have hd_:True:=hd;clear hd_ hd)))
   (refine CallK.use (hshp _) ?_;rintro _ _ ⟨rfl,k2,rfl⟩)
   ((have hd:=trivial;repeat' (first|((first|apply GdK_st|apply GdK_sf|apply CondK_s)<;>intro hd<;>(try simp only [hd]))|simp (disch:=first|assumption|omega|(simp only [nx]<;>omega)|fail) only [hd,hQr,hQn,c12_0,↓YA,YB,YC,YE,YF,YZ,sevalprocAttr,x0,x3,xd,List.append_nil]))<;>(try (have hd_:True:=hd;clear hd_ hd)))
   (refine CallK.use (frow_sound t (shpS S) facts _ hl hxl) ?_;rintro _ _ ⟨rfl,k3,rfl⟩)
   ((have hd:=trivial;repeat' (first|((first|apply GdK_st|apply GdK_sf|apply CondK_s)<;>intro hd<;>(try simp only [hd]))|simp (disch:=first|assumption|omega|(simp only [nx]<;>omega)|fail) only [hd,hQr,hQn,c12_0,↓YA,YB,YC,YE,YF,YZ,sevalprocAttr,d2]))<;>(try (have hd_:True:=hd;clear hd_ hd)))
   exact fin_keep ⟨by exact AXT,.inl ⟨h2,rfl⟩⟩
 ·have hv:bldE S most facts=scE S:=by unfold bldE;rw [if_pos h1]
  have d1:(scE S != 0)=true:=by simpa using h1
  unfold BuildQ
  rw [hv]
  refine fn_soundQ hE cf12 (Nat.le_of_ble_eq_true rfl) fun Q hQr hQn=>?_
  ((have hd:=trivial;repeat' (first|((first|apply GdK_st|apply GdK_sf|apply CondK_s)<;>intro hd<;>(try simp only [hd]))|simp (disch:=first|assumption|omega|(simp only [nx]<;>omega)|fail) only [hd,hQr,hQn,c12_0,↓YA,YB,YC,YE,YF,YZ,sevalprocAttr,f0,f3]))<;>(try (have hd_:True:=hd;clear hd_ hd)))
  (refine CallK.use (sch_sound S _ hS) ?_;rintro _ _ ⟨rfl,k1,rfl⟩)
  ((have hd:=trivial;repeat' (first|((first|apply GdK_st|apply GdK_sf|apply CondK_s)<;>intro hd<;>(try simp only [hd]))|simp (disch:=first|assumption|omega|(simp only [nx]<;>omega)|fail) only [hd,hQr,hQn,c12_0,↓YA,YB,YC,YE,YF,YZ,sevalprocAttr,d1]))<;>(try (have hd_:True:=hd;clear hd_ hd)))
  exact fin_keep ⟨by exact AXT,.inl ⟨h1,rfl⟩⟩
theorem treeB_in {t:Tr} {a:Int} (h:treeB t.up t.terms.length a=true) (ha:1≤a):t.up.length=t.terms.length∧∀ n ∈ t.up,0≤n∧n<a:=by
 unfold treeB at h
 rw [if_neg (by omega)] at h
 split at h
 ·cases h
 ·rename_i h1
  rw [Bool.and_eq_true] at h
  refine ⟨by omega,fun n hn=>?_⟩
  have:=List.all_eq_true.1 h.1 n hn
  unfold inU at this
  simp at this
  omega
theorem ups_in:∀ {l:List Tr},(∀ k (h:k<l.length),tierE l[k] (aboveL (l.drop (k+1)))=0)→∀ (to:Nat) (h:to<l.length) (i:Int),0≤i→i<((l[0]'(by omega)).terms.length:Int)→0≤ups (l.take to) i∧ups (l.take to) i<(l[to].terms.length:Int)
 | [],_,to,h,_,_,_=>by simp at h
 | t :: r,hl,0,h,i,h1,h2=>⟨h1,h2⟩
 | t :: r,hl,to+1,h,i,h1,h2=>by
  have hr:to<r.length:=by simpa using h
  have h0:=hl 0 (by simp)
  obtain ⟨_,_,h3⟩:=tierE_zero h0
  have hab:aboveL ((t :: r).drop (0+1))=((r[0]'(by omega)).terms.length:Int):=by
   cases r with
   | nil=>simp at hr
   | cons u r=>rfl
  have hr0:=tierE_zero (show tierE (r[0]'(by omega)) (aboveL (r.drop (0+1)))=0 from hl 1 (by simp;omega))
  have h3':treeB t.up t.terms.length ((r[0]'(by omega)).terms.length:Int)=true:=by rw [← hab];exact h3
  obtain ⟨h4,h5⟩:=treeB_in h3' (by omega)
  have h2':i<(t.terms.length:Int):=h2
  have hi:i.toNat<t.up.length:=by omega
  have h6:=h5 _ (List.getElem_mem hi)
  have hov:overT t i=t.up[i.toNat]:=by
   unfold overT
   rw [if_neg (by omega)]
   simp [hi]
  have e:ups ((t :: r).take (to+1)) i=ups (r.take to) (overT t i):=by
   rw [List.take_succ_cons,ups,if_pos (by omega)]
  rw [e,hov]
  exact ups_in (fun k hk=>hl (k+1) (by simpa using hk)) to hr _ h6.1 h6.2
theorem liftD_in {d:Dm} (h:dimE d=0) {to i:Nat} (ht:to<d.tiers.length) (hi:i<n0 d):0≤liftD d to i∧liftD d to i<(d.tiers[to].terms.length:Int):=by
 obtain ⟨h1,h2,h3⟩:=dimE_zero h
 have hn:n0 d=(d.tiers[0]'(by omega)).terms.length:=by unfold n0;rw [List.getElem?_eq_getElem (by omega)];rfl
 have:=ups_in h3 to ht i (by omega) (by omega)
 unfold liftD bot
 rw [if_neg (by omega)]
 exact this
theorem rowF_zero {x:Shp}:∀ {l:List Fct} {w:Option Fct},rowF x w l=0→∀ f ∈ l,factE x f=0
 | [],_,_,f,h=>by cases h
 | c :: r,w,h,f,hf=>by
  rw [rowF_cons] at h
  split at h
  ·rename_i h1;exact absurd h h1
  ·rename_i h1
   split at h
   ·omega
   ·rcases List.mem_cons.1 hf with rfl|hf
    ·exact Classical.not_not.1 h1
    ·exact rowF_zero h f hf
theorem keysF_zero:∀ {ks:List Int} {ss:List (List Int)},keysF ks ss=0→∀ (d:Nat) (h:d<ks.length),0≤ks[d]∧ks[d]<(ss.getD d []).headD 0
 | [],_,_,d,h=>by simp at h
 | _ :: _,[],h,_,_=>by simp [keysF] at h
 | k :: ks,s :: ss,h,d,hd=>by
  unfold keysF at h
  split at h
  ·omega
  ·cases d with
   | zero=>simp;simp at *;omega
   | succ d=>simpa using keysF_zero h d (by simpa using hd)
theorem factE_zero {x:Shp} {f:Fct} (h:factE x f=0):f.1.length=x.sizes.length∧keysF f.1 x.sizes=0∧aggMay x.measures f.2=true:=by
 unfold factE at h
 split at h
 ·omega
 ·rename_i h1
  split at h
  ·rename_i h2;exact absurd h h2
  ·rename_i h2
   split at h
   ·omega
   ·rename_i h3
    exact ⟨by omega,Classical.not_not.1 h2,by simpa using h3⟩
theorem facts_ok {S:Sc} {facts:List Fct} (hs:scE S=0) (hr:rowF (shpS S) none facts=0) (hf:facts.length≤4000) (ha:∀ f ∈ facts,AgIn f.2):FactsOk (shpS S) (liftsS S) facts:=by
 obtain ⟨s1,s2,s3,_⟩:=scE_zero hs
 have hl:(liftsS S).length=S.dims.length:=by unfold liftsS;simp
 have hx:(shpS S).sizes.length=S.dims.length:=by unfold shpS;simp
 have hsz:∀ d (h:d<S.dims.length),(shpS S).sizes.getD d []=S.dims[d].tiers.map szT:=fun d h=>by unfold shpS;simp [h]
 have hL:∀ d (h:d<(liftsS S).length),(liftsS S)[d]=liftsD (S.dims[d]'(by omega)):=fun d h=>List.getElem_map ..
 have hT:∀ d (h:d<(liftsS S).length) t (ht:t<(liftsS S)[d].length),(liftsS S)[d][t]=mapD (S.dims[d]'(by omega)) t:=fun d h t ht=>by simp [hL d h,liftsD]
 have hD:∀ d (h:d<S.dims.length),dimE S.dims[d]=0:=fun d h=>s3 _ (List.getElem_mem h)
 have hTl:∀ d (h:d<(liftsS S).length),(liftsS S)[d].length=(S.dims[d]'(by omega)).tiers.length:=fun d h=>by rw [hL d h];simp [liftsD]
 have hN:∀ d (h:d<S.dims.length) t (ht:t<S.dims[d].tiers.length),tierN (shpS S) d t=S.dims[d].tiers[t].terms.length:=fun d h t ht=>by
  unfold tierN
  rw [hsz d h]
  simp [ht,szT]
 refine ⟨hf,by omega,by omega,ha,fun f hm=>?_,fun d h=>?_,fun f hm d h t ht=>?_,fun d t=>?_⟩
 ·have:=(factE_zero (rowF_zero hr f hm)).1;omega
 ·have hd:d<S.dims.length:=by omega
  obtain ⟨h1,h2,_⟩:=dimE_zero (hD d hd)
  have:=hTl d h
  rw [hsz d hd,List.length_map]
  omega
 ·have hd:d<S.dims.length:=by omega
  obtain ⟨k1,k2,k3⟩:=factE_zero (rowF_zero hr f hm)
  obtain ⟨h1,h2,h3⟩:=dimE_zero (hD d hd)
  have hdf:d<f.1.length:=by omega
  have hk:=keysF_zero k2 d hdf
  rw [hsz d hd] at hk
  have hn:n0 S.dims[d]=(S.dims[d].tiers[0]'(by omega)).terms.length:=by unfold n0;rw [List.getElem?_eq_getElem (by omega)];rfl
  have hh:(S.dims[d].tiers.map szT).headD 0=(n0 S.dims[d]:Int):=by
   rw [hn]
   have:∀ l:List Tr,∀ h:0<l.length,(l.map szT).headD 0=((l[0]).terms.length:Int):=fun l h=>by
    cases l with
    | nil=>simp at h
    | cons a r=>rfl
   exact this _ (by omega)
  rw [hh] at hk
  have ht':t<S.dims[d].tiers.length:=by have:=hTl d h;omega
  have hm1:(mapD S.dims[d] t).length=n0 S.dims[d]:=by unfold mapD;simp
  refine ⟨f.1[d].toNat,by simp [hdf];omega,?_⟩
  rw [hN d hd t ht']
  have hlt:f.1[d].toNat<n0 S.dims[d]:=by omega
  refine ⟨by rw [hT d h t ht,hm1];exact hlt,?_⟩
  have e:(liftsS S)[d][t][f.1[d].toNat]'(by rw [hT d h t ht,hm1];exact hlt)=liftD S.dims[d] t f.1[d].toNat:=by
   simp only [hT d h t ht]
   simp [mapD]
  rw [e]
  exact liftD_in (hD d hd) ht' hlt
 ·by_cases h:d<S.dims.length
  ·by_cases ht:t<S.dims[d].tiers.length
   ·rw [hN d h t ht]
    obtain ⟨_,_,h3⟩:=dimE_zero (hD d h)
    exact (tierE_zero (h3 t ht)).2.1
   ·unfold tierN
    rw [hsz d h]
    simp [Nat.le_of_not_lt ht]
  ·unfold tierN
   have e:(shpS S).sizes.getD d []=[]:=by rw [List.getD_eq_getElem?_getD,List.getElem?_eq_none (by omega)];rfl
   rw [e]
   simp
structure Ard (x:Shp) (l:List Nod):Prop where
 may:shpMay x=true
 sm:∀ n ∈ l,smallN n
 len:l.length≤200000
 dim:∀ n ∈ l,0≤n.dim∧n.dim<x.sizes.length
 led:∀ (k:Nat) (h:k<l.length),l[k].dim<(x.sizes.length:Int) - 1→∀ c ∈ each l[k],0≤c.child∧c.child<k
theorem HX.quiet {O:List (Nat×AObj)} {H G G1:AHeap} (h:HX O H G) (k:HX [] G G1):HX O H G1 :=
 ⟨Nat.le_trans h.n k.n,fun p hp=>(k.g _ (AHeap.lt (h.o p hp)) (by simp)).trans (h.o p hp),fun j hj hne=>(k.g _ (Nat.lt_of_lt_of_le hj h.n) (by simp)).trans (h.g j hj hne)⟩
def cntN (n:Nod):Nat:=n.lists.flatten.length+1
def capT (n:Int):Int:=if 1125899906842624<n then 1125899906842624 else n
def treeF (out:List Int) (n:Nod) (inner:Bool):Int:=if inner=true then (each n).foldl (fun s c=>capT (s+out.getD c.child.toNat 0)) (cntN n) else cntN n
def treesL (x:Shp) (l:List Nod):List Int:=l.foldl (fun out n=>out++[treeF out n (decide (n.dim<(x.sizes.length:Int) - 1))]) []
@[simp] theorem treesL_nil (x:Shp):treesL x []=[]:=rfl
theorem treesL_snoc {x:Shp} {l:List Nod} {k:Nat} (h:k<l.length):treesL x (l.take (k+1))=treesL x (l.take k)++[treeF (treesL x (l.take k)) l[k] (decide (l[k].dim<(x.sizes.length:Int) - 1))]:=by
 rw [List.take_succ_eq_append_getElem h,treesL,List.foldl_append];rfl
theorem ard_of {x:Shp} {most:Int} {l:List Nod} (hm:shpMay x=true) (hs:∀ n ∈ l,smallN n) (hl:l.length≤200000) (ha:∀ i (hi:i<l.length),addErr x most (l.take i) l[i]=0):Ard x l:=by
 refine ⟨hm,hs,hl,fun n hn=>?_,fun k hk hd c hc=>?_⟩
 ·obtain ⟨i,hi,rfl⟩:=List.getElem_of_mem hn
  have:=check_dim (add_zero' (ha i hi)).1
  exact ⟨this.1,this.2.1⟩
 ·have hb:lastB x l[k].dim=false:=by unfold lastB;rw [beq_eq_false_iff_ne];omega
  obtain ⟨h1,h2,_⟩:=add_zero' (ha k hk)
  unfold leadsB at h2
  rw [hb,Bool.false_or,List.all_eq_true] at h2
  have h3:=h2 c hc
  simp only [Bool.and_eq_true,decide_eq_true_eq,List.length_take] at h3
  exact ⟨check_child h1 hb c hc,by omega⟩
def Led (D:Nat) (N:List Nod) (j:Nat):Prop:=∃ (k:Nat) (h:k<N.length),N[k].dim<(D:Int) - 1∧∃ c ∈ each N[k],c.child=(j:Int)
theorem Led.pre {D:Nat} {N N':List Nod} {j:Nat} (h:Led D N j) (hp:N <+: N'):Led D N' j:=by
 obtain ⟨k,hk,h1,h2⟩:=h
 obtain ⟨t,rfl⟩:=hp
 exact ⟨k,by simp;omega,by rw [List.getElem_append_left hk];exact h1,by rw [List.getElem_append_left hk];exact h2⟩
def StR (D:Nat) (last:Bool) (s s':BSt) (cs:List Cel):Prop:=s'.e=0→s.e=0∧s.N <+: s'.N∧∀ j,s.N.length≤j→j<s'.N.length→(last=false∧∃ c ∈ cs,c.child=(j:Int))∨Led D s'.N j
theorem StR.refl (D:Nat) (last:Bool) (s:BSt):StR D last s s []:=fun h=>⟨h,List.prefix_refl _,fun j h1 h2=>by omega⟩
theorem StR.trans {D:Nat} {last:Bool} {s s1 s2:BSt} {cs ds:List Cel} (h:StR D last s s1 cs) (k:StR D last s1 s2 ds):StR D last s s2 (cs++ds):=fun he=>by
 obtain ⟨k1,k2,k3⟩:=k he
 obtain ⟨h1,h2,h3⟩:=h k1
 refine ⟨h1,h2.trans k2,fun j j1 j2=>?_⟩
 by_cases hj:j<s1.N.length
 ·rcases h3 j j1 hj with ⟨a,c,hc,e⟩|h3
  ·exact .inl ⟨a,c,List.mem_append_left _ hc,e⟩
  ·exact .inr (h3.pre k2)
 ·rcases k3 j (by omega) j2 with ⟨a,c,hc,e⟩|k3
  ·exact .inl ⟨a,c,List.mem_append_right _ hc,e⟩
  ·exact .inr k3
theorem cellsU_str {D:Nat} {last:Bool} {g:BSt→Int→List Nat→BSt×Cel} (hg:∀ s k p,StR D last s (g s k p).1 [(g s k p).2]):∀ (l:List (Int×List Nat)) (s:BSt),StR D last s (cellsU g s l).1 (cellsU g s l).2
 | [],s=>show StR D last s s [] from StR.refl D last s
 | p :: ps,s=>(hg s p.1 p.2).trans (cellsU_str hg ps _)
theorem tiersB_str {D:Nat} {last:Bool} {g:BSt→Int→List Nat→BSt×Cel} (hg:∀ s k p,StR D last s (g s k p).1 [(g s k p).2]):∀ (l:List (List (Int×List Nat))) (s:BSt),StR D last s (tiersB g s l).1 (tiersB g s l).2.flatten
 | [],s=>show StR D last s s [] from StR.refl D last s
 | p :: ps,s=>(cellsU_str hg p s).trans (tiersB_str hg ps _)
def NdR (D:Nat) (s s':BSt) (i:Int):Prop:=s'.e=0→s.e=0∧s.N <+: s'.N∧∀ j,s.N.length≤j→j<s'.N.length→(j:Int)=i∨Led D s'.N j
theorem cellB_str {D:Nat} {facts:List Fct} {f:BSt→List Nat→BSt×Int} {last:Bool} (hf:last=false→∀ s p,NdR D s (f s p).1 (f s p).2) (s:BSt) (k:Int) (p:List Nat):StR D last s (cellB facts f last s k p).1 [(cellB facts f last s k p).2]:=by
 cases last with
 | true =>
  have e:cellB facts f true s k p=(sumE s (sumP facts ag0 p),⟨k,0,(sumP facts ag0 p).getD ag0⟩):=rfl
  rw [e]
  cases sumP facts ag0 p with
  | none=>exact fun h=>absurd (show (12:Int)=0 from h) (by decide)
  | some a=>exact fun h=>⟨h,List.prefix_refl _,fun j h1 h2=>absurd (show j<s.N.length from h2) (by omega)⟩
 | false =>
  have e:cellB facts f false s k p=((f s p).1,⟨k,(f s p).2,ag0⟩):=rfl
  rw [e]
  intro h
  obtain ⟨h1,h2,h3⟩:=hf rfl s p h
  exact ⟨h1,h2,fun j j1 j2=>(h3 j j1 j2).elim (fun e=>.inl ⟨rfl,_,List.mem_singleton.2 rfl,e.symm⟩) .inr⟩
theorem nodeF_str {x:Shp} {L:List (List (List Int))} {facts:List Fct} {most:Int} {f:BSt→List Nat→BSt×Int} {d:Nat} (hd:d<L.length) (hf:decide (d+1=L.length)=false→∀ s p,NdR L.length s (f s p).1 (f s p).2) (s:BSt) (p:List Nat):NdR L.length s (nodeF x L facts most f d s p).1 (nodeF x L facts most f d s p).2:=by
 have hg:=cellB_str (facts:=facts) hf
 have ht:=(tiersB_str hg (groupsB x L facts d p) s).trans (hg (tiersB (cellB facts f (decide (d+1=L.length))) s (groupsB x L facts d p)).1 0 p)
 unfold nodeF
 split
 ·exact fun h=>⟨h,List.prefix_refl _,fun j h1 h2=>absurd (show j<s.N.length from h2) (by omega)⟩
 ·split
  ·exact fun h=>⟨h,List.prefix_refl _,fun j h1 h2=>absurd (show j<s.N.length from h2) (by omega)⟩
  ·generalize (cellB facts f (decide (d+1=L.length)) (tiersB (cellB facts f (decide (d+1=L.length))) s (groupsB x L facts d p)).1 0 p)=a at *
   generalize (tiersB (cellB facts f (decide (d+1=L.length))) s (groupsB x L facts d p)).2=ls at *
   unfold nodeT
   split
   ·rename_i h1;exact fun h=>absurd h h1
   ·rename_i h1
    split
    ·rename_i h2;exact fun h=>absurd h h2
    ·intro _
     obtain ⟨t1,t2,t3⟩:=ht (Classical.not_not.1 h1)
     refine ⟨t1,t2.trans (List.prefix_append _ _),fun j j1 j2=>?_⟩
     simp only [List.length_append,List.length_cons,List.length_nil] at j2
     by_cases hj:j<a.1.N.length
     ·rcases t3 j j1 hj with ⟨hl,c,hc,e⟩|h3
      ·refine .inr ⟨a.1.N.length,by simp,?_,c,?_,e⟩
       ·have hdl:=of_decide_eq_false hl
        simp only [List.getElem_concat_length]
        omega
       ·simp only [List.getElem_concat_length]
        exact hc
      ·exact .inr (h3.pre (List.prefix_append _ _))
     ·exact .inl (by simp only;omega)
theorem nodeB_str {x:Shp} {L:List (List (List Int))} {facts:List Fct} {most:Int}:∀ (n:Nat),n+1≤L.length→∀ s p,NdR L.length s (nodeB x L facts most (n+1) s p).1 (nodeB x L facts most (n+1) s p).2
 | 0,h=>fun s p=>by
  have h3:1≤L.length:=h
  have e:L.length - 1+1=L.length:=by omega
  exact nodeF_str (d:=L.length - 1) (by omega) (fun h2=>absurd e (of_decide_eq_false h2)) s p
 | n+1,h=>fun s p=>nodeF_str (d:=L.length - (n+1+1)) (by omega) (fun _=>nodeB_str n (by omega)) s p
theorem root_last {x:Shp} {L:List (List (List Int))} {facts:List Fct} {most:Int} (n:Nat) (s:BSt) (p:List Nat) (hM:s.M=[]):(nodeB x L facts most (n+1) s p).1.e=0→(nodeB x L facts most (n+1) s p).2+1=((nodeB x L facts most (n+1) s p).1.N.length:Int):=by
 show (nodeF x L facts most (nodeB x L facts most n) (L.length - (n+1)) s p).1.e=0→(nodeF x L facts most (nodeB x L facts most n) (L.length - (n+1)) s p).2+1=((nodeF x L facts most (nodeB x L facts most n) (L.length - (n+1)) s p).1.N.length:Int)
 unfold nodeF
 rw [hM]
 simp only [aGet]
 split
 ·rename_i h1;exact fun h=>absurd h h1
 ·generalize (cellB facts (nodeB x L facts most n) (decide (L.length - (n+1)+1=L.length)) (tiersB (cellB facts (nodeB x L facts most n) (decide (L.length - (n+1)+1=L.length))) s (groupsB x L facts (L.length - (n+1)) p)).1 0 p)=a
  generalize (tiersB (cellB facts (nodeB x L facts most n) (decide (L.length - (n+1)+1=L.length))) s (groupsB x L facts (L.length - (n+1)) p)).2=ls
  unfold nodeT
  split
  ·rename_i h1;exact fun h=>absurd h h1
  ·split
   ·rename_i h2;exact fun h=>absurd h h2
   ·intro _
    simp
def Grown (x:Shp) (most:Int) (N:List Nod):Prop:=(∀ i (hi:i<N.length),addErr x most (N.take i) N[i]=0)∧∀ n ∈ N,smallN n
theorem Grown.snoc {x:Shp} {most:Int} {N:List Nod} {n:Nod} (h:Grown x most N) (ha:addErr x most N n=0) (hs:smallN n):Grown x most (N++[n]):=by
 refine ⟨fun i hi=>?_,fun m hm=>?_⟩
 ·by_cases hj:i<N.length
  ·rw [List.getElem_append_left hj,List.take_append_of_le_length (by omega)];exact h.1 i hj
  ·simp only [List.length_append,List.length_cons,List.length_nil] at hi
   obtain rfl:i=N.length:=by omega
   rw [List.getElem_concat_length rfl,List.take_append_of_le_length (Nat.le_refl _),List.take_length]
   exact ha
 ·rcases List.mem_append.1 hm with hm|hm
  ·exact h.2 m hm
  ·rw [List.mem_singleton.1 hm];exact hs
theorem cellsU_grown {x:Shp} {most:Int} {g:BSt→Int→List Nat→BSt×Cel} (hg:∀ s k p,Grown x most s.N→Grown x most (g s k p).1.N):∀ (l:List (Int×List Nat)) (s:BSt),Grown x most s.N→Grown x most (cellsU g s l).1.N
 | [],s,h=>h
 | p :: ps,s,h=>cellsU_grown hg ps _ (hg s p.1 p.2 h)
theorem tiersB_grown {x:Shp} {most:Int} {g:BSt→Int→List Nat→BSt×Cel} (hg:∀ s k p,Grown x most s.N→Grown x most (g s k p).1.N):∀ (l:List (List (Int×List Nat))) (s:BSt),Grown x most s.N→Grown x most (tiersB g s l).1.N
 | [],s,h=>h
 | p :: ps,s,h=>tiersB_grown hg ps _ (cellsU_grown hg p s h)
theorem nodeF_grown {x:Shp} {L:List (List (List Int))} {facts:List Fct} {most:Int} {f:BSt→List Nat→BSt×Int} {d:Nat} (hF:FactsOk x L facts) (hd:d<L.length) (hf:∀ s p,Grown x most s.N→Grown x most (f s p).1.N) (s:BSt) (p:List Nat) (h:Grown x most s.N):Grown x most (nodeF x L facts most f d s p).1.N:=by
 have hg:∀ s k p,Grown x most s.N→Grown x most (cellB facts f (decide (d+1=L.length)) s k p).1.N:=fun s k p h=>by
  unfold cellB
  split
  ·unfold sumE
   split<;>exact h
  ·exact hf s p h
 have ht:=hg _ 0 p (tiersB_grown hg (groupsB x L facts d p) s h)
 have hGl:(groupsB x L facts d p).length=L[d].length:=by unfold groupsB;simp [List.getElem?_eq_getElem hd]
 have hll:=tiersB_len (cellB facts f (decide (d+1=L.length))) (groupsB x L facts d p) s
 have hlm:=tiersB_mem (g:=cellB facts f (decide (d+1=L.length))) (m:=200) (groupsB x L facts d p) s (fun t ht=>by
  unfold groupsB at ht
  obtain ⟨k,_,rfl⟩:=List.mem_map.1 ht
  exact Nat.le_trans (grs_len _ _ _) (hF.size d k))
 obtain ⟨t1,t2,t3⟩:=hF.tier d hd
 unfold nodeF
 split
 ·exact h
 ·split
  ·exact h
  ·generalize (cellB facts f (decide (d+1=L.length)) (tiersB (cellB facts f (decide (d+1=L.length))) s (groupsB x L facts d p)).1 0 p)=a at *
   generalize (tiersB (cellB facts f (decide (d+1=L.length))) s (groupsB x L facts d p)).2=ls at *
   unfold nodeT
   split
   ·exact ht
   ·split
    ·exact ht
    ·rename_i h2
     have:=flatB_len hlm
     exact ht.snoc (Classical.not_not.1 h2) ⟨by simp only;omega,by simp only;rw [hll,hGl] at this;omega,fun l hl=>by have:=hlm l hl;omega⟩
theorem nodeB_grown {x:Shp} {L:List (List (List Int))} {facts:List Fct} {most:Int} (hF:FactsOk x L facts):∀ (n:Nat),n≤L.length→∀ s p,Grown x most s.N→Grown x most (nodeB x L facts most n s p).1.N
 | 0,_,s,p,h=>h
 | n+1,hn,s,p,h=>nodeF_grown (d:=L.length - (n+1)) hF (by omega) (fun s p h=>nodeB_grown hF n (by omega) s p h) s p h
end Go.Proofs.YtaapiigfmdhobaaGreat
