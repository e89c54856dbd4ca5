/- Texts of the walk, joined: Ei. -/
import Derived.Test.YtaapiigfmdhobaaGreatNz
import Derived.Test.YtaapiigfmdhobaaGreatMx
import Derived.Test.YtaapiigfmdhobaaGreatMj
namespace Go.Proofs.YtaapiigfmdhobaaGreat
set_option linter.unusedSimpArgs false
set_option linter.unusedVariables false
open Go.RowKit
def ZbZ (S:Sc) (facts:List Fct) (w:List (Int×Int)) (d:Nat):List Nat:=(List.range facts.length).filter (Za9 (Zan S) facts 0 (w.take d))
theorem ZlQ {S:Sc} {facts:List Fct} (hB:ZjH S facts) (hs:scE S=0) {w:List (Int×Int)} (hl:w.length=S.dims.length) (hv:ZgI (Za3 S) (Zan S) w) (hne:ZbZ S facts w w.length≠[]) :
  (Zd6 (Zcn S facts).N (((Zcn S facts).N.length:Int) - 1) 0 w).length=w.length∧∀k,k<w.length→∃m:Nat,(Zd6 (Zcn S facts).N (((Zcn S facts).N.length:Int) - 1) 0 w).getD k 0=(m:Int)∧m<(Zcn S facts).N.length∧((Zcn S facts).N.getD m ZdH).dim=(k:Int)∧(Zcn S facts).P.getD m []=ZbZ S facts w k:=by
 have hs1:=(Zb7 hs).1
 have hLl:(Zan S).length=S.dims.length:=by unfold Zan;rw[List.length_map]
 have hfne:facts≠[]:=fun h=>by unfold ZbZ at hne;rw[h]at hne;exact hne rfl
 obtain⟨t1,t2,t3⟩:=ZmL hs hfne
 have hWF:WayF (Za3 S) (Zan S) 0 w:=ZgT fun k hk=>by rw[Nat.zero_add];exact hv k hk
 have hfull:w.take w.length=w:=List.take_length
 have hne2:((Zcn S facts).P.getD ((Zcn S facts).N.length - 1) []).filter (Za9 (Zan S) facts 0 w)≠[]:=by
  rw[t3];unfold ZbZ at hne;rw[hfull]at hne;exact hne
 have h:=Zl4 hB.fok hB.doc w ((Zcn S facts).N.length - 1) 0 (by omega) (by omega) t2 hWF hne2
 have hcast:(((Zcn S facts).N.length - 1:Nat):Int)=((Zcn S facts).N.length:Int) - 1:=by omega
 rw[hcast,t3]at h
 obtain⟨h1,h2⟩:=h
 refine⟨h1,fun k hk=>?_⟩
 obtain⟨m,m1,m2,m3,m4⟩:=h2 k hk
 exact⟨m,m1,m2,by rw[m3,Nat.zero_add],m4⟩
theorem way_same {S:Sc} {facts:List Fct} (hB:ZjH S facts) (hs:scE S=0) {w v:List (Int×Int)} (hw:w.length=S.dims.length∧ZgI (Za3 S) (Zan S) w) (hwn:ZbZ S facts w w.length≠[]) (hv:v.length=S.dims.length∧ZgI (Za3 S) (Zan S) v) (hvn:ZbZ S facts v v.length≠[]) {d:Nat} (hd:d<S.dims.length) :
  decide (ZbZ S facts w d=ZbZ S facts v d)=((Zd6 (Zcn S facts).N (((Zcn S facts).N.length:Int) - 1) 0 w).getD d 0 == (Zd6 (Zcn S facts).N (((Zcn S facts).N.length:Int) - 1) 0 v).getD d 0):=by
 obtain⟨m,m1,m2,m3,m4⟩:=(ZlQ hB hs hw.1 hw.2 hwn).2 d (by omega)
 obtain⟨n,n1,n2,n3,n4⟩:=(ZlQ hB hs hv.1 hv.2 hvn).2 d (by omega)
 rw[m1,n1,← m4,← n4,Bool.eq_iff_iff]
 simp only[decide_eq_true_eq,beq_iff_eq]
 constructor
 ·intro h
  have:=hB.doc.uniq m n m2 n2 (by rw[m3,n3]) h
  rw[this]
 ·intro h
  have:m=n:=by omega
  rw[this]
abbrev rPl (l:List (List Int)):List (List AV):=l.map fun p=>[AV.sl .no (rI p)]
abbrev rMt (l:List (List (Int×Int))):List (List AV):=l.map fun w=>[AV.sl .no (rW w)]
theorem rP_rI (p:List Nat):rP p=rI (p.map fun i:Nat=>(i:Int)):=by simp
theorem cast_inj {a b:List Nat}:(a.map fun i:Nat=>(i:Int))=(b.map fun i:Nat=>(i:Int)) ↔ a=b:=by
 constructor
 ·intro h
  induction a generalizing b with
  | nil=>cases b with
   | nil=>rfl
   | cons=>simp at h
  | cons x a ih=>cases b with
   | nil=>simp at h
   | cons y b =>
    rw[List.map_cons,List.map_cons]at h
    injection h with h1 h2
    rw[ih h2,show x=y by omega]
 ·exact fun h=>h ▸ rfl
set_option maxRecDepth 10000 in
set_option maxHeartbeats 8000000 in
theorem ZiP {S:Sc} {facts:List Fct} {is:Nat} {Q:AEx→Fr→Zaa→Prop} {F:Fr} {G0:Zaa} {pl:List (List Int)} {t8 t10:Tok} {mt:List (List (Int×Int))} (hlm:pl.length=mt.length) (hml:mt.length≤3000) (hdl:S.dims.length≤1000)
  (hme:∀d,d<S.dims.length→∀i (hi:i<mt.length) k (hk:k<mt.length),decide (ZbZ S facts mt[i] d=ZbZ S facts mt[k] d)=((pl.getD i []).getD d 0 == (pl.getD k []).getD d 0))
  (hpl:∀i (hi:i<pl.length),pl[i].length=S.dims.length) (hmw:∀i (hi:i<mt.length),mt[i].length=S.dims.length)
  (hms:∀i (hi:i<mt.length) d,d≤S.dims.length→∀(t:Tok) G,Zay Tryz.prog 23 [.agg (eSc S),.sl .no (rF facts),.sl t (rW (mt[i].take d))] G (Pure G (.sl .no (rP (ZbZ S facts mt[i] d)))))
  (hpn:∀i (hi:i<mt.length) d,(ZbZ S facts mt[i] d).length≤1000)
  (f1:Fr.get F 1=.sl .no (rF facts)) (f2:Fr.get F 2=.ptr is 0) (f8:Fr.get F 8=.sl t8 (rPl pl)) (f10:Fr.get F 10=.sl t10 (rMt mt)) (f15:Fr.get F 15=.i 1) (gs:G0.get is=some (.cells (eSc S) 25))
  (hQ:∀F G,Q .normal F G):AW Tryz.prog c5_2 Q F G0:=by
 obtain⟨e0,e1,e2,e3⟩:=ZbB S
 have hQr:=trivial
 have hQn:=trivial
 unfold c5_2
 rw[Za8]
 refine Zg1 (fun n F G=>∃d:Nat,n=S.dims.length - d∧Fr.get F 15=.i (d:Int)∧Fr.get F 1=.sl .no (rF facts)∧Fr.get F 2=.ptr is 0∧Fr.get F 8=.sl t8 (rPl pl)∧Fr.get F 10=.sl t10 (rMt mt)∧G.get is=some (.cells (eSc S) 25)) (S.dims.length - 1) (GStep.refl _ _) ⟨1,rfl,f15,f1,f2,f8,f10,gs⟩ ?_
 rintro n F G ⟨d,rfl,f15,f1,f2,f8,f10,gs⟩
 by_cases hd:d<S.dims.length
 ·have d1:decide ((d:Int)<(S.dims.length:Int))=true:=by simp;omega
  have w1:IntKind.i64.wrap ((d:Int)+1)=((d+1:Nat):Int):=by rw[Zaw (by omega) (by omega)];omega
  have hmed:=hme d hd
  have hd0:(0:Int)≤(d:Int):=by omega
  have lgs:=Zaa.lt gs
  ((have hd:=trivial;repeat' (first|((first|apply Zad|apply Zac|apply Zab)<;>intro hd<;>(try simp only[hd]))|simp(disch:=first|assumption|omega|(simp only[nx]<;>omega)|fail)only [hd,hQr,hQn,Zc0,↓YA,YB,YC,YE,YF,YZ,sevalprocAttr,f15,f1,f2,f8,f10,gs,e0,e1,d1,List.length_map]))<;>(try (have hd_:True:=hd;clear hd_ hd)))
  -- the parts
  refine ZbJ (N:=mt.length) (fun k F G2=>Fr.get F 102=.i (k:Int)∧Fr.get F 101=.i (mt.length:Int)∧Fr.get F 100=.sl t10 (rMt mt)∧Fr.get F 15=.i (d:Int)∧Fr.get F 1=.sl .no (rF facts)∧Fr.get F 2=.ptr is 0∧Fr.get F 8=.sl t8 (rPl pl)∧Fr.get F 10=.sl t10 (rMt mt)∧G2.get is=some (.cells (eSc S) 25) ∧
   ∃ps:List (List Nat),Fr.get F 9=.sl (.own G.next) (rPs ps)∧G2.get G.next=some (.tok ps.length 57 1)∧ps.length=k∧∀i (hi:i<ps.length) (hi2:i<mt.length),ps[i]=ZbZ S facts mt[i] d) (by unfold maxLen;omega) (fun k F G h=>⟨h.1,h.2.1⟩)
   ((GStep.tok 9 57 1 rfl).trans (GStep.fr (F':=[(102,.i ((0:Nat):Int)),(101,.i (mt.length:Int)),(100,.sl t10 (rMt mt)),(15,.i (d:Int)),(1,.sl .no (rF facts)),(2,.ptr is 0),(8,.sl t8 (rPl pl)),(10,.sl t10 (rMt mt)),(9,.sl (.own G.next) [])]) (by simp[Fr.get,Fr.put,f15,f1,f2,f8,f10]))) ?_ ?_ ?_
  ·exact⟨rfl,rfl,rfl,rfl,rfl,rfl,rfl,rfl,(Zaa.Zag (by omega)).trans gs,[],rfl,Zaa.Zae,rfl,fun i hi=>absurd hi (Nat.not_lt_zero i)⟩
  ·rintro k F2 G2 hk ⟨f102,f101,f100,f15,f1,f2,f8,f10,gs,ps,f9,gt,hpl2,hps⟩
   have hrow:(rMt mt)[k]?=some [.sl .no (rW mt[k])]:=by simp[hk]
   have hlk:=hmw k hk
   have hM:=hms k hk d (by omega)
   have hln:=hpn k hk d
   have htk:(rW mt[k]).take d=rW (mt[k].take d):=by rw[rW,rW,List.map_take]
   have hdl2:(d:Int)≤(mt[k].length:Int):=by omega
   have hk0:(0:Int)≤(k:Int):=by omega
   have hsl:0≤d∧d≤mt[k].length∧(True∨ZaE 2 (rW mt[k])=true):=⟨Nat.zero_le _,by omega,.inl trivial⟩
   have hps2:∀i (hi:i<(ps++[ZbZ S facts mt[k] d]).length) (hi2:i<mt.length),(ps++[ZbZ S facts mt[k] d])[i]=ZbZ S facts mt[i] d:=fun i hi hi2=>by
    by_cases h:i<ps.length
    ·rw[List.getElem_append_left h];exact hps i h hi2
    ·have hik:i=ps.length:=by simp at hi;omega
     subst hik
     rw[List.getElem_concat_length rfl]
     congr 1
     simp only[hpl2]
   generalize ZbZ S facts mt[k] d=pk at *
   generalize mt[k]=w at *
   have lt:=Zaa.lt gt
   have la1:ZaE 1 (rPs ps)=true:=ZaU (f:=fun p:List Nat=>[AV.sl .no (rP p)]) (fun _=>rfl) ps
   have la2:ZaE 1 [[AV.sl .no (rP pk)]]=true:=rfl
   have lm1:ps.length+1≤maxLen:=by unfold maxLen;omega
   have lm2:(ps.length+1) * 24≤140737488355328:=by omega
   have hap:rPs ps++[[.sl .no (rP pk)]]=rPs (ps++[pk]):=by simp
   ((have hd:=trivial;repeat' (first|((first|apply Zad|apply Zac|apply Zab)<;>intro hd<;>(try simp only[hd]))|simp(disch:=first|assumption|omega|(simp only[nx]<;>omega)|fail)only [hd,hQr,hQn,Zc0,↓YA,YB,YC,YE,YF,YZ,sevalprocAttr,f102,f101,f100,f15,f1,f2,f8,f10,f9,hrow,hk0,hk,gs,e0,e3,hd0,hdl2,htk,hsl,Zdi,List.length_map]))<;>(try (have hd_:True:=hd;clear hd_ hd)))
   (refine Zap.use (hM _ _) ?_;rintro _ _ ⟨rfl,k1,rfl⟩)
   ((have hd:=trivial;repeat' (first|((first|apply Zad|apply Zac|apply Zab)<;>intro hd<;>(try simp only[hd]))|simp(disch:=first|assumption|omega|(simp only[nx]<;>omega)|fail)only [hd,hQr,hQn,Zc0,↓YA,YB,YC,YE,YF,YZ,sevalprocAttr,f102,f101,f100,f15,f1,f2,f8,f10,f9,gt,la1,la2,lm1,lm2,hap,List.length_map]))<;>(try (have hd_:True:=hd;clear hd_ hd)))
   exact⟨gs,ps++[pk],rfl,by rw[List.length_append];rfl,by simp[hpl2],hps2⟩
  ·rintro F2 G2 ⟨f102,f101,f100,f15,f1,f2,f8,f10,gs,ps,f9,gt,hpl2,hps⟩
   generalize hT:Tok.own G.next=tk at f9
   ((have hd:=trivial;repeat' (first|((first|apply Zad|apply Zac|apply Zab)<;>intro hd<;>(try simp only[hd]))|simp(disch:=first|assumption|omega|(simp only[nx]<;>omega)|fail)only [hd,hQr,hQn,Zc0,↓YA,YB,YC,YE,YF,YZ,sevalprocAttr,f102,f101,f100,f15,f1,f2,f8,f10,f9,List.length_map]))<;>(try (have hd_:True:=hd;clear hd_ hd)))
   refine ZbJ (N:=mt.length) (fun i F G3=>Fr.get F 118=.i (i:Int)∧Fr.get F 117=.i (mt.length:Int)∧Fr.get F 15=.i (d:Int)∧Fr.get F 1=.sl .no (rF facts)∧Fr.get F 2=.ptr is 0∧Fr.get F 8=.sl t8 (rPl pl)∧Fr.get F 10=.sl t10 (rMt mt)∧Fr.get F 9=.sl tk (rPs ps)∧G3.get is=some (.cells (eSc S) 25)) (by unfold maxLen;omega) (fun k F G h=>⟨h.1,h.2.1⟩) (GStep.refl _ _)
    ⟨rfl,rfl,by simp[Fr.get,f15],by simp[Fr.get,f1],by simp[Fr.get,f2],by simp[Fr.get,f8],by simp[Fr.get,f10],by simp[Fr.get,f9],gs⟩ ?_ ?_
   ·rintro i F3 G3 hi ⟨f118,f117,f15,f1,f2,f8,f10,f9,gs⟩
    ((have hd:=trivial;repeat' (first|((first|apply Zad|apply Zac|apply Zab)<;>intro hd<;>(try simp only[hd]))|simp(disch:=first|assumption|omega|(simp only[nx]<;>omega)|fail)only [hd,hQr,hQn,Zc0,↓YA,YB,YC,YE,YF,YZ,sevalprocAttr,f118,f117,f15,f1,f2,f8,f10,f9]))<;>(try (have hd_:True:=hd;clear hd_ hd)))
    refine ZbJ (N:=i) (fun k F G4=>Fr.get F 122=.i (k:Int)∧Fr.get F 121=.i (i:Int)∧Fr.get F 18=.i (i:Int)∧Fr.get F 118=.i (i:Int)∧Fr.get F 117=.i (mt.length:Int)∧Fr.get F 15=.i (d:Int)∧Fr.get F 1=.sl .no (rF facts)∧Fr.get F 2=.ptr is 0∧Fr.get F 8=.sl t8 (rPl pl)∧Fr.get F 10=.sl t10 (rMt mt)∧Fr.get F 9=.sl tk (rPs ps)∧G4.get is=some (.cells (eSc S) 25)) (by unfold maxLen;omega) (fun k F G h=>⟨h.1,h.2.1⟩) (GStep.refl _ _)
     ⟨rfl,rfl,rfl,by simp[Fr.get,f118],by simp[Fr.get,f117],by simp[Fr.get,f15],by simp[Fr.get,f1],by simp[Fr.get,f2],by simp[Fr.get,f8],by simp[Fr.get,f10],by simp[Fr.get,f9],gs⟩ ?_ ?_
    ·rintro k F4 G4 hk ⟨f122,f121,f18,f118,f117,f15,f1,f2,f8,f10,f9,gs⟩
     have hkm:k<mt.length:=by omega
     have hkp:k<pl.length:=by omega
     have hip:i<pl.length:=by omega
     have hr1:(rPs ps)[i]?=some [.sl .no (rP ps[i])]:=by simp[show i<ps.length by omega]
     have hr2:(rPs ps)[k]?=some [.sl .no (rP ps[k])]:=by simp[show k<ps.length by omega]
     have hr3:(rPl pl)[i]?=some [.sl .no (rI pl[i])]:=by simp[hip]
     have hr4:(rPl pl)[k]?=some [.sl .no (rI pl[k])]:=by simp[hkp]
     have hli:=hpl i hip
     have hlk:=hpl k hkp
     have hr5:(rI pl[i])[d]?=some [.i (pl[i].getD d 0)]:=by
      rw[List.getD_eq_getElem?_getD,List.getElem?_eq_getElem (l:=pl[i]) (by omega)];simp[show d<pl[i].length by omega]
     have hr6:(rI pl[k])[d]?=some [.i (pl[k].getD d 0)]:=by
      rw[List.getD_eq_getElem?_getD,List.getElem?_eq_getElem (l:=pl[k]) (by omega)];simp[show d<pl[k].length by omega]
     have hq:=hmed i hi k hkm
     have q1:pl.getD i []=pl[i]:=by rw[List.getD_eq_getElem?_getD,List.getElem?_eq_getElem hip];rfl
     have q2:pl.getD k []=pl[k]:=by rw[List.getD_eq_getElem?_getD,List.getElem?_eq_getElem hkp];rfl
     rw[← hps i (by omega) hi,← hps k (by omega) hkm,q1,q2]at hq
     have hpli:=hpn i hi d
     rw[← hps i (by omega) hi]at hpli
     have hI:=fun G=>ZkA .no .no (ps[i].map fun i:Nat=>(i:Int)) (ps[k].map fun i:Nat=>(i:Int)) G (by rw[List.length_map];omega)
     have hde:decide ((ps[i].map fun i:Nat=>(i:Int))=(ps[k].map fun i:Nat=>(i:Int)))=decide (ps[i]=ps[k]):=by rw[decide_eq_decide];exact cast_inj
     rw[hde,hq,← rP_rI,← rP_rI]at hI
     have hi0:(0:Int)≤(i:Int):=by omega
     have hk0:(0:Int)≤(k:Int):=by omega
     have hpx:ps.length=mt.length:=hpl2
     have hi1:(i:Int)<(ps.length:Int):=by omega
     ((have hd:=trivial;repeat' (first|((first|apply Zad|apply Zac|apply Zab)<;>intro hd<;>(try simp only[hd]))|simp(disch:=first|assumption|omega|(simp only[nx]<;>omega)|fail)only [hd,hQr,hQn,Zc0,↓YA,YB,YC,YE,YF,YZ,sevalprocAttr,f122,f121,f18,f118,f117,f15,f1,f2,f8,f10,f9,hr1,hr2,hr3,hr4,hr5,hr6,hi0,hk0,hd0,List.length_map]))<;>(try (have hd_:True:=hd;clear hd_ hd)))
     (refine Zap.use (hI _) ?_;rintro _ _ ⟨rfl,k1,rfl⟩)
     ((have hd:=trivial;repeat' (first|((first|apply Zad|apply Zac|apply Zab)<;>intro hd<;>(try simp only[hd]))|simp(disch:=first|assumption|omega|(simp only[nx]<;>omega)|fail)only [hd,hQr,hQn,Zc0,↓YA,YB,YC,YE,YF,YZ,sevalprocAttr,f122,f121,f18,f118,f117,f15,f1,f2,f8,f10,f9,hr1,hr2,hr3,hr4,hr5,hr6,hi0,hk0,hd0,List.length_map]))<;>(try (have hd_:True:=hd;clear hd_ hd)))
     exact gs
    ·rintro F4 G4 ⟨f122,f121,f18,f118,f117,f15,f1,f2,f8,f10,f9,gs⟩
     ((have hd:=trivial;repeat' (first|((first|apply Zad|apply Zac|apply Zab)<;>intro hd<;>(try simp only[hd]))|simp(disch:=first|assumption|omega|(simp only[nx]<;>omega)|fail)only [hd,hQr,hQn,Zc0,↓YA,YB,YC,YE,YF,YZ,sevalprocAttr,f122,f121,f18,f118,f117,f15,f1,f2,f8,f10,f9]))<;>(try (have hd_:True:=hd;clear hd_ hd)))
     exact gs
   ·rintro F3 G3 ⟨f118,f117,f15,f1,f2,f8,f10,f9,gs⟩
    ((have hd:=trivial;repeat' (first|((first|apply Zad|apply Zac|apply Zab)<;>intro hd<;>(try simp only[hd]))|simp(disch:=first|assumption|omega|(simp only[nx]<;>omega)|fail)only [hd,hQr,hQn,Zc0,↓YA,YB,YC,YE,YF,YZ,sevalprocAttr,f118,f117,f15,f1,f2,f8,f10,f9,w1]))<;>(try (have hd_:True:=hd;clear hd_ hd)))
    exact⟨S.dims.length - (d+1),by omega,d+1,rfl,rfl,gs⟩
 ·have d1:decide ((d:Int)<(S.dims.length:Int))=false:=by simp;omega
  ((have hd:=trivial;repeat' (first|((first|apply Zad|apply Zac|apply Zab)<;>intro hd<;>(try simp only[hd]))|simp(disch:=first|assumption|omega|(simp only[nx]<;>omega)|fail)only [hd,hQr,hQn,Zc0,↓YA,YB,YC,YE,YF,YZ,sevalprocAttr,f15,f1,f2,f8,f10,gs,e0,e1,d1,List.length_map]))<;>(try (have hd_:True:=hd;clear hd_ hd)))
  exact hQ _ _
set_option maxRecDepth 10000 in
set_option maxHeartbeats 8000000 in
theorem ZhN {S:Sc} {facts:List Fct} {N:List Nod} {W:List (List (Int×Int))} {ia is:Nat} {Q:AEx→Fr→Zaa→Prop} {F:Fr} {G0:Zaa} {t57:Tok} (hWl:W.length≤3000) (hdl:S.dims.length≤1000)
  (hW:∀w∈W,w.length=S.dims.length∧ZgI (Za3 S) (Zan S) w)
  (hms:∀w∈W,∀G,Zay Tryz.prog 23 [.agg (eSc S),.sl .no (rF facts),.sl .no (rW w)] G (Pure G (.sl .no (rP (ZbZ S facts w w.length)))))
  (hwy:∀w∈W,ZbZ S facts w w.length≠[]→∀G,ArA G ia (Za3 S) N→Zay Tryz.prog 25 [.ptr ia 0,.sl .no (rW w)] G (Pure G (.tup [.sl .no (rI (Zd6 N ((N.length:Int) - 1) 0 w)),.i 0])))
  (hwl:∀w∈W,ZbZ S facts w w.length≠[]→(Zd6 N ((N.length:Int) - 1) 0 w).length=w.length)
  (f57:Fr.get F 57=.sl t57 (rMt W)) (f58:Fr.get F 58=.i (W.length:Int)) (f59:Fr.get F 59=.i ((0:Nat):Int)) (f1:Fr.get F 1=.sl .no (rF facts)) (f2:Fr.get F 2=.ptr is 0) (f5:Fr.get F 5=.ptr ia 0) (f8:Fr.get F 8=.sl .full []) (f10:Fr.get F 10=.sl .full []) (gs:G0.get is=some (.cells (eSc S) 25)) (hA:ArA G0 ia (Za3 S) N)
  (hQ:∀F G (mt:List (List (Int×Int))) t8 t10,Fr.get F 1=.sl .no (rF facts)→Fr.get F 2=.ptr is 0→Fr.get F 8=.sl t8 (rPl (mt.map (Zd6 N ((N.length:Int) - 1) 0)))→Fr.get F 10=.sl t10 (rMt mt)→G.get is=some (.cells (eSc S) 25)→mt.length≤3000→(∀w∈mt,w∈W∧ZbZ S facts w w.length≠[])→Q .normal F G):AW Tryz.prog c5_1 Q F G0:=by
 obtain⟨e0,e1,e2,e3⟩:=ZbB S
 have hQr:=trivial
 have hQn:=trivial
 have lis:=Zaa.lt gs
 have hA0:=hA
 have lia:ia<G0.next:=by obtain⟨_,_,_,h⟩:=hA;exact Zaa.lt h
 refine ZbJ (N:=W.length) (fun k F G=>Fr.get F 59=.i (k:Int)∧Fr.get F 58=.i (W.length:Int)∧Fr.get F 57=.sl t57 (rMt W)∧Fr.get F 1=.sl .no (rF facts)∧Fr.get F 2=.ptr is 0∧Fr.get F 5=.ptr ia 0∧G.get is=some (.cells (eSc S) 25)∧ArA G ia (Za3 S) N ∧
  ∃mt:List (List (Int×Int)),Fr.get F 8=.sl (.own G0.next) (rPl (mt.map (Zd6 N ((N.length:Int) - 1) 0)))∧Fr.get F 10=.sl (.own (G0.next+1)) (rMt mt)∧G.get G0.next=some (.tok mt.length 57 1)∧G.get (G0.next+1)=some (.tok mt.length 49 1)∧mt.length≤k∧(∀w∈mt,w∈W∧ZbZ S facts w w.length≠[])) (by unfold maxLen;omega) (fun k F G h=>⟨h.1,h.2.1⟩)
  (((GStep.tok 8 57 1 f8).trans (GStep.tok 10 49 1 (by simp[Fr.get,Fr.put,f10]))).trans (GStep.fr (F':=[(59,.i ((0:Nat):Int)),(58,.i (W.length:Int)),(57,.sl t57 (rMt W)),(1,.sl .no (rF facts)),(2,.ptr is 0),(5,.ptr ia 0),(8,.sl (.own G0.next) []),(10,.sl (.own (G0.next+1)) [])]) (by simp[Fr.get,Fr.put,f57,f58,f59,f1,f2,f5]))) ?_ ?_ ?_
 ·refine⟨rfl,rfl,rfl,rfl,rfl,rfl,?_,hA.ext (Zaa.Ext.refl G0).alloc.alloc,[],rfl,rfl,?_,Zaa.Zae (H:=G0.alloc _),Nat.le_refl _,fun w hw=>by cases hw⟩
  ·exact(Zaa.Ext.refl G0).alloc.alloc.get _ _ gs
  ·exact(Zaa.Ext.refl _).alloc.get _ _ Zaa.Zae
 ·rintro k F G hk ⟨f59,f58,f57,f1,f2,f5,gs,hA,mt,f8,f10,g8,g10,hmk,hmt⟩
  have hrow:(rMt W)[k]?=some [.sl .no (rW W[k])]:=by simp[hk]
  have hmem:=List.getElem_mem hk
  have hk0:(0:Int)≤(k:Int):=by omega
  generalize W[k]=w at *
  have hM:=hms w hmem
  obtain⟨w1,w2⟩:=hW w hmem
  by_cases hz:ZbZ S facts w w.length=[]
  ·have d00:(((0:Nat):Int) == 0)=true:=rfl
   rw[hz]at hM
   ((have hd:=trivial;repeat' (first|((first|apply Zad|apply Zac|apply Zab)<;>intro hd<;>(try simp only[hd]))|simp(disch:=first|assumption|omega|(simp only[nx]<;>omega)|fail)only [hd,hQr,hQn,Zc0,↓YA,YB,YC,YE,YF,YZ,sevalprocAttr,f59,f58,f57,f1,f2,f5,hrow,hk0,hk,gs,e0,e3]))<;>(try (have hd_:True:=hd;clear hd_ hd)))
   (refine Zap.use (hM _) ?_;rintro _ _ ⟨rfl,k1,rfl⟩)
   ((have hd:=trivial;repeat' (first|((first|apply Zad|apply Zac|apply Zab)<;>intro hd<;>(try simp only[hd]))|simp(disch:=first|assumption|omega|(simp only[nx]<;>omega)|fail)only [hd,hQr,hQn,Zc0,↓YA,YB,YC,YE,YF,YZ,sevalprocAttr,f59,f58,f57,f1,f2,f5,d00,List.map_nil,List.length_nil]))<;>(try (have hd_:True:=hd;clear hd_ hd)))
   exact⟨gs,hA.ext (by exact AXT),mt,f8,f10,g8,g10,by omega,hmt⟩
  ·have hwy:=hwy w hmem hz
   have hwl:=hwl w hmem hz
   have hlp:=List.length_pos_iff.2 hz
   have d1:(((ZbZ S facts w w.length).length:Int) == 0)=false:=by rw[beq_eq_false_iff_ne];omega
   have hmt2:∀v∈mt++[w],v∈W∧ZbZ S facts v v.length≠[]:=fun v hv=>by
    rcases List.mem_append.1 hv with hv|hv
    ·exact hmt v hv
    ·rw[List.mem_singleton.1 hv];exact⟨hmem,hz⟩
   have hap:(mt++[w]).map (Zd6 N ((N.length:Int) - 1) 0)=mt.map (Zd6 N ((N.length:Int) - 1) 0)++[Zd6 N ((N.length:Int) - 1) 0 w]:=by simp
   have hpl:(mt.map (Zd6 N ((N.length:Int) - 1) 0)).length=mt.length:=List.length_map ..
   generalize Zd6 N ((N.length:Int) - 1) 0 w=p at *
   generalize mt.map (Zd6 N ((N.length:Int) - 1) 0)=pl at *
   generalize ZbZ S facts w w.length=part at *
   have d2:((p.length:Int) != (w.length:Int))=false:=by simp;omega
   have l8:=Zaa.lt g8
   have l10:=Zaa.lt g10
   have la1:ZaE 1 (rPl pl)=true:=ZaU (f:=fun p:List Int=>[AV.sl .no (rI p)]) (fun _=>rfl) pl
   have la2:ZaE 1 [[AV.sl .no (rI p)]]=true:=rfl
   have la3:ZaE 1 (rMt mt)=true:=ZaU (f:=fun w:List (Int×Int)=>[AV.sl .no (rW w)]) (fun _=>rfl) mt
   have la4:ZaE 1 [[AV.sl .no (rW w)]]=true:=rfl
   have lm1:mt.length+1≤maxLen:=by unfold maxLen;omega
   have lm2:(mt.length+1) * 24≤140737488355328:=by omega
   ((have hd:=trivial;repeat' (first|((first|apply Zad|apply Zac|apply Zab)<;>intro hd<;>(try simp only[hd]))|simp(disch:=first|assumption|omega|(simp only[nx]<;>omega)|fail)only [hd,hQr,hQn,Zc0,↓YA,YB,YC,YE,YF,YZ,sevalprocAttr,f59,f58,f57,f1,f2,f5,hrow,hk0,hk,gs,e0,e3]))<;>(try (have hd_:True:=hd;clear hd_ hd)))
   (refine Zap.use (hM _) ?_;rintro _ _ ⟨rfl,k1,rfl⟩)
   ((have hd:=trivial;repeat' (first|((first|apply Zad|apply Zac|apply Zab)<;>intro hd<;>(try simp only[hd]))|simp(disch:=first|assumption|omega|(simp only[nx]<;>omega)|fail)only [hd,hQr,hQn,Zc0,↓YA,YB,YC,YE,YF,YZ,sevalprocAttr,f59,f58,f57,f1,f2,f5,d1,List.length_map]))<;>(try (have hd_:True:=hd;clear hd_ hd)))
   refine Zap.use (hwy _ (hA.ext (by exact AXT))) ?_
   rintro _ _ ⟨rfl,k2,rfl⟩
   ((have hd:=trivial;repeat' (first|((first|apply Zad|apply Zac|apply Zab)<;>intro hd<;>(try simp only[hd]))|simp(disch:=first|assumption|omega|(simp only[nx]<;>omega)|fail)only [hd,hQr,hQn,Zc0,↓YA,YB,YC,YE,YF,YZ,sevalprocAttr,f59,f58,f57,f1,f2,f5,f8,f10,d2,g8,g10,la1,la2,la3,la4,lm1,lm2,hpl,List.length_map]))<;>(try (have hd_:True:=hd;clear hd_ hd)))
   exact⟨gs,ArA.set hA0 (ArA.set hA0 (hA.ext (by exact AXT)) (by omega)) (by omega),mt++[w],by rw[hap];simp,by simp,by rw[List.length_append];rfl,by rw[List.length_append];rfl,by rw[List.length_append,List.length_singleton];omega,hmt2⟩
 ·rintro F G ⟨f59,f58,f57,f1,f2,f5,gs,hA,mt,f8,f10,g8,g10,hmk,hmt⟩
  exact hQ _ _ mt _ _ (by simp[Fr.get,f1]) (by simp[Fr.get,f2]) (by simp only[Fr.get,Nat.reduceEqDiff,if_false];exact f8) (by simp only[Fr.get,Nat.reduceEqDiff,if_false];exact f10) gs (by omega) hmt
set_option maxRecDepth 10000 in
set_option maxHeartbeats 8000000 in
theorem shares_walk (S:Sc) (facts:List Fct) (H:Zaa) (ha:∀f∈facts,Zho f.2):Zay Tryz.prog 5 [.agg (eSc S),.sl .no (rF facts)] H fun r _=>r=.b true:=by
 obtain⟨f0,f1,f2,f3⟩:=ZbB S
 have g1:(H.alloc (.cells (eSc S) 25)).get H.next=some (.cells (eSc S) 25):=Zaa.Zae
 have hx0:Zaa.Ext H (H.alloc (.cells (eSc S) 25)):=(Zaa.Ext.refl H).alloc
 refine Zak hE cf5 (Nat.le_of_ble_eq_true rfl) fun Q hQr hQn=>?_
 ((have hd:=trivial;repeat' (first|((first|apply Zad|apply Zac|apply Zab)<;>intro hd<;>(try simp only[hd]))|simp(disch:=first|assumption|omega|(simp only[nx]<;>omega)|fail)only [hd,hQr,hQn,Zc0,↓YA,YB,YC,YE,YF,YZ,sevalprocAttr,f0,f3]))<;>(try (have hd_:True:=hd;clear hd_ hd)))
 refine Zap.use (Zi6 .no S facts _) ?_
 rintro r H1 ⟨hx1,b,rfl,hb⟩
 have g1:=hx1.ext.get _ _ g1
 have hx1:=hx0.trans hx1.ext
 cases b with
 | false =>
  ((have hd:=trivial;repeat' (first|((first|apply Zad|apply Zac|apply Zab)<;>intro hd<;>(try simp only[hd]))|simp(disch:=first|assumption|omega|(simp only[nx]<;>omega)|fail)only [hd,hQr,hQn,Zc0,↓YA,YB,YC,YE,YF,YZ,sevalprocAttr]))<;>(try (have hd_:True:=hd;clear hd_ hd)))
  refine Zap.use (Zb0 _) ?_
  rintro r H2 ⟨rfl,hx2⟩
  ((have hd:=trivial;repeat' (first|((first|apply Zad|apply Zac|apply Zab)<;>intro hd<;>(try simp only[hd]))|simp(disch:=first|assumption|omega|(simp only[nx]<;>omega)|fail)only [hd,hQr,hQn,Zc0,↓YA,YB,YC,YE,YF,YZ,sevalprocAttr]))<;>(try (have hd_:True:=hd;clear hd_ hd)))
  exact Zaq rfl
 | true =>
 obtain⟨hfs,h5,hfl⟩:=hb rfl
 have hS:Zh1 S:=fun d hd t ht=>by have:=((hfs.2 d hd).2 t ht).2;unfold Zgr;omega
 have hdt:∀d∈S.dims,d.tiers.length≤1000000:=fun d hd=>by have:=(hfs.2 d hd).1;omega
 by_cases h1:scE S=0
 ·by_cases h2:Zd7 (Za3 S) none facts=0
  ·have d0:((0:Int) != 0)=false:=rfl
   ((have hd:=trivial;repeat' (first|((first|apply Zad|apply Zac|apply Zab)<;>intro hd<;>(try simp only[hd]))|simp(disch:=first|assumption|omega|(simp only[nx]<;>omega)|fail)only [hd,hQr,hQn,Zc0,↓YA,YB,YC,YE,YF,YZ,sevalprocAttr,g1,f0,f3]))<;>(try (have hd_:True:=hd;clear hd_ hd)))
   (refine Zap.use (ZeE S _ hS) ?_;rintro _ _ ⟨rfl,k1,rfl⟩)
   ((have hd:=trivial;repeat' (first|((first|apply Zad|apply Zac|apply Zab)<;>intro hd<;>(try simp only[hd]))|simp(disch:=first|assumption|omega|(simp only[nx]<;>omega)|fail)only [hd,hQr,hQn,Zc0,↓YA,YB,YC,YE,YF,YZ,sevalprocAttr,g1,f0,f3,h1]))<;>(try (have hd_:True:=hd;clear hd_ hd)))
   (refine Zap.use (ZeM S _ (by omega) hdt) ?_;rintro _ _ ⟨rfl,k2,rfl⟩)
   ((have hd:=trivial;repeat' (first|((first|apply Zad|apply Zac|apply Zab)<;>intro hd<;>(try simp only[hd]))|simp(disch:=first|assumption|omega|(simp only[nx]<;>omega)|fail)only [hd,hQr,hQn,Zc0,↓YA,YB,YC,YE,YF,YZ,sevalprocAttr]))<;>(try (have hd_:True:=hd;clear hd_ hd)))
   (refine Zap.use (ZfV .no (Za3 S) facts _ (by omega) (by unfold Za3;simp;omega)) ?_;rintro _ _ ⟨rfl,k3,rfl⟩)
   ((have hd:=trivial;repeat' (first|((first|apply Zad|apply Zac|apply Zab)<;>intro hd<;>(try simp only[hd]))|simp(disch:=first|assumption|omega|(simp only[nx]<;>omega)|fail)only [hd,hQr,hQn,Zc0,↓YA,YB,YC,YE,YF,YZ,sevalprocAttr,h2]))<;>(try (have hd_:True:=hd;clear hd_ hd)))
   refine Zap.use (Zkx .no facts _ (by omega)) ?_
   rintro r H2 ⟨hx2,b,rfl,hw⟩
   have g1:=hx2.ext.get _ _ ((((Zaa.Ext.refl H1).bump).bump).bump.get _ _ g1)
   have hx2:=((hx1.bump).bump).bump.trans hx2.ext
   cases b with
   | false =>
    ((have hd:=trivial;repeat' (first|((first|apply Zad|apply Zac|apply Zab)<;>intro hd<;>(try simp only[hd]))|simp(disch:=first|assumption|omega|(simp only[nx]<;>omega)|fail)only [hd,hQr,hQn,Zc0,↓YA,YB,YC,YE,YF,YZ,sevalprocAttr]))<;>(try (have hd_:True:=hd;clear hd_ hd)))
    refine Zap.use (Zb0 _) ?_
    rintro r H2 ⟨rfl,hx2⟩
    ((have hd:=trivial;repeat' (first|((first|apply Zad|apply Zac|apply Zab)<;>intro hd<;>(try simp only[hd]))|simp(disch:=first|assumption|omega|(simp only[nx]<;>omega)|fail)only [hd,hQr,hQn,Zc0,↓YA,YB,YC,YE,YF,YZ,sevalprocAttr]))<;>(try (have hd_:True:=hd;clear hd_ hd)))
    exact Zaq rfl
   | true =>
   have hw:=hw rfl
   have hB:=Zju h1 h2 ha hw h5 hfl
   have hm:∀f∈facts,WAg 1 f.2:=hw.wag (m:=(Za3 S).measures) fun f hf=>(Zcp (Zcu h2 f hf)).2.2
   have hbs:=fun G=>ZfY .no S 131072 facts G hS (by omega) (fun q1 q2 q3 _=>ZdS q1 q2 q3 ha)
   unfold ZdZ at hbs
   rw[hB.e,hB.l]at hbs
   ((have hd:=trivial;repeat' (first|((first|apply Zad|apply Zac|apply Zab)<;>intro hd<;>(try simp only[hd]))|simp(disch:=first|assumption|omega|(simp only[nx]<;>omega)|fail)only [hd,hQr,hQn,Zc0,↓YA,YB,YC,YE,YF,YZ,sevalprocAttr,g1,f0,f3]))<;>(try (have hd_:True:=hd;clear hd_ hd)))
   refine Zap.use (hbs _) ?_
   rintro r H3 ⟨hx3,hr⟩
   rcases hr with⟨e1,rfl⟩|⟨_,ia,rfl,hA⟩
   ·exact absurd rfl e1
   have g1:=hx3.get _ _ g1
   have hx3:=hx2.trans hx3
   ((have hd:=trivial;repeat' (first|((first|apply Zad|apply Zac|apply Zab)<;>intro hd<;>(try simp only[hd]))|simp(disch:=first|assumption|omega|(simp only[nx]<;>omega)|fail)only [hd,hQr,hQn,Zc0,↓YA,YB,YC,YE,YF,YZ,sevalprocAttr,g1,f0,f3]))<;>(try (have hd_:True:=hd;clear hd_ hd)))
   refine Zap.use (Zkt S _ h1) ?_
   rintro r H4 ⟨W,hW1,hW2,rfl,k4,rfl⟩
   have hsr:=srch_of hB.fok hB.doc
   have hms:=fun w (hv:ZgI (Za3 S) (Zan S) w) (hl:w.length≤S.dims.length) (t:Tok) G=>ZgX h1 h2 .no t w G hv hl (by omega)
   have hwx:=fun w (hl:w.length=S.dims.length) (hv:ZgI (Za3 S) (Zan S) w)=>wayX_of hB.fok (w:=w) (by rw[hl];unfold Zan;rw[List.length_map]) (ZgT fun k hk=>by rw[Nat.zero_add];exact hv k hk)
   have hpl:=fun w hw1 hw2=>Zmb hB h1 hw hm (w:=w) hw1 hw2
   have hat:=fun w (hl:w.length=S.dims.length) (hv:ZgI (Za3 S) (Zan S) w) hne=>ZlQ hB h1 (w:=w) hl hv hne
   have hsame:=fun w v hw hwn hv hvn d hd=>way_same hB h1 (w:=w) (v:=v) hw hwn hv hvn (d:=d) hd
   have hsm:=hB.sm
   have hmay:=hB.may
   have hlen:=hB.len
   generalize (Zcn S facts).N=N at *
   have hpfl:∀w d,(ZbZ S facts w d).length≤1000:=fun w d=>by
    have:=List.length_filter_le (Za9 (Zan S) facts 0 (w.take d)) (List.range facts.length)
    rw[List.length_range]at this
    unfold ZbZ;omega
   have hpf:∀w:List (Int×Int),ZbZ S facts w w.length=(List.range facts.length).filter (Za9 (Zan S) facts 0 w):=fun w=>by unfold ZbZ;rw[List.take_length]
   have hwy:∀w,w.length=S.dims.length→ZgI (Za3 S) (Zan S) w→ZbZ S facts w w.length≠[]→∀G,ArA G ia (Za3 S) N→Zay Tryz.prog 25 [.ptr ia 0,.sl .no (rW w)] G (Pure G (.tup [.sl .no (rI (Zd6 N ((N.length:Int) - 1) 0 w)),.i 0])):=fun w hl hv hne G hA=>by
    obtain⟨b,hb,hp⟩:=(hpl w hl hv).2 (by rw[← hpf];exact hne)
    exact ZmN .no w hA hmay hsm hsr (by omega) (hwx w hl hv) (by rw[hp])
   have htake:∀w:List (Int×Int),ZgI (Za3 S) (Zan S) w→∀d,ZgI (Za3 S) (Zan S) (w.take d):=fun w hv d k hk=>by
    rw[List.getElem_take]
    exact hv k (by rw[List.length_take]at hk;omega)
   have g1:(H3.bump k4).get H.next=some (.cells (eSc S) 25):=g1
   have hA4:ArA (H3.bump k4) ia (Za3 S) N:=hA.ext (Zaa.Ext.refl H3).bump
   generalize H3.bump k4=G0 at *
   -- from the ways on
   have key:∀(W:List (List (Int×Int))) (t57:Tok) (F:Fr),W.length≤3000→(∀w∈W,w.length=S.dims.length∧ZgI (Za3 S) (Zan S) w)→Fr.get F 57=.sl t57 (rMt W)→Fr.get F 58=.i (W.length:Int)→Fr.get F 59=.i ((0:Nat):Int)→Fr.get F 1=.sl .no (rF facts)→Fr.get F 2=.ptr H.next 0→Fr.get F 5=.ptr ia 0→Fr.get F 8=.sl .full []→Fr.get F 10=.sl .full [] →
     ∀Q2,(∀F G (mt:List (List (Int×Int))) t8 t10,Fr.get F 1=.sl .no (rF facts)→Fr.get F 2=.ptr H.next 0→Fr.get F 8=.sl t8 (rPl (mt.map (Zd6 N ((N.length:Int) - 1) 0)))→Fr.get F 10=.sl t10 (rMt mt)→G.get H.next=some (.cells (eSc S) 25)→mt.length≤3000→(∀w∈mt,w∈W∧ZbZ S facts w w.length≠[])→Q2 .normal F G)→AW Tryz.prog c5_1 Q2 F G0:=fun W t57 F k1 k2 k3 k4 k5 k6 k7 k8 k9 k10 Q2 hQ2 =>
    ZhN k1 (by omega) k2 (fun w hw G=>by rw[hpf];exact hms w (k2 w hw).2 (by have:=(k2 w hw).1;omega) .no G) (fun w hw hne G hA=>hwy w (k2 w hw).1 (k2 w hw).2 hne G hA) (fun w hw hne=>(hat w (k2 w hw).1 (k2 w hw).2 hne).1) k3 k4 k5 k6 k7 k8 k9 k10 g1 hA4 hQ2
   have key2:∀(W:List (List (Int×Int))) (mt:List (List (Int×Int))) (t8 t10:Tok) (F:Fr) (G:Zaa),(∀w∈W,w.length=S.dims.length∧ZgI (Za3 S) (Zan S) w)→mt.length≤3000→(∀w∈mt,w∈W∧ZbZ S facts w w.length≠[])→Fr.get F 1=.sl .no (rF facts)→Fr.get F 2=.ptr H.next 0→Fr.get F 8=.sl t8 (rPl (mt.map (Zd6 N ((N.length:Int) - 1) 0)))→Fr.get F 10=.sl t10 (rMt mt)→Fr.get F 15=.i 1→G.get H.next=some (.cells (eSc S) 25)→∀Q2,(∀F G,Q2 .normal F G)→AW Tryz.prog c5_2 Q2 F G:=fun W mt t8 t10 F G k1 k2 k3 k4 k5 k6 k7 k8 k9 Q2 hQ2=>by
    have kw:∀i (hi:i<mt.length),(mt[i].length=S.dims.length∧ZgI (Za3 S) (Zan S) mt[i])∧ZbZ S facts mt[i] mt[i].length≠[]:=fun i hi=>by
     have:=k3 _ (List.getElem_mem hi)
     exact⟨k1 _ this.1,this.2⟩
    refine ZiP (pl:=mt.map (Zd6 N ((N.length:Int) - 1) 0)) (mt:=mt) (by simp) k2 (by omega) (fun d hd i hi k hk=>?_) (fun i hi=>?_) (fun i hi=>(kw i hi).1.1) (fun i hi d hd t G=>?_) (fun i hi d=>hpfl _ d) k4 k5 k6 k7 k8 k9 hQ2
    ·have:=hsame mt[i] mt[k] (kw i hi).1 (kw i hi).2 (kw k hk).1 (kw k hk).2 d hd
     rw[this]
     simp[hi,hk]
    ·have hi2:i<mt.length:=by simpa using hi
     rw[List.getElem_map,(hat mt[i] (kw i hi2).1.1 (kw i hi2).1.2 (kw i hi2).2).1]
     exact(kw i hi2).1.1
    ·exact hms (mt[i].take d) (htake _ (kw i hi).1.2 d) (by rw[List.length_take];have:=(kw i hi).1.1;omega) t G
   have mm:(W.map fun w=>[AV.sl .no (rW w)])=rMt W:=rfl
   by_cases hgr:W.length > 400
   ·have d1:decide ((W.length:Int) > 400)=true:=by simp;omega
    have hsl:0≤400∧400≤W.length∧(True∨ZaE 1 (rMt W)=true):=⟨by decide,by omega,.inl trivial⟩
    have h400:(0:Int)≤400:=by decide
    have hW4:∀w∈W.take 400,w.length=S.dims.length∧ZgI (Za3 S) (Zan S) w:=fun w hw=>hW2 w (List.mem_of_mem_take hw)
    have htk:(W.map fun w=>[AV.sl .no (rW w)]).take 400=rMt (W.take 400):=List.map_take.symm
    ((have hd:=trivial;repeat' (first|((first|apply Zad|apply Zac|apply Zab)<;>intro hd<;>(try simp only[hd]))|simp(disch:=first|assumption|omega|(simp only[nx]<;>omega)|fail)only [hd,hQr,hQn,Zc0,↓YA,YB,YC,YE,YF,YZ,sevalprocAttr,List.length_map,d1,Zdi,hsl,h400,htk]))<;>(try (have hd_:True:=hd;clear hd_ hd)))
    refine key (W.take 400) _ _ (by rw[List.length_take];omega) hW4 rfl rfl rfl rfl rfl rfl rfl rfl _ ?_
    intro F5 G5 mt t8 t10 k1 k2 k3 k4 k5 k6 k7
    ((have hd:=trivial;repeat' (first|((first|apply Zad|apply Zac|apply Zab)<;>intro hd<;>(try simp only[hd]))|simp(disch:=first|assumption|omega|(simp only[nx]<;>omega)|fail)only [hd,hQr,hQn,Zc0,↓YA,YB,YC,YE,YF,YZ,sevalprocAttr,k1,k2,k3,k4]))<;>(try (have hd_:True:=hd;clear hd_ hd)))
    refine key2 (W.take 400) mt t8 t10 _ _ hW4 k6 k7 (by simp[Fr.get,k1]) (by simp[Fr.get,k2]) (by simp only[Fr.get,Nat.reduceEqDiff,if_false];exact k3) (by simp only[Fr.get,Nat.reduceEqDiff,if_false];exact k4) rfl k5 _ ?_
    intro F6 G6
    ((have hd:=trivial;repeat' (first|((first|apply Zad|apply Zac|apply Zab)<;>intro hd<;>(try simp only[hd]))|simp(disch:=first|assumption|omega|(simp only[nx]<;>omega)|fail)only [hd,hQr,hQn,Zc0,↓YA,YB,YC,YE,YF,YZ,sevalprocAttr]))<;>(try (have hd_:True:=hd;clear hd_ hd)))
    refine Zap.use (Zb0 _) ?_
    rintro r H2 ⟨rfl,hx2⟩
    ((have hd:=trivial;repeat' (first|((first|apply Zad|apply Zac|apply Zab)<;>intro hd<;>(try simp only[hd]))|simp(disch:=first|assumption|omega|(simp only[nx]<;>omega)|fail)only [hd,hQr,hQn,Zc0,↓YA,YB,YC,YE,YF,YZ,sevalprocAttr]))<;>(try (have hd_:True:=hd;clear hd_ hd)))
    exact Zaq rfl
   ·have d1:decide ((W.length:Int) > 400)=false:=by simp;omega
    ((have hd:=trivial;repeat' (first|((first|apply Zad|apply Zac|apply Zab)<;>intro hd<;>(try simp only[hd]))|simp(disch:=first|assumption|omega|(simp only[nx]<;>omega)|fail)only [hd,hQr,hQn,Zc0,↓YA,YB,YC,YE,YF,YZ,sevalprocAttr,List.length_map,d1]))<;>(try (have hd_:True:=hd;clear hd_ hd)))
    refine key W _ _ hW1 hW2 rfl rfl rfl rfl rfl rfl rfl rfl _ ?_
    intro F5 G5 mt t8 t10 k1 k2 k3 k4 k5 k6 k7
    ((have hd:=trivial;repeat' (first|((first|apply Zad|apply Zac|apply Zab)<;>intro hd<;>(try simp only[hd]))|simp(disch:=first|assumption|omega|(simp only[nx]<;>omega)|fail)only [hd,hQr,hQn,Zc0,↓YA,YB,YC,YE,YF,YZ,sevalprocAttr,k1,k2,k3,k4]))<;>(try (have hd_:True:=hd;clear hd_ hd)))
    refine key2 (W) mt t8 t10 _ _ hW2 k6 k7 (by simp[Fr.get,k1]) (by simp[Fr.get,k2]) (by simp only[Fr.get,Nat.reduceEqDiff,if_false];exact k3) (by simp only[Fr.get,Nat.reduceEqDiff,if_false];exact k4) rfl k5 _ ?_
    intro F6 G6
    ((have hd:=trivial;repeat' (first|((first|apply Zad|apply Zac|apply Zab)<;>intro hd<;>(try simp only[hd]))|simp(disch:=first|assumption|omega|(simp only[nx]<;>omega)|fail)only [hd,hQr,hQn,Zc0,↓YA,YB,YC,YE,YF,YZ,sevalprocAttr]))<;>(try (have hd_:True:=hd;clear hd_ hd)))
    refine Zap.use (Zb0 _) ?_
    rintro r H2 ⟨rfl,hx2⟩
    ((have hd:=trivial;repeat' (first|((first|apply Zad|apply Zac|apply Zab)<;>intro hd<;>(try simp only[hd]))|simp(disch:=first|assumption|omega|(simp only[nx]<;>omega)|fail)only [hd,hQr,hQn,Zc0,↓YA,YB,YC,YE,YF,YZ,sevalprocAttr]))<;>(try (have hd_:True:=hd;clear hd_ hd)))
    exact Zaq rfl
  ·have d2:(Zd7 (Za3 S) none facts != 0)=true:=by simpa using h2
   ((have hd:=trivial;repeat' (first|((first|apply Zad|apply Zac|apply Zab)<;>intro hd<;>(try simp only[hd]))|simp(disch:=first|assumption|omega|(simp only[nx]<;>omega)|fail)only [hd,hQr,hQn,Zc0,↓YA,YB,YC,YE,YF,YZ,sevalprocAttr,g1,f0,f3]))<;>(try (have hd_:True:=hd;clear hd_ hd)))
   (refine Zap.use (ZeE S _ hS) ?_;rintro _ _ ⟨rfl,k1,rfl⟩)
   ((have hd:=trivial;repeat' (first|((first|apply Zad|apply Zac|apply Zab)<;>intro hd<;>(try simp only[hd]))|simp(disch:=first|assumption|omega|(simp only[nx]<;>omega)|fail)only [hd,hQr,hQn,Zc0,↓YA,YB,YC,YE,YF,YZ,sevalprocAttr,g1,f0,f3,h1]))<;>(try (have hd_:True:=hd;clear hd_ hd)))
   (refine Zap.use (ZeM S _ (by omega) hdt) ?_;rintro _ _ ⟨rfl,k2,rfl⟩)
   ((have hd:=trivial;repeat' (first|((first|apply Zad|apply Zac|apply Zab)<;>intro hd<;>(try simp only[hd]))|simp(disch:=first|assumption|omega|(simp only[nx]<;>omega)|fail)only [hd,hQr,hQn,Zc0,↓YA,YB,YC,YE,YF,YZ,sevalprocAttr]))<;>(try (have hd_:True:=hd;clear hd_ hd)))
   (refine Zap.use (ZfV .no (Za3 S) facts _ (by omega) (by unfold Za3;simp;omega)) ?_;rintro _ _ ⟨rfl,k3,rfl⟩)
   ((have hd:=trivial;repeat' (first|((first|apply Zad|apply Zac|apply Zab)<;>intro hd<;>(try simp only[hd]))|simp(disch:=first|assumption|omega|(simp only[nx]<;>omega)|fail)only [hd,hQr,hQn,Zc0,↓YA,YB,YC,YE,YF,YZ,sevalprocAttr,d2]))<;>(try (have hd_:True:=hd;clear hd_ hd)))
   refine Zap.use (Zb0 _) ?_
   rintro r H4 ⟨rfl,hx4⟩
   ((have hd:=trivial;repeat' (first|((first|apply Zad|apply Zac|apply Zab)<;>intro hd<;>(try simp only[hd]))|simp(disch:=first|assumption|omega|(simp only[nx]<;>omega)|fail)only [hd,hQr,hQn,Zc0,↓YA,YB,YC,YE,YF,YZ,sevalprocAttr]))<;>(try (have hd_:True:=hd;clear hd_ hd)))
   exact Zaq rfl
 ·have d2:(scE S != 0)=true:=by simpa using h1
  ((have hd:=trivial;repeat' (first|((first|apply Zad|apply Zac|apply Zab)<;>intro hd<;>(try simp only[hd]))|simp(disch:=first|assumption|omega|(simp only[nx]<;>omega)|fail)only [hd,hQr,hQn,Zc0,↓YA,YB,YC,YE,YF,YZ,sevalprocAttr,g1,f0,f3]))<;>(try (have hd_:True:=hd;clear hd_ hd)))
  (refine Zap.use (ZeE S _ hS) ?_;rintro _ _ ⟨rfl,k1,rfl⟩)
  ((have hd:=trivial;repeat' (first|((first|apply Zad|apply Zac|apply Zab)<;>intro hd<;>(try simp only[hd]))|simp(disch:=first|assumption|omega|(simp only[nx]<;>omega)|fail)only [hd,hQr,hQn,Zc0,↓YA,YB,YC,YE,YF,YZ,sevalprocAttr,d2]))<;>(try (have hd_:True:=hd;clear hd_ hd)))
  refine Zap.use (Zb0 _) ?_
  rintro r H4 ⟨rfl,hx4⟩
  ((have hd:=trivial;repeat' (first|((first|apply Zad|apply Zac|apply Zab)<;>intro hd<;>(try simp only[hd]))|simp(disch:=first|assumption|omega|(simp only[nx]<;>omega)|fail)only [hd,hQr,hQn,Zc0,↓YA,YB,YC,YE,YF,YZ,sevalprocAttr]))<;>(try (have hd_:True:=hd;clear hd_ hd)))
  exact Zaq rfl
end Go.Proofs.YtaapiigfmdhobaaGreat
