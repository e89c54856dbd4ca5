/- Texts of the walk, joined: Ee Ef Eg. -/
import Derived.Test.YtaapiigfmdhobaaGreatMy
import Derived.Test.YtaapiigfmdhobaaGreatMt
namespace Go.Proofs.YtaapiigfmdhobaaGreat
set_option linter.unusedSimpArgs false
set_option linter.unusedVariables false
open Go.RowKit
theorem Zay.gst {P:Program} {f:FuncId} {args:List AV} {H H1:Zaa} {R:AV→Zaa→Prop} (hg:GStep [] H [] H1) (h:Zay P f args H1 R):Zay P f args H R:=⟨h.1,fun g w vs hW hV=>by
 obtain⟨g',hF',hW',hs⟩:=hg 0 g w ⟨#[],[]⟩ ⟨rfl,rfl,fun t=>.any _⟩ hW
 refine(h.2 g' w vs hW' (hV.mono hs.le)).mono ?_
 rintro e w' ⟨v,r,H',g'',h1,h2,h3,h4,h5⟩
 exact⟨v,r,H',g'',h1,h2,h3,h4,hs.trans h5⟩⟩
def PosX (x:Shp) (d:Nat) (q:Int×Int):Prop:=(q.1<0∧q.2=0)∨∃(t:Nat) (h:d<x.sizes.length) (h2:t<x.sizes[d].length),q.1=(t:Int)∧0≤q.2∧q.2<x.sizes[d][t]
def WayX (x:Shp) (w:List (Int×Int)):Prop:=w.length=x.sizes.length∧∀k (h:k<w.length),PosX x k w[k]
theorem ZjX {x:Shp} {L:List (List (List Int))}:∀{w:List (Int×Int)} {d:Nat},WayF x L d w→∀k (h:k<w.length),ZfF x L (d+k) w[k]
 | [],_,_,k,h=>by simp at h
 | q :: w,d,hw,0,_=>hw.1
 | q :: w,d,hw,k+1,h=>by
  have:=ZjX hw.2 k (by simpa using h)
  rw[show d+(k+1)=d+1+k by omega]
  exact this
theorem wayX_of {x:Shp} {L:List (List (List Int))} {facts:List Fct} (hF:ZbI x L facts) {w:List (Int×Int)} (hl:w.length=L.length) (hw:WayF x L 0 w):WayX x w:=by
 refine⟨by rw[hl,hF.len],fun k hk=>?_⟩
 have hkL:k<L.length:=by omega
 have hkx:k<x.sizes.length:=by rw[← hF.len];exact hkL
 have hx:x.sizes.getD k []=x.sizes[k]:=by rw[List.getD_eq_getElem?_getD,List.getElem?_eq_getElem hkx];rfl
 obtain⟨t1,t2,t3⟩:=hF.tier k hkL
 rw[hx]at t3
 have h:=ZjX hw k hk
 rw[Nat.zero_add]at h
 rcases h with h|⟨t,q1,q2,q3,q4⟩
 ·exact .inl h
 ·rw[List.getD_eq_getElem?_getD,List.getElem?_eq_getElem hkL]at q2
  have ht:t<x.sizes[k].length:=by rw[← t3];exact q2
  refine .inr ⟨t,hkx,ht,q1,q3,?_⟩
  unfold Zch at q4
  rw[hx,List.getD_eq_getElem?_getD,List.getElem?_eq_getElem ht]at q4
  simp only[Option.getD_some]at q4
  omega
set_option maxHeartbeats 2000000 in
theorem Zlm (tok t:Tok) (x:Shp) (w:List (Int×Int)) (H:Zaa) (hl:x.sizes.length≤1000000) (hw:WayX x w):Zay Tryz.prog 66 [.agg [.sl tok (rII x.sizes),.i x.measures],.sl t (rW w)] H (Pure H (.i 0)):=by
 obtain⟨w1,w2⟩:=hw
 have d0:((w.length:Int) != (x.sizes.length:Int))=false:=by simp;omega
 have g2:(H.alloc (.cells [.sl tok (rII x.sizes),.i x.measures] 37)).get H.next=some (.cells [.sl tok (rII x.sizes),.i x.measures] 37):=Zaa.Zae
 have l2:=Zaa.lt g2
 refine Zak hE cf66 (Nat.le_of_ble_eq_true rfl) fun Q hQr hQn=>?_
 ((have hd:=trivial;repeat' (first|((first|apply Zad|apply Zac|apply Zab)<;>intro hd<;>(try simp only[hd]))|simp(disch:=first|assumption|omega|(simp only[nx]<;>omega)|fail)only [hd,hQr,hQn,ZlH,↓YA,YB,YC,YE,YF,YZ,sevalprocAttr,d0,List.length_map]))<;>(try (have hd_:True:=hd;clear hd_ hd)))
 refine Zbs [2,13,14] (σ:=Unit) (fun(k:Nat) s=>True) (fun k s=>[]) (fun k s=>[]) () (GStep.refl _ _) (by simp only[ZaA,Zav,Fr.put,Fr.get,↓reduceIte,Nat.reduceEqDiff];rfl) (by intro k s;rfl) (by intro k s;rfl) (by rfl) (by unfold maxLen;omega) ?_ (by simp only[ZaF]) (by simp only[ZaJ]) ?_ ?_
 ·trivial
 ·(rintro k s G hk ht hG hn;try simp only[nx]at hn)
  have hrow:(rW w)[k]?=some [.i w[k].1,.i w[k].2]:=by simp[hk]
  have hpos:=w2 k hk
  have g2:=(hG.g _ l2 (by simp)).trans g2
  have h0:(0:Int)≤(k:Int):=by omega
  generalize w[k]=q at *
  rcases hpos with⟨p1,p2⟩|⟨m,p1,p2,p3,p4,p5⟩
  ·have d1:decide (q.1<0)=true:=decide_eq_true p1
   have d2:(q.2 == 0)=true:=by simpa using p2
   ((have hd:=trivial;repeat' (first|((first|apply Zad|apply Zac|apply Zab)<;>intro hd<;>(try simp only[hd]))|simp(disch:=first|assumption|omega|(simp only[nx]<;>omega)|fail)only [hd,hQr,hQn,ZlH,↓YA,YB,YC,YE,YF,YZ,sevalprocAttr,hrow,h0,hk,d1,d2,List.length_map]))<;>(try (have hd_:True:=hd;clear hd_ hd)))
   exact⟨(),hG.alloc⟩
  ·have d1:decide (q.1<0)=false:=decide_eq_false (by omega)
   have hr1:(rII x.sizes)[k]?=some [.sl .no (rI x.sizes[k])]:=by simp[p1]
   have hr2:(rI x.sizes[k])[m]?=some [.i x.sizes[k][m]]:=by simp[p2]
   have d3:decide (q.1≥(x.sizes[k].length:Int))=false:=decide_eq_false (by omega)
   have d4:decide (q.2<0)=false:=decide_eq_false (by omega)
   have d5:decide (q.2≥x.sizes[k][m])=false:=decide_eq_false (by omega)
   have h1:(0:Int)≤(m:Int):=by omega
   obtain⟨a,b⟩:=q
   simp only at p3 p4 p5 d1 d3 d4 d5 hrow
   subst p3
   ((have hd:=trivial;repeat' (first|((first|apply Zad|apply Zac|apply Zab)<;>intro hd<;>(try simp only[hd]))|simp(disch:=first|assumption|omega|(simp only[nx]<;>omega)|fail)only [hd,hQr,hQn,ZlH,↓YA,YB,YC,YE,YF,YZ,sevalprocAttr,hrow,h0,h1,hk,p1,p2,d1,d3,d4,d5,g2,hr1,hr2,List.length_map]))<;>(try (have hd_:True:=hd;clear hd_ hd)))
   exact⟨(),hG.alloc⟩
 ·(rintro s G ht hG hn;try simp only[nx]at hn)
  ((have hd:=trivial;repeat' (first|((first|apply Zad|apply Zac|apply Zab)<;>intro hd<;>(try simp only[hd]))|simp(disch:=first|assumption|omega|(simp only[nx]<;>omega)|fail)only [hd,hQr,hQn,ZlH,↓YA,YB,YC,YE,YF,YZ,sevalprocAttr]))<;>(try (have hd_:True:=hd;clear hd_ hd)))
  refine Zaz (by rfl)
theorem ArA.set {G H:Zaa} {id i:Nat} {x:Shp} {l:List Nod} {o:Zb3} (h:ArA H id x l) (h2:ArA G id x l) (hi:H.next≤i):ArA (G.set i o) id x l:=by
 obtain⟨t0,n0',m0,h0⟩:=h
 obtain⟨tok,nt,most,h1⟩:=h2
 have:=Zaa.lt h0
 exact⟨tok,nt,most,by rw[Zaa.Zah (by omega)];exact h1⟩
theorem ZcD.ofE {H G:Zaa} (h:Zaa.Ext H G):ZcD [] H G:=ZcD.of h
theorem ZcD.toE {H G:Zaa} (h:ZcD [] H G):Zaa.Ext H G:=⟨h.next,fun i o hi=>h.get i o (by simp) hi⟩
theorem rdr_ar {id:Nat} {x:Shp} {N:List Nod} (hx:1≤x.sizes.length) (hn:∀n∈N,Zdb n):Rdr 68 [.ptr id 0] [] N [] (fun _ G=>ArA G id x N) where
 call tr at' G hI _:=(ZfD at' hI hx hn).mono fun r G' ⟨hx,ht⟩=>⟨hI.ext hx,ZcD.ofE hx,ht⟩
 keep _ _ _ h hx:=h.ext hx
 set _ _ _ _ _ _ h h2 hi:=h.set h2 hi
 lt _ _ _ i hi:=absurd hi (by simp)
def ZcT (N:List Nod) (w:List (Int×Int)):Ag×Int:=if N.length=0 then (ag0,10) else ((ZbP N ((N.length:Int) - 1) 0 0 ZcE w).1,(ZbP N ((N.length:Int) - 1) 0 0 ZcE w).2.2)
def PntQ (v:Ag×Int) (H:Zaa) (r:AV) (H':Zaa):Prop:=Zaa.Ext H H'∧r=.tup [.agg (eAg v.1),.i v.2]
set_option maxHeartbeats 2000000 in
theorem ZiM {H:Zaa} {id:Nat} {x:Shp} {N:List Nod} (t:Tok) (w:List (Int×Int)) (hA:ArA H id x N) (hm:ZbS x=true) (hn:∀n∈N,Zdb n) (hs:Srch N) (hl:N.length≤1000000) (hw:WayX x w) :
  Zay Tryz.prog 22 [.ptr id 0,.sl t (rW w)] H (PntQ (ZcT N w) H):=by
 obtain⟨b1,b2,b3,b4,b5⟩:=Zby hm
 have a3:∀a,(eAg a).length=10:=fun _=>rfl
 have a4:∀a,(eAg a).take 10=eAg a:=fun _=>rfl
 have a5:∀a,(eAg a).drop 10=[]:=fun _=>rfl
 have hx0:Zaa.Ext H (H.alloc (.cells (eAg ag0) 54)):=(Zaa.Ext.refl H).alloc
 have g4:(H.alloc (.cells (eAg ag0) 54)).get H.next=some (.cells (eAg ag0) 54):=Zaa.Zae
 have hsh:∀G,Zaa.Ext H G→Zay Tryz.prog 65 [.ptr id 0] G (ShapeQ x G):=fun G h=>by
  obtain⟨tok,nt,most,hg⟩:=hA.ext h
  exact ZlR hg hm
 have dm:(x.measures == 0)=false:=by rw[beq_eq_false_iff_ne];omega
 have hwl:=hw.1
 refine Zak hE cf22 (Nat.le_of_ble_eq_true rfl) fun Q hQr hQn=>?_
 ((have hd:=trivial;repeat' (first|((first|apply Zad|apply Zac|apply Zab)<;>intro hd<;>(try simp only[hd]))|simp(disch:=first|assumption|omega|(simp only[nx]<;>omega)|fail)only [hd,hQr,hQn,Zg5,↓YA,YB,YC,YE,YF,YZ,sevalprocAttr]))<;>(try (have hd_:True:=hd;clear hd_ hd)))
 refine Zap.use (hsh _ hx0) ?_
 rintro r G1 ⟨hx1,t1,rfl⟩
 have g4:=hx1.get _ _ g4
 have hx1:=hx0.trans hx1
 ((have hd:=trivial;repeat' (first|((first|apply Zad|apply Zac|apply Zab)<;>intro hd<;>(try simp only[hd]))|simp(disch:=first|assumption|omega|(simp only[nx]<;>omega)|fail)only [hd,hQr,hQn,Zg5,↓YA,YB,YC,YE,YF,YZ,sevalprocAttr,dm]))<;>(try (have hd_:True:=hd;clear hd_ hd)))
 refine Zap.use (hsh _ hx1) ?_
 rintro r G2 ⟨hx2,t2,rfl⟩
 have g4:=hx2.get _ _ g4
 have hx2:=hx1.trans hx2
 ((have hd:=trivial;repeat' (first|((first|apply Zad|apply Zac|apply Zab)<;>intro hd<;>(try simp only[hd]))|simp(disch:=first|assumption|omega|(simp only[nx]<;>omega)|fail)only [hd,hQr,hQn,Zg5,↓YA,YB,YC,YE,YF,YZ,sevalprocAttr]))<;>(try (have hd_:True:=hd;clear hd_ hd)))
 (refine Zap.use (Zlm t2 t x w _ (by omega) hw) ?_;rintro _ _ ⟨rfl,k1,rfl⟩)
 ((have hd:=trivial;repeat' (first|((first|apply Zad|apply Zac|apply Zab)<;>intro hd<;>(try simp only[hd]))|simp(disch:=first|assumption|omega|(simp only[nx]<;>omega)|fail)only [hd,hQr,hQn,Zg5,↓YA,YB,YC,YE,YF,YZ,sevalprocAttr]))<;>(try (have hd_:True:=hd;clear hd_ hd)))
 have hx3:Zaa.Ext H (G2.bump k1):=hx2.bump
 have htop:=fun G (h:Zaa.Ext H G)=>Ziu (hA.ext h) b1 (by omega)
 by_cases h0:N.length=0
 ·have hP:ZcT N w=(ag0,10):=by unfold ZcT;rw[if_pos h0]
  have d1:decide ((N.length:Int) - 1<0)=true:=decide_eq_true (by omega)
  rw[hP]at hQr hQn
  refine Zap.use (htop _ hx3) ?_
  rintro _ G3 ⟨rfl,hx4⟩
  have g4:=hx4.get _ _ g4
  have hx4:=hx3.trans hx4
  have l4:=Zaa.lt g4
  ((have hd:=trivial;repeat' (first|((first|apply Zad|apply Zac|apply Zab)<;>intro hd<;>(try simp only[hd]))|simp(disch:=first|assumption|omega|(simp only[nx]<;>omega)|fail)only [hd,hQr,hQn,Zg5,↓YA,YB,YC,YE,YF,YZ,sevalprocAttr,d1,a3,a4,a5,g4]))<;>(try (have hd_:True:=hd;clear hd_ hd)))
  exact Zaq ⟨hx4.set (Nat.le_refl _),rfl⟩
 ·have hP:ZcT N w=((ZbP N ((N.length:Int) - 1) 0 0 ZcE w).1,(ZbP N ((N.length:Int) - 1) 0 0 ZcE w).2.2):=by unfold ZcT;rw[if_neg h0]
  have d1:decide ((N.length:Int) - 1<0)=false:=decide_eq_false (by omega)
  rw[hP]at hQr hQn
  have hal:=fun G (h:Zaa.Ext H G)=>Zft (rdr_ar (id:=id) b1 hn) hs t [] ((N.length:Int) - 1) w G (by simp only[List.length_nil];omega) (hA.ext h)
  generalize ZbP N ((N.length:Int) - 1) 0 0 ZcE w=res at *
  refine Zap.use (htop _ hx3) ?_
  rintro _ G3 ⟨rfl,hx4⟩
  have g4:=hx4.get _ _ g4
  have hx4:=hx3.trans hx4
  ((have hd:=trivial;repeat' (first|((first|apply Zad|apply Zac|apply Zab)<;>intro hd<;>(try simp only[hd]))|simp(disch:=first|assumption|omega|(simp only[nx]<;>omega)|fail)only [hd,hQr,hQn,Zg5,↓YA,YB,YC,YE,YF,YZ,sevalprocAttr,d1]))<;>(try (have hd_:True:=hd;clear hd_ hd)))
  refine Zap.use (htop _ hx4) ?_
  rintro _ G4 ⟨rfl,hx5⟩
  have g4:=hx5.get _ _ g4
  have hx5:=hx4.trans hx5
  ((have hd:=trivial;repeat' (first|((first|apply Zad|apply Zac|apply Zab)<;>intro hd<;>(try simp only[hd]))|simp(disch:=first|assumption|omega|(simp only[nx]<;>omega)|fail)only [hd,hQr,hQn,Zg5,↓YA,YB,YC,YE,YF,YZ,sevalprocAttr]))<;>(try (have hd_:True:=hd;clear hd_ hd)))
  refine Zap.use (hal _ hx5) ?_
  rintro _ G5 ⟨_,hx6,rfl⟩
  have hx6:=ZcD.toE hx6
  have g4:=hx6.get _ _ g4
  have hx6:=hx5.trans hx6
  have l4:=Zaa.lt g4
  ((have hd:=trivial;repeat' (first|((first|apply Zad|apply Zac|apply Zab)<;>intro hd<;>(try simp only[hd]))|simp(disch:=first|assumption|omega|(simp only[nx]<;>omega)|fail)only [hd,hQr,hQn,Zg5,↓YA,YB,YC,YE,YF,YZ,sevalprocAttr,a3,a4,a5,g4]))<;>(try (have hd_:True:=hd;clear hd_ hd)))
  exact Zaq ⟨hx6.alloc.set (Nat.le_refl _),rfl⟩
def WayI (id i2 i6 tk:Nat) (x:Shp) (N:List Nod) (tr:List Int) (G:Zaa):Prop:=ArA G id x N∧G.get i2=some (.cells [.ptr id 0] 29)∧G.get i6=some (.cells [.sl (.own tk) (rI tr)] 57)∧G.get tk=some (.tok tr.length 3 1)
set_option maxHeartbeats 2000000 in
theorem rdr_way {id i2 i6 tk:Nat} {x:Shp} {N:List Nod} (hx:1≤x.sizes.length) (hn:∀n∈N,Zdb n) (h26:i2≠i6):Rdr 71 [] [.ptr i6 0,.ptr i2 0] N [i6,tk] (WayI id i2 i6 tk x N) where
 keep tr G G' h hx:=⟨h.1.ext hx,hx.get _ _ h.2.1,hx.get _ _ h.2.2.1,hx.get _ _ h.2.2.2⟩
 set tr tr' H G i o h h2 hi:=by
  obtain⟨a1,a2,a3,a4⟩:=h
  obtain⟨c1,c2,c3,c4⟩:=h2
  have b2:=Zaa.lt a2
  have b3:=Zaa.lt a3
  have b4:=Zaa.lt a4
  exact⟨a1.set c1 hi,by rw[Zaa.Zah (by omega)];exact c2,by rw[Zaa.Zah (by omega)];exact c3,by rw[Zaa.Zah (by omega)];exact c4⟩
 lt tr G h i hi:=by
  have b3:=Zaa.lt h.2.2.1
  have b4:=Zaa.lt h.2.2.2
  simp only[List.mem_cons,List.not_mem_nil,or_false]at hi
  omega
 call tr at' H hI htr:=by
  obtain⟨hA,g2,g6,gt⟩:=hI
  have e0:∀t n,(ZbD t n).length=14:=fun _ _=>rfl
  have e2:∀t n,(ZbD t n).take 14=ZbD t n:=fun _ _=>rfl
  have e5:∀t n,(ZbD t n).drop 14=[]:=fun _ _=>rfl
  have l2:=Zaa.lt g2
  have l6:=Zaa.lt g6
  have lt:=Zaa.lt gt
  have n1:tk≠i2:=fun h=>by rw[h,g2]at gt;cases gt
  have n2:tk≠i6:=fun h=>by rw[h,g6]at gt;cases gt
  obtain⟨at0,nt0,m0,ga⟩:=hA
  have lid:=Zaa.lt ga
  have n3:id≠tk:=fun h=>by rw[h,gt]at ga;cases ga
  have n4:id≠i6:=fun h=>by rw[h,g6]at ga;simp[Zk5,eAr]at ga
  have la1:ZaE 1 (rI tr)=true:=ZaU (f:=fun n:Int=>[AV.i n]) (fun _=>rfl) tr
  have la2:ZaE 1 [[AV.i at']]=true:=rfl
  have lm1:tr.length+1≤maxLen:=by unfold maxLen;omega
  have lm2:(tr.length+1) * 8≤140737488355328:=by omega
  have hap:rI tr++[[.i at']]=rI (tr++[at']):=by simp
  have hx0:Zaa.Ext H (H.alloc (.cells [.i 0,.sl .full [],.i 0,.i 0,.i 0,.i 0,.i 0,.i 0,.i 0,.i 0,.i 0,.i 0,.i 0,.i 0] 115)):=(Zaa.Ext.refl H).alloc
  have key:∀G,ArA G id x N→Zay Tryz.prog 68 [.ptr id 0,.i at'] G fun r H'=>Zaa.Ext G H'∧∃t,r=.tup [.agg (ZbD t (Zdw N at')),.i (bif inB N at' then 0 else 9)]:=fun G h=>ZfD at' h hx hn
  show Zay Tryz.prog 71 [.i at',.ptr i6 0,.ptr i2 0] H _
  refine Zak hE cf71 (Nat.le_of_ble_eq_true rfl) fun Q hQr hQn=>?_
  ((have hd:=trivial;repeat' (first|((first|apply Zad|apply Zac|apply Zab)<;>intro hd<;>(try simp only[hd]))|simp(disch:=first|assumption|omega|(simp only[nx]<;>omega)|fail)only [hd,hQr,hQn,c71_0,↓YA,YB,YC,YE,YF,YZ,sevalprocAttr,g2,g6,gt,la1,la2,lm1,lm2,List.length_map,ZaL,rowsOf]))<;>(try (have hd_:True:=hd;clear hd_ hd)))
  have hS:ZcD [i6,tk] H (((H.alloc (.cells [.i 0,.sl .full [],.i 0,.i 0,.i 0,.i 0,.i 0,.i 0,.i 0,.i 0,.i 0,.i 0,.i 0,.i 0] 115)).set tk (.tok (tr.length+1) 3 1)).set i6 (.cells [.sl (.own tk) (rI tr++[[.i at']])] 57)):=((ZcD.of hx0).set (.inl (by simp))).set (.inl (by simp))
  have gi:WayI id i2 i6 tk x N (tr++[at']) (((H.alloc (.cells [.i 0,.sl .full [],.i 0,.i 0,.i 0,.i 0,.i 0,.i 0,.i 0,.i 0,.i 0,.i 0,.i 0,.i 0] 115)).set tk (.tok (tr.length+1) 3 1)).set i6 (.cells [.sl (.own tk) (rI tr++[[.i at']])] 57)):=by
   refine⟨⟨at0,nt0,m0,?_⟩,?_,?_,?_⟩
   ·rw[Zaa.Zah n4,Zaa.Zah n3];exact hx0.get _ _ ga
   ·rw[Zaa.Zah h26,Zaa.Zah n1.symm];exact hx0.get _ _ g2
   ·rw[Zaa.Zal (by simp only[nx];omega),hap]
   ·rw[Zaa.Zah n2,Zaa.Zal (by simp only[nx];omega),List.length_append];rfl
  have g4:(((H.alloc (.cells [.i 0,.sl .full [],.i 0,.i 0,.i 0,.i 0,.i 0,.i 0,.i 0,.i 0,.i 0,.i 0,.i 0,.i 0] 115)).set tk (.tok (tr.length+1) 3 1)).set i6 (.cells [.sl (.own tk) (rI tr++[[.i at']])] 57)).get H.next=some (.cells [.i 0,.sl .full [],.i 0,.i 0,.i 0,.i 0,.i 0,.i 0,.i 0,.i 0,.i 0,.i 0,.i 0,.i 0] 115):=by
   rw[Zaa.Zah (by omega),Zaa.Zah (by omega)];exact Zaa.Zae
  refine Zap.use (key _ gi.1) ?_
  rintro r G ⟨hx1,t,rfl⟩
  have g4:=hx1.get _ _ g4
  have l4:=Zaa.lt g4
  have gi1:WayI id i2 i6 tk x N (tr++[at']) G:=⟨gi.1.ext hx1,hx1.get _ _ gi.2.1,hx1.get _ _ gi.2.2.1,hx1.get _ _ gi.2.2.2⟩
  have hS1:=hS.trans (ZcD.of hx1)
  have hnx:=hS1.next
  ((have hd:=trivial;repeat' (first|((first|apply Zad|apply Zac|apply Zab)<;>intro hd<;>(try simp only[hd]))|simp(disch:=first|assumption|omega|(simp only[nx]<;>omega)|fail)only [hd,hQr,hQn,c71_0,↓YA,YB,YC,YE,YF,YZ,sevalprocAttr,e0,e2,e5,g4]))<;>(try (have hd_:True:=hd;clear hd_ hd)))
  refine Zaq ⟨?_,hS1.set (.inr (by omega)),t,rfl⟩
  obtain⟨c1,c2,c3,c4⟩:=gi1
  exact⟨ArA.set (H:=H) ⟨at0,nt0,m0,ga⟩ c1 (by omega),by rw[Zaa.Zah (by omega)];exact c2,by rw[Zaa.Zah (by omega)];exact c3,by rw[Zaa.Zah (by omega)];exact c4⟩
set_option maxHeartbeats 2000000 in
theorem ZmN {H:Zaa} {id:Nat} {x:Shp} {N:List Nod} (t:Tok) (w:List (Int×Int)) (hA:ArA H id x N) (hm:ZbS x=true) (hn:∀n∈N,Zdb n) (hs:Srch N) (hl:N.length≤1000000) (hw:WayX x w) (hp:(ZcT N w).2=0) :
  Zay Tryz.prog 25 [.ptr id 0,.sl t (rW w)] H (Pure H (.tup [.sl .no (rI (Zd6 N ((N.length:Int) - 1) 0 w)),.i 0])):=by
 obtain⟨b1,b2,b3,b4,b5⟩:=Zby hm
 have a3:∀a,(eAg a).length=10:=fun _=>rfl
 have a4:∀a,(eAg a).take 10=eAg a:=fun _=>rfl
 have a5:∀a,(eAg a).drop 10=[]:=fun _=>rfl
 have hN:N.length≠0:=fun h=>by unfold ZcT at hp;rw[if_pos h]at hp;exact absurd hp (by decide)
 have he:(ZbP N ((N.length:Int) - 1) 0 0 ZcE w).2.2=0:=by unfold ZcT at hp;rw[if_neg hN]at hp;exact hp
 have hwl:=hw.1
 have hx0:Zaa.Ext H ((H.alloc (.cells [.ptr id 0] 29)).alloc (.cells [.sl .full []] 57)):=by exact AXT
 have g2:((H.alloc (.cells [.ptr id 0] 29)).alloc (.cells [.sl .full []] 57)).get H.next=some (.cells [.ptr id 0] 29):=by
  rw[Zaa.Zag (by simp only[nx];omega)];exact Zaa.Zae
 have g6:((H.alloc (.cells [.ptr id 0] 29)).alloc (.cells [.sl .full []] 57)).get (H.next+1)=some (.cells [.sl .full []] 57):=Zaa.Zae (H:=H.alloc _)
 have hpt:=ZiM t w (hA.ext hx0) hm hn hs hl hw
 have hal:=fun tk G hI=>Zft (rdr_way (id:=id) (i2:=H.next) (i6:=H.next+1) (tk:=tk) b1 hn (by omega)) hs t [] ((N.length:Int) - 1) w G (by simp only[List.length_nil];omega) hI
 generalize ZbP N ((N.length:Int) - 1) 0 0 ZcE w=res at *
 refine Zak hE cf25 (Nat.le_of_ble_eq_true rfl) fun Q hQr hQn=>?_
 ((have hd:=trivial;repeat' (first|((first|apply Zad|apply Zac|apply Zab)<;>intro hd<;>(try simp only[hd]))|simp(disch:=first|assumption|omega|(simp only[nx]<;>omega)|fail)only [hd,hQr,hQn,Zlu,↓YA,YB,YC,YE,YF,YZ,sevalprocAttr,g2]))<;>(try (have hd_:True:=hd;clear hd_ hd)))
 refine Zap.use hpt ?_
 rintro r G1 ⟨hx1,rfl⟩
 have g2:=hx1.get _ _ g2
 have g6:=hx1.get _ _ g6
 have hx1:=hx0.trans hx1
 rw[hp]
 have l2:=Zaa.lt g2
 have l6:=Zaa.lt g6
 ((have hd:=trivial;repeat' (first|((first|apply Zad|apply Zac|apply Zab)<;>intro hd<;>(try simp only[hd]))|simp(disch:=first|assumption|omega|(simp only[nx]<;>omega)|fail)only [hd,hQr,hQn,Zlu,↓YA,YB,YC,YE,YF,YZ,sevalprocAttr,g2,a3,a4,a5]))<;>(try (have hd_:True:=hd;clear hd_ hd)))
 have hx2:Zaa.Ext H (G1.alloc (.cells (eAg (ZcT N w).1) 54)):=hx1.alloc
 have g2:=((Zaa.Ext.refl G1).alloc (o:=.cells (eAg (ZcT N w).1) 54)).get _ _ g2
 have g6:=((Zaa.Ext.refl G1).alloc (o:=.cells (eAg (ZcT N w).1) 54)).get _ _ g6
 refine Zap.use (Ziu (hA.ext hx2) b1 (by omega)) ?_
 rintro _ G2 ⟨rfl,hx3⟩
 have g2:=hx3.get _ _ g2
 have g6:=hx3.get _ _ g6
 have hx3:=hx2.trans hx3
 have l2:=Zaa.lt g2
 have l6:=Zaa.lt g6
 have hid:id<H.next:=by obtain⟨_,_,_,h⟩:=hA;exact Zaa.lt h
 have hI:WayI id H.next (H.next+1) G2.next x N [] ((G2.set (H.next+1) (.cells [.sl (.own G2.next) []] 57)).alloc (.tok 0 3 1)):=by
  refine⟨(ArA.set hA (hA.ext hx3) (by omega)).ext (Zaa.Ext.refl _).alloc,?_,?_,Zaa.Zae (H:=G2.set _ _)⟩
  ·rw[Zaa.Zag (by simp only[nx];omega),Zaa.Zah (by omega)];exact g2
  ·rw[Zaa.Zag (by simp only[nx];omega),Zaa.Zal l6];rfl
 ((have hd:=trivial;repeat' (first|((first|apply Zad|apply Zac|apply Zab)<;>intro hd<;>(try simp only[hd]))|simp(disch:=first|assumption|omega|(simp only[nx]<;>omega)|fail)only [hd,hQr,hQn,Zlu,↓YA,YB,YC,YE,YF,YZ,sevalprocAttr,g2]))<;>(try (have hd_:True:=hd;clear hd_ hd)))
 refine Zap.use (Zay.gst (GStep.ZdO (H.next+1) 0 57 3 1 g6 rfl) (hal G2.next _ hI)) ?_
 rintro _ G3 ⟨⟨hA3,c2,c6,ct⟩,hx4,rfl⟩
 rw[he]
 have l3:=Zaa.lt c6
 have hx5:Zaa.Ext H G3:=by
  refine⟨Nat.le_trans hx3.next (Nat.le_trans (by simp) hx4.next),fun i o hi=>?_⟩
  have hil:=Zaa.lt hi
  refine hx4.get i o (by simp only[List.mem_cons,List.not_mem_nil,or_false];omega) ?_
  rw[Zaa.Zag (by simp only[nx];omega),Zaa.Zah (by omega)]
  exact hx3.get _ _ hi
 ((have hd:=trivial;repeat' (first|((first|apply Zad|apply Zac|apply Zab)<;>intro hd<;>(try simp only[hd]))|simp(disch:=first|assumption|omega|(simp only[nx]<;>omega)|fail)only [hd,hQr,hQn,Zlu,↓YA,YB,YC,YE,YF,YZ,sevalprocAttr,a3,a4,a5,c6]))<;>(try (have hd_:True:=hd;clear hd_ hd)))
 refine Zc1 (.tup _ _ rfl fun i a b h1 h2=>?_)
 match i with
 | 0=>simp only[List.nil_append,List.getElem?_cons_zero,Option.some.injEq]at h1 h2;subst h1 h2;exact Zfm _ _
 | 1=>simp only[List.getElem?_cons_zero,List.getElem?_cons_succ,Option.some.injEq]at h1 h2;subst h1 h2;exact .refl _
 | i+2=>simp at h1
@[simp] theorem matchP_nil {L:List (List (List Int))} {facts:List Fct} {d i:Nat}:Za9 L facts d [] i=true:=rfl
theorem ZgG {L:List (List (List Int))} {facts:List Fct} (i:Nat) (q:Int×Int):∀(w:List (Int×Int)) (d:Nat),Za9 L facts d (w++[q]) i=(Za9 L facts d w i&&(decide (q.1<0) || (Zdm L facts (d+w.length) q.1.toNat i == q.2)))
 | [],d=>by simp[Za9]
 | p :: w,d=>by
  have ih:=ZgG (L:=L) (facts:=facts) i q w (d+1)
  show(_&&Za9 L facts (d+1) (w++[q]) i)=_
  rw[ih,Za9,Bool.and_assoc,List.length_cons,show d+(w.length+1)=d+1+w.length by omega]
def ZgI (x:Shp) (L:List (List (List Int))) (w:List (Int×Int)):Prop:=∀k (h:k<w.length),ZfF x L k w[k]
set_option maxHeartbeats 4000000 in
theorem ZgX {S:Sc} {facts:List Fct} (hs:scE S=0) (hr:Zd7 (Za3 S) none facts=0) (u t:Tok) (w:List (Int×Int)) (H:Zaa) (hw:ZgI (Za3 S) (Zan S) w) (hwl:w.length≤S.dims.length) (hfl:facts.length≤4000) :
  Zay Tryz.prog 23 [.agg (eSc S),.sl u (rF facts),.sl t (rW w)] H (Pure H (.sl .no (rP ((List.range facts.length).filter (Za9 (Zan S) facts 0 w))))):=by
 obtain⟨f0,f1,f2,f3⟩:=ZbB S
 have hs2:=(Zb7 hs).2.1
 have hLl:(Zan S).length=S.dims.length:=by unfold Zan;rw[List.length_map]
 have hx0:Zaa.Ext H (H.alloc (.cells (eSc S) 25)):=(Zaa.Ext.refl H).alloc
 have g3:(H.alloc (.cells (eSc S) 25)).get H.next=some (.cells (eSc S) 25):=Zaa.Zae
 have l3:=Zaa.lt g3
 have hG0:(H.alloc (.cells (eSc S) 25)).next=H.next+1:=rfl
 refine Zak hE cf23 (Nat.le_of_ble_eq_true rfl) fun Q hQr hQn=>?_
 ((have hd:=trivial;repeat' (first|((first|apply Zad|apply Zac|apply Zab)<;>intro hd<;>(try simp only[hd]))|simp(disch:=first|assumption|omega|(simp only[nx]<;>omega)|fail)only [hd,hQr,hQn,Zga,↓YA,YB,YC,YE,YF,YZ,sevalprocAttr,f0,f3,List.length_map]))<;>(try (have hd_:True:=hd;clear hd_ hd)))
 generalize H.alloc (.cells (eSc S) 25)=G0 at *
 refine Zbs [1,2,3,12] (σ:=Unit) (fun(k:Nat) s=>True) (fun k s=>[(7,.sl (.own G0.next) (rP ((List.range k).filter (Za9 (Zan S) facts 0 w))))]) (fun k s=>[(G0.next,.tok ((List.range k).filter (Za9 (Zan S) facts 0 w)).length 3 1)]) () (GStep.tok 7 3 1 rfl) (by simp only[ZaA,Zav,Fr.put,Fr.get,↓reduceIte,Nat.reduceEqDiff];rfl) (by intro k s;rfl) (by intro k s;rfl) (by rfl) (by unfold maxLen;omega) ?_ (by simp only[ZaF,ZaX,Fr.put,Fr.get,↓reduceIte,Nat.reduceEqDiff,and_self]<;>simp) ?_ ?_ ?_
 ·trivial
 ·rw[ZaP]
  exact⟨Zaa.Zae (H:=G0),by simp[Zc5]⟩
 ·(rintro i s G hi ht1 hG hn;try simp only[nx]at hn)
  have ho:=hG.o1
  have lo:=Zaa.lt ho
  have hc:=(hG.g H.next (by simp only[nx];omega) (by simp;omega)).trans ((Zaa.Zag (by omega)).trans g3)
  have lc:=Zaa.lt hc
  have hsn:(List.range (i+1)).filter (Za9 (Zan S) facts 0 w)=(List.range i).filter (Za9 (Zan S) facts 0 w)++if Za9 (Zan S) facts 0 w i=true then [i] else []:=by
   rw[List.range_succ,List.filter_append,List.filter_cons];rfl
  have hlen:((List.range i).filter (Za9 (Zan S) facts 0 w)).length≤i:=Nat.le_trans (List.length_filter_le ..) (by rw[List.length_range];exact Nat.le_refl _)
  generalize (List.range i).filter (Za9 (Zan S) facts 0 w)=out at *
  ((have hd:=trivial;repeat' (first|((first|apply Zad|apply Zac|apply Zab)<;>intro hd<;>(try simp only[hd]))|simp(disch:=first|assumption|omega|(simp only[nx]<;>omega)|fail)only [hd,hQr,hQn,Zga,↓YA,YB,YC,YE,YF,YZ,sevalprocAttr,List.length_map]))<;>(try (have hd_:True:=hd;clear hd_ hd)))
  refine Zbs [1,2,3,7,8,12,13,17] (σ:=Unit) (fun(k:Nat) s=>True) (fun k s=>[(9,.b (Za9 (Zan S) facts 0 (w.take k) i))]) (fun k s=>[]) () (GStep.refl _ _) (by simp only[ZaA,Zav,Fr.put,Fr.get,↓reduceIte,Nat.reduceEqDiff];rfl) (by intro k s;rfl) (by intro k s;rfl) (by rfl) (by unfold maxLen;omega) ?_ (by simp only[ZaF,ZaX,Fr.put,Fr.get,↓reduceIte,Nat.reduceEqDiff,and_self]<;>simp) (by simp only[ZaJ]) ?_ ?_
  ·trivial
  ·(rintro k s2 G2 hk ht2 hG2 hn2;try simp only[nx]at hn2)
   have hc:=(hG2.g _ lc (by simp)).trans hc
   have hrow:(rW w)[k]?=some [.i w[k].1,.i w[k].2]:=by simp[hk]
   have hpos:=hw k hk
   have hkd:k<S.dims.length:=by omega
   have hsn2:Za9 (Zan S) facts 0 (w.take (k+1)) i=(Za9 (Zan S) facts 0 (w.take k) i&&(decide (w[k].1<0) || (Zdm (Zan S) facts k w[k].1.toNat i == w[k].2))):=by
    rw[List.take_succ_eq_append_getElem hk,ZgG,List.length_take,Nat.min_eq_left (by omega),Nat.zero_add]
   have h0:(0:Int)≤(k:Int):=by omega
   have h1:(0:Int)≤(i:Int):=by omega
   have hrf:=ZjV hi
   obtain⟨j0,j1,j2,j3⟩:=Zbu facts[i]
   generalize Za9 (Zan S) facts 0 (w.take k) i=ok at *
   generalize w[k]=q at *
   cases ok with
   | false =>
    rw[Bool.false_and]at hsn2
    ((have hd:=trivial;repeat' (first|((first|apply Zad|apply Zac|apply Zab)<;>intro hd<;>(try simp only[hd]))|simp(disch:=first|assumption|omega|(simp only[nx]<;>omega)|fail)only [hd,hQr,hQn,Zga,↓YA,YB,YC,YE,YF,YZ,sevalprocAttr,hrow,h0,hk]))<;>(try (have hd_:True:=hd;clear hd_ hd)))
    exact⟨(),by rw[hsn2],hG2⟩
   | true =>
    rw[Bool.true_and]at hsn2
    rcases hpos with⟨p1,p2⟩|⟨m,p1,p2,p3,p4⟩
    ·have d1:decide (q.1<0)=true:=decide_eq_true p1
     rw[d1,Bool.true_or]at hsn2
     ((have hd:=trivial;repeat' (first|((first|apply Zad|apply Zac|apply Zab)<;>intro hd<;>(try simp only[hd]))|simp(disch:=first|assumption|omega|(simp only[nx]<;>omega)|fail)only [hd,hQr,hQn,Zga,↓YA,YB,YC,YE,YF,YZ,sevalprocAttr,hrow,h0,hk,d1]))<;>(try (have hd_:True:=hd;clear hd_ hd)))
     exact⟨(),by rw[hsn2],hG2⟩
    ·have d1:decide (q.1<0)=false:=decide_eq_false (by omega)
     have hLd:(Zan S).getD k []=Zct S.dims[k]:=by unfold Zan;simp[hkd]
     have hmt:m<S.dims[k].tiers.length:=by rw[hLd]at p2;unfold Zct at p2;simpa using p2
     obtain⟨v,v1,v2,v3,v4⟩:=Zdk hs hr hkd hmt hi
     have hgi:facts.getD i ([],ag0)=facts[i]:=by rw[List.getD_eq_getElem?_getD,List.getElem?_eq_getElem hi];rfl
     rw[hgi]at v2 v3
     have v5:facts[i].1[k]=(v:Int):=by
      rw[List.getD_eq_getElem?_getD,List.getElem?_eq_getElem v3]at v2;exact v2
     obtain⟨dt1,dt2,_⟩:=Zce ((Zb7 hs).2.2.1 _ (List.getElem_mem hkd))
     have hL:=fun G=>Zhc S facts[i] k m v G hkd v3 v5 hmt v1 (by omega)
     obtain⟨a,b⟩:=q
     simp only at p1 p3 p4 d1 hsn2 hrow
     subst p1
     rw[d1,Bool.false_or,Int.toNat_natCast,v4]at hsn2
     generalize Zdo S.dims[k] m v=lv at *
     ((have hd:=trivial;repeat' (first|((first|apply Zad|apply Zac|apply Zab)<;>intro hd<;>(try simp only[hd]))|simp(disch:=first|assumption|omega|(simp only[nx]<;>omega)|fail)only [hd,hQr,hQn,Zga,↓YA,YB,YC,YE,YF,YZ,sevalprocAttr,hrow,h0,h1,hk,d1,hc,f0,f3,hrf,hi,j0,j3]))<;>(try (have hd_:True:=hd;clear hd_ hd)))
     (refine Zap.use (hL _) ?_;rintro _ _ ⟨rfl,k1,rfl⟩)
     ((have hd:=trivial;repeat' (first|((first|apply Zad|apply Zac|apply Zab)<;>intro hd<;>(try simp only[hd]))|simp(disch:=first|assumption|omega|(simp only[nx]<;>omega)|fail)only [hd,hQr,hQn,Zga,↓YA,YB,YC,YE,YF,YZ,sevalprocAttr,hrow,h0,h1,hk,d1]))<;>(try (have hd_:True:=hd;clear hd_ hd)))
     exact⟨(),by rw[hsn2],hG2.bump⟩
  ·(rintro s2 G2 ht2 hG2 hn2;try simp only[nx]at hn2)
   rw[List.take_length]
   have hG3:HX [(G0.next,.tok out.length 3 1)] (G0.alloc (.tok 0 3 1)) G2:=⟨Nat.le_trans hG.n hG2.n,fun p hp=>(hG2.g _ (Zaa.lt (hG.o p hp)) (by simp)).trans (hG.o p hp),fun j hj hne=>(hG2.g _ (Nat.lt_of_lt_of_le hj hG.n) (by simp)).trans (hG.g j hj hne)⟩
   have ho2:=hG3.o1
   have hb:=bfb (Za9 (Zan S) facts 0 w i)
   rcases hb with hb|hb
   ·rw[hb,if_neg (by decide),List.append_nil]at hsn
    ((have hd:=trivial;repeat' (first|((first|apply Zad|apply Zac|apply Zab)<;>intro hd<;>(try simp only[hd]))|simp(disch:=first|assumption|omega|(simp only[nx]<;>omega)|fail)only [hd,hQr,hQn,Zga,↓YA,YB,YC,YE,YF,YZ,sevalprocAttr,hb]))<;>(try (have hd_:True:=hd;clear hd_ hd)))
    exact⟨(),by rw[hsn],by rw[hsn];exact hG3⟩
   ·rw[hb,if_pos rfl]at hsn
    have la1:ZaE 1 (rP out)=true:=ZaU (f:=fun n:Nat=>[AV.i (n:Int)]) (fun _=>rfl) _
    have la2:ZaE 1 [[AV.i (i:Int)]]=true:=rfl
    have lm1:out.length+1≤maxLen:=by unfold maxLen;omega
    have lm2:(out.length+1) * 8≤140737488355328:=by omega
    have hrl:(rP out).length=out.length:=by simp
    have hap:rP out++[[.i (i:Int)]]=rP (out++[i]):=by simp
    ((have hd:=trivial;repeat' (first|((first|apply Zad|apply Zac|apply Zab)<;>intro hd<;>(try simp only[hd]))|simp(disch:=first|assumption|omega|(simp only[nx]<;>omega)|fail)only [hd,hQr,hQn,Zga,↓YA,YB,YC,YE,YF,YZ,sevalprocAttr,hb,ho2,la1,la2,lm1,lm2,hrl,ZaL,rowsOf,List.length_map]))<;>(try (have hd_:True:=hd;clear hd_ hd)))
    refine⟨(),by rw[hsn,← hap],?_⟩
    rw[hsn,List.length_append]
    exact hG3.put
 ·(rintro s G ht1 hG hn;try simp only[nx]at hn)
  ((have hd:=trivial;repeat' (first|((first|apply Zad|apply Zac|apply Zab)<;>intro hd<;>(try simp only[hd]))|simp(disch:=first|assumption|omega|(simp only[nx]<;>omega)|fail)only [hd,hQr,hQn,Zga,↓YA,YB,YC,YE,YF,YZ,sevalprocAttr]))<;>(try (have hd_:True:=hd;clear hd_ hd)))
  exact Zc1 (Zfm _ _) (hG.ZdB hx0.alloc (by simp;omega))
def ZlW (l:List Fct):Prop:=l.length≤1000∧∀f∈l,f.2.n≤1000000000∧(-1000000000000≤f.2.s0∧f.2.s0≤1000000000000)∧(-1000000000000≤f.2.s1∧f.2.s1≤1000000000000)∧(-1000000000000≤f.2.s2∧f.2.s2≤1000000000000)
theorem ZlW.wag {l:List Fct} (h:ZlW l) {m:Int} (hm:∀f∈l,Zbw m f.2=true):∀f∈l,WAg 1 f.2:=fun f hf=>by
 obtain⟨h1,h2,h3,h4⟩:=h.2 f hf
 have:=hm f hf
 unfold Zbw at this
 simp only[Bool.and_eq_true,decide_eq_true_eq]at this
 obtain⟨⟨⟨⟨⟨_,_⟩,a3⟩,_⟩,_⟩,_⟩:=this
 exact⟨by omega,by omega,by omega,by omega,by omega⟩
def WideQ (l:List Fct) (H:Zaa) (r:AV) (H':Zaa):Prop:=HX [] H H'∧∃b,r=.b b∧(b=true→ZlW l)
def prtS (a:Ag):Nat→Int
 | 0=>a.s0
 | 1=>a.s1
 | _=>a.s2
set_option maxHeartbeats 4000000 in
theorem Zkx (t:Tok) (l:List Fct) (H:Zaa) (hl:l.length≤1000000):Zay Tryz.prog 20 [.sl t (rF l)] H (WideQ l H):=by
 refine Zak hE cf20 (Nat.le_of_ble_eq_true rfl) fun Q hQr hQn=>?_
 ((have hd:=trivial;repeat' (first|((first|apply Zad|apply Zac|apply Zab)<;>intro hd<;>(try simp only[hd]))|simp(disch:=first|assumption|omega|(simp only[nx]<;>omega)|fail)only [hd,hQr,hQn,Zf9,↓YA,YB,YC,YE,YF,YZ,sevalprocAttr,List.length_map]))<;>(try (have hd_:True:=hd;clear hd_ hd)))
 refine Zbs [0,6,7] (σ:=Unit) (fun(k:Nat) s=>∀j (h:j<l.length),j<k→l[j].2.n≤1000000000∧∀m,m<3 → -1000000000000≤prtS l[j].2 m∧prtS l[j].2 m≤1000000000000) (fun k s=>[]) (fun k s=>[]) () (GStep.refl _ _) (by simp only[ZaA,Zav,Fr.put,Fr.get,↓reduceIte,Nat.reduceEqDiff];rfl) (by intro k s;rfl) (by intro k s;rfl) (by rfl) (by unfold maxLen;omega) ?_ (by simp only[ZaF]) (by simp only[ZaJ]) ?_ ?_
 ·exact fun j _ h=>absurd h (Nat.not_lt_zero j)
 ·(rintro k s G hk hno hG hn;try simp only[nx]at hn)
  have h0:(0:Int)≤(k:Int):=by omega
  have hrf:=ZjV hk
  obtain⟨j0,j1,j2,j3⟩:=Zbu l[k]
  have en:(ZcI l[k])[1]?=some (.i l[k].2.n):=rfl
  have es:∀m,m<3→(ZcI l[k])[2+m * 3]?=some (.i (prtS l[k].2 m)):=fun m hm=>by
   obtain rfl|rfl|rfl:m=0∨m=1∨m=2:=by omega
   ·rfl
   ·rfl
   ·rfl
  have hnk:∀P:Prop,(l[k].2.n≤1000000000∧∀m,m<3 → -1000000000000≤prtS l[k].2 m∧prtS l[k].2 m≤1000000000000)→(∀j (h:j<l.length),j<k+1→l[j].2.n≤1000000000∧∀m,m<3 → -1000000000000≤prtS l[j].2 m∧prtS l[j].2 m≤1000000000000):=fun _ hq j hj hjk=>by
   rcases Nat.lt_or_eq_of_le (Nat.lt_succ_iff.1 hjk)with h|rfl
   ·exact hno j hj h
   ·exact hq
  generalize l[k]=f at *
  have hG1:HX [] H (G.alloc (.cells (ZcI f) 88)):=hG.alloc
  by_cases c1:f.2.n > 1000000000
  ·have d1:decide (f.2.n > 1000000000)=true:=decide_eq_true c1
   ((have hd:=trivial;repeat' (first|((first|apply Zad|apply Zac|apply Zab)<;>intro hd<;>(try simp only[hd]))|simp(disch:=first|assumption|omega|(simp only[nx]<;>omega)|fail)only [hd,hQr,hQn,Zf9,↓YA,YB,YC,YE,YF,YZ,sevalprocAttr,hrf,h0,hk,j0,j3,en,d1]))<;>(try (have hd_:True:=hd;clear hd_ hd)))
   exact Zaq ⟨hG1,false,rfl,fun h=>by cases h⟩
  ·have d1:decide (f.2.n > 1000000000)=false:=decide_eq_false c1
   ((have hd:=trivial;repeat' (first|((first|apply Zad|apply Zac|apply Zab)<;>intro hd<;>(try simp only[hd]))|simp(disch:=first|assumption|omega|(simp only[nx]<;>omega)|fail)only [hd,hQr,hQn,Zf9,↓YA,YB,YC,YE,YF,YZ,sevalprocAttr,hrf,h0,hk,j0,j3,en,d1]))<;>(try (have hd_:True:=hd;clear hd_ hd)))
   have g4:(G.alloc (.cells (ZcI f) 88)).get G.next=some (.cells (ZcI f) 88):=Zaa.Zae
   have l4:=Zaa.lt g4
   generalize G.alloc (.cells (ZcI f) 88)=G1 at *
   generalize G.next=i4 at *
   refine Zbs (N:=3) [0,4,6,7,8] (σ:=Unit) (fun(k:Nat) s=>∀m,m<k → -1000000000000≤prtS f.2 m∧prtS f.2 m≤1000000000000) (fun k s=>[]) (fun k s=>[]) () (GStep.refl _ _) (by simp only[ZaA,Zav,Fr.put,Fr.get,↓reduceIte,Nat.reduceEqDiff];rfl) (by intro k s;rfl) (by intro k s;rfl) (by rfl) (by unfold maxLen;omega) ?_ (by simp only[ZaF]) (by simp only[ZaJ]) ?_ ?_
   ·exact fun m h=>absurd h (Nat.not_lt_zero m)
   ·(rintro m s2 G2 hm hno2 hG2 hn2;try simp only[nx]at hn2)
    have g4:=(hG2.g _ l4 (by simp)).trans g4
    have hes:=es m hm
    have hm0:(0:Int)≤(m:Int):=by omega
    have hm3:(m:Int)<((3:Nat):Int):=by omega
    have hm3b:(m:Int)<3:=hm3
    generalize hv:prtS f.2 m=v at *
    by_cases c2:v > 1000000000000
    ·have d2:decide (v > 1000000000000)=true:=decide_eq_true c2
     ((have hd:=trivial;repeat' (first|((first|apply Zad|apply Zac|apply Zab)<;>intro hd<;>(try simp only[hd]))|simp(disch:=first|assumption|omega|(simp only[nx]<;>omega)|fail)only [hd,hQr,hQn,Zf9,↓YA,YB,YC,YE,YF,YZ,sevalprocAttr,g4,j0,j3,hes,d2,hm0,hm3,hm3b,hm]))<;>(try (have hd_:True:=hd;clear hd_ hd)))
     exact Zaq ⟨hG1.ZeP hG2,false,rfl,fun h=>by cases h⟩
    ·have d2:decide (v > 1000000000000)=false:=decide_eq_false c2
     by_cases c3:v < -1000000000000
     ·have d3:decide (v < -1000000000000)=true:=decide_eq_true c3
      ((have hd:=trivial;repeat' (first|((first|apply Zad|apply Zac|apply Zab)<;>intro hd<;>(try simp only[hd]))|simp(disch:=first|assumption|omega|(simp only[nx]<;>omega)|fail)only [hd,hQr,hQn,Zf9,↓YA,YB,YC,YE,YF,YZ,sevalprocAttr,g4,j0,j3,hes,d2,d3,hm0,hm3,hm3b,hm]))<;>(try (have hd_:True:=hd;clear hd_ hd)))
      exact Zaq ⟨hG1.ZeP hG2,false,rfl,fun h=>by cases h⟩
     ·have d3:decide (v < -1000000000000)=false:=decide_eq_false c3
      ((have hd:=trivial;repeat' (first|((first|apply Zad|apply Zac|apply Zab)<;>intro hd<;>(try simp only[hd]))|simp(disch:=first|assumption|omega|(simp only[nx]<;>omega)|fail)only [hd,hQr,hQn,Zf9,↓YA,YB,YC,YE,YF,YZ,sevalprocAttr,g4,j0,j3,hes,d2,d3,hm0,hm3,hm3b,hm]))<;>(try (have hd_:True:=hd;clear hd_ hd)))
      exact⟨(),fun q hq=>by
       rcases Nat.lt_or_eq_of_le (Nat.lt_succ_iff.1 hq)with h|rfl
       ·exact hno2 q h
       ·rw[hv];omega,hG2⟩
   ·(rintro s2 G2 hno2 hG2 hn2;try simp only[nx]at hn2)
    ((have hd:=trivial;repeat' (first|((first|apply Zad|apply Zac|apply Zab)<;>intro hd<;>(try simp only[hd]))|simp(disch:=first|assumption|omega|(simp only[nx]<;>omega)|fail)only [hd,hQr,hQn,Zf9,↓YA,YB,YC,YE,YF,YZ,sevalprocAttr]))<;>(try (have hd_:True:=hd;clear hd_ hd)))
    exact⟨(),hnk True ⟨by omega,hno2⟩,hG1.ZeP hG2⟩
 ·(rintro s G hno hG hn;try simp only[nx]at hn)
  by_cases c1:l.length≤1000
  ·have d1:decide ((l.length:Int)≤1000)=true:=decide_eq_true (by omega)
   ((have hd:=trivial;repeat' (first|((first|apply Zad|apply Zac|apply Zab)<;>intro hd<;>(try simp only[hd]))|simp(disch:=first|assumption|omega|(simp only[nx]<;>omega)|fail)only [hd,hQr,hQn,Zf9,↓YA,YB,YC,YE,YF,YZ,sevalprocAttr,d1,List.length_map]))<;>(try (have hd_:True:=hd;clear hd_ hd)))
   refine Zap.use (Zfs t l 1000 _ (by omega)) ?_
   rintro r H2 ⟨hx2,b,rfl,hfl⟩
   ((have hd:=trivial;repeat' (first|((first|apply Zad|apply Zac|apply Zab)<;>intro hd<;>(try simp only[hd]))|simp(disch:=first|assumption|omega|(simp only[nx]<;>omega)|fail)only [hd,hQr,hQn,Zf9,↓YA,YB,YC,YE,YF,YZ,sevalprocAttr]))<;>(try (have hd_:True:=hd;clear hd_ hd)))
   exact Zaq ⟨hG.ZeP hx2,b,rfl,fun _=>⟨c1,fun f hf=>by
    obtain⟨j,hj,rfl⟩:=List.getElem_of_mem hf
    obtain⟨q1,q2⟩:=hno j hj hj
    exact⟨q1,q2 0 (by decide),q2 1 (by decide),q2 2 (by decide)⟩⟩⟩
  ·have d1:decide ((l.length:Int)≤1000)=false:=decide_eq_false (by omega)
   ((have hd:=trivial;repeat' (first|((first|apply Zad|apply Zac|apply Zab)<;>intro hd<;>(try simp only[hd]))|simp(disch:=first|assumption|omega|(simp only[nx]<;>omega)|fail)only [hd,hQr,hQn,Zf9,↓YA,YB,YC,YE,YF,YZ,sevalprocAttr,d1,List.length_map]))<;>(try (have hd_:True:=hd;clear hd_ hd)))
   exact Zaq ⟨hG,false,rfl,fun h=>by cases h⟩
abbrev rWt (out:List (Tok×List (Int×Int))):List (List AV):=out.map fun p=>[AV.sl p.1 (rW p.2)]
def NxOk (x:Shp) (L:List (List (List Int))) (d:Nat) (out:List (Tok×List (Int×Int))):Prop:=∀p∈out,p.2.length=d∧ZgI x L p.2
theorem NxOk.snoc {x:Shp} {L:List (List (List Int))} {d:Nat} {out:List (Tok×List (Int×Int))} {t:Tok} {w:List (Int×Int)} {q:Int×Int} (h:NxOk x L (d+1) out) (hw:w.length=d∧ZgI x L w) (hq:ZfF x L d q):NxOk x L (d+1) (out++[(t,w++[q])]):=fun p hp=>by
 rcases List.mem_append.1 hp with hp|hp
 ·exact h p hp
 ·rw[List.mem_singleton.1 hp]
  refine⟨by simp[hw.1],fun k hk=>?_⟩
  by_cases hk2:k<w.length
  ·show ZfF x L k (w++[q])[k]
   rw[List.getElem_append_left hk2];exact hw.2 k hk2
  ·have hke:k=w.length:=by simp at hk;omega
   subst hke
   show ZfF x L w.length (w++[q])[w.length]
   rw[List.getElem_concat_length rfl,hw.1];exact hq
theorem wkn_ways (t:Tok) (out:List (Tok×List (Int×Int))):Wkn (.sl t (rWt out)) (.sl .no (out.map fun p=>[AV.sl .no (rW p.2)])):=by
 refine .sl _ _ _ (by simp) (fun i r r' h h'=>?_) (fun i r r' j x y h h' hx hy=>?_)
 ·simp only[List.getElem?_map,Option.map_eq_some_iff]at h h'
  obtain⟨a,ha,rfl⟩:=h
  obtain⟨b,hb,rfl⟩:=h'
  rfl
 ·simp only[List.getElem?_map,Option.map_eq_some_iff]at h h'
  obtain⟨a,ha,rfl⟩:=h
  obtain⟨b,hb,rfl⟩:=h'
  rw[ha]at hb
  injection hb with hb
  subst hb
  match j with
  | 0=>simp only[List.getElem?_cons_zero,Option.some.injEq]at hx hy;subst hx hy;exact Zfm _ _
  | j+1=>simp at hx
def WaysQ (S:Sc) (H:Zaa) (r:AV) (H':Zaa):Prop:=∃W:List (List (Int×Int)),W.length≤3000∧(∀w∈W,w.length=S.dims.length∧ZgI (Za3 S) (Zan S) w)∧Pure H (.sl .no (W.map fun w=>[AV.sl .no (rW w)])) r H'
def WyL (S:Sc) (D:Dm) (t:Tok) (out:List (Tok×List (Int×Int))) (d i i5 tk:Nat) (H S2:Zaa) (nx:List (Tok×List (Int×Int))) (F:Fr):Prop :=
 Fr.get F 22=.i (i:Int)∧Fr.get F 21=.i (out.length:Int)∧Fr.get F 20=.sl t (rWt out)∧Fr.get F 16=.i (d:Int)∧Fr.get F 15=.i (S.dims.length:Int)∧Fr.get F 14=.sl .no (rD S.dims)∧Fr.get F 5=.ptr i5 0∧S2.get i5=some (.cells (eDm D) 102)∧Zaa.Ext H S2 ∧
  Fr.get F 6=.sl (.own tk) (rWt nx)∧S2.get tk=some (.tok nx.length 49 1)∧NxOk (Za3 S) (Zan S) (d+1) nx
theorem WyL.put {S:Sc} {D:Dm} {t:Tok} {out:List (Tok×List (Int×Int))} {d i i5 tk:Nat} {H S2:Zaa} {nx:List (Tok×List (Int×Int))} {F:Fr} (h:WyL S D t out d i i5 tk H S2 nx F) {s:Nat} {v:AV} (hs:s≠22∧s≠21∧s≠20∧s≠16∧s≠15∧s≠14∧s≠5∧s≠6):WyL S D t out d i i5 tk H S2 nx ((s,v) :: F):=by
 obtain⟨h1,h2,h3,h4,h5,h6,h7,h8⟩:=hs
 obtain⟨g1,g2,g3,g4,g5,g6,g7,g8,g9,g10,g11⟩:=h
 refine⟨?_,?_,?_,?_,?_,?_,?_,g8,g9,?_,g11⟩
 ·rw[Fr.get,if_neg h1.symm];exact g1
 ·rw[Fr.get,if_neg h2.symm];exact g2
 ·rw[Fr.get,if_neg h3.symm];exact g3
 ·rw[Fr.get,if_neg h4.symm];exact g4
 ·rw[Fr.get,if_neg h5.symm];exact g5
 ·rw[Fr.get,if_neg h6.symm];exact g6
 ·rw[Fr.get,if_neg h7.symm];exact g7
 ·rw[Fr.get,if_neg h8.symm];exact g10
theorem WyL.nxt {S:Sc} {D:Dm} {t:Tok} {out:List (Tok×List (Int×Int))} {d i i5 tk:Nat} {H S2:Zaa} {nx:List (Tok×List (Int×Int))} {F:Fr} (h:WyL S D t out d i i5 tk H S2 nx F):WyL S D t out d (i+1) i5 tk H S2 nx ((22,.i ((i+1:Nat):Int)) :: F):=by
 obtain⟨g1,g2,g3,g4,g5,g6,g7,g8,g9,g10,g11⟩:=h
 exact⟨rfl,g2,g3,g4,g5,g6,g7,g8,g9,g10,g11⟩
theorem WyL.add {S:Sc} {D:Dm} {t:Tok} {out:List (Tok×List (Int×Int))} {d i i5 tk:Nat} {H S2 S3:Zaa} {nx:List (Tok×List (Int×Int))} {F F3:Fr} {tw:Tok} {w:List (Int×Int)} {q:Int×Int} (h:WyL S D t out d i i5 tk H S2 nx F) (hw:w.length=d∧ZgI (Za3 S) (Zan S) w) (hq:ZfF (Za3 S) (Zan S) d q)
  (hF:Fr.get F3 22=.i (i:Int)∧Fr.get F3 21=.i (out.length:Int)∧Fr.get F3 20=.sl t (rWt out)∧Fr.get F3 16=.i (d:Int)∧Fr.get F3 15=.i (S.dims.length:Int)∧Fr.get F3 14=.sl .no (rD S.dims)∧Fr.get F3 5=.ptr i5 0) (h6:Fr.get F3 6=.sl (.own tk) (rWt nx++[[.sl tw (rW w++[[.i q.1,.i q.2]])]]))
  (hx:Zaa.Ext S2 S3) (hk:H.next≤tk) (h5:i5≠tk):WyL S D t out d i i5 tk H (S3.set tk (.tok (nx.length+1) 49 1)) (nx++[(tw,w++[q])]) F3:=by
 obtain⟨g1,g2,g3,g4,g5,g6,g7,g8,g9,g10,g11,g12⟩:=h
 obtain⟨k1,k2,k3,k4,k5,k6,k7⟩:=hF
 refine⟨k1,k2,k3,k4,k5,k6,k7,?_,(g9.trans hx).set hk,?_,?_,g12.snoc hw hq⟩
 ·rw[Zaa.Zah h5];exact hx.get _ _ g8
 ·rw[h6];simp
 ·rw[Zaa.Zal (Zaa.lt (hx.get _ _ g11)),List.length_append];rfl
set_option maxRecDepth 10000 in
set_option maxHeartbeats 8000000 in
theorem Zkt (S:Sc) (H:Zaa) (hs:scE S=0):Zay Tryz.prog 21 [.agg (eSc S)] H (WaysQ S H):=by
 obtain⟨f0,f1,f2,f3⟩:=ZbB S
 obtain⟨hs1,hs2,hs3,_⟩:=Zb7 hs
 have hx0:Zaa.Ext H (H.alloc (.cells (eSc S) 25)):=(Zaa.Ext.refl H).alloc
 refine Zak hE cf21 (Nat.le_of_ble_eq_true rfl) fun Q hQr hQn=>?_
 ((have hd:=trivial;repeat' (first|((first|apply Zad|apply Zac|apply Zab)<;>intro hd<;>(try simp only[hd]))|simp(disch:=first|assumption|omega|(simp only[nx]<;>omega)|fail)only [hd,hQr,hQn,Zeb,↓YA,YB,YC,YE,YF,YZ,sevalprocAttr,f0,f1,f3,List.length_map]))<;>(try (have hd_:True:=hd;clear hd_ hd)))
 generalize H.alloc (.cells (eSc S) 25)=G0 at *
 refine ZbJ (N:=S.dims.length) (fun k F G=>Fr.get F 16=.i (k:Int)∧Fr.get F 15=.i (S.dims.length:Int)∧Fr.get F 14=.sl .no (rD S.dims)∧Zaa.Ext H G∧∃t out,Fr.get F 3=.sl t (rWt out)∧NxOk (Za3 S) (Zan S) k out∧out.length≤3000) (by unfold maxLen;omega) (fun k F G h=>⟨h.1,h.2.1⟩) (GStep.refl _ _) ?_ ?_ ?_
 ·refine⟨rfl,rfl,rfl,hx0,_,[(.full,[])],rfl,fun p hp=>?_,by simp⟩
  rw[List.mem_singleton.1 hp]
  exact⟨rfl,fun k hk=>absurd hk (Nat.not_lt_zero k)⟩
 ·rintro d F G hd ⟨f16,f15,f14,hxG,t,out,f3',hout,hol⟩
  have hrd:=ZjQ hd
  obtain⟨q0,q1,q2,q3⟩:=Za7 S.dims[d]
  obtain⟨dt1,dt2,dt3⟩:=Zce (hs3 _ (List.getElem_mem hd))
  have h0:(0:Int)≤(d:Int):=by omega
  have hLd:(Zan S).getD d []=Zct S.dims[d]:=by unfold Zan;simp[hd]
  have hLl:((Zan S).getD d []).length=S.dims[d].tiers.length:=by rw[hLd];unfold Zct;simp
  have hsz:(Za3 S).sizes.getD d []=S.dims[d].tiers.map szT:=by unfold Za3;simp[hd]
  have hpos:∀k (hk:k<S.dims[d].tiers.length) (m:Nat),m<S.dims[d].tiers[k].terms.length→ZfF (Za3 S) (Zan S) d ((k:Int),(m:Int)):=fun k hk m hm=>.inr ⟨k,rfl,by rw[hLl];exact hk,by simp,by
   unfold Zch
   rw[hsz]
   simp[hk,szT,hm]⟩
  have hpn:ZfF (Za3 S) (Zan S) d (-1,0):=.inl ⟨by simp,rfl⟩
  have htm:∀k (hk:k<S.dims[d].tiers.length),S.dims[d].tiers[k].terms.length≤200:=fun k hk=>(Zcd (dt3 k hk)).2.1
  clear hLd hsz dt3
  generalize S.dims[d]=D at *
  ((have hd:=trivial;repeat' (first|((first|apply Zad|apply Zac|apply Zab)<;>intro hd<;>(try simp only[hd]))|simp(disch:=first|assumption|omega|(simp only[nx]<;>omega)|fail)only [hd,hQr,hQn,Zeb,↓YA,YB,YC,YE,YF,YZ,sevalprocAttr,f16,f15,f14,f3',hrd,h0,hd,q0,q3,List.length_map]))<;>(try (have hd_:True:=hd;clear hd_ hd)))
  have gd:(G.alloc (.cells (eDm D) 102)).get G.next=some (.cells (eDm D) 102):=Zaa.Zae
  have hx1:Zaa.Ext H (G.alloc (.cells (eDm D) 102)):=hxG.alloc
  have ld:=Zaa.lt gd
  generalize G.alloc (.cells (eDm D) 102)=G1 at *
  generalize G.next=i5 at *
  have hnx:H.next≤G1.next:=hx1.next
  refine ZbJ (N:=out.length) (fun i F S2=>Fr.get F 22=.i (i:Int)∧Fr.get F 21=.i (out.length:Int)∧∃nx,WyL S D t out d i i5 G1.next H S2 nx F∧nx.length≤i * 1400) (by unfold maxLen;omega) (fun k F G h=>⟨h.1,h.2.1⟩)
   ((GStep.tok 6 49 1 rfl).trans (GStep.fr (F':=[(22,.i ((0:Nat):Int)),(21,.i (out.length:Int)),(20,.sl t (rWt out)),(16,.i (d:Int)),(15,.i (S.dims.length:Int)),(14,.sl .no (rD S.dims)),(5,.ptr i5 0),(6,.sl (.own G1.next) [])]) (by simp[Fr.get,Fr.put,f16,f15,f14]))) ?_ ?_ ?_
  ·exact⟨rfl,rfl,[],⟨rfl,rfl,rfl,rfl,rfl,rfl,rfl,(Zaa.Zag (by omega)).trans gd,hx1.alloc,rfl,Zaa.Zae,fun p hp=>(by cases hp)⟩,Nat.zero_le _⟩
  ·rintro i F2 S2 hi ⟨_,_,nx,⟨f22,f21,f20,f16,f15,f14,f5,gd,hx2,f6,gt,hnxo⟩,hnl⟩
   have hrw:(rWt out)[i]?=some [.sl out[i].1 (rW out[i].2)]:=by simp[hi]
   have hwo:=hout _ (List.getElem_mem hi)
   have h1:(0:Int)≤(i:Int):=by omega
   generalize out[i]=wt at *
   obtain⟨tw,w⟩:=wt
   simp only at hrw hwo
   have lt:=Zaa.lt gt
   have ld2:=Zaa.lt gd
   have hwl:w.length≤16:=by omega
   have al:∀t r,ZaE 1 [[AV.sl t r]]=true:=fun _ _=>rfl
   have aZ:ZaE 2 []=true:=rfl
   have lz1:(0:Nat)≤maxLen:=Nat.zero_le _
   have lz2:(1:Nat)≤maxLen:=by decide
   have lw:ZaE 2 (rW w)=true:=ZaU (f:=fun q:Int×Int=>[AV.i q.1,.i q.2]) (fun _=>rfl) w
   have aq:∀a b,ZaE 2 [[AV.i a,.i b]]=true:=fun _ _=>rfl
   have m1:w.length≤maxLen:=by unfold maxLen;omega
   have m2:w.length * 16≤140737488355328:=by omega
   have m3:w.length+1≤maxLen:=by unfold maxLen;omega
   have m4:(w.length+1) * 16≤140737488355328:=by omega
   have hwc:rW w=[]∨∃r0 rs,rW w=r0 :: rs:=by cases w<;>simp
   have rest:∀(nx2:List (Tok×List (Int×Int))) (S3:Zaa) (F3:Fr),WyL S D t out d i i5 G1.next H S3 nx2 F3→Fr.get F3 8=.sl tw (rW w)→nx2.length≤i * 1400+1→Fr.get F3 36=.sl .no (rT D.tiers)→Fr.get F3 37=.i (D.tiers.length:Int)→Fr.get F3 38=.i ((0:Nat):Int)→∀Q2,(∀(nx3:List (Tok×List (Int×Int))) (S4:Zaa) (F4:Fr),WyL S D t out d i i5 G1.next H S4 nx3 F4→nx3.length≤i * 1400+1400→Q2 .normal F4 S4)→AW Tryz.prog c21_3 Q2 F3 S3:=by
    intro nx2 S3 F3 hW0 g8 hl2 g36 g37 g38 Q2 hQ2
    refine ZbJ (N:=D.tiers.length) (fun k F S4=>Fr.get F 38=.i (k:Int)∧Fr.get F 37=.i (D.tiers.length:Int)∧Fr.get F 36=.sl .no (rT D.tiers)∧Fr.get F 8=.sl tw (rW w)∧∃nx,WyL S D t out d i i5 G1.next H S4 nx F∧nx.length≤i * 1400+1+k * 220) (by unfold maxLen;omega) (fun k F G h=>⟨h.1,h.2.1⟩) (GStep.refl _ _) ⟨g38,g37,g36,g8,nx2,hW0,by omega⟩ ?_ ?_
    ·rintro k F4 S4 hk ⟨f38,f37,f36,f8,nx4,hW4,hl4⟩
     have hrt:=Zdh hk
     obtain⟨y0,y1,y2,y3,y4⟩:=Zba D.tiers[k]
     have htk:=htm k hk
     have hpk:=hpos k hk
     have hk0:(0:Int)≤(k:Int):=by omega
     generalize D.tiers[k]=T at *
     obtain⟨f22,f21,f20,f16,f15,f14,f5,gd4,hx4,f6,gt4,hnx4⟩:=id hW4
     have hS5:Zaa.Ext S4 (S4.alloc (.cells (eTr T) 107)):=(Zaa.Ext.refl S4).alloc
     ((have hd:=trivial;repeat' (first|((first|apply Zad|apply Zac|apply Zab)<;>intro hd<;>(try simp only[hd]))|simp(disch:=first|assumption|omega|(simp only[nx]<;>omega)|fail)only [hd,hQr,hQn,Zeb,↓YA,YB,YC,YE,YF,YZ,sevalprocAttr,f38,f37,f36,f8,f22,f21,f20,f16,f15,f14,f5,f6,hrt,hk0,hk,y0,y2,y4,List.length_map]))<;>(try (have hd_:True:=hd;clear hd_ hd)))
     have hW5:WyL S D t out d i i5 G1.next H (S4.alloc (.cells (eTr T) 107)) nx4 ((46,.i ((0:Nat):Int)) :: (45,.i (T.terms.length:Int)) :: (44,.sl .no (rS T.terms)) :: (43,.ptr S4.next 1) :: (9,.i (k:Int)) :: (10,.ptr S4.next 0) :: (42,.agg (eTr T)) :: (41,.el (eTr T) 0) :: (40,.i (k:Int)) :: (39,.b true) :: F4):=by
      have hW:WyL S D t out d i i5 G1.next H (S4.alloc (.cells (eTr T) 107)) nx4 F4:=⟨f22,f21,f20,f16,f15,f14,f5,hS5.get _ _ gd4,hx4.trans hS5,f6,hS5.get _ _ gt4,hnx4⟩
      exact(((((((((hW.put (by decide)).put (by decide)).put (by decide)).put (by decide)).put (by decide)).put (by decide)).put (by decide)).put (by decide)).put (by decide)).put (by decide)
     generalize hn:T.terms.length=n at *
     refine ZbJ (N:=n) (fun m F S6=>Fr.get F 46=.i (m:Int)∧Fr.get F 45=.i (n:Int)∧Fr.get F 9=.i (k:Int)∧Fr.get F 38=.i (k:Int)∧Fr.get F 37=.i (D.tiers.length:Int)∧Fr.get F 36=.sl .no (rT D.tiers)∧Fr.get F 8=.sl tw (rW w)∧∃nx,WyL S D t out d i i5 G1.next H S6 nx F∧nx.length≤i * 1400+1+k * 220+m) (by unfold maxLen;omega) (fun k F G h=>⟨h.1,h.2.1⟩) (GStep.refl _ _)
      ⟨rfl,rfl,rfl,by simp[Fr.get,f38],by simp[Fr.get,f37],by simp[Fr.get,f36],by simp[Fr.get,f8],nx4,hW5,by omega⟩ ?_ ?_
     ·rintro m F6 S6 hm ⟨f46,f45,f9,f38,f37,f36,f8,nx6,hW6,hl6⟩
      obtain⟨f22,f21,f20,f16,f15,f14,f5,gd6,hx6,f6,gt6,hnx6⟩:=id hW6
      have lt6:=Zaa.lt gt6
      have n5:nx6.length+1≤maxLen:=by unfold maxLen;omega
      have n6:(nx6.length+1) * 24≤140737488355328:=by omega
      have lb1:ZaE 1 (rWt nx6)=true:=ZaU (f:=fun p:Tok×List (Int×Int)=>[AV.sl p.1 (rW p.2)]) (fun _=>rfl) nx6
      have hpm:=hpk m (by omega)
      rcases hwc with hwc|⟨r0,rs,hwc⟩
      ·rw[hwc]at lw f8
       ((have hd:=trivial;repeat' (first|((first|apply Zad|apply Zac|apply Zab)<;>intro hd<;>(try simp only[hd]))|simp(disch:=first|assumption|omega|(simp only[nx]<;>omega)|fail)only [hd,hQr,hQn,Zeb,↓YA,YB,YC,YE,YF,YZ,sevalprocAttr,f46,f45,f9,f38,f37,f36,f8,f22,f21,f20,f16,f15,f14,f5,f6,gt6,lb1,lw,m1,m2,m3,m4,n5,n6,aq,al,aZ,lz1,lz2,List.length_map,List.length_nil,List.length_cons,List.nil_append]))<;>(try (have hd_:True:=hd;clear hd_ hd)))
       refine⟨by rw[hwc],nx6++[(.own S6.next,w++[((k:Int),(m:Int))])],hW6.add hwo hpm ⟨by simp[Fr.get,f22],by simp[Fr.get,f21],by simp[Fr.get,f20],by simp[Fr.get,f16],by simp[Fr.get,f15],by simp[Fr.get,f14],by simp[Fr.get,f5]⟩ (by simp[Fr.get,hwc]) (Zaa.Ext.refl S6).alloc hnx (by omega),by rw[List.length_append,List.length_singleton];omega⟩
      ·have hrl:rs.length+1=w.length:=by have:=congrArg List.length hwc;simpa using this.symm
       rw[hwc]at lw f8
       ((have hd:=trivial;repeat' (first|((first|apply Zad|apply Zac|apply Zab)<;>intro hd<;>(try simp only[hd]))|simp(disch:=first|assumption|omega|(simp only[nx]<;>omega)|fail)only [hd,hQr,hQn,Zeb,↓YA,YB,YC,YE,YF,YZ,sevalprocAttr,f46,f45,f9,f38,f37,f36,f8,f22,f21,f20,f16,f15,f14,f5,f6,gt6,lb1,lw,m1,m2,m3,m4,n5,n6,aq,al,aZ,lz1,lz2,hrl,List.length_map,List.length_nil,List.length_cons,List.nil_append]))<;>(try (have hd_:True:=hd;clear hd_ hd)))
       refine⟨by rw[hwc],nx6++[(.own S6.next,w++[((k:Int),(m:Int))])],hW6.add hwo hpm ⟨by simp[Fr.get,f22],by simp[Fr.get,f21],by simp[Fr.get,f20],by simp[Fr.get,f16],by simp[Fr.get,f15],by simp[Fr.get,f14],by simp[Fr.get,f5]⟩ (by simp[Fr.get,hwc]) (Zaa.Ext.refl S6).alloc hnx (by omega),by rw[List.length_append,List.length_singleton];omega⟩
     ·rintro F6 S6 ⟨f46,f45,f9,f38,f37,f36,f8,nx6,hW6,hl6⟩
      ((have hd:=trivial;repeat' (first|((first|apply Zad|apply Zac|apply Zab)<;>intro hd<;>(try simp only[hd]))|simp(disch:=first|assumption|omega|(simp only[nx]<;>omega)|fail)only [hd,hQr,hQn,Zeb,↓YA,YB,YC,YE,YF,YZ,sevalprocAttr,f46,f45,f9,f38,f37,f36,f8]))<;>(try (have hd_:True:=hd;clear hd_ hd)))
      exact⟨nx6,((hW6.put (by decide)).put (by decide)).put (by decide),by omega⟩
    ·rintro F4 S4 ⟨f38,f37,f36,f8,nx4,hW4,hl4⟩
     exact hQ2 nx4 _ _ (hW4.put (by decide)) (by omega)
   have m5:nx.length+1≤maxLen:=by unfold maxLen;omega
   have m6:(nx.length+1) * 24≤140737488355328:=by omega
   have la1:ZaE 1 (rWt nx)=true:=ZaU (f:=fun p:Tok×List (Int×Int)=>[AV.sl p.1 (rW p.2)]) (fun _=>rfl) nx
   have hWy:WyL S D t out d i i5 G1.next H S2 nx F2:=⟨f22,f21,f20,f16,f15,f14,f5,gd,hx2,f6,gt,hnxo⟩
   rcases hwc with hwc|⟨r0,rs,hwc⟩
   ·rw[hwc]at lw hrw
    ((have hd:=trivial;repeat' (first|((first|apply Zad|apply Zac|apply Zab)<;>intro hd<;>(try simp only[hd]))|simp(disch:=first|assumption|omega|(simp only[nx]<;>omega)|fail)only [hd,hQr,hQn,Zeb,↓YA,YB,YC,YE,YF,YZ,sevalprocAttr,f22,f21,f20,f16,f15,f14,f5,f6,hrw,h1,hi,gt,gd,la1,lw,m1,m2,m3,m4,m5,m6,aq,al,aZ,lz1,lz2,q0,q2,List.length_map,List.length_nil,List.length_cons,List.nil_append]))<;>(try (have hd_:True:=hd;clear hd_ hd)))
    refine rest (nx++[(.own S2.next,w++[(-1,0)])]) _ _ (hWy.add hwo hpn ⟨by simp[Fr.get,f22],by simp[Fr.get,f21],by simp[Fr.get,f20],by simp[Fr.get,f16],by simp[Fr.get,f15],by simp[Fr.get,f14],by simp[Fr.get,f5]⟩ (by simp[Fr.get,hwc]) (Zaa.Ext.refl S2).alloc hnx (by omega)) (by simp[Fr.get,hwc]) (by rw[List.length_append,List.length_singleton];omega) (by simp[Fr.get]) (by simp[Fr.get]) (by simp[Fr.get]) _ ?_
    intro nx3 S4 F4 hW4 hl4
    obtain⟨k22,k21,k20,k16,k15,k14,k5,_⟩:=id hW4
    ((have hd:=trivial;repeat' (first|((first|apply Zad|apply Zac|apply Zab)<;>intro hd<;>(try simp only[hd]))|simp(disch:=first|assumption|omega|(simp only[nx]<;>omega)|fail)only [hd,hQr,hQn,Zeb,↓YA,YB,YC,YE,YF,YZ,sevalprocAttr,k22,k21,k20,k16,k15,k14,k5]))<;>(try (have hd_:True:=hd;clear hd_ hd)))
    exact⟨nx3,(hW4.put (by decide)).nxt,by omega⟩
   ·have hrl:rs.length+1=w.length:=by have:=congrArg List.length hwc;simpa using this.symm
    have hwl2:∀y:List AV,(rs++[y]).length+1=w.length+1:=fun y=>by rw[List.length_append];simp only[List.length_cons,List.length_nil];omega
    rw[hwc]at lw hrw
    ((have hd:=trivial;repeat' (first|((first|apply Zad|apply Zac|apply Zab)<;>intro hd<;>(try simp only[hd]))|simp(disch:=first|assumption|omega|(simp only[nx]<;>omega)|fail)only [hd,hQr,hQn,Zeb,↓YA,YB,YC,YE,YF,YZ,sevalprocAttr,f22,f21,f20,f16,f15,f14,f5,f6,hrw,h1,hi,gt,gd,la1,lw,m1,m2,m3,m4,m5,m6,aq,al,aZ,lz1,lz2,q0,q2,hrl,hwl2,List.length_map,List.length_nil,List.length_cons,List.nil_append]))<;>(try (have hd_:True:=hd;clear hd_ hd)))
    refine rest (nx++[(.own S2.next,w++[(-1,0)])]) _ _ (hWy.add hwo hpn ⟨by simp[Fr.get,f22],by simp[Fr.get,f21],by simp[Fr.get,f20],by simp[Fr.get,f16],by simp[Fr.get,f15],by simp[Fr.get,f14],by simp[Fr.get,f5]⟩ (by simp[Fr.get,hwc]) (Zaa.Ext.refl S2).alloc hnx (by omega)) (by simp[Fr.get,hwc]) (by rw[List.length_append,List.length_singleton];omega) (by simp[Fr.get]) (by simp[Fr.get]) (by simp[Fr.get]) _ ?_
    intro nx3 S4 F4 hW4 hl4
    obtain⟨k22,k21,k20,k16,k15,k14,k5,_⟩:=id hW4
    ((have hd:=trivial;repeat' (first|((first|apply Zad|apply Zac|apply Zab)<;>intro hd<;>(try simp only[hd]))|simp(disch:=first|assumption|omega|(simp only[nx]<;>omega)|fail)only [hd,hQr,hQn,Zeb,↓YA,YB,YC,YE,YF,YZ,sevalprocAttr,k22,k21,k20,k16,k15,k14,k5]))<;>(try (have hd_:True:=hd;clear hd_ hd)))
    exact⟨nx3,(hW4.put (by decide)).nxt,by omega⟩
  ·rintro F2 S2 ⟨_,_,nx,⟨f22,f21,f20,f16,f15,f14,f5,gd,hx2,f6,gt,hnxo⟩,hnl⟩
   by_cases hgr:nx.length > 3000
   ·have d1:decide ((nx.length:Int) > 3000)=true:=by simp;omega
    ((have hd:=trivial;repeat' (first|((first|apply Zad|apply Zac|apply Zab)<;>intro hd<;>(try simp only[hd]))|simp(disch:=first|assumption|omega|(simp only[nx]<;>omega)|fail)only [hd,hQr,hQn,Zeb,↓YA,YB,YC,YE,YF,YZ,sevalprocAttr,f22,f21,f20,f16,f15,f14,f5,f6,d1,List.length_map]))<;>(try (have hd_:True:=hd;clear hd_ hd)))
    exact ZgY (Zc1 (v:=.sl .no []) (Zfm _ []) hx2) fun _ _ h=>⟨[],by simp,fun w hw=>(by cases hw),h⟩
   ·have d1:decide ((nx.length:Int) > 3000)=false:=by simp;omega
    ((have hd:=trivial;repeat' (first|((first|apply Zad|apply Zac|apply Zab)<;>intro hd<;>(try simp only[hd]))|simp(disch:=first|assumption|omega|(simp only[nx]<;>omega)|fail)only [hd,hQr,hQn,Zeb,↓YA,YB,YC,YE,YF,YZ,sevalprocAttr,f22,f21,f20,f16,f15,f14,f5,f6,d1,List.length_map]))<;>(try (have hd_:True:=hd;clear hd_ hd)))
    exact⟨hx2,_,nx,rfl,hnxo,by omega⟩
 ·rintro F G ⟨f16,f15,f14,hxG,t,out,f3',hout,hol⟩
  ((have hd:=trivial;repeat' (first|((first|apply Zad|apply Zac|apply Zab)<;>intro hd<;>(try simp only[hd]))|simp(disch:=first|assumption|omega|(simp only[nx]<;>omega)|fail)only [hd,hQr,hQn,Zeb,↓YA,YB,YC,YE,YF,YZ,sevalprocAttr,f16,f15,f14,f3']))<;>(try (have hd_:True:=hd;clear hd_ hd)))
  exact ZgY (Zc1 (wkn_ways t out) hxG) fun _ _ h=>⟨out.map (·.2),by simpa using hol,fun w hw=>by
   obtain⟨p,hp,rfl⟩:=List.mem_map.1 hw
   exact hout p hp,by rw[List.map_map];exact h⟩
end Go.Proofs.YtaapiigfmdhobaaGreat
