/- Texts of the walk. -/
import Derived.Test.YtdfgoekdlmkdfaaGreatDoorNb
namespace Go.Proofs.YtdfgoekdlmkdfaaGreatDoor
set_option linter.defProp false
set_option maxHeartbeats 64000000
set_option linter.unusedSimpArgs false
set_option linter.unusedVariables false
open Go.RowKit Go.Lib
def ZJN (d:Dm) (k:Nat):List Tx:=match d.tiers[k]? with
 | some t=>t.terms
 | none=>[]
def ZIF (d:Dm) (p:Pk):Int:=if p.filt=0 then 0 else if d.tiers.length<=p.tier then 2 else if p.filt=1 then 0 else if p.set.all (fun t=>decide (t∈ZJN d p.tier))=true then 0 else 13
theorem ZIU {d:Dm} (h:Zdv d=0):d.tiers.length<=4/\1<=d.tiers.length/\∀t∈d.tiers,Zgt none t.terms=0/\t.terms.length<=200:=by
 unfold Zdv at h
 split at h
 ·cases h
 ·split at h
  ·cases h
  ·rename_i hl
   refine⟨Xa,Xa,fun t ht=>?_⟩
   obtain⟨k,hk,rfl⟩:=zar ht
   have hk':=ZDO h hk
   exact⟨ZCu hk',(ZBT hk').2.1⟩
theorem ZHv (p:Pk):(ePk p).length=7/\(ePk p)[0]?=some (.i (p.filt:Nat))/\(ePk p)[1]?=some (.i (p.tier:Nat))/\(ePk p)[2]?=some (eS p.lo)/\(ePk p)[3]?=some (eS p.hi)/\(ePk p)[4]?=some (.sl .no (rS p.set))/\(ePk p)[5]?=some (.b (decide (0<p.by')))/\(ePk p)[6]?=some (.i ((p.by' - 1:Nat):Int))/\(ePk p).take 7=ePk p:=⟨rfl,rfl,rfl,rfl,rfl,rfl,rfl,rfl,rfl⟩
theorem rfil_any (d:Dm) (p:Pk) (H:Zaa) (he:Zdv d=0) (hp:ZIZ p):Zay Tryz.prog 122 [.agg (eDm d),.agg (ePk p)] H (Pure H (.i (ZIF d p))):=by
 obtain⟨b0,b1,b2,b3⟩:=Za7 d
 obtain⟨a0,a1,a2,a3,a4,a5,a6,a7,a8⟩:=ZHv p
 have hf:=hp.f
 obtain⟨hl4,hl1,hrow⟩:=ZIU he
 have hx0:Zaa.Ext H H:=.refl _
 have dN:∀l:Tx,decide (l=([]:Tx))=true\/True:=fun _=>.inr trivial
 have z0:((0:Int) == 0)=true:=rfl
 have z1:((0:Int) != 0)=false:=rfl
 have sE:((⟨([]:Tx).toArray⟩:ByteArray)=⟨#[]⟩)=True:=Xc
 by_cases h0:p.filt=0
 ·obtain⟨k1,k2,k3,k4⟩:=hp.z0 h0
  have hv:ZIF d p=0:=by unfold ZIF;rw[if_pos h0]
  rw[hv]
  rw[h0]at a1
  rw[k1]at a2
  have a1:(ePk p)[0]?=some (AV.i 0):=a1
  have a2:(ePk p)[1]?=some (AV.i 0):=a2
  rw[k2]at a3
  rw[k3]at a4
  rw[k4]at a5
  have dS:decide (([]:Tx)=([]:Tx))=true:=rfl
  have dL:decide ((0:Int) > 0)=false:=rfl
  have dL2:decide (((0:Nat):Int) > 0)=false:=rfl
  refine fnQ ZLJ fun Q qr qn=>?_
  refine Bz5 (X12 b0 b1 b2 b3 a0 a1 a2 a3 a4 a5 a6 (X9 a7 a8 z0 z1 sE dS dL dL2 YZs)) ?_
  refine Zaz (by rfl)
 ·by_cases h1:d.tiers.length<=p.tier
  ·have hv:ZIF d p=2:=by unfold ZIF;rw[if_neg h0,if_pos h1]
   rw[hv]
   have dT:decide (((p.tier:Nat):Int)≥((d.tiers.length:Nat):Int))=true:=by rw[decide_eq_true_iff];omega
   have dP:decide (((p.tier:Nat):Int)<0)=false:=by rw[decide_eq_false_iff_not];omega
   rcases (show p.filt=1\/p.filt=2 by omega)with h2|h2
   ·rw[h2]at a1
    have a1:(ePk p)[0]?=some (AV.i 1):=a1
    have y0:((1:Int) == 0)=false:=rfl
    have y1:((1:Int) != 1)=false:=rfl
    refine fnQ ZLJ fun Q qr qn=>?_
    refine Bz3 (X12 b0 b1 b2 b3 a0 a1 a2 a3 a4 a5 a6 (X7 a7 a8 y0 y1 dT dP YZs)) ?_
    refine Zaz (by rfl)
   ·rw[h2]at a1
    have a1:(ePk p)[0]?=some (AV.i 2):=a1
    have y0:((2:Int) == 0)=false:=rfl
    have y1:((2:Int) != 1)=true:=rfl
    have y2:((2:Int) != 2)=false:=rfl
    refine fnQ ZLJ fun Q qr qn=>?_
    refine Bz3 (X12 b0 b1 b2 b3 a0 a1 a2 a3 a4 a5 a6 (X8 a7 a8 y0 y1 y2 dT dP YZs)) ?_
    refine Zaz (by rfl)
  ·have dT:decide (((p.tier:Nat):Int)≥((d.tiers.length:Nat):Int))=false:=by rw[decide_eq_false_iff_not];omega
   have dP:decide (((p.tier:Nat):Int)<0)=false:=by rw[decide_eq_false_iff_not];omega
   rcases (show p.filt=1\/p.filt=2 by omega)with h2|h2
   ·have hv:ZIF d p=0:=by unfold ZIF;rw[if_neg h0,if_neg h1,if_pos h2]
    rw[hv]
    have hs:=hp.z1 h2
    rw[h2]at a1
    have a1:(ePk p)[0]?=some (AV.i 1):=a1
    rw[hs]at a5
    have y0:((1:Int) == 0)=false:=rfl
    have y1:((1:Int) != 1)=false:=rfl
    have y2:((1:Int) == 1)=true:=rfl
    have dL:decide ((0:Int) > 0)=false:=rfl
    have dL2:decide (((0:Nat):Int) > 0)=false:=rfl
    have h3:=hp.lo
    have h4:=hp.hi
    have dLo:decide (((p.lo.length:Nat):Int) > 16)=false:=by rw[decide_eq_false_iff_not];omega
    have dHi:decide (((p.hi.length:Nat):Int) > 16)=false:=by rw[decide_eq_false_iff_not];omega
    refine fnQ ZLJ fun Q qr qn=>?_
    refine Bz5 (X12 b0 b1 b2 b3 a0 a1 a2 a3 a4 a5 a6 (X12 a7 a8 y0 y1 y2 dT dP dL dL2 dLo dHi YZs)) ?_
    refine Zaz (by rfl)
   ·obtain⟨k2,k3⟩:=hp.z2 h2
    have hv:ZIF d p=if p.set.all (fun t=>decide (t∈ZJN d p.tier))=true then 0 else 13:=by unfold ZIF;rw[if_neg h0,if_neg h1,if_neg Xa]
    rw[hv]
    have hlt:p.tier<d.tiers.length:=Xa
    have htk:ZJN d p.tier=(d.tiers[p.tier]).terms:=by unfold ZJN;rw[zac hlt]
    have hr:=Zdh hlt
    have htl:=(hrow _ (zah hlt)).2
    rw[htk]
    obtain⟨c0,c1,c2,c3,c4⟩:=Zba d.tiers[p.tier]
    generalize d.tiers[p.tier]=t0 at *
    have hrw:=fun H=>Zki .no p.set H (by have:=hp.len;omega)
    rw[hp.set]at hrw
    rw[h2]at a1
    have a1:(ePk p)[0]?=some (AV.i 2):=a1
    rw[k2]at a3
    rw[k3]at a4
    have y0:((2:Int) == 0)=false:=rfl
    have y1:((2:Int) != 1)=true:=rfl
    have y2:((2:Int) != 2)=false:=rfl
    have y3:((2:Int) == 1)=false:=rfl
    have dS:decide (([]:Tx)=([]:Tx))=true:=rfl
    have hzt:(0:Int)<=((p.tier:Nat):Int):=Xa
    have hlen:=hp.len
    generalize hset:p.set=set at *
    refine fnQ ZLJ fun Q qr qn=>?_
    refine Bz3 (X12 b0 b1 b2 b3 a0 a1 a2 a3 a4 a5 a6 (X10 a7 a8 y0 y1 y2 y3 dT dP dS YZs)) ?_
    refine qcp (hrw _) fun k1=>?_
    refine Bz3 (X6 z1 a0 a1 a2 a5 YZs) ?_
    refine ZbJ (N:=set.length) (fun k F G=>Fr.get F 85=.i (k:Int)/\Fr.get F 84=.i (set.length:Nat)/\Fr.get F 83=.sl .no (rS set)/\Fr.get F 2=.ptr H.next 0/\Fr.get F 3=.ptr (H.next+1) 0/\(set.take k).all (fun t=>decide (t∈t0.terms))=true/\Zaa.Ext H G/\G.get H.next=some (.cells (eDm d) 39)/\G.get (H.next+1)=some (.cells (ePk p) 62)) Xd (fun k F G h=>⟨h.1,h.2.1⟩) (GStep.refl _ _) ⟨rfl,rfl,rfl,rfl,rfl,rfl,xX,by rw[Zaa.ZaB,Zaa.Zag Xe];exact Zaa.Zae,by rw[Zaa.ZaB];exact Zaa.Zat xN⟩ ?_ ?_
    ·rintro k F G hk ⟨f85,f84,f83,f2,f3,hal,hx,g2,g3⟩
     have hz:(0:Int)<=(k:Int):=Xa
     have hrs:=ZIQ hk
     have htk2:(set.take (k+1)).all (fun t=>decide (t∈t0.terms))=decide (set[k]∈t0.terms):=by
      rw[zae hk,zbt,hal];simp
     have hlk:set.all (fun t=>decide (t∈t0.terms))=true->decide (set[k]∈t0.terms)=true:=fun h=>zaA.1 h _ (zah hk)
     have hat:=fun H=>ZJ7 .no t0.terms set[k] H Xa
     have hneg:=ZLP (l:=t0.terms) (s:=set[k])
     generalize set[k]=x at *
     generalize atT t0.terms x=ap at *
     have hw:=ZCE (s:=k) Xa
     have l2:=Zaa.lt g2
     have l3:=Zaa.lt g3
     skip
     refine Bz3 (X12 f85 f84 f83 f2 f3 g2 g3 hz hrs hzt hr (X12 b0 b1 b2 b3 a0 a1 a2 c0 c1 c2 c3 c4)) ?_
     refine qcp (hat _) fun k2=>?_
     by_cases hin:x∈t0.terms
     ·rw[decide_eq_true hin,zbO]at hneg
      refine Bz1 (X7 f85 f84 f83 f2 f3 hneg hw) ?_
      exact⟨by rw[htk2];exact decide_eq_true hin,xX,g2,g3⟩
     ·rw[decide_eq_false hin]at hneg
      have hneg:decide (ap<0)=true:=hneg
      rw[if_neg (fun h=>by have:=hlk h;rw[decide_eq_false hin]at this;cases this)]at qr qn
      refine Bz1 (X6 f85 f84 f83 f2 f3 hneg) ?_
      exact ZaW xX rfl
    ·rintro F G ⟨f85,f84,f83,f2,f3,hal,hx,g2,g3⟩
     rw[zaq]at hal
     rw[if_pos hal]at qr qn
     skip
     refine Bz0 ?_
     exact ZaW xX rfl
open Go.RowKit Go.Lib
def pkE (d:Dm) (p:Pk):Int:=if ZIF d p≠0 then ZIF d p else if 0<p.by'/\d.tiers.length<=p.by' - 1 then 2 else 0
def ZI1:List Dm->List Pk->Int
 | d :: ds,p :: ps=>if pkE d p≠0 then pkE d p else ZI1 ds ps
 | _,_=>0
theorem ZJA {ds:List Dm} {ps:List Pk} {k:Nat} (h1:k<ds.length) (h2:k<ps.length):ZI1 (ds.drop k) (ps.drop k)=if pkE ds[k] ps[k]≠0 then pkE ds[k] ps[k] else ZI1 (ds.drop (k+1)) (ps.drop (k+1)):=by
 rw[zal h1,zal h2]
 rfl
theorem ZKg {l:List Pk} {k:Nat} (h:k<l.length):(rP l)[k]?=some (ePk l[k]):=by simp[h]
theorem ZJk (s:Sc) (l:List Pk) (H:Zaa) (he:scE s=0) (hl:l.length=s.dims.length) (hp:∀p∈l,ZIZ p) (hsm:Zh1 s):Zay Tryz.prog 72 [.agg (eSc s),.agg [.sl .no (rP l)]] H (Pure H (.i (ZI1 s.dims l))):=by
 obtain⟨e0,e1,e2,e3⟩:=ZbB s
 obtain⟨hl1,hdE,hl2,_⟩:=ZCV he
 have hsc:=fun H=>ZeE s H hsm
 rw[he]at hsc
 have d0:((0:Int) != 0)=false:=rfl
 have d3:(((s.dims.length:Nat):Int) != ((s.dims.length:Nat):Int))=false:=Xc
 have hx0:Zaa.Ext H H:=.refl _
 generalize hEr:ZI1 s.dims l=E
 refine fnQ cf72 fun Q qr qn=>?_
 refine Bz1 (X4 e0 e1 e3 YZs) ?_
 refine qcp (hsc _) fun k1=>?_
 refine Bz3 (X7 d0 d3 e0 e1 e3 hl YZs) ?_
 refine ZbJ (N:=s.dims.length) (fun k F G=>Fr.get F 24=.i (k:Int)/\Fr.get F 23=.i (s.dims.length:Nat)/\Fr.get F 2=.ptr H.next 0/\Fr.get F 3=.ptr (H.next+1) 0/\ZI1 (s.dims.drop k) (l.drop k)=E/\Zaa.Ext H G/\G.get H.next=some (.cells (eSc s) 25)/\G.get (H.next+1)=some (.cells [.sl .no (rP l)] 57)) Xd (fun k F G h=>⟨h.1,h.2.1⟩) (GStep.refl _ _) ⟨rfl,rfl,rfl,rfl,hEr,xX,by rw[Zaa.ZaB,Zaa.Zag Xe];exact Zaa.Zae,by rw[Zaa.ZaB];exact Zaa.Zat xN⟩ ?_ ?_
 ·rintro k F G hk ⟨f24,f23,f2,f3,hal,hx,g2,g3⟩
  have hkl:k<l.length:=Xa
  have hz:(0:Int)<=(k:Int):=Xa
  have hr:=ZKg hkl
  have hrd:=ZjQ hk
  rw[ZJA hk hkl]at hal
  have hdk:=hdE _ (zah hk)
  have hpk:=hp _ (zah hkl)
  generalize l[k]=p at *
  generalize s.dims[k]=d at *
  obtain⟨b0,b1,b2,b3⟩:=Za7 d
  obtain⟨a0,a1,a2,a3,a4,a5,a6,a7,a8⟩:=ZHv p
  have hfil:=fun H=>rfil_any d p H hdk hpk
  have hw:=ZCE (s:=k) Xa
  have l2:=Zaa.lt g2
  have l3:=Zaa.lt g3
  unfold pkE at hal
  skip
  refine Bz1 (X12 f24 f23 f2 f3 g2 g3 hz hr hrd e0 e1 (X9 e2 e3 b0 b1 b2 b3 a0 a8 YZs)) ?_
  refine qcp (hfil _) fun k2=>?_
  by_cases hf:ZIF d p=0
  ·rw[hf]at hal ⊢
   have hal:(if (if 0<p.by'/\d.tiers.length<=p.by' - 1 then (2:Int) else 0)≠0 then (if 0<p.by'/\d.tiers.length<=p.by' - 1 then (2:Int) else 0) else ZI1 (s.dims.drop (k+1)) (l.drop (k+1)))=E:=hal
   by_cases hby:p.by'=0
   ·have a6:(ePk p)[5]?=some (.b false):=by rw[a6,hby];rfl
    have a7:(ePk p)[6]?=some (.i 0):=by rw[a7,hby];rfl
    rw[if_neg (show ¬(0<p.by'/\d.tiers.length<=p.by' - 1) by omega)]at hal
    have hal:ZI1 (s.dims.drop (k+1)) (l.drop (k+1))=E:=hal
    refine Bz1 (X12 f24 f23 f2 f3 g2 g3 hz hrd e0 e1 e2 (X12 e3 b0 b1 b2 b3 a0 a6 a7 a8 d0 hw YZs)) ?_
    exact⟨hal,xX⟩
   ·have a6:(ePk p)[5]?=some (.b true):=by rw[a6,decide_eq_true Xa]
    have dN:decide (((p.by' - 1:Nat):Int)<0)=false:=by rw[decide_eq_false_iff_not];omega
    by_cases hge:d.tiers.length<=p.by' - 1
    ·have dG:decide (((p.by' - 1:Nat):Int)≥((d.tiers.length:Nat):Int))=true:=by rw[decide_eq_true_iff];omega
     rw[if_pos (show 0<p.by'/\d.tiers.length<=p.by' - 1 by omega)]at hal
     have hal:(2:Int)=E:=hal
     refine Bz3 (X12 f24 f23 f2 f3 g2 g3 hz hrd e0 e1 e2 (X12 e3 b0 b1 b2 b3 a0 a6 a7 a8 d0 dN (X2 dG YZs))) ?_
     rw[<- hal]
     exact ZaW xX rfl
    ·have dG:decide (((p.by' - 1:Nat):Int)≥((d.tiers.length:Nat):Int))=false:=by rw[decide_eq_false_iff_not];omega
     rw[if_neg (show ¬(0<p.by'/\d.tiers.length<=p.by' - 1) by omega)]at hal
     have hal:ZI1 (s.dims.drop (k+1)) (l.drop (k+1))=E:=hal
     refine Bz3 (X12 f24 f23 f2 f3 g2 g3 hz hrd e0 e1 e2 (X12 e3 b0 b1 b2 b3 a0 a6 a7 a8 d0 dN (X3 dG hw YZs))) ?_
     exact⟨hal,xX⟩
  ·obtain⟨d1,_⟩:=ZHs hf
   rw[if_pos hf,if_pos hf]at hal
   refine Bz1 (X6 f24 f23 f2 f3 d1 YZs) ?_
   rw[hal]
   exact ZaW xX rfl
 ·rintro F G ⟨f24,f23,f2,f3,hal,hx,g2,g3⟩
  rw[zaG]at hal
  have hal:(0:Int)=E:=hal
  skip
  refine Bz0 ?_
  rw[<- hal]
  exact ZaW xX rfl
theorem ZLH (p:Pk) (tk:Tok):∀(j:Nat) x y,([.i (p.filt:Nat),.i (p.tier:Nat),eS p.lo,eS p.hi,.sl tk (rS p.set),.b (decide (0<p.by')),.i ((p.by' - 1:Nat):Int)]:List AV)[j]?=some x->(ePk p)[j]?=some y->Wkn x y:=by
 intro j x y hx hy
 unfold ePk at hy
 match j with
 | 0=>simp at hx hy;subst hx hy;exact .refl _
 | 1=>simp at hx hy;subst hx hy;exact .refl _
 | 2=>simp at hx hy;subst hx hy;exact .refl _
 | 3=>simp at hx hy;subst hx hy;exact .refl _
 | 4=>simp at hx hy;subst hx hy;exact Zfm _ _
 | 5=>simp at hx hy;subst hx hy;exact .refl _
 | 6=>simp at hx hy;subst hx hy;exact .refl _
 | j+7=>simp at hx
abbrev cPk (p:Pk) (tk:Tok):List AV:=[.i (p.filt:Nat),.i (p.tier:Nat),eS p.lo,eS p.hi,.sl tk (rS p.set),.b false,.i 0]
theorem pks_any {Q:AEx->Fr->Zaa->Prop} {F:Fr} {H G:Zaa} {S:Tx} {c0:Sn} {i2 i7 i8 b0 n:Nat} {R:Sn×List Pk} (hS:S.length<=1000000) (hn:n<=1000) (hk0:c0.k<=S.length) (hR:sPks S n c0=R)
  (hi7:H.next<=i7) (hi8:H.next<=i8) (hi28:i2≠i8) (hi78:i7≠i8) (hi27:i2≠i7) (hb2:i2<b0) (hb7:i7<b0) (hb8:i8<b0) (hb:b0<=G.next) (hx0:Zaa.Ext H G) (i4:Nat) (hi4:i4<b0) (hi47:i4≠i7) (hi48:i4≠i8) (hg4:∃o,G.get i4=some o) (hg2:∃o,G.get i2=some o) (hg7:G.get i7=some (.cells [.sl .full []] 57)) (hg8:G.get i8=some (.cells (eSn S c0) 109))
  (f2:Fr.get F 2=.ptr i2 0) (f7:Fr.get F 7=.ptr i7 0) (f8:Fr.get F 8=.ptr i8 0) (f22:Fr.get F 22=.i (n:Int)) (f23:Fr.get F 23=.i 0)
  (hQ:∀F' G' tok R0,Zaa.Ext H G'->ZIq R0 (rP R.2)->G'.get i2=G.get i2->G'.get i4=G.get i4->G'.get i7=some (.cells [.sl tok R0] 57)->G'.get i8=some (.cells (eSn S R.1) 109)->ZHt 9 F F'->Q .normal F' G'):AW Tryz.prog c32_1 Q F G:=by
 have qr:=trivial
 have qn:=trivial
 unfold sPks at hR
 obtain⟨o2,hg2⟩:=hg2
 obtain⟨o4,hg4⟩:=hg4
 refine ZbJ (N:=n) (fun k F' G'=>Fr.get F' 23=.i (k:Int)/\Fr.get F' 22=.i (n:Int)/\ZHt 9 F F'/\∃c acc tok R0,acc.length=k/\ZIk (sPk S) (n - k) c acc=R/\c.k<=S.length/\ZIq R0 (rP acc)/\ZCe b0 G' 62 7 k tok/\b0<=G'.next/\Zaa.Ext H G'/\G'.get i2=some o2/\G'.get i4=some o4/\G'.get i7=some (.cells [.sl tok R0] 57)/\G'.get i8=some (.cells (eSn S c) 109)) Xd (fun k F G h=>⟨h.1,h.2.1⟩) (GStep.refl _ _) ⟨f23,f22,ZHt.refl _ _,c0,[],.full,[],rfl,hR,hk0,ZIq.nil,.inl rfl,hb,hx0,hg2,hg4,hg7,hg8⟩ ?_ ?_
 ·rintro i F' G' hi ⟨f23,f22,hF,c,acc,tok,R0,hal,hRr,hck,hW,hT,hbn,hx,g2,g4,g7,g8⟩
  have f7:=(hF 7 Xa).trans f7
  have f8:=(hF 8 Xa).trans f8
  rw[show n - i=(n - (i+1))+1 by omega,ZIk]at hRr
  have hw:=ZCE (s:=i) Xa
  have hrl:R0.length=i:=by rw[hW.len];simp[hal]
  have hall:ZaE 7 R0=true:=hW.all fun r hr=>by
   obtain⟨x,_,rfl⟩:=List.mem_map.1 hr
   rfl
  have hm1:i+1<=maxLen:=ZAp Xa
  have hm2:(i+1) * 88<=140737488355328:=Xa
  have hv:sPk S c=((sNum S 4 (sFil S (sNum S 2 c).2 (sNum S 2 c).1).1).1,{ (sFil S (sNum S 2 c).2 (sNum S 2 c).1).2 with by':=(sNum S 4 (sFil S (sNum S 2 c).2 (sNum S 2 c).1).1).2 }):=rfl
  rw[hv]at hRr
  clear hv
  have hn2:=fun H=>ZHL S 2 c H hS hck Xa
  have hk1:=(ZHp S 2 c).le hck
  have hf2:=ZHK S 2 c
  generalize sNum S 2 c=p1 at *
  obtain⟨c1,f⟩:=p1
  simp only at hRr hk1 hf2 hn2
  have hk3:=(ZKm S f c1).le hk1
  generalize hfil:sFil S f c1=p3 at *
  obtain⟨c3,p0⟩:=p3
  simp only at hRr hk3
  have hn4:=fun H=>ZHL S 4 c3 H hS hk3 Xa
  have hk4:=(ZHp S 4 c3).le hk3
  have hb4:=ZHK S 4 c3
  generalize sNum S 4 c3=p4 at *
  obtain⟨c4,by'⟩:=p4
  simp only at hRr hk4 hb4 hn4
  have l2:=Zaa.lt g2
  have l7:=Zaa.lt g7
  have l8:=Zaa.lt g8
  have z1:decide ((0:Int) > 0)=false:=rfl
  have z2:((0:Int) == 1)=false:=rfl
  have z3:((0:Int) == 2)=false:=rfl
  have z4:decide ((1:Int) > 0)=true:=rfl
  have z5:((1:Int) == 1)=true:=rfl
  have z6:((1:Int) == 2)=false:=rfl
  have z7:decide ((2:Int) > 0)=true:=rfl
  have z8:((2:Int) == 1)=false:=rfl
  have z9:((2:Int) == 2)=true:=rfl
  rcases (show f=0\/f=1\/f=2 by omega)with h0|h0|h0
  case' inl =>
   have hn2:∀H,Zay Tryz.prog 64 [.agg (eSn S c),.i ((2:Nat):Int)] H (Pure H (.tup [.agg (eSn S c1),.i 0])):=by rw[h0]at hn2;exact hn2
   have hp0:p0=⟨0,0,[],[],[],0⟩/\c3=c1:=by
    rw[h0]at hfil
    unfold sFil at hfil
    rw[if_neg Xb,if_neg Xb]at hfil
    injection hfil with q1 q2
    exact⟨q2.symm,q1.symm⟩
   skip
   refine Bz1 (X6 f23 f22 f7 f8 g8 YZs) ?_
   refine qcp (hn2 _) fun k1=>?_
   refine Bz1 (X9 f23 f22 f7 f8 g8 z1 z2 z3 YZs) ?_
   obtain⟨hp0,hc3⟩:=hp0
   refine Zap.gen (by rw[<- hc3];exact hn4 _) (fun G5=>Hld [i8] G' G5/\G5.get i8=some (.cells (eSn S c3) 109)/\∃tk,G5.get G'.next=some (.cells (cPk p0 tk) 62)) (fun k=>⟨(by repeat (first|exact Hld.refl _ _|refine Hld.Zmf ?_ Xa|refine Hld.ZIC ?_ Xc|refine Hld.alloc ?_|refine Hld.bump ?_)),(by rw[hc3];repeat (first|rw[Zaa.ZaB]|rw[Zaa.Zah Xa]|exact Zaa.Zal Xe|exact Zaa.Zat (by first|rfl|(simp only[nx];omega))|rw[Zaa.Zag Xe]|exact g8)),.full,(by rw[hp0];repeat (first|rw[Zaa.ZaB]|rw[Zaa.Zah Xa]|exact Zaa.Zal Xe|exact Zaa.Zat (by first|rfl|(simp only[nx];omega))|rw[Zaa.Zag Xe]|exact g8))⟩) ?_
  case' inr.inl =>
   have hn2:∀H,Zay Tryz.prog 64 [.agg (eSn S c),.i ((2:Nat):Int)] H (Pure H (.tup [.agg (eSn S c1),.i 1])):=by rw[h0]at hn2;exact hn2
   obtain⟨q,t,hq⟩:∃q t,sNum S 3 c1=(q,t):=⟨_,_,rfl⟩
   obtain⟨q2,lo,hq2⟩:∃q2 lo,sTxt S 16 q=(q2,lo):=⟨_,_,rfl⟩
   obtain⟨q3,hh,hq3⟩:∃q3 hh,sTxt S 16 q2=(q3,hh):=⟨_,_,rfl⟩
   have hp0:p0=⟨1,t,lo,hh,[],0⟩/\c3=q3:=by
    rw[h0]at hfil
    unfold sFil at hfil
    rw[if_pos rfl]at hfil
    simp only[hq,hq2,hq3]at hfil
    injection hfil with q1 q2
    exact⟨q2.symm,q1.symm⟩
   have hm3:=fun H=>ZHL S 3 c1 H hS hk1 Xa
   have hkq:=(ZHp S 3 c1).le hk1
   rw[hq]at hm3 hkq
   have hx1:=fun H=>ZH1 S 16 q H hS hkq Xa
   have hkq2:=(ZHx S 16 q).le hkq
   rw[hq2]at hx1 hkq2
   have hx2:=fun H=>ZH1 S 16 q2 H hS hkq2 Xa
   rw[hq3]at hx2
   skip
   refine Bz1 (X6 f23 f22 f7 f8 g8 YZs) ?_
   refine qcp (hn2 _) fun k1=>?_
   refine Bz1 (X7 f23 f22 f7 f8 g8 z4 YZs) ?_
   refine qcp (hm3 _) fun k2=>?_
   refine Bz1 (X7 f23 f22 f7 f8 g8 z5 YZs) ?_
   refine qcp (hx1 _) fun k3=>?_
   refine Bz1 (X6 f23 f22 f7 f8 g8 YZs) ?_
   refine qcp (hx2 _) fun k4=>?_
   refine Bz1 (X7 f23 f22 f7 f8 g8 z6 YZs) ?_
   obtain⟨hp0,hc3⟩:=hp0
   refine Zap.gen (by rw[<- hc3];exact hn4 _) (fun G5=>Hld [i8] G' G5/\G5.get i8=some (.cells (eSn S c3) 109)/\∃tk,G5.get G'.next=some (.cells (cPk p0 tk) 62)) (fun k=>⟨(by repeat (first|exact Hld.refl _ _|refine Hld.Zmf ?_ Xa|refine Hld.ZIC ?_ Xc|refine Hld.alloc ?_|refine Hld.bump ?_)),(by rw[hc3];repeat (first|rw[Zaa.ZaB]|rw[Zaa.Zah Xa]|exact Zaa.Zal Xe|exact Zaa.Zat (by first|rfl|(simp only[nx];omega))|rw[Zaa.Zag Xe]|exact g8)),.full,(by rw[hp0];repeat (first|rw[Zaa.ZaB]|rw[Zaa.Zah Xa]|exact Zaa.Zal Xe|exact Zaa.Zat (by first|rfl|(simp only[nx];omega))|rw[Zaa.Zag Xe]|exact g8))⟩) ?_
  case' inr.inr =>
   have hn2:∀H,Zay Tryz.prog 64 [.agg (eSn S c),.i ((2:Nat):Int)] H (Pure H (.tup [.agg (eSn S c1),.i 2])):=by rw[h0]at hn2;exact hn2
   obtain⟨q,t,hq⟩:∃q t,sNum S 3 c1=(q,t):=⟨_,_,rfl⟩
   obtain⟨q2,set,hq2⟩:∃q2 set,sRow S 200 q=(q2,set):=⟨_,_,rfl⟩
   have hp0:p0=⟨2,t,[],[],set,0⟩/\c3=q2:=by
    rw[h0]at hfil
    unfold sFil at hfil
    rw[if_neg Xb,if_pos rfl]at hfil
    simp only[hq,hq2]at hfil
    injection hfil with q1 q2
    exact⟨q2.symm,q1.symm⟩
   have hm3:=fun H=>ZHL S 3 c1 H hS hk1 Xa
   have hkq:=(ZHp S 3 c1).le hk1
   rw[hq]at hm3 hkq
   have hx1:=fun H=>ZKL S 200 q H hS hkq Xa
   rw[hq2]at hx1
   skip
   refine Bz1 (X6 f23 f22 f7 f8 g8 YZs) ?_
   refine qcp (hn2 _) fun k1=>?_
   refine Bz1 (X7 f23 f22 f7 f8 g8 z7 YZs) ?_
   refine qcp (hm3 _) fun k2=>?_
   refine Bz1 (X8 f23 f22 f7 f8 g8 z8 z9 YZs) ?_
   refine qcp (hx1 _) fun k3=>?_
   refine Bz1 (X6 f23 f22 f7 f8 g8 YZs) ?_
   obtain⟨hp0,hc3⟩:=hp0
   refine Zap.gen (by rw[<- hc3];exact hn4 _) (fun G5=>Hld [i8] G' G5/\G5.get i8=some (.cells (eSn S c3) 109)/\∃tk,G5.get G'.next=some (.cells (cPk p0 tk) 62)) (fun k=>⟨(by repeat (first|exact Hld.refl _ _|refine Hld.Zmf ?_ Xa|refine Hld.ZIC ?_ Xc|refine Hld.alloc ?_|refine Hld.bump ?_)),(by rw[hc3];repeat (first|rw[Zaa.ZaB]|rw[Zaa.Zah Xa]|exact Zaa.Zal Xe|exact Zaa.Zat (by first|rfl|(simp only[nx];omega))|rw[Zaa.Zag Xe]|exact g8)),.no,(by rw[hp0];repeat (first|rw[Zaa.ZaB]|rw[Zaa.Zah Xa]|exact Zaa.Zal Xe|exact Zaa.Zat (by first|rfl|(simp only[nx];omega))|rw[Zaa.Zag Xe]|exact g8))⟩) ?_
  all_goals
   rintro G5 ⟨hH5,g8,tk,g9⟩
   have l9:=Zaa.lt g9
   have hn5:=hH5.next
   have g7:=hH5.old i7 _ Xf g7
   have l4:=Zaa.lt g4
   have g2:=hH5.old i2 _ Xf g2
   have g4:=hH5.old i4 _ Xf g4
   have hx5:=hH5.ext hx (fun j hj=>by simp at hj;omega)
   have hxn:=hx.next
   have n7:=Zaa.lt g7
   have n8:=Zaa.lt g8
   have ne1:G'.next≠i8:=Xa
   have ne2:G'.next≠i7:=Xa
   have ne3:G5.next≠i8:=Xa
   have ne4:G5.next≠i7:=Xa
   have ne5:G5.next≠G'.next:=Xa
   by_cases hby:by'=0
   ·subst hby
    have d1:decide (((0:Nat):Int) > 0)=false:=rfl
    have hW2:ZIq (R0++[cPk p0 tk]) (rP (acc++[({ p0 with by':=0 }:Pk)])):=by
     show ZIq _ ((acc++[({ p0 with by':=0 }:Pk)]).map ePk)
     rw[zaD]
     exact hW.snoc rfl (ZLH { p0 with by':=0 } tk)
    have hal2:ZaE 7 [cPk p0 tk]=true:=rfl
    generalize hR1:R0++[cPk p0 tk]=R1 at *
    rcases hT with rfl|⟨t',ht',rfl,hgt⟩
    ·refine Bz1 (X12 f23 f22 f7 f8 g7 g8 g9 d1 z1 hrl hall (X6 hal2 hm1 hm2 hR1 hw YZs)) ?_
     exact⟨(by repeat (first|exact hF|refine ZHt.cons Xa ?_)),c4,acc++[({ p0 with by':=0 }:Pk)],_,R1,by simp[hal],hRr,hk4,hW2,.inr ⟨_,Xa,rfl,by rw[Zaa.Zah (by first|omega|(simp only[nx];omega))];exact Zaa.Zat rfl⟩,Xa,xX,g2,g4,rfl,rfl⟩
    ·have nt3:t'≠G'.next:=by have:=Zaa.lt hgt;omega
     have hgt:=hH5.old t' _ (by have:=Zaa.lt hgt;simp;omega) hgt
     have lt':=Zaa.lt hgt
     have nt1:t'≠i7:=Xa
     have nt2:t'≠i8:=Xa
     refine Bz1 (X12 f23 f22 f7 f8 g7 g8 g9 hgt nt1 nt2 nt3 (X10 d1 z1 hrl hall hal2 hm1 hm2 hR1 hw YZs)) ?_
     exact⟨(by repeat (first|exact hF|refine ZHt.cons Xa ?_)),c4,acc++[({ p0 with by':=0 }:Pk)],_,R1,by simp[hal],hRr,hk4,hW2,.inr ⟨t',Xa,rfl,by rw[Zaa.Zah Xa];exact Zaa.Zal Xe⟩,Xa,xX,g2,g4,rfl,rfl⟩
   ·have d1:decide (((by':Nat):Int) > 0)=true:=by rw[decide_eq_true_iff];omega
    have hwb:IntKind.i64.wrap (((by':Nat):Int) - 1)=((by' - 1:Nat):Int):=by rw[Zaw Xa Xa];omega
    obtain⟨pc,hpc⟩:∃pc:List AV,pc=[.i (p0.filt:Nat),.i (p0.tier:Nat),eS p0.lo,eS p0.hi,.sl tk (rS p0.set),.b true,.i ((by' - 1:Nat):Int)]:=⟨_,rfl⟩
    have hW2:ZIq (R0++[pc]) (rP (acc++[({ p0 with by':=by' }:Pk)])):=by
     show ZIq _ ((acc++[({ p0 with by':=by' }:Pk)]).map ePk)
     rw[zaD,hpc]
     refine hW.snoc rfl ?_
     have:=ZLH { p0 with by':=by' } tk
     simp only[decide_eq_true (show 0<by' by omega)]at this
     exact this
    have hal2:ZaE 7 [[.i (p0.filt:Nat),.i (p0.tier:Nat),eS p0.lo,eS p0.hi,.sl tk (rS p0.set),.b true,.i ((by' - 1:Nat):Int)]]=true:=rfl
    have hR1:R0++[[.i (p0.filt:Nat),.i (p0.tier:Nat),eS p0.lo,eS p0.hi,.sl tk (rS p0.set),.b true,.i ((by' - 1:Nat):Int)]]=R0++[pc]:=by rw[hpc]
    generalize R0++[pc]=R1 at *
    rcases hT with rfl|⟨t',ht',rfl,hgt⟩
    ·refine Bz1 (X12 f23 f22 f7 f8 g7 g8 g9 d1 z1 hwb hrl (X7 hall hal2 hm1 hm2 hR1 hw YZs)) ?_
     exact⟨(by repeat (first|exact hF|refine ZHt.cons Xa ?_)),c4,acc++[({ p0 with by':=by' }:Pk)],_,R1,by simp[hal],hRr,hk4,hW2,.inr ⟨_,Xa,rfl,by rw[Zaa.Zah (by first|omega|(simp only[nx];omega))];exact Zaa.Zat rfl⟩,Xa,xX,g2,g4,rfl,rfl⟩
    ·have nt3:t'≠G'.next:=by have:=Zaa.lt hgt;omega
     have hgt:=hH5.old t' _ (by have:=Zaa.lt hgt;simp;omega) hgt
     have lt':=Zaa.lt hgt
     have nt1:t'≠i7:=Xa
     have nt2:t'≠i8:=Xa
     refine Bz1 (X12 f23 f22 f7 f8 g7 g8 g9 hgt nt1 nt2 nt3 (X11 d1 z1 hwb hrl hall hal2 hm1 hm2 hR1 hw YZs)) ?_
     exact⟨(by repeat (first|exact hF|refine ZHt.cons Xa ?_)),c4,acc++[({ p0 with by':=by' }:Pk)],_,R1,by simp[hal],hRr,hk4,hW2,.inr ⟨t',Xa,rfl,by rw[Zaa.Zah Xa];exact Zaa.Zal Xe⟩,Xa,xX,g2,g4,rfl,rfl⟩
 ·rintro F' G' ⟨f23,f22,hF,c,acc,tok,R0,hal,hRr,hck,hW,hT,hbn,hx,g2,g4,g7,g8⟩
  rw[zaY,ZIk]at hRr
  subst hRr
  exact hQ _ _ tok R0 hx hW (by rw[g2,hg2]) (by rw[g4,hg4]) g7 g8 (ZHt.cons Xa hF)
noncomputable def picksR (s:Sc) (b:Tx):Option (List Pk):=if scE s=0 then (match gPks s.dims.length b with
 | some (l,[])=>if ZI1 s.dims l=0 then some l else none
 | _=>none) else none
theorem ZJH {n:Nat} {b:Tx} {l:List Pk} {r:Tx} (h:gPks n b=some (l,r)):l.length=n/\b=l.flatMap pkB++r/\∀p∈l,ZIZ p:=by
 unfold gPks at h
 obtain⟨l1,a1,a2,a3,a4⟩:=ZH3 pkB ZIZ (fun b a r h=>gPk_is h) _ _ _ _ _ h
 rw[List.nil_append]at a1
 subst a1
 exact⟨a2,a4,a3⟩
def ZIK (o:Option (List Pk)) (H:Zaa) (v:AV) (G:Zaa):Prop:=match o with
 | some l=>Pure H (.tup [.agg [.sl .no (rP l)],.i 0]) v G
 | none=>∃x e,e≠0/\Pure H (.tup [.agg [.sl .no x],.i e]) v G
theorem wkn_q {t:Tok} {R0 L:List (List AV)} (hW:ZIq R0 L):Wkn (.agg [.sl t R0]) (.agg [.sl .no L]):=.agg _ _ rfl fun i x y hx hy=>by
 match i with
 | 0=>simp at hx hy;subst hx hy;exact hW.wkn t
 | i+1=>simp at hx
theorem ZH0 {o:Option (List Pk)} (ho:o=none) {e:Int} (he:e≠0) {H0 H:Zaa} (hx:Zaa.Ext H0 H):∃r2 H2,Zb6 (.tup [.agg [.sl .full []],.i e]) H r2 H2/\ZIK o H0 r2 H2:=by
 subst ho
 have hw:Wkn (.tup [.agg [.sl .full []],.i e]) (.tup [.agg [.sl .no []],.i e]):=.tup _ _ rfl fun i x y hx hy=>by
  match i with
  | 0=>simp at hx hy;subst hx hy;exact wkn_q ZIq.nil
  | 1=>simp at hx hy;subst hx hy;exact .refl _
  | i+2=>simp at hx
 obtain⟨r2,H2,k1,k2⟩:=Zc1 hw hx
 exact⟨r2,H2,k1,[],e,he,k2⟩
theorem ZJp {o:Option (List Pk)} {l:List Pk} (ho:o=some l) {t:Tok} {R0:List (List AV)} (hW:ZIq R0 (rP l)) {H0 H:Zaa} (hx:Zaa.Ext H0 H):∃r2 H2,Zb6 (.tup [.agg [.sl t R0],.i 0]) H r2 H2/\ZIK o H0 r2 H2:=by
 subst ho
 have hw:Wkn (.tup [.agg [.sl t R0],.i 0]) (.tup [.agg [.sl .no (rP l)],.i 0]):=.tup _ _ rfl fun i x y hx hy=>by
  match i with
  | 0=>simp at hx hy;subst hx hy;exact wkn_q hW
  | 1=>simp at hx hy;subst hx hy;exact .refl _
  | i+2=>simp at hx
 obtain⟨r2,H2,k1,k2⟩:=Zc1 hw hx
 exact⟨r2,H2,k1,k2⟩
theorem pks_end (n:Nat) (b:Tx):(ZKp b (sPks b n ⟨0,0⟩).1=0->gPks n b=some ((sPks b n ⟨0,0⟩).2,[]))/\(ZKp b (sPks b n ⟨0,0⟩).1≠0->∀l,gPks n b≠some (l,[])):=by
 have h:=ZIW (ZKd b n ⟨0,0⟩)
 constructor
 ·intro h0
  obtain⟨a,h1,h2⟩:=h.1 h0
  rw[h1,h2]
 ·intro h0 l e
  exact h0 (h.2 ⟨l,e,((ZKd b n ⟨0,0⟩).yea rfl (zas _) l [] e).2.1⟩)
theorem ZHR {s:Sc} {b:Tx} (h:scE s≠0\/∀l,gPks s.dims.length b≠some (l,[])):picksR s b=none:=by
 unfold picksR
 split
 ·rename_i h0
  rcases h with h|h
  ·exact absurd h0 h
  ·split
   ·rename_i l e;exact absurd e (h l)
   ·rfl
 ·rfl
theorem ZIz {s:Sc} {b:Tx} (h:scE s=0) {l:List Pk} (e:gPks s.dims.length b=some (l,[])):picksR s b=if ZI1 s.dims l=0 then some l else none:=by
 unfold picksR
 rw[if_pos h,e]
theorem ZJX (s:Sc) (b:Tx) (H:Zaa) (hS:b.length<=1000000) (hsm:Zh1 s):Zay Tryz.prog 32 [.agg (eSc s),eS b] H (ZIK (picksR s b) H):=by
 obtain⟨e0,e1,e2,e3⟩:=ZbB s
 have hsc:=fun H=>ZeE s H hsm
 have hx0:Zaa.Ext H H:=.refl _
 by_cases he:scE s=0
 ·rw[he]at hsc
  have d0:((0:Int) != 0)=false:=rfl
  have dE:((0:Int) == 0)=true:=rfl
  obtain⟨hl1,_,hl2,_⟩:=ZCV he
  obtain⟨w1,w2⟩:=pks_end s.dims.length b
  generalize hR:sPks b s.dims.length ⟨0,0⟩=R at *
  obtain⟨c2,l⟩:=R
  simp only at w1 w2
  have hend:=ZJL b c2
  refine fnQ cf32 fun Q qr qn=>?_
  refine Bz1 (X3 e0 e3 YZs) ?_
  refine qcp (hsc _) fun k1=>?_
  refine Bz3 (X5 d0 e1 e0 e3 YZs) ?_
  refine pks_any (H:=H) (i2:=H.next) (i7:=H.next+1+1+k1) (i8:=H.next+1+1+k1+1) (b0:=H.next+1+1+k1+1+1) (n:=s.dims.length) (R:=(c2,l)) hS Xa (zas _) hR Xa Xa Xa Xa Xa Xa Xa Xa Xe xX (H.next+1) Xa Xa Xa ⟨_,xG⟩ ⟨.cells (eSc s) 25,xG⟩ xG xG rfl rfl rfl rfl rfl ?_
  intro F G tok R0 hx hW g2 g4 g7 g8 hF
  have g2:G.get H.next=some (.cells (eSc s) 25):=by rw[g2];exact xG
  have f2:=hF 2 Xa
  have f4:=hF 4 Xa
  have f7:=hF 7 Xa
  have f8:=hF 8 Xa
  have f2:Fr.get F 2=.ptr H.next 0:=f2
  have f4:Fr.get F 4=.ptr (H.next+1) 0:=f4
  have f7:Fr.get F 7=.ptr (H.next+1+1+k1) 0:=f7
  have f8:Fr.get F 8=.ptr (H.next+1+1+k1+1) 0:=f8
  have l7:=Zaa.lt g7
  have l8:=Zaa.lt g8
  have g4:G.get (H.next+1)=some (.cells [.sl .full []] 57):=by rw[g4];exact xG
  have l4:=Zaa.lt g4
  refine Bz1 (X2 f8 g8) ?_
  refine qcp (hend _) fun k3=>?_
  by_cases h0:ZKp b c2=0
  ·have hg:=w1 h0
   obtain⟨hll,_,hpk⟩:=ZJH hg
   rw[h0]
   rw[ZIz he hg]at qr qn
   have hwr:=fun H=>ZJk s l H he hll hpk hsm
   generalize ZI1 s.dims l=er at *
   refine Bz1 (X9 f2 f4 f7 g2 g4 g7 dE e0 e3) ?_
   refine qcp (ZHW (wkn_q hW) (hwr _)) fun k4=>?_
   by_cases her:er=0
   ·subst her
    rw[if_pos rfl]at qr qn
    refine Bz1 (X7 f2 f4 f7 g2 g4 g7 d0) ?_
    exact ZJp rfl hW xX
   ·obtain⟨d1,_⟩:=ZHs her
    rw[if_neg her]at qr qn
    refine Bz1 (X7 f2 f4 f7 g2 g4 g7 d1) ?_
    exact ZH0 rfl her xX
  ·obtain⟨d1,d2⟩:=ZHs h0
   rw[ZHR (.inr (w2 h0))]at qr qn
   refine Bz1 (X7 f2 f4 f7 g2 g4 d1 d2) ?_
   exact ZH0 rfl h0 xX
 ·obtain⟨d1,_⟩:=ZHs he
  rw[ZHR (.inl he)]
  refine fnQ cf32 fun Q qr qn=>?_
  refine Bz1 (X3 e0 e3 YZs) ?_
  refine qcp (hsc _) fun k1=>?_
  refine Bz1 (X2 d1 YZs) ?_
  exact ZH0 rfl he xX
end Go.Proofs.YtdfgoekdlmkdfaaGreatDoor
