/- Texts of the walk. -/
import Derived.Test.YtdfgoekdlmkdfaaGreatDoorNf
import Derived.Test.YtdfgoekdlmkdfaaGreatDoorNc
namespace Go.Proofs.YtdfgoekdlmkdfaaGreatDoor
set_option linter.defProp false
set_option maxHeartbeats 64000000
set_option linter.unusedSimpArgs false
set_option linter.unusedVariables false
open Go.RowKit Go.Lib
theorem id' {p:Prop} (h:p):p:=h
theorem ZK4 {E:Zaa} {id:Nat} {S:Tx} {H G:Zaa} {o:Option (Pk×Tx)} {p:Pk} {r:Tx} {tk:Tok} {pb:Bool} {pn:Int} (ho:o=some (p,r)) (h1:pb=decide (0<p.by')) (h2:pn=((p.by' - 1:Nat):Int)) (hX:RdX E id S r H G):∃r2 H2,Zb6 (.agg [.i (p.filt:Nat),.i (p.tier:Nat),eS p.lo,eS p.hi,.sl tk (rS p.set),.b pb,.i pn]) G r2 H2/\RdQ E id S H o (fun p=>.agg (ePk p)) r2 H2:=by
 subst h1 h2
 exact ZIp ho (.agg _ _ rfl (ZLH p tk)) hX
theorem ZKz {E:Zaa} {id:Nat} {S:Tx} {k:Nat} {b:Tx} {H:Zaa} {B:Prop} (h:RdS E id S k b H) (hB:gPk b=none->B):Zay (RP E id S B) 48 [.ptr id 0] H (RdQ E id S H (gPk b) fun p=>.agg (ePk p)):=by
 have hid:=Zaa.lt h.g
 unfold gPk at hB ⊢
 have z0:(((0:Nat):Int) == 1)=false:=rfl
 have z1:(((0:Nat):Int) == 2)=false:=rfl
 have z2:(((1:Nat):Int) == 1)=true:=rfl
 have z4:(((2:Nat):Int) == 1)=false:=rfl
 have z5:(((2:Nat):Int) == 2)=true:=rfl
 have hwb:∀by':Nat,by'<=4->IntKind.i64.wrap (((by':Nat):Int) - 1)=((by':Nat):Int) - 1:=fun by' hb=>Zaw Xa Xa
 have hmx:∀by':Nat,(if (0:Int) > ((by':Nat):Int) - 1 then (0:Int) else ((by':Nat):Int) - 1)=((by' - 1:Nat):Int):=fun by'=>by
  split<;>omega
 have hgt:∀by':Nat,decide (((by':Nat):Int) > 0)=decide (0<by'):=fun by'=>by
  by_cases h:0<by'
  ·rw[decide_eq_true h,decide_eq_true_iff];omega
  ·rw[decide_eq_false h,decide_eq_false_iff_not];omega
 refine fnQ cf48 fun Q qr qn=>?_
 refine Bz1 (X1 YZs) ?_
 refine Zap.use (ZHq 2 Xa (h.alloc _) fun e=>hB (by rw[e])) ?_
 rintro _ G ⟨f,r0,hn,rfl,hX⟩
 have hf2:=(ZHr hn).1
 simp only[hn]at hB qr qn
 have g2:=hX.2.2 H.next _ Xa Zaa.Zae
 have hX:=((ZIj h).alloc hid).trans hX
 have hXc:=hX
 obtain⟨⟨k1,h1⟩,hnx1,hold1⟩:=hXc
 have l2:=Zaa.lt g2
 have hidG:=Zaa.lt h1.g
 have hXa:=fun o=>RdX.alloc (o:=o) hid hX
 have h1a:=fun o=>h1.alloc o
 rcases (show f=0\/f=1\/f=2 by omega)with h0|h0|h0
 ·subst h0
  simp only[show gFil 0 r0=some (⟨0,0,[],[],[],0⟩,r0)from rfl]at hB qr qn
  refine Bz1 (X3 z0 z1 YZs) ?_
  refine Zap.use (ZHq 4 Xa (h1a _) fun e=>hB (by rw[e];rfl)) ?_
  rintro _ G9 ⟨by',r9,hy,rfl,hX9⟩
  have hb4:=(ZHr hy).1
  have q2:=hX9.2.2 H.next _ Xa (by rw[Zaa.Zag Xa];exact g2)
  have q3:=hX9.2.2 G.next _ Xa Zaa.Zae
  have hX:=(hXa _).trans hX9
  have l2:=Zaa.lt q2
  have l3:=Zaa.lt q3
  have hnx9:=hX.2.1
  have hw:=hwb by' hb4
  have hm:=hmx by'
  have hg:=hgt by'
  simp only[hy,Option.map_some]at qr qn
  have n23:H.next≠G.next:=Xa
  refine Bz1 (X6 q2 q3 hw hm hg YZs) ?_
  exact ZK4 (p:=⟨0,0,[],[],[],by'⟩) rfl rfl rfl (RdX.set hid (zad _) (RdX.set hid Xa (RdX.set hid Xa hX)))
 ·subst h0
  have hfl:gFil 1 r0=match gNum 3 r0 with
   | some (t,r)=>match gTxt 16 r with
    | some (lo,r2)=>match gTxt 16 r2 with
     | some (hi,r3)=>some (⟨1,t,lo,hi,[],0⟩,r3)
     | none=>none
    | none=>none
   | none=>none:=by unfold gFil;rw[if_pos rfl];rfl
  simp only[hfl]at hB qr qn
  refine Bz1 (X2 z2 YZs) ?_
  refine Zap.use (ZHq 3 Xa (h1a _) fun e=>hB (by rw[e])) ?_
  rintro _ G3 ⟨t,r3,ht,rfl,hX3⟩
  simp only[ht]at hB qr qn
  have q2:=hX3.2.2 H.next _ Xa (show(G.alloc _).get H.next=_ by rw[Zaa.Zag Xa];exact g2)
  have q3:=hX3.2.2 G.next _ Xa Zaa.Zae
  have hX':=(hXa _).trans hX3
  have l2:=Zaa.lt q2
  have l3:=Zaa.lt q3
  obtain⟨⟨k3,h3⟩,hnx3,hold3⟩:=id' hX3
  have hnx:=hX'.2.1
  refine Bz1 (X2 q3 YZs) ?_
  refine Zap.use (ZHB 16 Xa (h3.set (j:=G.next) Xa (by have:=h1.x.next;omega)) fun e=>hB (by rw[e])) ?_
  rintro _ G4 ⟨lo,r4,hlo,rfl,hX4⟩
  simp only[hlo]at hB qr qn
  have q2:=hX4.2.2 H.next _ Xa (by rw[Zaa.Zah Xa];exact q2)
  have q3:=hX4.2.2 G.next _ Xa (Zaa.Zal l3)
  have hX':=(RdX.set hid Xa hX').trans hX4
  have l2:=Zaa.lt q2
  have l3:=Zaa.lt q3
  obtain⟨⟨k4,h4⟩,hnx4,hold4⟩:=id' hX4
  refine Bz1 (X2 q3 YZs) ?_
  refine Zap.use (ZHB 16 Xa (h4.set (j:=G.next) Xa (by have:=h1.x.next;omega)) fun e=>hB (by rw[e])) ?_
  rintro _ G5 ⟨hh,r5,hhi,rfl,hX5⟩
  simp only[hhi]at hB qr qn
  have q2:=hX5.2.2 H.next _ Xa (by rw[Zaa.Zah Xa];exact q2)
  have q3:=hX5.2.2 G.next _ Xa (Zaa.Zal l3)
  have hX':=(RdX.set hid Xa hX').trans hX5
  have l2:=Zaa.lt q2
  have l3:=Zaa.lt q3
  obtain⟨⟨k5,h5⟩,hnx5,hold5⟩:=id' hX5
  refine Bz1 (X2 q3 YZs) ?_
  refine Zap.use (ZHq 4 Xa (h5.set (j:=G.next) Xa (by have:=h1.x.next;omega)) fun e=>hB (by rw[e];rfl)) ?_
  rintro _ G9 ⟨by',r9,hy,rfl,hX9⟩
  have hb4:=(ZHr hy).1
  have q2:=hX9.2.2 H.next _ Xa (by rw[Zaa.Zah Xa];exact q2)
  have q3:=hX9.2.2 G.next _ Xa (Zaa.Zal l3)
  have hX:=(RdX.set hid Xa hX').trans hX9
  have l2:=Zaa.lt q2
  have l3:=Zaa.lt q3
  have hnx9:=hX.2.1
  have hw:=hwb by' hb4
  have hm:=hmx by'
  have hg:=hgt by'
  simp only[hy,Option.map_some]at qr qn
  have n23:H.next≠G.next:=Xa
  refine Bz1 (X6 q2 q3 hw hm hg YZs) ?_
  exact ZK4 (p:=⟨1,t,lo,hh,[],by'⟩) rfl rfl rfl (RdX.set hid (zad _) (RdX.set hid Xa (RdX.set hid Xa hX)))
 ·subst h0
  have hfl:gFil 2 r0=match gNum 3 r0 with
   | some (t,r)=>match gRow 200 r with
    | some (l,r2)=>some (⟨2,t,[],[],l,0⟩,r2)
    | none=>none
   | none=>none:=by unfold gFil;rw[if_neg Xb,if_pos rfl];rfl
  simp only[hfl]at hB qr qn
  refine Bz1 (X3 z4 z5 YZs) ?_
  refine Zap.use (ZHq 3 Xa (h1a _) fun e=>hB (by rw[e])) ?_
  rintro _ G3 ⟨t,r3,ht,rfl,hX3⟩
  simp only[ht]at hB qr qn
  have q2:=hX3.2.2 H.next _ Xa (show(G.alloc _).get H.next=_ by rw[Zaa.Zag Xa];exact g2)
  have q3:=hX3.2.2 G.next _ Xa Zaa.Zae
  have hX':=(hXa _).trans hX3
  have l2:=Zaa.lt q2
  have l3:=Zaa.lt q3
  obtain⟨⟨k3,h3⟩,hnx3,hold3⟩:=id' hX3
  have hnx:=hX'.2.1
  refine Bz1 (X2 q3 YZs) ?_
  refine Zap.use (ZIE 200 Xa (h3.set (j:=G.next) Xa (by have:=h1.x.next;omega)) fun e=>hB (by rw[e])) ?_
  rintro _ G5 ⟨set,r5,hset,rfl,hX5⟩
  simp only[hset]at hB qr qn
  have q2:=hX5.2.2 H.next _ Xa (by rw[Zaa.Zah Xa];exact q2)
  have q3:=hX5.2.2 G.next _ Xa (Zaa.Zal l3)
  have hX':=(RdX.set hid Xa hX').trans hX5
  have l2:=Zaa.lt q2
  have l3:=Zaa.lt q3
  obtain⟨⟨k5,h5⟩,hnx5,hold5⟩:=id' hX5
  refine Bz1 (X2 q3 YZs) ?_
  refine Zap.use (ZHq 4 Xa (h5.set (j:=G.next) Xa (by have:=h1.x.next;omega)) fun e=>hB (by rw[e];rfl)) ?_
  rintro _ G9 ⟨by',r9,hy,rfl,hX9⟩
  have hb4:=(ZHr hy).1
  have q2:=hX9.2.2 H.next _ Xa (by rw[Zaa.Zah Xa];exact q2)
  have q3:=hX9.2.2 G.next _ Xa (Zaa.Zal l3)
  have hX:=(RdX.set hid Xa hX').trans hX9
  have l2:=Zaa.lt q2
  have l3:=Zaa.lt q3
  have hnx9:=hX.2.1
  have hw:=hwb by' hb4
  have hm:=hmx by'
  have hg:=hgt by'
  simp only[hy,Option.map_some]at qr qn
  have n23:H.next≠G.next:=Xa
  refine Bz1 (X6 q2 q3 hw hm hg YZs) ?_
  exact ZK4 (p:=⟨2,t,[],[],set,by'⟩) rfl rfl rfl (RdX.set hid (zad _) (RdX.set hid Xa (RdX.set hid Xa hX)))
open Go.RowKit Go.Lib
theorem Zes (d:Dm) (k:Nat) (H:Zaa):Zay Tryz.prog 93 [.agg (eDm d),.i (k:Int)] H (Pure H (.b (decide (k<d.tiers.length)))):=by
 obtain⟨b0,b1,b2,b3⟩:=Za7 d
 have d1:decide (((k:Nat):Int)≥0)=true:=by rw[decide_eq_true_iff];omega
 have d2:decide (((k:Nat):Int)<((d.tiers.length:Nat):Int))=decide (k<d.tiers.length):=by
  by_cases h:k<d.tiers.length
  ·rw[decide_eq_true h,decide_eq_true_iff];omega
  ·rw[decide_eq_false h,decide_eq_false_iff_not];omega
 have hx0:Zaa.Ext H H:=.refl _
 refine fnQ cf93 fun Q qr qn=>?_
 refine Bz3 (X6 b0 b1 b2 b3 d1 d2) ?_
 exact ZaW xX rfl
theorem ZKH (p:Pk) (H:Zaa) (h1:p.tier=0) (h2:p.lo=[]) (h3:p.hi=[]) (h4:p.set=[]):Zay Tryz.prog 138 [.agg (ePk p)] H (Pure H (.b true)):=by
 obtain⟨a0,a1,a2,a3,a4,a5,a6,a7,a8⟩:=ZHv p
 rw[h1]at a2
 rw[h2]at a3
 rw[h3]at a4
 rw[h4]at a5
 have a2:(ePk p)[1]?=some (AV.i 0):=a2
 have dS:decide (([]:Tx)=([]:Tx))=true:=rfl
 have dL:(((0:Nat):Int) == 0)=true:=rfl
 have hx0:Zaa.Ext H H:=.refl _
 refine fnQ cf138 fun Q qr qn=>?_
 refine Bz5 (X12 a0 a1 a2 a3 a4 a5 a6 a7 a8 dS dL YZs) ?_
 exact ZaW xX rfl
theorem ZJw (p:Pk) (H:Zaa) (h1:p.lo.length<=16) (h2:p.hi.length<=16) (h4:p.set=[]):Zay Tryz.prog 139 [.agg (ePk p)] H (Pure H (.i 0)):=by
 obtain⟨a0,a1,a2,a3,a4,a5,a6,a7,a8⟩:=ZHv p
 rw[h4]at a5
 have dL:decide ((0:Int) > 0)=false:=rfl
 have dL2:decide (((0:Nat):Int) > 0)=false:=rfl
 have dLo:decide (((p.lo.length:Nat):Int) > 16)=false:=by rw[decide_eq_false_iff_not];omega
 have dHi:decide (((p.hi.length:Nat):Int) > 16)=false:=by rw[decide_eq_false_iff_not];omega
 have hx0:Zaa.Ext H H:=.refl _
 refine fnQ cf139 fun Q qr qn=>?_
 refine Bz5 (X12 a0 a1 a2 a3 a4 a5 a6 a7 a8 dL dL2 (X3 dLo dHi YZs)) ?_
 exact ZaW xX rfl
theorem ZJD (t0:Tir) (p:Pk) (H:Zaa) (hr0:Zgt none t0.terms=0) (htl:t0.terms.length<=200) (k2:p.lo=[]) (k3:p.hi=[]) (hst:Zgt none p.set=0) (hlen:p.set.length<=200):Zay Tryz.prog 140 [.agg (eTr t0),.agg (ePk p)] H (Pure H (.i (if p.set.all (fun t=>decide (t∈t0.terms))=true then 0 else 13))):=by
 obtain⟨a0,a1,a2,a3,a4,a5,a6,a7,a8⟩:=ZHv p
 obtain⟨c0,c1,c2,c3,c4⟩:=Zba t0
 have hrw:=fun H=>ZkS .no p.set H Xa
 rw[hst]at hrw
 rw[k2]at a3
 rw[k3]at a4
 have dS:decide (([]:Tx)=([]:Tx))=true:=rfl
 have z1:((0:Int) != 0)=false:=rfl
 have hx0:Zaa.Ext H H:=.refl _
 generalize hset:p.set=set at *
 refine fnQ cf140 fun Q qr qn=>?_
 refine Bz1 (X12 a0 a1 a2 a3 a4 a5 a6 a7 a8 c0 c1 (X5 c2 c3 c4 dS YZs)) ?_
 refine qcp (hrw _) fun k1=>?_
 refine Bz3 (X6 z1 a0 a1 a2 a5 YZs) ?_
 refine ZbJ (N:=set.length) (fun k F G=>Fr.get F 27=.i (k:Int)/\Fr.get F 26=.i (set.length:Nat)/\Fr.get F 25=.sl .no (rS set)/\Fr.get F 2=.ptr H.next 0/\Fr.get F 3=.ptr (H.next+1) 0/\(set.take k).all (fun t=>decide (t∈t0.terms))=true/\Zaa.Ext H G/\G.get H.next=some (.cells (eTr t0) 42)/\G.get (H.next+1)=some (.cells (ePk p) 62)) Xd (fun k F G h=>⟨h.1,h.2.1⟩) (GStep.refl _ _) ⟨rfl,rfl,rfl,rfl,rfl,rfl,xX,by rw[Zaa.ZaB,Zaa.Zag Xe];exact Zaa.Zae,by rw[Zaa.ZaB];exact Zaa.Zat xN⟩ ?_ ?_
 ·rintro k F G hk ⟨f85,f84,f83,f2,f3,hal,hx,g2,g3⟩
  have hz:(0:Int)<=(k:Int):=Xa
  have hrs:=ZIQ hk
  have htk2:(set.take (k+1)).all (fun t=>decide (t∈t0.terms))=decide (set[k]∈t0.terms):=by
   rw[zae hk,zbt,hal];simp
  have hlk:set.all (fun t=>decide (t∈t0.terms))=true->decide (set[k]∈t0.terms)=true:=fun h=>zaA.1 h _ (zah hk)
  have hat:=fun H=>ZII .no t0.terms set[k] H Xa hr0
  generalize set[k]=x at *
  have hw:=ZCE (s:=k) Xa
  have l2:=Zaa.lt g2
  have l3:=Zaa.lt g3
  skip
  refine Bz3 (X12 f85 f84 f83 f2 f3 g2 g3 hz hrs c0 c1 (X3 c2 c3 c4)) ?_
  refine Zap.use (hat _) ?_
  rintro _ _ ⟨ap,hap,rfl,k2,rfl⟩
  by_cases hin:x∈t0.terms
  ·have hneg:decide (x∈t0.terms)=true:=decide_eq_true hin
   refine Bz1 (X7 f85 f84 f83 f2 f3 hneg hw) ?_
   exact⟨by rw[htk2];exact hneg,xX,g2,g3⟩
  ·have hneg:decide (x∈t0.terms)=false:=decide_eq_false hin
   rw[if_neg (fun h=>by have:=hlk h;rw[hneg]at this;cases this)]at qr qn
   refine Bz1 (X6 f85 f84 f83 f2 f3 hneg) ?_
   exact ZaW xX rfl
 ·rintro F G ⟨f85,f84,f83,f2,f3,hal,hx,g2,g3⟩
  rw[zaq]at hal
  rw[if_pos hal]at qr qn
  skip
  refine Bz0 ?_
  exact ZaW xX rfl
theorem ZKs (d:Dm) (p:Pk) (H:Zaa) (he:Zdv d=0) (hp:ZIZ p):Zay Tryz.prog 92 [.agg (eDm d),.agg (ePk p)] H (Pure H (.i (ZIF d p))):=by
 obtain⟨b0,b1,b2,b3⟩:=Za7 d
 obtain⟨a0,a1,a2,a3,a4,a5,a6,a7,a8⟩:=ZHv p
 have hf:=hp.f
 obtain⟨hl4,hl1,hrow⟩:=ZIU he
 have hx0:Zaa.Ext H H:=.refl _
 have hhas:=fun H=>Zes d p.tier H
 by_cases h0:p.filt=0
 ·obtain⟨k1,k2,k3,k4⟩:=hp.z0 h0
  have hv:ZIF d p=0:=by unfold ZIF;rw[if_pos h0]
  rw[hv]
  have hfr:=fun H=>ZKH p H k1 k2 k3 k4
  rw[h0]at a1
  have a1:(ePk p)[0]?=some (AV.i 0):=a1
  refine fnQ cf92 fun Q qr qn=>?_
  refine Bz1 (X12 b0 b1 b2 b3 a0 a1 a2 a3 a4 a5 a6 (X3 a7 a8 YZs)) ?_
  refine qcp (hfr _) fun k9=>?_
  refine Bz0 ?_
  exact ZaW xX rfl
 ·by_cases h1:d.tiers.length<=p.tier
  ·have hv:ZIF d p=2:=by unfold ZIF;rw[if_neg h0,if_pos h1]
   rw[hv]
   rw[decide_eq_false (show ¬p.tier<d.tiers.length by omega)]at hhas
   rcases (show p.filt=1\/p.filt=2 by omega)with h2|h2
   ·rw[h2]at a1
    have a1:(ePk p)[0]?=some (AV.i 1):=a1
    refine fnQ cf92 fun Q qr qn=>?_
    refine Bz1 (X12 b0 b1 b2 b3 a0 a1 a2 a3 a4 a5 a6 (X3 a7 a8 YZs)) ?_
    refine qcp (hhas _) fun k9=>?_
    refine Bz0 ?_
    exact ZaW xX rfl
   ·rw[h2]at a1
    have a1:(ePk p)[0]?=some (AV.i 2):=a1
    refine fnQ cf92 fun Q qr qn=>?_
    refine Bz1 (X12 b0 b1 b2 b3 a0 a1 a2 a3 a4 a5 a6 (X3 a7 a8 YZs)) ?_
    refine qcp (hhas _) fun k9=>?_
    refine Bz0 ?_
    exact ZaW xX rfl
  ·rw[decide_eq_true (show p.tier<d.tiers.length by omega)]at hhas
   rcases (show p.filt=1\/p.filt=2 by omega)with h2|h2
   ·have hv:ZIF d p=0:=by unfold ZIF;rw[if_neg h0,if_neg h1,if_pos h2]
    rw[hv]
    have hwi:=fun H=>ZJw p H hp.lo hp.hi (hp.z1 h2)
    rw[h2]at a1
    have a1:(ePk p)[0]?=some (AV.i 1):=a1
    refine fnQ cf92 fun Q qr qn=>?_
    refine Bz1 (X12 b0 b1 b2 b3 a0 a1 a2 a3 a4 a5 a6 (X3 a7 a8 YZs)) ?_
    refine qcp (hhas _) fun k8=>?_
    refine Bz1 (X10 a0 a1 a2 a3 a4 a5 a6 a7 a8 YZs) ?_
    refine qcp (hwi _) fun k9=>?_
    refine Bz0 ?_
    exact ZaW xX rfl
   ·obtain⟨k2,k3⟩:=hp.z2 h2
    have hv:ZIF d p=if p.set.all (fun t=>decide (t∈ZJN d p.tier))=true then 0 else 13:=by unfold ZIF;rw[if_neg h0,if_neg h1,if_neg Xa]
    have hlt:p.tier<d.tiers.length:=Xa
    have htk:ZJN d p.tier=(d.tiers[p.tier]).terms:=by unfold ZJN;rw[zac hlt]
    rw[hv,htk]
    have hr:=Zdh hlt
    obtain⟨hr0,htl⟩:=hrow _ (zah hlt)
    obtain⟨c0,c1,c2,c3,c4⟩:=Zba d.tiers[p.tier]
    generalize d.tiers[p.tier]=t0 at *
    have ham:=fun H=>ZJD t0 p H hr0 htl k2 k3 hp.set hp.len
    generalize (if p.set.all (fun t=>decide (t∈t0.terms))=true then (0:Int) else 13)=R at *
    have hzt:(0:Int)<=((p.tier:Nat):Int):=Xa
    rw[h2]at a1
    have a1:(ePk p)[0]?=some (AV.i 2):=a1
    refine fnQ cf92 fun Q qr qn=>?_
    refine Bz1 (X12 b0 b1 b2 b3 a0 a1 a2 a3 a4 a5 a6 (X3 a7 a8 YZs)) ?_
    refine qcp (hhas _) fun k8=>?_
    refine Bz1 (X12 b0 b1 b2 b3 a0 a1 a2 a3 a4 a5 a6 (X7 a7 a8 hzt hr c0 c4 YZs)) ?_
    refine qcp (ham _) fun k9=>?_
    refine Bz0 ?_
    exact ZaW xX rfl
theorem ZJu (s:Sc) (l:List Pk) (H:Zaa) (he:scE s=0) (hl:l.length=s.dims.length) (hp:∀p∈l,ZIZ p) (hsm:Zh1 s):Zay Tryz.prog 49 [.agg (eSc s),.agg [.sl .no (rP l)]] H (Pure H (.i (ZI1 s.dims l))):=by
 obtain⟨e0,e1,e2,e3⟩:=ZbB s
 obtain⟨hl1,hdE,hl2,_⟩:=ZCV he
 have hsc:=fun H=>Zc9 s H hsm
 rw[he]at hsc
 have d0:((0:Int) != 0)=false:=rfl
 have d3:(((s.dims.length:Nat):Int) != ((s.dims.length:Nat):Int))=false:=Xc
 have hx0:Zaa.Ext H H:=.refl _
 generalize hEr:ZI1 s.dims l=E
 refine fnQ cf49 fun Q qr qn=>?_
 refine Bz1 (X4 e0 e1 e3 YZs) ?_
 refine qcp (hsc _) fun k1=>?_
 refine Bz3 (X7 d0 d3 e0 e1 e3 hl YZs) ?_
 refine ZbJ (N:=s.dims.length) (fun k F G=>Fr.get F 24=.i (k:Int)/\Fr.get F 23=.i (s.dims.length:Nat)/\Fr.get F 22=.sl .no (rP l)/\Fr.get F 2=.ptr H.next 0/\Fr.get F 3=.ptr (H.next+1) 0/\ZI1 (s.dims.drop k) (l.drop k)=E/\Zaa.Ext H G/\G.get H.next=some (.cells (eSc s) 25)/\G.get (H.next+1)=some (.cells [.sl .no (rP l)] 57)) Xd (fun k F G h=>⟨h.1,h.2.1⟩) (GStep.refl _ _) ⟨rfl,rfl,rfl,rfl,rfl,hEr,xX,by rw[Zaa.ZaB,Zaa.Zag Xe];exact Zaa.Zae,by rw[Zaa.ZaB];exact Zaa.Zat xN⟩ ?_ ?_
 ·rintro k F G hk ⟨f24,f23,f22,f2,f3,hal,hx,g2,g3⟩
  have hkl:k<l.length:=Xa
  have hz:(0:Int)<=(k:Int):=Xa
  have hr:=ZKg hkl
  have hrd:=ZjQ hk
  rw[ZJA hk hkl]at hal
  have hdk:=hdE _ (zah hk)
  have hpk:=hp _ (zah hkl)
  generalize l[k]=p at *
  generalize s.dims[k]=d at *
  obtain⟨b0,b1,b2,b3⟩:=Za7 d
  obtain⟨a0,a1,a2,a3,a4,a5,a6,a7,a8⟩:=ZHv p
  have hfil:=fun H=>ZKs d p H hdk hpk
  have hw:=ZCE (s:=k) Xa
  have l2:=Zaa.lt g2
  have l3:=Zaa.lt g3
  unfold pkE at hal
  skip
  refine Bz1 (X12 f24 f23 f22 f2 f3 g2 g3 hz hr hrd e0 (X10 e1 e2 e3 b0 b1 b2 b3 a0 a8 YZs)) ?_
  refine qcp (hfil _) fun k2=>?_
  by_cases hf:ZIF d p=0
  ·rw[hf]at hal ⊢
   have hal:(if (if 0<p.by'/\d.tiers.length<=p.by' - 1 then (2:Int) else 0)≠0 then (if 0<p.by'/\d.tiers.length<=p.by' - 1 then (2:Int) else 0) else ZI1 (s.dims.drop (k+1)) (l.drop (k+1)))=E:=hal
   by_cases hby:p.by'=0
   ·have a6:(ePk p)[5]?=some (.b false):=by rw[a6,hby];rfl
    have a7:(ePk p)[6]?=some (.i 0):=by rw[a7,hby];rfl
    rw[if_neg (show ¬(0<p.by'/\d.tiers.length<=p.by' - 1) by omega)]at hal
    have hal:ZI1 (s.dims.drop (k+1)) (l.drop (k+1))=E:=hal
    refine Bz1 (X12 f24 f23 f22 f2 f3 g2 g3 hz hrd e0 e1 (X12 e2 e3 b0 b1 b2 b3 a0 a6 a7 a8 d0 (X2 hw YZs))) ?_
    exact⟨hal,xX⟩
   ·have a6:(ePk p)[5]?=some (.b true):=by rw[a6,decide_eq_true Xa]
    have hhas:=fun H=>Zes d (p.by' - 1) H
    have dN:decide (((p.by' - 1:Nat):Int)<0)=false:=by rw[decide_eq_false_iff_not];omega
    by_cases hge:d.tiers.length<=p.by' - 1
    ·have dG:decide (((p.by' - 1:Nat):Int)≥((d.tiers.length:Nat):Int))=true:=by rw[decide_eq_true_iff];omega
     rw[if_pos (show 0<p.by'/\d.tiers.length<=p.by' - 1 by omega)]at hal
     have hal:(2:Int)=E:=hal
     rw[decide_eq_false (show ¬p.by' - 1<d.tiers.length by omega)]at hhas
     refine Bz1 (X12 f24 f23 f22 f2 f3 g2 g3 hz hrd e0 e1 (X12 e2 e3 b0 b1 b2 b3 a0 a6 a7 a8 d0 YZs)) ?_
     refine qcp (hhas _) fun k7=>?_
     refine Bz1 (X12 f24 f23 f22 f2 f3 g2 g3 a0 a6 a7 a8 YZs) ?_
     rw[<- hal]
     exact ZaW xX rfl
    ·have dG:decide (((p.by' - 1:Nat):Int)≥((d.tiers.length:Nat):Int))=false:=by rw[decide_eq_false_iff_not];omega
     rw[if_neg (show ¬(0<p.by'/\d.tiers.length<=p.by' - 1) by omega)]at hal
     have hal:ZI1 (s.dims.drop (k+1)) (l.drop (k+1))=E:=hal
     rw[decide_eq_true (show p.by' - 1<d.tiers.length by omega)]at hhas
     refine Bz1 (X12 f24 f23 f22 f2 f3 g2 g3 hz hrd e0 e1 (X12 e2 e3 b0 b1 b2 b3 a0 a6 a7 a8 d0 YZs)) ?_
     refine qcp (hhas _) fun k7=>?_
     refine Bz1 (X12 f24 f23 f22 f2 f3 g2 g3 a0 a6 a7 a8 (X2 hw YZs)) ?_
     exact⟨hal,xX⟩
  ·obtain⟨d1,_⟩:=ZHs hf
   rw[if_pos hf,if_pos hf]at hal
   refine Bz1 (X7 f24 f23 f22 f2 f3 d1 YZs) ?_
   rw[hal]
   exact ZaW xX rfl
 ·rintro F G ⟨f24,f23,f22,f2,f3,hal,hx,g2,g3⟩
  rw[zaG]at hal
  have hal:(0:Int)=E:=hal
  skip
  refine Bz0 ?_
  rw[<- hal]
  exact ZaW xX rfl
open Go.RowKit Go.Lib
def PksN (E:Zaa) (i7:Nat) (s:Sc) (b:Tx) (at':Int) (H2:Zaa):Prop:=∃l r tok,gPks s.dims.length b=some (l,r)/\r.length<=b.length/\(∃k:Nat,at'=(k:Int)/\k=b.length - r.length)/\H2.get i7=some (.cells [.sl tok (rP l)] 57)/\Zaa.Ext E H2
theorem atk_in (s:Sc) (b:Tx) (E H:Zaa) (i2 i7:Nat) (hl:b.length<=100000) (hnd:s.dims.length<=1000) (hEx:Zaa.Ext E H) (h7:E.next<=i7) (g2:E.get i2=some (.cells (eSc s) 25)) (g7:H.get i7=some (.cells [.sl .full []] 57)) :
  Zay (RP E H.next b (gPks s.dims.length b=none)) 47 [.ptr H.next 0,.ptr i2 0,.ptr i7 0] (H.alloc (rdO ⟨b.toArray⟩ 0 true)) fun _ H2=>rdRet H.next ⟨b.toArray⟩ (PksN E i7 s b) H2:=by
 have hS0:=RdS.start (S:=b) hEx hl
 obtain⟨e0,e1,e2,e3⟩:=ZbB s
 have l7:=Zaa.lt g7
 have l2:=Zaa.lt g2
 have hne:=hEx.next
 have g7:(H.alloc (rdO ⟨b.toArray⟩ 0 true)).get i7=some (.cells [.sl .full []] 57):=by rw[Zaa.Zag Xa];exact g7
 generalize hBB:(gPks s.dims.length b=none)=B at *
 have hB:gPks s.dims.length b=none->B:=fun h=>by rw[<- hBB];exact h
 have hU:gPks s.dims.length b=ZHu (fun _=>gPk) s.dims.length [] b:=rfl
 unfold PksN
 generalize gPks s.dims.length b=og at *
 clear hBB
 have hid:H.next<(H.alloc (rdO ⟨b.toArray⟩ 0 true)).next:=by simp only[nx];omega
 generalize H.alloc (rdO ⟨b.toArray⟩ 0 true)=H1 at *
 have q20:=(hS0:RdS E _ b 0 b H1).x.get _ _ g2
 refine fnQ cf47 fun Q qr qn=>?_
 refine Bz3 (X4 q20 e0 e1 e3) ?_
 refine ZbJ (N:=s.dims.length) (fun i F G'=>Fr.get F 7=.i (i:Int)/\Fr.get F 6=.i (s.dims.length:Nat)/\Fr.get F 0=.ptr H.next 0/\Fr.get F 2=.ptr i7 0/\Fr.get F 1=.ptr i2 0/\∃acc tok r k,acc.length=i/\ZHu (fun _=>gPk) (s.dims.length - i) acc r=og/\G'.get i7=some (.cells [.sl tok (rP acc)] 57)/\ZCe (H.next+1) G' 62 7 i tok/\H.next+1<=G'.next/\RdS E H.next b k r G') Xd (fun k F G h=>⟨h.1,h.2.1⟩) (GStep.refl _ _) ⟨rfl,rfl,rfl,rfl,rfl,[],.full,b,0,rfl,hU.symm,g7,.inl rfl,Xa,hS0⟩ ?_ ?_
 ·rintro i F G' hi ⟨f6,f5,f0,f1,f2,acc,tok,r,k,hal,hro,q7,hT,hnx,hR⟩
  rw[show s.dims.length - i=(s.dims.length - (i+1))+1 by omega,ZHE]at hro
  have q2:=hR.x.get _ _ g2
  have hw:=ZCE (s:=i) Xa
  have lq2:=Zaa.lt q2
  have lq7:=Zaa.lt q7
  skip
  refine Bz1 (X9 f6 f5 f0 f1 f2 q2 q7 e0 e3) ?_
  refine Zap.use (ZKz hR fun e=>hB (by rw[<- hro,e])) ?_
  rintro _ G5 ⟨x,r2,hx,rfl,hX5⟩
  rw[hx]at hro
  simp only at hro
  have p7:=hX5.2.2 _ _ Xa q7
  have p2:=hX5.2.2 _ _ Xa q2
  obtain⟨⟨k5,h5⟩,hnx5,hold5⟩:=hX5
  have hrl:(rP acc).length=i:=by simp[hal]
  have hall:ZaE 7 (rP acc)=true:=ZaU (f:=ePk) (sz:=7) (fun _=>rfl) _
  have hm1:i+1<=maxLen:=ZAp Xa
  have hm2:(i+1) * 88<=140737488355328:=Xa
  have hsn:rP acc++[ePk x]=rP (acc++[x]):=Xc
  generalize hR1:rP (acc++[x])=R1 at *
  generalize hR0:rP acc=R0 at *
  have hal2:ZaE 7 [ePk x]=true:=rfl
  obtain⟨a0,a1,a2,a3,a4,a5,a6,a7,a8⟩:=ZHv x
  have l7:=Zaa.lt p7
  rcases hT with rfl|⟨t',ht',rfl,hgt⟩
  ·refine Bz1 (X12 f6 f5 f0 f1 f2 p7 a0 a8 hrl hall hal2 (X4 hm1 hm2 hsn hw)) ?_
   exact⟨acc++[x],.own G5.next,r2,k5,by simp[hal],hro,by rw[hR1],.inr ⟨G5.next,Xa,rfl,by rw[Zaa.Zah Xa];exact Zaa.Zae⟩,Xa,RdS.set (RdS.alloc h5 _) Xa h7⟩
  ·have hgt5:=hold5 t' _ Xa hgt
   have nt5:t'≠i7:=Xa
   have lt5:=Zaa.lt hgt5
   refine Bz1 (X12 f6 f5 f0 f1 f2 p7 p2 hgt5 a0 a8 hrl (X6 hall hal2 hm1 hm2 hsn hw)) ?_
   exact⟨acc++[x],.own t',r2,k5,by simp[hal],hro,by rw[hR1],.inr ⟨t',ht',rfl,by rw[Zaa.Zah Xa];exact Zaa.Zal lt5⟩,Xa,RdS.set (RdS.set h5 Xa Xa) Xa h7⟩
 ·rintro F G' ⟨f6,f5,f0,f1,f2,acc,tok,r,k,hal,hro,q7,hT,hnx,hR⟩
  rw[zaY,ZHu]at hro
  have hlen:=hR.len
  skip
  refine Bz0 ?_
  exact Zaq (ZKP hR rfl fun hk=>⟨acc,r,tok,hro.symm,Xa,⟨k,rfl,hk⟩,q7,hR.x⟩)
theorem ZLC (s:Sc) (b:Tx) (H:Zaa) (hl:b.length<=100000) (hsm:Zh1 s):Zay Tryz.prog 17 [.agg (eSc s),eS b] H (ZIK (picksR s b) H):=by
 obtain⟨e0,e1,e2,e3⟩:=ZbB s
 have hsc:=fun H=>Zc9 s H hsm
 have hx0:Zaa.Ext H H:=.refl _
 by_cases he:scE s=0
 ·rw[he]at hsc
  have d0:((0:Int) != 0)=false:=rfl
  have dE:((0:Int) == 0)=true:=rfl
  obtain⟨hl1,_,hl2,_⟩:=ZCV he
  refine fnQ cf17 fun Q qr qn=>?_
  refine Bz1 (X2 e0 e3) ?_
  refine qcp (hsc _) fun k1=>?_
  refine Bz1 (X1 d0) ?_
  obtain⟨E,hEx⟩:∃E,E=((H.alloc (.cells (eSc s) 25)).alloc (.cells [.sl .full []] 57)).bump k1:=⟨_,rfl⟩
  have g2:E.get H.next=some (.cells (eSc s) 25):=by rw[hEx,Zaa.ZaB,Zaa.Zag Xe];exact Zaa.Zae
  have g4:E.get (H.next+1)=some (.cells [.sl .full []] 57):=by rw[hEx,Zaa.ZaB];exact Zaa.Zat xN
  have hxE:Zaa.Ext H E:=by rw[hEx];exact hx0.alloc.alloc.bump
  have hEn:E.next=H.next+1+1+k1:=by rw[hEx];simp only[nx]
  rw[<- hEx]
  have hin:=atk_in s b E (E.alloc (.cells [.sl .full []] 57)) H.next E.next hl Xa (Zaa.Ext.refl E).alloc (zad _) g2 Zaa.Zae
  have hall:=Zw3 ⟨b.toArray⟩ (by show b.toArray.size<=maxLen;rw[zaP];unfold maxLen;omega) 47 [] [.ptr H.next 0,.ptr E.next 0] (E.alloc (.cells [.sl .full []] 57)) (PksN E E.next s b) (fun ev H2=>ev≠0/\gPks s.dims.length b=none/\Zaa.Ext E H2) hin
  rw[<- hEn]
  refine Zap.use hall ?_
  rintro v G ⟨H2,at',hg,rfl,hc⟩
  simp only[nx]at hg ⊢
  rcases hc with⟨⟨l,r,tok,hs,hrl,⟨k,rfl,hk⟩,p7,hx2⟩,rfl⟩|⟨ev,⟨hev,hno,hx2⟩,rfl⟩
  ·rw[ZJP hrl hk]
   have p2:=hx2.get _ _ g2
   have p4:=hx2.get _ _ g4
   have l4:=Zaa.lt p4
   have l7:=Zaa.lt p7
   have hxH:=hxE.trans hx2
   by_cases hr:r=[]
   ·subst hr
    obtain⟨hll,_,hpk⟩:=ZJH hs
    have hck:=fun H=>ZJu s l H he hll hpk hsm
    rw[ZIz he hs]at qr qn
    generalize ZI1 s.dims l=er at *
    rw[if_pos rfl]
    have hWp:ZIq (rP l) (rP l):=⟨rfl,fun i r r' h1 h2=>by rw[h1]at h2;injection h2 with h2;subst h2;exact⟨rfl,fun j x y h3 h4=>by rw[h3]at h4;injection h4 with h4;subst h4;exact .refl _⟩⟩
    refine Bz1 (X5 dE p2 p7 e0 e3) ?_
    refine qcp (ZHW (wkn_q hWp) (hck _)) fun k4=>?_
    by_cases her:er=0
    ·subst her
     rw[if_pos rfl]at qr qn
     refine Bz1 (X3 d0 p4 p7) ?_
     exact ZJp rfl hWp xX
    ·obtain⟨d1,_⟩:=ZHs her
     rw[if_neg her]at qr qn
     refine Bz1 (X2 d1 p4) ?_
     exact ZH0 rfl her xX
   ·have d3:((3:Int) != 0)=true:=rfl
    have d4:((3:Int) == 0)=false:=rfl
    rw[ZHR (.inr fun l' h=>by rw[hs]at h;injection h with h;injection h with h1 h2;exact hr h2)]at qr qn
    rw[if_neg hr]
    refine Bz1 (X3 d3 d4 p4) ?_
    exact ZH0 rfl Xb xX
  ·obtain⟨d1,d2⟩:=ZHs hev
   have p4:=hx2.get _ _ g4
   have l4:=Zaa.lt p4
   have hxH:=hxE.trans hx2
   rw[ZHR (.inr fun l' h=>by rw[hno]at h;cases h)]at qr qn
   refine Bz1 (X3 d1 d2 p4) ?_
   exact ZH0 rfl hev xX
 ·obtain⟨d1,_⟩:=ZHs he
  rw[ZHR (.inl he)]
  refine fnQ cf17 fun Q qr qn=>?_
  refine Bz1 (X2 e0 e3) ?_
  refine qcp (hsc _) fun k1=>?_
  refine Bz1 (X1 d1) ?_
  exact ZH0 rfl he xX
end Go.Proofs.YtdfgoekdlmkdfaaGreatDoor
