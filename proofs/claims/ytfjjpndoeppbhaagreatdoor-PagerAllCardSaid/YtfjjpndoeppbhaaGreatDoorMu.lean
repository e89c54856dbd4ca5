/- Texts of the walk. -/
import Derived.Test.YtfjjpndoeppbhaaGreatDoorMt
namespace Go.Proofs.YtfjjpndoeppbhaaGreatDoor
set_option linter.defProp false
set_option maxHeartbeats 64000000
set_option linter.unusedSimpArgs false
set_option linter.unusedVariables false
open Go.RowKit Go.Lib
theorem RdS.start {E H:Zaa} {S:Tx} (hEx:Zaa.Ext E H) (hl:S.length<=100000):RdS E H.next S 0 S (H.alloc (rdO ⟨S.toArray⟩ 0 true)) :=
 ⟨zat _,rfl,Zaa.Zae,hl,hEx.alloc,hEx.next⟩
theorem ZKP {E:Zaa} {id k:Nat} {S r:Tx} {G G':Zaa} {RN:Int->Zaa->Prop} (h:RdS E id S k r G) (hg:G'.get id=G.get id) (hR:k=S.length - r.length->RN (k:Int) G'):rdRet id ⟨S.toArray⟩ RN G':=by
 have hk:=h.kl
 have hl:=h.len
 refine⟨(k:Int),hR Xa,by rw[hg];exact h.g,Xa,?_⟩
 show(k:Int)<=((S.toArray.size:Nat):Int)
 rw[zbA];omega
theorem ZQ0 {pan:Value->Zaa->Prop} {E:Zaa} {id:Nat} {S:Tx} {k:Nat} {b:Tx} {H:Zaa} (h:RdS E id S k b H):Zay ⟨Tryz.prog,pan⟩ 202 [.ptr id 0] H (Pure H (.i ((b.length:Nat):Int))):=by
 have hg:=h.g
 have hl:=h.len
 have hS:=h.l
 have hx0:Zaa.Ext H H:=.refl _
 have w1:IntKind.i64.wrap ((S.length:Int) - (k:Int))=(b.length:Int):=by rw[Zaw Xa Xa];omega
 refine fnQ cf202 fun Q qr qn=>?_
 refine Bz0 ?_
 refine qcp (ZHY h) fun k1=>?_
 refine Bz1 (X2 hg w1) ?_
 exact Zcm rfl
noncomputable def wRt (b:Tx):Option (Nat×Nat×Nat×Nat×Nat):=match gRt b with
 | some (x,r)=>if tlZ (trZ r)=[] then some x else none
 | none=>none
theorem wRt_none {b:Tx} (h:gRt b=none):wRt b=none:=by unfold wRt;rw[h]
abbrev eR5 (g:Int) (x:Nat×Nat×Nat×Nat×Nat):List AV:=[.i g,.i (x.1:Int),.i (x.2.1:Int),.i (x.2.2.1:Int),.i (x.2.2.2.1:Int),.i (x.2.2.2.2:Int)]
abbrev zRt:List AV:=[.i 0,.i 0,.i 0,.i 0,.i 0,.i 0]
noncomputable abbrev RPX (E:Zaa) (id:Nat) (S:Tx) (X:Nat) (B:Prop):Prg:=⟨Tryz.prog,rdPan id ⟨S.toArray⟩ fun ev H=>ev≠0/\B/\Zaa.Ext E H/\∃x,H.get X=some (.cells (eR5 0 x) 41)⟩
theorem pan_x {E E2:Zaa} {id X:Nat} {S:Tx} {B:Prop} {x:Nat×Nat×Nat×Nat×Nat} (hx:Zaa.Ext E E2) (hg:E2.get X=some (.cells (eR5 0 x) 41)):∀u H',(RP E2 id S B).pan u H'->(RPX E id S X B).pan u H':=by
 rintro _ H' ⟨ev,at',rfl,⟨h1,h2,h3⟩,h4⟩
 exact⟨ev,at',rfl,⟨h1,h2,hx.trans h3,x,h3.get _ _ hg⟩,h4⟩
theorem ZSC (b:Tx) (X:Nat) (E H:Zaa) (hEx:Zaa.Ext E H) (hEX:E.next<=X) (hl:b.length<=100000) (hX:H.get X=some (.cells zRt 41)) :
  Zay (RPX E H.next b X (wRt b=none)) 197 [.ptr H.next 0,.ptr X 0] (H.alloc (rdO ⟨b.toArray⟩ 0 true)) fun _ H2=>rdRet H.next ⟨b.toArray⟩ (fun at' H2=>∃x,wRt b=some x/\at'=(b.length:Int)/\H2.get X=some (.cells (eR5 0 x) 41)/\Zaa.Ext E H2) H2:=by
 have h0:=RdS.start (S:=b) (Zaa.Ext.refl H) hl
 have pn:=pan_x (id:=H.next) (S:=b) (B:=wRt b=none) (x:=(0,0,0,0,0)) hEx hX
 have hlX:=Zaa.lt hX
 have hB:gRt b=none->wRt b=none:=wRt_none
 refine fnQ cf197 fun Q qr qn=>?_
 refine Bz0 ?_
 refine Zap.use ((ZHq 2047 Xa h0 fun e=>hB (by unfold gRt;rw[e];rfl)).ZON rfl (fun _ _ h=>h) pn) ?_
 rintro _ G1 ⟨p,r1,hn1,rfl,hX1⟩
 obtain⟨⟨k1,g1⟩,nx1,o1⟩:=hX1
 refine Bz0 ?_
 refine Zap.use ((ZHq 2047 Xa g1 fun e=>hB (by unfold gRt;simp only[hn1,e,Option.bind_some,Option.bind_none])).ZON rfl (fun _ _ h=>h) pn) ?_
 rintro _ G2 ⟨m,r2,hn2,rfl,hX2⟩
 obtain⟨⟨k2,g2⟩,nx2,o2⟩:=hX2
 refine Bz0 ?_
 refine Zap.use ((ZHq 1048576 Xa g2 fun e=>hB (by unfold gRt;simp only[hn1,hn2,e,Option.bind_some,Option.bind_none])).ZON rfl (fun _ _ h=>h) pn) ?_
 rintro _ G3 ⟨c,r3,hn3,rfl,hX3⟩
 obtain⟨⟨k3,g3⟩,nx3,o3⟩:=hX3
 refine Bz0 ?_
 refine Zap.use ((ZHq 1048576 Xa g3 fun e=>hB (by unfold gRt;simp only[hn1,hn2,hn3,e,Option.bind_some,Option.bind_none])).ZON rfl (fun _ _ h=>h) pn) ?_
 rintro _ G4 ⟨n,r4,hn4,rfl,hX4⟩
 obtain⟨⟨k4,g4⟩,nx4,o4⟩:=hX4
 refine Bz0 ?_
 refine Zap.use ((ZHq 1048576 Xa g4 fun e=>hB (by unfold gRt;simp only[hn1,hn2,hn3,hn4,e,Option.bind_some,Option.map_none])).ZON rfl (fun _ _ h=>h) pn) ?_
 rintro _ G5 ⟨t,r5,hn5,rfl,hX5⟩
 obtain⟨⟨k5,g5⟩,nx5,o5⟩:=hX5
 have hg:gRt b=some ((p,m,c,n,t),r5):=by unfold gRt;simp only[hn1,hn2,hn3,hn4,hn5,Option.bind_some,Option.map_some]
 have old:∀i o,i≠H.next->(H.alloc (rdO ⟨b.toArray⟩ 0 true)).get i=some o->G5.get i=some o:=fun i o hi ho=>o5 i o hi (o4 i o hi (o3 i o hi (o2 i o hi (o1 i o hi ho))))
 have hX5':G5.get X=some (.cells zRt 41):=old X _ Xa (by rw[Zaa.Zag Xa];exact hX)
 have hlX5:=Zaa.lt hX5'
 have hw:wRt b=if tlZ (trZ r5)=[] then some (p,m,c,n,t) else none:=by unfold wRt;rw[hg]
 have hne:H.next≠X:=Xa
 have hx2:Zaa.Ext (H.set X (.cells (eR5 0 (p,m,c,n,t)) 41)) (G5.set X (.cells (eR5 0 (p,m,c,n,t)) 41)):=⟨g5.x.next,fun i o ho=>by
  by_cases e:i=X
  ·subst e
   rw[Zaa.Zal hlX]at ho
   rw[Zaa.Zal hlX5]
   exact ho
  ·rw[Zaa.Zah e]at ho
   rw[Zaa.Zah e]
   exact g5.x.get _ _ ho⟩
 have hxE2:Zaa.Ext E (H.set X (.cells (eR5 0 (p,m,c,n,t)) 41)):=hEx.set hEX
 have pn2:=pan_x (id:=H.next) (S:=b) (B:=wRt b=none) (x:=(p,m,c,n,t)) hxE2 (Zaa.Zal hlX)
 have g6:RdS (H.set X (.cells (eR5 0 (p,m,c,n,t)) 41)) H.next b k5 r5 (G5.set X (.cells (eR5 0 (p,m,c,n,t)) 41)):=⟨g5.kl,g5.bd,by rw[Zaa.Zah hne];exact g5.g,g5.l,hx2,zad _⟩
 have q6:(G5.set X (.cells (eR5 0 (p,m,c,n,t)) 41)).get X=some (.cells (eR5 0 (p,m,c,n,t)) 41):=Zaa.Zal hlX5
 have hrl:r5.length<=100000:=by have:=g5.len;omega
 have hfx:gFix r5.length r5=some (r5,[]):=by unfold gFix;rw[if_pos (zad _),zaz,List.drop_length]
 have htr:∀K,Zay (RPX E H.next b X (wRt b=none)) 200 [eS r5,.sc (.string ⟨#[0]⟩)] K (Pure K (eS (tlZ (trZ r5)))):=fun K=>(ZOe r5 K Xa).up
 refine Bz1 (X1 hX5') ?_
 generalize hG6:G5.set X (.cells (eR5 0 (p,m,c,n,t)) 41)=G6 at g6 q6
 refine qcp (ZQ0 g6) fun j1=>?_
 refine Bz0 ?_
 refine Zap.use ((ZJS (B:=wRt b=none) r5.length Xa (g6.bump j1) (fun e=>by rw[hfx]at e;cases e)).ZON rfl (fun _ _ h=>h) pn2) ?_
 rintro _ G7 ⟨a,r,ha,rfl,hX7⟩
 rw[hfx]at ha
 cases ha
 obtain⟨⟨k7,g7⟩,nx7,o7⟩:=hX7
 have q7:=o7 X _ (zbn hne) (by rw[Zaa.ZaB];exact q6)
 refine Bz0 ?_
 refine qcp (htr _) fun j2=>?_
 by_cases hz:tlZ (trZ r5)=[]
 ·have d1:decide (tlZ (trZ r5)=[])=true:=decide_eq_true hz
  rw[if_pos hz]at hw
  clear hz
  generalize tlZ (trZ r5)=tz at *
  ((have hd:=tv;repeat' first|(first|apply Zad|apply Zac|apply Zab)<;>intro hd<;>try simp only[hd]|simp(disch:=first|assumption|omega|simp only[nx]<;>omega|fail)only[hd,qr,qn,ZQg,↓YA,YY,↓reduceIte,Nat.reduceEqDiff,Nat.reduceAdd,Nat.reduceMul,Nat.reduceLeDiff,Int.reduceToNat,Int.reduceLE,Int.reduceLT,Int.reduceGT,Int.reduceGE,Int.reduceAdd,Int.reduceSub,Int.reduceNeg,Int.reduceBEq,Int.reduceBNe,d1])<;>try revert hd;refine ttr ?_)
  refine qcp (ZHM 3 (g7.bump j2)) fun j3=>?_
  refine Bz0 ?_
  have g8:=(g7.bump j2).bump j3
  refine Zaq (ZKP g8 rfl fun hk=>⟨_,hw,?_,?_,hxE2.trans g8.x⟩)
  ·rw[hk]
   simp
  ·rw[Zaa.ZaB,Zaa.ZaB]
   exact q7
 ·have d1:decide (tlZ (trZ r5)=[])=false:=decide_eq_false hz
  rw[if_neg hz]at hw
  clear hz
  generalize tlZ (trZ r5)=tz at *
  ((have hd:=tv;repeat' first|(first|apply Zad|apply Zac|apply Zab)<;>intro hd<;>try simp only[hd]|simp(disch:=first|assumption|omega|simp only[nx]<;>omega|fail)only[hd,qr,qn,ZQg,↓YA,YY,↓reduceIte,Nat.reduceEqDiff,Nat.reduceAdd,Nat.reduceMul,Nat.reduceLeDiff,Int.reduceToNat,Int.reduceLE,Int.reduceLT,Int.reduceGT,Int.reduceGE,Int.reduceAdd,Int.reduceSub,Int.reduceNeg,Int.reduceBEq,Int.reduceBNe,d1])<;>try revert hd;refine ttr ?_)
  exact Zap.use ((ZHV 3 (g7.bump j2) hw).ZON rfl (fun _ _ h=>h) pn2) fun _ _ h=>h.elim
open Go.RowKit
theorem ZND {most n:Nat} {r:Tx} (h1:n<=most) (h2:n<18446744073709551616):gNum most (ZA2 n++r)=some (n,r):=by
 unfold gNum
 rw[ZKQ h2]
 simp only
 rw[if_pos h1]
theorem gRt_of {p m c n t:Nat} {Z:Tx} (hp:p<=2047) (hm:m<=2047) (hc:c<=1048576) (hn:n<=1048576) (ht:t<=1048576):gRt (ZA2 p++(ZA2 m++(ZA2 c++(ZA2 n++(ZA2 t++Z)))))=some ((p,m,c,n,t),Z):=by
 unfold gRt
 rw[ZND hp Xa]
 simp only[Option.bind_some]
 rw[ZND hm Xa]
 simp only[Option.bind_some]
 rw[ZND hc Xa]
 simp only[Option.bind_some]
 rw[ZND hn Xa]
 simp only[Option.bind_some]
 rw[ZND ht Xa]
 rfl
theorem gRt_is {b Z:Tx} {x:Nat×Nat×Nat×Nat×Nat} (h:gRt b=some (x,Z)):b=ZA2 x.1++(ZA2 x.2.1++(ZA2 x.2.2.1++(ZA2 x.2.2.2.1++(ZA2 x.2.2.2.2++Z))))/\x.1<=2047/\x.2.1<=2047/\x.2.2.1<=1048576/\x.2.2.2.1<=1048576/\x.2.2.2.2<=1048576:=by
 unfold gRt at h
 cases h1:gNum 2047 b with
 | none=>rw[h1]at h;cases h
 | some a1 =>
 rw[h1,Option.bind_some]at h
 cases h2:gNum 2047 a1.2 with
 | none=>rw[h2]at h;cases h
 | some a2 =>
 rw[h2,Option.bind_some]at h
 cases h3:gNum 1048576 a2.2 with
 | none=>rw[h3]at h;cases h
 | some a3 =>
 rw[h3,Option.bind_some]at h
 cases h4:gNum 1048576 a3.2 with
 | none=>rw[h4]at h;cases h
 | some a4 =>
 rw[h4,Option.bind_some]at h
 cases h5:gNum 1048576 a4.2 with
 | none=>rw[h5]at h;cases h
 | some a5 =>
 rw[h5,Option.map_some]at h
 simp only[zaa,zaf]at h
 obtain⟨rfl,rfl⟩:=h
 obtain⟨q1,_,e1⟩:=ZHr (n:=a1.1) (r:=a1.2) h1
 obtain⟨q2,_,e2⟩:=ZHr (n:=a2.1) (r:=a2.2) h2
 obtain⟨q3,_,e3⟩:=ZHr (n:=a3.1) (r:=a3.2) h3
 obtain⟨q4,_,e4⟩:=ZHr (n:=a4.1) (r:=a4.2) h4
 obtain⟨q5,_,e5⟩:=ZHr (n:=a5.1) (r:=a5.2) h5
 exact⟨by rw[e1,e2,e3,e4,e5],q1,q2,q3,q4,q5⟩
theorem ZSW (g p m c n t:Nat):slB (ZOz g p m c n t)=(86 :: beB 6 g)++(ZA2 p++(ZA2 m++(ZA2 c++(ZA2 n++ZA2 t)))):=rfl
theorem ZPM {r:Rt} (hr:r.ok=true):∃g p m c n t:Nat,r=ZOz g p m c n t/\g<=1099511627776/\∃Z,(∀x∈Z,x=0)/\ZMD 118 (slB r)=(86 :: beB 6 g)++(ZA2 p++(ZA2 m++(ZA2 c++(ZA2 n++(ZA2 t++Z)))))/\(ZMD 118 (slB r)).length=118/\p<=2047/\m<=2047/\c<=1048576/\n<=1048576/\t<=1048576/\slP r=clC (ZMD 118 (slB r))++beB 6 g:=by
 obtain⟨g,p,m,c,n,t,rfl,h1,h2,h3,h4,h5,h6,h7,h8,h9⟩:=Rt.ok.nat hr
 have l1:=ZBf p
 have l2:=ZBf m
 have l3:=ZBf c
 have l4:=ZBf n
 have l5:=ZBf t
 have hlen:(slB (ZOz g p m c n t)).length<=118:=by
  rw[ZSW]
  simp only[zac,List.length_cons,ZB7]
  omega
 refine⟨g,p,m,c,n,t,rfl,h2,List.replicate (118 - (slB (ZOz g p m c n t)).length) 0,fun x hx=>(zaY.1 hx).2,?_,ZNr hlen,Xa,Xa,Xa,Xa,Xa,rfl⟩
 unfold ZMD
 generalize 118 - (slB (ZOz g p m c n t)).length=z
 rw[ZSW]
 simp only[zan]
theorem ZMB {s:Tx} {r:Rt}:slT s=some r ↔ r.ok=true/\slP r=s:=by
 constructor
 ·intro h
  unfold slT at h
  split at h
  ·split at h
   ·rename_i hc
    injection h with h
    rw[<- h]
    exact hc
   ·cases h
  ·cases h
 ·rintro⟨hr,rfl⟩
  obtain⟨g,p,m,c,n,t,e,hg,Z,hZ,hpd,hpl,b1,b2,b3,b4,b5,hs⟩:=ZPM hr
  have hB6:(beB 6 g).length=6:=ZB7 6 g
  have hd1:((slP r).drop 1).take 6=beB 6 g:=by
   rw[hs]
   unfold clC
   rw[hpd]
   show List.take 6 (((beB 6 g++_)++_)++_)=_
   rw[zan,zan]
   exact za1 hB6
  have hd7:((slP r).drop 7).take 111=ZA2 p++(ZA2 m++(ZA2 c++(ZA2 n++(ZA2 t++Z)))):=by
   rw[hs]
   unfold clC
   rw[hpd]at hpl
   rw[zac,List.length_cons,hB6]at hpl
   rw[hpd,zan,zan,zbi (by rw[List.length_cons,hB6]),za1 Xa]
  unfold slT
  rw[hd7,hd1,gRt_of b1 b2 b3 b4 b5]
  have hbe:beV (beB 6 g)=g:=by
   rw[ZM9]
   exact zaF (zbj hg Xb)
  have hmk:ZPe g (p,m,c,n,t)=r:=e.symm
  simp only
  rw[hbe,hmk,if_pos ⟨hr,rfl⟩]
theorem ZM3 {s:Tx} {r:Rt} (h:slT s=some r):s.length=128/\∃b x,opC (s.take 122)=some b/\hdK b=86/\(b.drop 1).take 6=s.drop 122/\wRt (b.drop 7)=some x/\ZPe (beV (s.drop 122)) x=r/\r.ok=true:=by
 obtain⟨hr,rfl⟩:=ZMB.1 h
 obtain⟨g,p,m,c,n,t,e,hg,Z,hZ,hpd,hpl,b1,b2,b3,b4,b5,hs⟩:=ZPM hr
 have hB6:(beB 6 g).length=6:=ZB7 6 g
 have hcl:(clC (ZMD 118 (slB r))).length=122:=by rw[ZMN,hpl]
 have hbe:beV (beB 6 g)=g:=by
  rw[ZM9]
  exact zaF (zbj hg Xb)
 have ht:(slP r).take 122=clC (ZMD 118 (slB r)):=by rw[hs];exact za1 hcl
 have hd:(slP r).drop 122=beB 6 g:=by rw[hs];exact zbi hcl
 refine⟨by rw[hs,zac,hcl,hB6],ZMD 118 (slB r),(p,m,c,n,t),by rw[ht,ZQf],by rw[hpd];rfl,?_,?_,?_,hr⟩
 ·rw[hd,hpd]
  exact za1 hB6
 ·have:(ZMD 118 (slB r)).drop 7=ZA2 p++(ZA2 m++(ZA2 c++(ZA2 n++(ZA2 t++Z)))):=by
   rw[hpd]
   exact zbi (by rw[List.length_cons,hB6])
  unfold wRt
  rw[this,gRt_of b1 b2 b3 b4 b5]
  simp only
  rw[if_pos (ZOP.2 hZ)]
 ·rw[hd,hbe]
  exact e.symm
theorem slT_yes {s b:Tx} {x:Nat×Nat×Nat×Nat×Nat} (hl:s.length=128) (ho:opC (s.take 122)=some b) (hk:hdK b=86) (hg:(b.drop 1).take 6=s.drop 122) (hw:wRt (b.drop 7)=some x) (hok:(ZPe (beV (s.drop 122)) x).ok=true):slT s=some (ZPe (beV (s.drop 122)) x):=by
 rw[ZMB]
 refine⟨hok,?_⟩
 obtain⟨he,hbl⟩:=ZQi ho
 have hbl:b.length=118:=by rw[zaj]at hbl;omega
 have hg6:(s.drop 122).length=6:=by rw[zaq];omega
 unfold wRt at hw
 split at hw
 ·rename_i x' Z hgr
  split at hw
  ·rename_i hz
   injection hw with hw
   subst hw
   obtain⟨hb7,_⟩:=gRt_is hgr
   have hZ:=ZQt (ZOP.1 hz)
   have hb:b=86 :: ((b.drop 1).take 6++b.drop 7):=by
    match b,hk,hbl with
    | k :: r,hk,hbl =>
     have hk:k=86:=hk
     subst hk
     show _=86 :: (r.take 6++r.drop 6)
     rw[zaS]
   have hbe:beB 6 (beV (s.drop 122))=s.drop 122:=by
    have:=ZRD (s.drop 122) 0
    rw[hg6,zbf,zax]at this
    exact this
   have hsb:slB (ZPe (beV (s.drop 122)) x')=86 :: (s.drop 122++(ZA2 x'.1++(ZA2 x'.2.1++(ZA2 x'.2.2.1++(ZA2 x'.2.2.2.1++ZA2 x'.2.2.2.2))))):=by
    show 86 :: (beB 6 (beV (s.drop 122))++_)=_
    rw[hbe]
    rfl
   have hpad:ZMD 118 (slB (ZPe (beV (s.drop 122)) x'))=b:=by
    have e2:b=slB (ZPe (beV (s.drop 122)) x')++Z:=by
     rw[hsb,hb,hg,hb7]
     simp only[List.cons_append,zan]
    have hlZ:118 - (slB (ZPe (beV (s.drop 122)) x')).length=Z.length:=by
     have:=congrArg List.length e2
     rw[zac]at this
     omega
    unfold ZMD
    rw[hlZ,<- hZ,<- e2]
   show clC (ZMD 118 (slB (ZPe (beV (s.drop 122)) x')))++beB 6 (beV (s.drop 122))=s
   rw[hpad,<- he,hbe,zaS]
  ·cases hw
 ·cases hw
open Go.RowKit Go.Lib
def rtV (o:Option Rt):AV:=match o with
 | some r=>.tup [.agg (eRt r),.i 0]
 | none=>.tup [.agg zRt,.i 3]
theorem RtI.mk {g:Nat} {x:Nat×Nat×Nat×Nat×Nat} (hg:g<281474976710656) (hx:x.1<=2047/\x.2.1<=2047/\x.2.2.1<=1048576/\x.2.2.2.1<=1048576/\x.2.2.2.2<=1048576):RtI (ZPe g x):=by
 obtain⟨h1,h2,h3,h4,h5⟩:=hx
 refine⟨?_,?_,?_,?_,?_,?_⟩<;>simp only[InI,ZPe]<;>omega
theorem wRt_in {b:Tx} {x:Nat×Nat×Nat×Nat×Nat} (h:wRt b=some x):x.1<=2047/\x.2.1<=2047/\x.2.2.1<=1048576/\x.2.2.2.1<=1048576/\x.2.2.2.2<=1048576:=by
 unfold wRt at h
 split at h
 ·rename_i x' Z hgr
  split at h
  ·injection h with h
   subst h
   exact(gRt_is hgr).2
  ·cases h
 ·cases h
set_option maxRecDepth 10000 in
theorem ZPN (q:Tx) (H:Zaa) (hl:q.length<=100000):Zay Tryz.prog 155 [eS q] H (Pure H (rtV (slT q))):=by
 have hx0:Zaa.Ext H H:=.refl _
 by_cases h128:q.length=128
 ·have d1:(((q.length:Nat):Int) != 128)=false:=by rw[h128];rfl
  have w1:IntKind.i64.wrap (((q.length:Nat):Int) - 6)=((122:Nat):Int):=by rw[h128];rfl
  have e1:(⟨q.toArray⟩:ByteArray).extract 0 122=⟨(q.take 122).toArray⟩:=ZMW q 122
  have e2:(⟨q.toArray⟩:ByteArray).extract 122 q.length=⟨(q.drop 122).toArray⟩:=ZMS q 122
  have b1:122<=q.length:=Xa
  have z0:(0:Int)<=((122:Nat):Int):=Xb
  have t0:((122:Nat):Int).toNat=122:=rfl
  have ho:=fun K=>ZOg (q.take 122) K (by rw[zaj];omega)
  cases hop:opC (q.take 122)with
  | none =>
   rw[hop]at ho
   have ho:∀K,Zay Tryz.prog 196 [eS (q.take 122)] K (Pure K (.tup [eS [],.b false])):=ho
   have hno:slT q=none:=by
    cases hs:slT q with
    | none=>rfl
    | some r =>
     obtain⟨_,b,x,h1,_⟩:=ZM3 hs
     rw[hop]at h1
     cases h1
   rw[hno]
   generalize q.take 122=q1 at *
   generalize q.drop 122=q2 at *
   refine fnQ ZSg fun Q qr qn=>?_
   ((have hd:=tv;repeat' first|(first|apply Zad|apply Zac|apply Zab)<;>intro hd<;>try simp only[hd]|simp(disch:=first|assumption|omega|simp only[nx]<;>omega|fail)only[hd,qr,qn,Zrw,↓YA,YY,↓reduceIte,Nat.reduceEqDiff,Nat.reduceAdd,Nat.reduceMul,Nat.reduceLeDiff,Int.reduceToNat,Int.reduceLE,Int.reduceLT,Int.reduceGT,Int.reduceGE,Int.reduceAdd,Int.reduceSub,Int.reduceNeg,Int.reduceBEq,Int.reduceBNe,d1,w1,e1,b1,z0,t0,Zdi,zat])<;>try revert hd;refine ttr ?_)
   refine qcp (ho _) fun k1=>?_
   refine Bz0 ?_
   exact Zcm rfl
  | some b =>
   rw[hop]at ho
   have ho:∀K,Zay Tryz.prog 196 [eS (q.take 122)] K (Pure K (.tup [eS b,.b true])):=ho
   have hbl:b.length=118:=by
    have:=(ZQi hop).2
    rw[zaj]at this
    omega
   have g0:(⟨b.toArray⟩:ByteArray)[0]?=some (hdK b):=by
    rw[Zy6]
    match b,hbl with
    | k :: r,_=>rfl
   have hq2l:(q.drop 122).length=6:=by rw[zaq];omega
   have e3:(⟨b.toArray⟩:ByteArray).extract 1 7=⟨((b.drop 1).take 6).toArray⟩:=ZM8 b 1 7
   have e4:(⟨b.toArray⟩:ByteArray).extract 7 118=⟨(b.drop 7).toArray⟩:=by
    rw[ZM8,zav (by rw[zaq];omega)]
   have nk:=ZCm (hdK b) 86
   have nk:(((hdK b).toNat:Int) != 86)=!decide (hdK b=86):=nk
   have hall:∀(G:Zaa) (X:Nat) (E:Zaa),Zaa.Ext E G->E.next<=X->G.get X=some (.cells zRt 41)->Zay Tryz.prog 185 [eS (b.drop 7),.fn 197 [] [.ptr X 0]] G (ZRO G.next ⟨(b.drop 7).toArray⟩ (fun at' H2=>∃x,wRt (b.drop 7)=some x/\at'=(((b.drop 7).length:Nat):Int)/\H2.get X=some (.cells (eR5 0 x) 41)/\Zaa.Ext E H2) (fun ev H2=>ev≠0/\wRt (b.drop 7)=none/\Zaa.Ext E H2/\∃x,H2.get X=some (.cells (eR5 0 x) 41))):=fun G X E hEx hEX hg=>by
    refine Zw3 _ (by show(b.drop 7).toArray.size<=maxLen;rw[zbA,zaq];unfold maxLen;omega) _ _ _ _ _ _ ?_
    exact ZSC (b.drop 7) X E G hEx hEX (by rw[zaq];omega) hg
   have hsz:((⟨(b.drop 7).toArray⟩:ByteArray).size:Int)=(((b.drop 7).length:Nat):Int):=by
    show(((b.drop 7).toArray.size:Nat):Int)=_
    rw[zbA]
   have hnum:=fun K=>ZOZ (q.drop 122) K Xa
   have hall':=hall
   clear hall
   by_cases hk:hdK b=86
   ·rw[decide_eq_true hk]at nk
    have nk:(((hdK b).toNat:Int) != 86)=false:=nk
    by_cases hg6:(b.drop 1).take 6=q.drop 122
    ·have d3:(!decide ((b.drop 1).take 6=q.drop 122))=false:=by rw[decide_eq_true hg6];rfl
     have hyes:=fun x=>slT_yes (x:=x) h128 hop hk hg6
     have hno:wRt (b.drop 7)=none->slT q=none:=fun h=>by
      cases hs:slT q with
      | none=>rfl
      | some r =>
       obtain⟨_,b',x,h1,_,_,h2,_⟩:=ZM3 hs
       rw[hop]at h1
       injection h1 with h1
       subst h1
       rw[h]at h2
       cases h2
     have hno2:∀x,wRt (b.drop 7)=some x->¬(ZPe (beV (q.drop 122)) x).ok=true->slT q=none:=fun x hx hn=>by
      cases hs:slT q with
      | none=>rfl
      | some r =>
       obtain⟨_,b',x',h1,_,_,h2,h3,h4⟩:=ZM3 hs
       rw[hop]at h1
       injection h1 with h1
       subst h1
       rw[hx]at h2
       injection h2 with h2
       subst h2
       rw[h3]at hn
       exact absurd h4 hn
     have hwi:=fun x=>wRt_in (b:=b.drop 7) (x:=x)
     have hbv:beV (q.drop 122)<281474976710656:=by
      have:=ZJf (q.drop 122)
      rw[hq2l]at this
      exact this
     clear hop
     generalize hb7:b.drop 7=b7 at *
     generalize (b.drop 1).take 6=b16 at *
     generalize hq2:q.drop 122=q2 at *
     generalize q.take 122=q1 at *
     generalize hdK b=kb at *
     generalize hg:beV q2=g at *
     have t1:(1:Int).toNat=1:=rfl
     have t7:(7:Int).toNat=7:=rfl
     have y1:1<=7:=Xb
     have y2:7<=b.length:=Xa
     have y3:7<=118:=Xb
     refine fnQ ZSg fun Q qr qn=>?_
     ((have hd:=tv;repeat' first|(first|apply Zad|apply Zac|apply Zab)<;>intro hd<;>try simp only[hd]|simp(disch:=first|assumption|omega|simp only[nx]<;>omega|fail)only[hd,qr,qn,Zrw,↓YA,YY,↓reduceIte,Nat.reduceEqDiff,Nat.reduceAdd,Nat.reduceMul,Nat.reduceLeDiff,Int.reduceToNat,Int.reduceLE,Int.reduceLT,Int.reduceGT,Int.reduceGE,Int.reduceAdd,Int.reduceSub,Int.reduceNeg,Int.reduceBEq,Int.reduceBNe,d1,w1,e1,b1,z0,t0,Zdi,zat])<;>try revert hd;refine ttr ?_)
     refine qcp (ho _) fun k1=>?_
     ((have hd:=tv;repeat' first|(first|apply Zad|apply Zac|apply Zab)<;>intro hd<;>try simp only[hd]|simp(disch:=first|assumption|omega|simp only[nx]<;>omega|fail)only[hd,qr,qn,Zrw,↓YA,YY,↓reduceIte,Nat.reduceEqDiff,Nat.reduceAdd,Nat.reduceMul,Nat.reduceLeDiff,Int.reduceToNat,Int.reduceLE,Int.reduceLT,Int.reduceGT,Int.reduceGE,Int.reduceAdd,Int.reduceSub,Int.reduceNeg,Int.reduceBEq,Int.reduceBNe,g0,nk,e3,e2,d3,t1,t7,y1,y2,y3,b1,z0,t0,hbl,e4,Zdi,zad])<;>try revert hd;refine ttr ?_)
     have hE0:((H.alloc (.cells zRt 41)).bump k1).get H.next=some (.cells zRt 41):=Zaa.Zae
     have hHE:Zaa.Ext H ((H.alloc (.cells zRt 41)).bump k1):=(Zaa.Ext.refl H).alloc.bump
     have hEn:((H.alloc (.cells zRt 41)).bump k1).next=H.next+1+k1:=rfl
     refine Zap.use (hall' _ (H.next+1+k1) ((H.alloc (.cells zRt 41)).bump k1) (Zaa.Ext.refl _).alloc (zad _) (Zaa.Zat rfl)) ?_
     rintro v G2 ⟨H2,at',hg2,rfl,hc⟩
     have hrid:(((H.alloc (.cells zRt 41)).bump k1).alloc (.cells zRt 41)).next=H.next+1+k1+1:=rfl
     rw[hrid]at hg2 ⊢
     generalize (H.alloc (.cells zRt 41)).bump k1=E at *
     rcases hc with⟨⟨x,hx,hat,hX2,hxE⟩,rfl⟩|⟨ev,⟨hev,hn,hxE,x,hX2⟩,rfl⟩
     ·rw[if_pos (hat.trans hsz.symm)]
      have p2:(H2.set (H.next+1+k1+1) (rdO ⟨b7.toArray⟩ at' false)).get H.next=some (.cells zRt 41):=by
       rw[Zaa.Zah Xa]
       exact hxE.get _ _ hE0
      have pX:(H2.set (H.next+1+k1+1) (rdO ⟨b7.toArray⟩ at' false)).get (H.next+1+k1)=some (.cells (eR5 0 x) 41):=by
       rw[Zaa.Zah Xa]
       exact hX2
      have hx3:Zaa.Ext H (H2.set (H.next+1+k1+1) (rdO ⟨b7.toArray⟩ at' false)):=(hHE.trans hxE).set Xa
      generalize H2.set (H.next+1+k1+1) (rdO ⟨b7.toArray⟩ at' false)=G3 at *
      have l2:=Zaa.lt p2
      have lX:=Zaa.lt pX
      have dz:((0:Int) != 0)=false:=rfl
      have dt:((2:Int) != 0)=true:=rfl
      have hck:=fun K=>ZMy (ZPe g x) K (RtI.mk hbv (hwi x hx))
      by_cases hok:(ZPe g x).ok=true
      ·rw[if_pos hok]at hck
       rw[hyes x hx hok]at qr qn
       have hck:∀K,Zay Tryz.prog 63 [.agg (eR5 (g:Int) x)] K (Pure K (.i 0)):=hck
       ((have hd:=tv;repeat' first|(first|apply Zad|apply Zac|apply Zab)<;>intro hd<;>try simp only[hd]|simp(disch:=first|assumption|omega|simp only[nx]<;>omega|fail)only[hd,qr,qn,Zrw,↓YA,YY,↓reduceIte,Nat.reduceEqDiff,Nat.reduceAdd,Nat.reduceMul,Nat.reduceLeDiff,Int.reduceToNat,Int.reduceLE,Int.reduceLT,Int.reduceGT,Int.reduceGE,Int.reduceAdd,Int.reduceSub,Int.reduceNeg,Int.reduceBEq,Int.reduceBNe,b1,z0,t0,e2,Zdi,zad])<;>try revert hd;refine ttr ?_)
       refine qcp (hnum _) fun k2=>?_
       refine Bz1 (X2 pX dz) ?_
       refine qcp (hck _) fun k3=>?_
       refine Bz1 (X2 p2 dz) ?_
       exact Zcm rfl (by exact AXT)
      ·rw[if_neg hok]at hck
       rw[hno2 x hx hok]at qr qn
       have hck:∀K,Zay Tryz.prog 63 [.agg (eR5 (g:Int) x)] K (Pure K (.i 2)):=hck
       ((have hd:=tv;repeat' first|(first|apply Zad|apply Zac|apply Zab)<;>intro hd<;>try simp only[hd]|simp(disch:=first|assumption|omega|simp only[nx]<;>omega|fail)only[hd,qr,qn,Zrw,↓YA,YY,↓reduceIte,Nat.reduceEqDiff,Nat.reduceAdd,Nat.reduceMul,Nat.reduceLeDiff,Int.reduceToNat,Int.reduceLE,Int.reduceLT,Int.reduceGT,Int.reduceGE,Int.reduceAdd,Int.reduceSub,Int.reduceNeg,Int.reduceBEq,Int.reduceBNe,b1,z0,t0,e2,Zdi,zad])<;>try revert hd;refine ttr ?_)
       refine qcp (hnum _) fun k2=>?_
       refine Bz1 (X2 pX dz) ?_
       refine qcp (hck _) fun k3=>?_
       refine Bz1 (X2 p2 dt) ?_
       exact Zcm rfl (by exact AXT)
     ·have de:(ev != 0)=true:=by simpa using hev
      rw[hno hn]at qr qn
      have p2:(H2.set (H.next+1+k1+1) (rdO ⟨b7.toArray⟩ at' false)).get H.next=some (.cells zRt 41):=by
       rw[Zaa.Zah Xa]
       exact hxE.get _ _ hE0
      have hx3:Zaa.Ext H (H2.set (H.next+1+k1+1) (rdO ⟨b7.toArray⟩ at' false)):=(hHE.trans hxE).set Xa
      have pX:(H2.set (H.next+1+k1+1) (rdO ⟨b7.toArray⟩ at' false)).get (H.next+1+k1)=some (.cells (eR5 0 x) 41):=by
       rw[Zaa.Zah Xa]
       exact hX2
      generalize H2.set (H.next+1+k1+1) (rdO ⟨b7.toArray⟩ at' false)=G3 at *
      have l2:=Zaa.lt p2
      have lX:=Zaa.lt pX
      ((have hd:=tv;repeat' first|(first|apply Zad|apply Zac|apply Zab)<;>intro hd<;>try simp only[hd]|simp(disch:=first|assumption|omega|simp only[nx]<;>omega|fail)only[hd,qr,qn,Zrw,↓YA,YY,↓reduceIte,Nat.reduceEqDiff,Nat.reduceAdd,Nat.reduceMul,Nat.reduceLeDiff,Int.reduceToNat,Int.reduceLE,Int.reduceLT,Int.reduceGT,Int.reduceGE,Int.reduceAdd,Int.reduceSub,Int.reduceNeg,Int.reduceBEq,Int.reduceBNe,b1,z0,t0,e2,Zdi,zad])<;>try revert hd;refine ttr ?_)
      refine qcp (hnum _) fun k2=>?_
      refine Bz1 (X3 pX de p2) ?_
      exact Zcm rfl (by exact AXT)
    ·have d3:(!decide ((b.drop 1).take 6=q.drop 122))=true:=by rw[decide_eq_false hg6];rfl
     have hno:slT q=none:=by
      cases hs:slT q with
      | none=>rfl
      | some r =>
       obtain⟨_,b',x,h1,_,h2,_⟩:=ZM3 hs
       rw[hop]at h1
       injection h1 with h1
       subst h1
       exact absurd h2 hg6
     rw[hno]
     clear hop hall'
     generalize (b.drop 1).take 6=b16 at *
     generalize q.drop 122=q2 at *
     generalize q.take 122=q1 at *
     generalize hdK b=kb at *
     have t1:(1:Int).toNat=1:=rfl
     have t7:(7:Int).toNat=7:=rfl
     have y1:1<=7:=Xb
     have y2:7<=b.length:=Xa
     have y3:7<=118:=Xb
     refine fnQ ZSg fun Q qr qn=>?_
     ((have hd:=tv;repeat' first|(first|apply Zad|apply Zac|apply Zab)<;>intro hd<;>try simp only[hd]|simp(disch:=first|assumption|omega|simp only[nx]<;>omega|fail)only[hd,qr,qn,Zrw,↓YA,YY,↓reduceIte,Nat.reduceEqDiff,Nat.reduceAdd,Nat.reduceMul,Nat.reduceLeDiff,Int.reduceToNat,Int.reduceLE,Int.reduceLT,Int.reduceGT,Int.reduceGE,Int.reduceAdd,Int.reduceSub,Int.reduceNeg,Int.reduceBEq,Int.reduceBNe,d1,w1,e1,b1,z0,t0,Zdi,zat])<;>try revert hd;refine ttr ?_)
     refine qcp (ho _) fun k1=>?_
     ((have hd:=tv;repeat' first|(first|apply Zad|apply Zac|apply Zab)<;>intro hd<;>try simp only[hd]|simp(disch:=first|assumption|omega|simp only[nx]<;>omega|fail)only[hd,qr,qn,Zrw,↓YA,YY,↓reduceIte,Nat.reduceEqDiff,Nat.reduceAdd,Nat.reduceMul,Nat.reduceLeDiff,Int.reduceToNat,Int.reduceLE,Int.reduceLT,Int.reduceGT,Int.reduceGE,Int.reduceAdd,Int.reduceSub,Int.reduceNeg,Int.reduceBEq,Int.reduceBNe,g0,nk,e3,e2,d3,t1,t7,y1,y2,y3,b1,z0,t0,hbl,Zdi,zad])<;>try revert hd;refine ttr ?_)
     exact Zcm rfl
   ·rw[decide_eq_false hk]at nk
    have nk:(((hdK b).toNat:Int) != 86)=true:=nk
    have hno:slT q=none:=by
     cases hs:slT q with
     | none=>rfl
     | some r =>
      obtain⟨_,b',x,h1,h2,_⟩:=ZM3 hs
      rw[hop]at h1
      injection h1 with h1
      subst h1
      exact absurd h2 hk
    rw[hno]
    clear hop hall'
    generalize q.take 122=q1 at *
    generalize hdK b=kb at *
    refine fnQ ZSg fun Q qr qn=>?_
    ((have hd:=tv;repeat' first|(first|apply Zad|apply Zac|apply Zab)<;>intro hd<;>try simp only[hd]|simp(disch:=first|assumption|omega|simp only[nx]<;>omega|fail)only[hd,qr,qn,Zrw,↓YA,YY,↓reduceIte,Nat.reduceEqDiff,Nat.reduceAdd,Nat.reduceMul,Nat.reduceLeDiff,Int.reduceToNat,Int.reduceLE,Int.reduceLT,Int.reduceGT,Int.reduceGE,Int.reduceAdd,Int.reduceSub,Int.reduceNeg,Int.reduceBEq,Int.reduceBNe,d1,w1,e1,b1,z0,t0,Zdi,zat])<;>try revert hd;refine ttr ?_)
    refine qcp (ho _) fun k1=>?_
    refine Bz1 (X2 g0 nk) ?_
    exact Zcm rfl
 ·have d1:(((q.length:Nat):Int) != 128)=true:=by simp only[bne_iff_ne,ne_eq];omega
  have hno:slT q=none:=by
   cases hs:slT q with
   | none=>rfl
   | some r=>exact absurd (ZM3 hs).1 h128
  rw[hno]
  refine fnQ ZSg fun Q qr qn=>?_
  ((have hd:=tv;repeat' first|(first|apply Zad|apply Zac|apply Zab)<;>intro hd<;>try simp only[hd]|simp(disch:=first|assumption|omega|simp only[nx]<;>omega|fail)only[hd,qr,qn,Zrw,↓YA,YY,↓reduceIte,Nat.reduceEqDiff,Nat.reduceAdd,Nat.reduceMul,Nat.reduceLeDiff,Int.reduceToNat,Int.reduceLE,Int.reduceLT,Int.reduceGT,Int.reduceGE,Int.reduceAdd,Int.reduceSub,Int.reduceNeg,Int.reduceBEq,Int.reduceBNe,d1])<;>try revert hd;refine ttr ?_)
  exact Zcm rfl
open Go.RowKit Go.Lib
def chV (o:Option Rt):AV:=match o with
 | some r=>.tup [.agg (eRt r),.b true]
 | none=>.tup [.agg zRt,.b false]
theorem slT_ok {s:Tx} {r:Rt} (h:slT s=some r):r.ok=true:=(ZMB.1 h).1
theorem ok_gen {r:Rt} (h:r.ok=true):∃g:Nat,r.gen=(g:Int)/\1<=g/\g<=1099511627776:=by
 obtain⟨g,p,m,c,n,t,rfl,h1,h2,_⟩:=Rt.ok.nat h
 exact⟨g,rfl,h1,h2⟩
theorem ZMZ (i:Nat) (q:Tx) (H:Zaa) (hl:q.length<=100000):Zay Tryz.prog 101 [.i (i:Int),eS q] H (Pure H (chV (staP (i:Int) q))):=by
 have hx0:Zaa.Ext H H:=.refl _
 have ht:=fun K=>ZPN q K hl
 unfold staP
 cases hs:slT q with
 | none =>
  rw[hs]at ht
  have ht:∀K,Zay Tryz.prog 155 [eS q] K (Pure K (.tup [.agg zRt,.i 3])):=ht
  have d1:((3:Int) != 0)=true:=rfl
  rw[Option.bind_none]
  refine fnQ cf101 fun Q qr qn=>?_
  refine Bz0 ?_
  refine qcp (ht _) fun k1=>?_
  ((have hd:=tv;repeat' first|(first|apply Zad|apply Zac|apply Zab)<;>intro hd<;>try simp only[hd]|simp(disch:=first|assumption|omega|simp only[nx]<;>omega|fail)only[hd,qr,qn,ZmV,↓YA,YY,↓reduceIte,Nat.reduceEqDiff,Nat.reduceAdd,Nat.reduceMul,Nat.reduceLeDiff,Int.reduceToNat,Int.reduceLE,Int.reduceLT,Int.reduceGT,Int.reduceGE,Int.reduceAdd,Int.reduceSub,Int.reduceNeg,Int.reduceBEq,Int.reduceBNe,d1])<;>try revert hd;refine ttr ?_)
  exact Zcm rfl
 | some r =>
  rw[hs]at ht
  obtain⟨g,hg,g1,g2⟩:=ok_gen (slT_ok hs)
  have he:eRt r=[.i (g:Int),.i r.pages,.i r.map,.i r.cat,.i r.nodes,.i r.top]:=by unfold eRt;rw[hg]
  have ht:∀K,Zay Tryz.prog 155 [eS q] K (Pure K (.tup [.agg (eRt r),.i 0])):=ht
  rw[Option.bind_some,hg]
  have hp:=fun K=>ZNV g K Xa
  have e2:((g:Int) % 2)=((g % 2:Nat):Int):=Xa
  rw[e2]
  have hch:chV (some r)=.tup [.agg (eRt r),.b true]:=rfl
  have d1:((0:Int) != 0)=false:=rfl
  by_cases h:((g % 2:Nat):Int)=(i:Int)
  ·have d2:(((g % 2:Nat):Int) != (i:Int))=false:=by rw[h];simp
   rw[if_pos h,hch]
   rw[he]at ht ⊢
   generalize g % 2=g2' at *
   refine fnQ cf101 fun Q qr qn=>?_
   refine Bz0 ?_
   refine qcp (ht _) fun k1=>?_
   ((have hd:=tv;repeat' first|(first|apply Zad|apply Zac|apply Zab)<;>intro hd<;>try simp only[hd]|simp(disch:=first|assumption|omega|simp only[nx]<;>omega|fail)only[hd,qr,qn,ZmV,↓YA,YY,↓reduceIte,Nat.reduceEqDiff,Nat.reduceAdd,Nat.reduceMul,Nat.reduceLeDiff,Int.reduceToNat,Int.reduceLE,Int.reduceLT,Int.reduceGT,Int.reduceGE,Int.reduceAdd,Int.reduceSub,Int.reduceNeg,Int.reduceBEq,Int.reduceBNe,d1])<;>try revert hd;refine ttr ?_)
   refine qcp (hp _) fun k2=>?_
   ((have hd:=tv;repeat' first|(first|apply Zad|apply Zac|apply Zab)<;>intro hd<;>try simp only[hd]|simp(disch:=first|assumption|omega|simp only[nx]<;>omega|fail)only[hd,qr,qn,ZmV,↓YA,YY,↓reduceIte,Nat.reduceEqDiff,Nat.reduceAdd,Nat.reduceMul,Nat.reduceLeDiff,Int.reduceToNat,Int.reduceLE,Int.reduceLT,Int.reduceGT,Int.reduceGE,Int.reduceAdd,Int.reduceSub,Int.reduceNeg,Int.reduceBEq,Int.reduceBNe,d2])<;>try revert hd;refine ttr ?_)
   exact Zcm rfl
  ·have d2:(((g % 2:Nat):Int) != (i:Int))=true:=by simpa using h
   rw[if_neg h]
   rw[he]at ht
   generalize g % 2=g2' at *
   refine fnQ cf101 fun Q qr qn=>?_
   refine Bz0 ?_
   refine qcp (ht _) fun k1=>?_
   ((have hd:=tv;repeat' first|(first|apply Zad|apply Zac|apply Zab)<;>intro hd<;>try simp only[hd]|simp(disch:=first|assumption|omega|simp only[nx]<;>omega|fail)only[hd,qr,qn,ZmV,↓YA,YY,↓reduceIte,Nat.reduceEqDiff,Nat.reduceAdd,Nat.reduceMul,Nat.reduceLeDiff,Int.reduceToNat,Int.reduceLE,Int.reduceLT,Int.reduceGT,Int.reduceGE,Int.reduceAdd,Int.reduceSub,Int.reduceNeg,Int.reduceBEq,Int.reduceBNe,d1])<;>try revert hd;refine ttr ?_)
   refine qcp (hp _) fun k2=>?_
   ((have hd:=tv;repeat' first|(first|apply Zad|apply Zac|apply Zab)<;>intro hd<;>try simp only[hd]|simp(disch:=first|assumption|omega|simp only[nx]<;>omega|fail)only[hd,qr,qn,ZmV,↓YA,YY,↓reduceIte,Nat.reduceEqDiff,Nat.reduceAdd,Nat.reduceMul,Nat.reduceLeDiff,Int.reduceToNat,Int.reduceLE,Int.reduceLT,Int.reduceGT,Int.reduceGE,Int.reduceAdd,Int.reduceSub,Int.reduceNeg,Int.reduceBEq,Int.reduceBNe,d2])<;>try revert hd;refine ttr ?_)
   exact Zcm rfl
theorem staP_ok {i:Int} {s:Tx} {r:Rt} (h:staP i s=some r):slT s=some r/\r.gen % 2=i:=by
 unfold staP at h
 cases hs:slT s with
 | none=>rw[hs]at h;cases h
 | some r' =>
  rw[hs,Option.bind_some]at h
  split at h
  ·rename_i hi
   injection h with h
   subst h
   exact⟨rfl,hi⟩
  ·cases h
theorem ZOv (a b:Tx) (H:Zaa) (ha:a.length<=100000) (hb:b.length<=100000):Zay Tryz.prog 55 [eS a,eS b] H (Pure H (chV (choP a b))):=by
 have hx0:Zaa.Ext H H:=.refl _
 have h0:∀K,Zay Tryz.prog 101 [.i 0,eS a] K (Pure K (chV (staP 0 a))):=fun K=>ZMZ 0 a K ha
 have h1:∀K,Zay Tryz.prog 101 [.i 1,eS b] K (Pure K (chV (staP 1 b))):=fun K=>ZMZ 1 b K hb
 unfold choP
 cases hs0:staP 0 a with
 | none =>
  rw[hs0]at h0
  have h0:∀K,Zay Tryz.prog 101 [.i 0,eS a] K (Pure K (.tup [.agg zRt,.b false])):=h0
  cases hs1:staP 1 b with
  | none =>
   rw[hs1]at h1
   have h1:∀K,Zay Tryz.prog 101 [.i 1,eS b] K (Pure K (.tup [.agg zRt,.b false])):=h1
   refine fnQ cf55 fun Q qr qn=>?_
   refine Bz0 ?_
   refine qcp (h0 _) fun k1=>?_
   refine Bz0 ?_
   refine qcp (h1 _) fun k2=>?_
   refine Bz0 ?_
   exact Zcm rfl
  | some y =>
   rw[hs1]at h1
   obtain⟨g,hg,g1,g2⟩:=ok_gen (slT_ok (staP_ok hs1).1)
   have he:eRt y=[.i (g:Int),.i y.pages,.i y.map,.i y.cat,.i y.nodes,.i y.top]:=by unfold eRt;rw[hg]
   have h1:∀K,Zay Tryz.prog 101 [.i 1,eS b] K (Pure K (.tup [.agg (eRt y),.b true])):=h1
   have d1:decide ((g:Int) > 0)=true:=decide_eq_true Xa
   have hch:chV (some y)=.tup [.agg (eRt y),.b true]:=rfl
   simp only
   rw[hch]
   rw[he]at h1 ⊢
   refine fnQ cf55 fun Q qr qn=>?_
   refine Bz0 ?_
   refine qcp (h0 _) fun k1=>?_
   refine Bz0 ?_
   refine qcp (h1 _) fun k2=>?_
   ((have hd:=tv;repeat' first|(first|apply Zad|apply Zac|apply Zab)<;>intro hd<;>try simp only[hd]|simp(disch:=first|assumption|omega|simp only[nx]<;>omega|fail)only[hd,qr,qn,ZkZ,↓YA,YY,↓reduceIte,Nat.reduceEqDiff,Nat.reduceAdd,Nat.reduceMul,Nat.reduceLeDiff,Int.reduceToNat,Int.reduceLE,Int.reduceLT,Int.reduceGT,Int.reduceGE,Int.reduceAdd,Int.reduceSub,Int.reduceNeg,Int.reduceBEq,Int.reduceBNe,d1])<;>try revert hd;refine ttr ?_)
   exact Zcm rfl
 | some x =>
  rw[hs0]at h0
  have h0:∀K,Zay Tryz.prog 101 [.i 0,eS a] K (Pure K (.tup [.agg (eRt x),.b true])):=h0
  have hchx:chV (some x)=.tup [.agg (eRt x),.b true]:=rfl
  cases hs1:staP 1 b with
  | none =>
   rw[hs1]at h1
   have h1:∀K,Zay Tryz.prog 101 [.i 1,eS b] K (Pure K (.tup [.agg zRt,.b false])):=h1
   simp only
   rw[hchx]
   unfold eRt at *
   refine fnQ cf55 fun Q qr qn=>?_
   refine Bz0 ?_
   refine qcp (h0 _) fun k1=>?_
   refine Bz0 ?_
   refine qcp (h1 _) fun k2=>?_
   refine Bz0 ?_
   exact Zcm rfl
  | some y =>
   rw[hs1]at h1
   have h1:∀K,Zay Tryz.prog 101 [.i 1,eS b] K (Pure K (.tup [.agg (eRt y),.b true])):=h1
   have hchy:chV (some y)=.tup [.agg (eRt y),.b true]:=rfl
   simp only
   by_cases h:x.gen<y.gen
   ·have d1:decide (y.gen > x.gen)=true:=decide_eq_true h
    rw[if_pos h,hchy]
    unfold eRt at *
    refine fnQ cf55 fun Q qr qn=>?_
    refine Bz0 ?_
    refine qcp (h0 _) fun k1=>?_
    refine Bz0 ?_
    refine qcp (h1 _) fun k2=>?_
    ((have hd:=tv;repeat' first|(first|apply Zad|apply Zac|apply Zab)<;>intro hd<;>try simp only[hd]|simp(disch:=first|assumption|omega|simp only[nx]<;>omega|fail)only[hd,qr,qn,ZkZ,↓YA,YY,↓reduceIte,Nat.reduceEqDiff,Nat.reduceAdd,Nat.reduceMul,Nat.reduceLeDiff,Int.reduceToNat,Int.reduceLE,Int.reduceLT,Int.reduceGT,Int.reduceGE,Int.reduceAdd,Int.reduceSub,Int.reduceNeg,Int.reduceBEq,Int.reduceBNe,d1])<;>try revert hd;refine ttr ?_)
    exact Zcm rfl
   ·have d1:decide (y.gen > x.gen)=false:=decide_eq_false h
    rw[if_neg h,hchx]
    unfold eRt at *
    refine fnQ cf55 fun Q qr qn=>?_
    refine Bz0 ?_
    refine qcp (h0 _) fun k1=>?_
    refine Bz0 ?_
    refine qcp (h1 _) fun k2=>?_
    ((have hd:=tv;repeat' first|(first|apply Zad|apply Zac|apply Zab)<;>intro hd<;>try simp only[hd]|simp(disch:=first|assumption|omega|simp only[nx]<;>omega|fail)only[hd,qr,qn,ZkZ,↓YA,YY,↓reduceIte,Nat.reduceEqDiff,Nat.reduceAdd,Nat.reduceMul,Nat.reduceLeDiff,Int.reduceToNat,Int.reduceLE,Int.reduceLT,Int.reduceGT,Int.reduceGE,Int.reduceAdd,Int.reduceSub,Int.reduceNeg,Int.reduceBEq,Int.reduceBNe,d1])<;>try revert hd;refine ttr ?_)
    exact Zcm rfl
end Go.Proofs.YtfjjpndoeppbhaaGreatDoor
