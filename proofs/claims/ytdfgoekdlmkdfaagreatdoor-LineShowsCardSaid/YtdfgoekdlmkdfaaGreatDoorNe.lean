/- Texts of the walk. -/
import Derived.Test.YtdfgoekdlmkdfaaGreatDoorMy
import Derived.Test.YtdfgoekdlmkdfaaGreatDoorNa
namespace Go.Proofs.YtdfgoekdlmkdfaaGreatDoor
set_option linter.defProp false
set_option maxHeartbeats 64000000
set_option linter.unusedSimpArgs false
set_option linter.unusedVariables false
open Go.RowKit Go.Lib
theorem RdS.alloc {E:Zaa} {id:Nat} {S:Tx} {k:Nat} {b:Tx} {H:Zaa} (h:RdS E id S k b H) (o:Zb3):RdS E id S k b (H.alloc o) :=
 ⟨h.kl,h.bd,by rw[Zaa.Zag (by have:=Zaa.lt h.g;omega)];exact h.g,h.l,h.x.alloc,h.lo⟩
theorem gUps_pos {a n:Nat} (h:0<a) (b:Tx):gUps a n b=ZHu (fun _=>gNumI (a - 1)) n [] b:=by unfold gUps;rw[if_neg Xa]
theorem ZLB (n:Nat) (b:Tx):gUps 0 n b=some ([],b):=by unfold gUps;rw[if_pos rfl]
theorem ZJF {E:Zaa} {id:Nat} {S:Tx} {k:Nat} {b:Tx} {H:Zaa} {B:Prop} (above:Nat) (ha:above<=1000) (h:RdS E id S k b H) (hB:gTir above b=none->B):Zay (RP E id S B) 123 [.ptr id 0,.i (above:Int)] H (RdQ E id S H (gTir above b) fun t=>.agg (eTr t)):=by
 have hid:=Zaa.lt h.g
 unfold gTir at hB ⊢
 refine fnQ cf123 fun Q qr qn=>?_
 refine Bz0 ?_
 refine Zap.use (ZHB 12 Xa (h.alloc _) fun e=>hB (by rw[e])) ?_
 rintro _ G ⟨nm,r0,hn,rfl,hX⟩
 simp only[hn]at hB qr qn
 have g4:=hX.2.2 H.next _ Xa Zaa.Zae
 have hX:=((ZIj h).alloc hid).trans hX
 have hXc:=hX
 obtain⟨⟨k1,h1⟩,hnx1,hold1⟩:=hXc
 refine Bz0 ?_
 refine Zap.use (ZIE 200 Xa h1 fun e=>hB (by rw[e])) ?_
 rintro _ G2 ⟨l,r1,hl,rfl,hX2⟩
 have hll:=(ZI7 hl).1
 simp only[hl]at hB qr qn
 have g4:=hX2.2.2 _ _ Xa g4
 have hX:=hX.trans hX2
 have l4:=Zaa.lt g4
 clear hold1 hnx1 h1
 have hXc:=hX
 obtain⟨⟨k2,h2⟩,hnx2,hold2⟩:=hXc
 have fin:∀{G':Zaa} {u:List Int} {tok:Tok} {r:Tx} {o:Option (Tir×Tx)},o=some (⟨nm,l,u⟩,r)->RdX E id S r H G'->∃r2 H2,Zb6 (.agg [eS nm,.sl .no (rS l),.sl tok (rI u)]) G' r2 H2/\RdQ E id S H o (fun t=>.agg (eTr t)) r2 H2:=fun ho hX=>ZIp ho (ZLn ⟨nm,l,_⟩ _) hX
 have hck:∀(u:List Int) (tok:Tok),u.length<=1000000->∀H,Zay (RP E id S B) 128 [.agg [eS nm,.sl .no (rS l),.sl tok (rI u)],.i (above:Int)] H (Pure H (.i (ZbO ⟨nm,l,u⟩ (above:Int)))):=fun u tok hu H=>(ZHa (ZLn ⟨nm,l,u⟩ tok) (ZkD ⟨nm,l,u⟩ (above:Int) H hu)).up
 have dE:((0:Int) == 0)=true:=rfl
 by_cases h0:above=0
 ·subst h0
  have d0:decide (((0:Nat):Int) > 0)=false:=rfl
  simp only[ZLB]at hB qr qn
  have hck:=hck [] .full Xc
  have hX3:=(RdX.alloc (o:=.cells [eS nm,.sl .no (rS l),.sl .full []] 42) hid hX)
  have hXc:=hX3
  obtain⟨⟨k3,h3⟩,hnx3,hold3⟩:=hXc
  have n4:G2.next≠H.next:=Xa
  refine Bz1 (X2 d0 g4) ?_
  by_cases hE0:ZbO ⟨nm,l,[]⟩ ((0:Nat):Int)=0
  ·rw[hE0]at hck
   simp only[hE0,if_true]at qr qn
   refine qcp (hck _) fun k5=>?_
   refine Bz1 (X1 dE) ?_
   refine qcp (ZHM _ (h3.bump k5)) fun k6=>?_
   refine Bz1 (X1 g4) ?_
   exact fin (u:=[]) (tok:=.full) rfl (RdX.set hid (zad _) (hX3.post.post))
  ·obtain⟨_,dF⟩:=ZHs hE0
   have dF2:(ZbO ⟨nm,l,[]⟩ 0 == 0)=false:=dF
   simp only[if_neg hE0]at hB
   refine qcp (hck _) fun k5=>?_
   refine Bz1 (X2 dF dF2) ?_
   exact Zap.use (ZHV _ (h3.bump k5) (hB trivial)) fun _ _ h=>h.elim
 ·have d0:decide ((above:Int) > 0)=true:=by rw[decide_eq_true_iff];omega
  have hwa:IntKind.i64.wrap ((above:Int) - 1)=((above - 1:Nat):Int):=by rw[Zaw Xa Xa];omega
  simp only[gUps_pos (show 0<above by omega)]at hB qr qn
  generalize ho:ZHu (fun _=>gNumI (above - 1)) l.length [] r1=o at *
  have hX3:=(RdX.alloc (o:=.cells [eS nm,.sl .no (rS l),.sl .full []] 42) hid hX)
  refine Bz3 (X2 d0 g4) ?_
  have hlb:=(ZI7 hl).1
  refine ZbJ (N:=l.length) (fun i F G=>Fr.get F 17=.i (i:Int)/\Fr.get F 16=.i (l.length:Nat)/\Fr.get F 0=.ptr id 0/\Fr.get F 1=.i (above:Int)/\Fr.get F 4=.ptr H.next 0/\Fr.get F 5=.ptr G2.next 0/\∃acc tok r,acc.length=i/\ZHu (fun _=>gNumI (above - 1)) (l.length - i) acc r=o/\G.get H.next=some (.cells [eS [],.sl .full [],.sl .full []] 42)/\G.get G2.next=some (.cells [eS nm,.sl .no (rS l),.sl tok (rI acc)] 42)/\ZCe (G2.next+1) G 3 1 i tok/\RdX E id S r H G) Xd (fun k F G h=>⟨h.1,h.2.1⟩) (GStep.refl _ _) ⟨rfl,rfl,rfl,rfl,rfl,rfl,[],.full,r1,rfl,ho,by first|exact g4|(rw[Zaa.Zag Xa];exact g4),by first|exact Zaa.Zae|(rw[Zaa.Zal Xe]),.inl rfl,hX3⟩ ?_ ?_
  ·rintro i F G hi ⟨f17,f16,f0,f1,f4,f5,acc,tok,r,hal,hro,q4,q5,hT,hX⟩
   rw[show l.length - i=(l.length - (i+1))+1 by omega,ZHE]at hro
   have hXc:=hX
   obtain⟨⟨k1,h1⟩,hnx1,hold1⟩:=hXc
   have hw:=ZCE (s:=i) Xa
   have hrl:(rI acc).length=i:=by simp[hal]
   have hall:ZaE 1 (rI acc)=true:=ZaU (f:=fun n:Int=>[AV.i n]) (sz:=1) (fun _=>rfl) _
   have hm1:i+1<=maxLen:=ZAp Xa
   have hm2:(i+1) * 8<=140737488355328:=Xa
   skip
   refine Bz1 (X8 f17 f16 f0 f1 f4 f5 q5 hwa) ?_
   refine Zap.use (ZHq (above - 1) Xa h1 fun e=>hB (by rw[<- hro];unfold gNumI;rw[e];rfl)) ?_
   rintro _ G5 ⟨x,r2,hx,rfl,hX5⟩
   have hgx:gNumI (above - 1) r=some ((x:Int),r2):=by unfold gNumI;rw[hx];rfl
   rw[hgx]at hro
   simp only at hro
   have hsn:rI acc++[[AV.i (x:Int)]]=rI (acc++[(x:Int)]):=Xc
   have hal2:ZaE 1 [[AV.i (x:Int)]]=true:=rfl
   generalize hR1:rI (acc++[(x:Int)])=R1 at *
   generalize hR0:rI acc=R0 at *
   have p4:=hX5.2.2 _ _ Xa q4
   have p5:=hX5.2.2 _ _ (by have:=Zaa.lt h2.g;omega) q5
   have l4:=Zaa.lt p4
   have l5:=Zaa.lt p5
   have hnx2:=hX.2.1
   have hX':=hX.trans hX5
   have hg2n:=hnx2
   rcases hT with rfl|⟨t',ht',rfl,hgt⟩
   ·refine Bz1 (X12 f17 f16 f0 f1 f4 f5 p5 hrl hall hal2 hm1 (X3 hm2 hsn hw)) ?_
    exact⟨acc++[(x:Int)],.own G5.next,r2,by simp[hal],hro,by first|exact p4|(rw[Zaa.Zah Xa,Zaa.Zag Xa];exact p4),by rw[hR1],.inr ⟨G5.next,Xa,rfl,by rw[Zaa.Zah Xa];exact Zaa.Zae⟩,RdX.set hid Xa (RdX.alloc hid hX')⟩
   ·have hgt5:=hX5.2.2 t' _ (by have:=Zaa.lt h2.g;omega) hgt
    have nt5:t'≠G2.next:=Xa
    have lt5:=Zaa.lt hgt5
    refine Bz1 (X12 f17 f16 f0 f1 f4 f5 p5 hgt5 hrl hall hal2 (X4 hm1 hm2 hsn hw)) ?_
    exact⟨acc++[(x:Int)],.own t',r2,by simp[hal],hro,by first|exact p4|(rw[Zaa.Zah Xa,Zaa.Zah Xa];exact p4),by rw[hR1],.inr ⟨t',ht',rfl,by rw[Zaa.Zah Xa];exact Zaa.Zal lt5⟩,RdX.set hid Xa (RdX.set hid Xa hX')⟩
  ·rintro F G ⟨f17,f16,f0,f1,f4,f5,u,tok,r,hul,hro,q4,q5,hT,hX⟩
   rw[zaY,ZHu]at hro
   subst hro
   have hck:=hck u tok Xa
   have hXc:=hX
   obtain⟨⟨k1,h1⟩,hnx1,hold1⟩:=hXc
   have l4:=Zaa.lt q4
   simp only at hB qr qn
   by_cases hE0:ZbO ⟨nm,l,u⟩ (above:Int)=0
   ·rw[hE0]at hck
    simp only[hE0,if_true]at qr qn
    skip
    refine Bz1 (X5 f0 f1 f4 f5 q5) ?_
    refine qcp (hck _) fun k5=>?_
    refine Bz1 (X5 f0 f1 f4 f5 dE) ?_
    refine qcp (ZHM _ (h1.bump k5)) fun k6=>?_
    refine Bz1 (X6 f0 f1 f4 f5 q4 q5) ?_
    exact fin rfl (RdX.set hid (zad _) (hX.post.post))
   ·obtain⟨_,dF⟩:=ZHs hE0
    simp only[if_neg hE0]at hB
    skip
    refine Bz1 (X5 f0 f1 f4 f5 q5) ?_
    refine qcp (hck _) fun k5=>?_
    refine Bz1 (X5 f0 f1 f4 f5 dF) ?_
    exact Zap.use (ZHV _ (h1.bump k5) (hB trivial)) fun _ _ h=>h.elim
open Go.RowKit Go.Lib
theorem ZIo {t:Tir} {a:Nat} (h:ZbO t (a:Int)=0):ZJO t:=by
 obtain⟨h1,h2,_⟩:=ZBT h
 obtain⟨h3,h4⟩:=ZD0 h1
 refine⟨h2,?_⟩
 rcases Nat.eq_zero_or_pos a with h|h
 ·rw[h3 Xa];simp
 ·have:=(h4 Xa).1;omega
theorem ZJG {E:Zaa} {id:Nat} {S:Tx} {k:Nat} {b:Tx} {H:Zaa} {B:Prop} (h:RdS E id S k b H) (hB:gDim b=none->B):Zay (RP E id S B) 76 [.ptr id 0] H (RdQ E id S H (gDim b) fun d=>.agg (eDm d)):=by
 have hid:=Zaa.lt h.g
 unfold gDim at hB ⊢
 refine fnQ cf76 fun Q qr qn=>?_
 refine Bz0 ?_
 refine Zap.use (ZHB 12 Xa (h.alloc _) fun e=>hB (by rw[e])) ?_
 rintro _ G ⟨nm,r0,hn,rfl,hX⟩
 simp only[hn]at hB qr qn
 have g4:=hX.2.2 H.next _ Xa Zaa.Zae
 have hX:=((ZIj h).alloc hid).trans hX
 have hXc:=hX
 obtain⟨⟨k1,h1⟩,hnx1,hold1⟩:=hXc
 have l4:=Zaa.lt g4
 refine Bz0 ?_
 refine Zap.use (ZHq 4 Xa (h1.alloc _) fun e=>hB (by rw[e])) ?_
 rintro _ G2 ⟨n,r1,hl,rfl,hX2⟩
 have hn4:=(ZHr hl).1
 simp only[hl]at hB qr qn
 have g4:=hX2.2.2 _ _ Xa (show(G.alloc _).get H.next=some _ by rw[Zaa.Zag Xa];exact g4)
 have g5:=hX2.2.2 G.next _ (by have:=Zaa.lt h1.g;omega) Zaa.Zae
 have hX:=(RdX.alloc hid hX).trans hX2
 have hXc:=hX
 obtain⟨⟨k2,h2⟩,hnx2,hold2⟩:=hXc
 have l5:=Zaa.lt g5
 have hidG:=Zaa.lt h1.g
 have fin:∀{G':Zaa} {l:List Tir} {tok:Tok} {r:Tx} {o:Option (Dm×Tx)},o=some (⟨nm,l⟩,r)->RdX E id S r H G'->∃r2 H2,Zb6 (.agg [eS nm,.sl tok (rT l)]) G' r2 H2/\RdQ E id S H o (fun d=>.agg (eDm d)) r2 H2:=fun ho hX=>ZIp ho (ZK0 ⟨nm,_⟩ _) hX
 have hck:∀(l:List Tir) (tok:Tok),(∀t∈l,ZJO t)->∀H,Zay (RP E id S B) 81 [.agg [eS nm,.sl tok (rT l)]] H (Pure H (.i (Zdv ⟨nm,l⟩))):=fun l tok hl H=>(ZEI (ZK0 ⟨nm,l⟩ tok) (Zlf ⟨nm,l⟩ H fun t ht=>by have:=(hl t ht).2;unfold Zgr;omega)).up
 have dE:((0:Int) == 0)=true:=rfl
 have hG4:H.next≠G.next:=Xa
 generalize ho:ZHu (fun acc=>gTir (ZHF acc)) n [] r1=o at *
 refine Bz0 ?_
 refine ZbJ (N:=n) (fun i F G'=>Fr.get F 12=.i (i:Int)/\Fr.get F 11=.i (n:Nat)/\Fr.get F 0=.ptr id 0/\Fr.get F 2=.ptr H.next 0/\Fr.get F 3=.ptr G.next 0/\∃acc tok r,acc.length=i/\(∀t∈acc,ZJO t)/\ZHu (fun acc=>gTir (ZHF acc)) (n - i) acc r=o/\Fr.get F 4=.i (ZHF acc:Nat)/\G'.get H.next=some (.cells [eS [],.sl .full []] 39)/\G'.get G.next=some (.cells [eS nm,.sl tok (rT acc.reverse)] 39)/\RdX E id S r H G') Xd (fun k F G h=>⟨h.1,h.2.1⟩) (GStep.refl _ _) ⟨rfl,rfl,rfl,rfl,rfl,[],.full,r1,rfl,fun t h=>(by cases h),ho,rfl,g4,g5,hX⟩ ?_ ?_
 ·rintro i F G' hi ⟨f12,f11,f0,f2,f3,acc,tok,r,hal,hsm,hro,f4,q4,q5,hX⟩
  rw[show n - i=(n - (i+1))+1 by omega,ZHE]at hro
  have hXc:=hX
  obtain⟨⟨k1,h1⟩,hnx1,hold1⟩:=hXc
  have hw:=ZCE (s:=i) Xa
  have hla:=ZKi hsm
  skip
  refine Bz1 (X6 f12 f11 f0 f2 f3 f4) ?_
  refine Zap.use (ZJF (ZHF acc) Xa h1 fun e=>hB (by rw[<- hro,e])) ?_
  rintro _ G5 ⟨t,r2,ht,rfl,hX5⟩
  rw[ht]at hro
  simp only at hro
  have hts:=ZIo (ZLb ht).1
  have hdr:eTr t :: rT acc.reverse=rT (acc++[t]).reverse:=by rw[List.reverse_append];rfl
  have hrl:(rT acc.reverse).length=i:=by simp[hal]
  have hall:ZaE 3 (rT acc.reverse)=true:=ZaU (f:=eTr) (sz:=3) (fun _=>rfl) _
  have hab:=ZIN acc t
  have hsm2:∀x∈acc++[t],ZJO x:=fun x hx=>by
   rcases zaj.1 hx with h|h
   ·exact hsm x h
   ·simp at h;rw[h];exact hts
  generalize hR1:rT (acc++[t]).reverse=R1 at *
  generalize hR0:rT acc.reverse=R0 at *
  obtain⟨e0,e1,e2,e3,e4⟩:=Zba t
  have hal2:ZaE 3 [eTr t]=true:=rfl
  have p4:=hX5.2.2 _ _ Xa q4
  have p5:=hX5.2.2 _ _ Xa q5
  have l4:=Zaa.lt p4
  have l5:=Zaa.lt p5
  have hX':=hX.trans hX5
  have hnx5:=hX'.2.1
  cases R0 with
  | nil =>
   have hq1:1+([]:List (List AV)).length<=maxLen:=ZAp Xc
   have hq3:1<=maxLen:=ZAp Xc
   have hq2:(1+([]:List (List AV)).length) * 64<=140737488355328:=Xc
   refine Bz3 (X12 f12 f11 f0 f2 f3 p5 e0 e1 e2 e3 e4 (X6 hall hal2 hq1 hq2 hq3 hw)) ?_
   exact⟨acc++[t],_,r2,by simp[hal],hsm2,hro,by rw[hab],by first|exact p4|(rw[Zaa.Zah Xa,Zaa.Zag Xa];exact p4),by rw[hR1,<- hdr],RdX.set hid Xa (RdX.alloc hid hX')⟩
  | cons y R0 =>
   rw[List.length_cons]at hrl
   have hq1:1+(R0.length+1)<=maxLen:=ZAp Xa
   have hq2:(1+(R0.length+1)) * 64<=140737488355328:=Xa
   refine Bz5 (X12 f12 f11 f0 f2 f3 p5 e0 e1 e2 e3 e4 (X5 hall hal2 hq1 hq2 hw)) ?_
   exact⟨acc++[t],_,r2,by simp[hal],hsm2,hro,by rw[hab],by first|exact p4|(rw[Zaa.Zah Xa,Zaa.Zag Xa];exact p4),by rw[hR1,<- hdr],RdX.set hid Xa (RdX.alloc hid (RdX.alloc hid hX'))⟩
 ·rintro F G' ⟨f12,f11,f0,f2,f3,acc,tok,r,hal,hsm,hro,f4,q4,q5,hX⟩
  rw[zaY,ZHu]at hro
  subst hro
  have hck:=hck acc.reverse tok (fun t ht=>hsm t (by simpa using ht))
  have hXc:=hX
  obtain⟨⟨k1,h1⟩,hnx1,hold1⟩:=hXc
  have l4:=Zaa.lt q4
  simp only at hB qr qn
  by_cases hE0:Zdv ⟨nm,acc.reverse⟩=0
  ·rw[hE0]at hck
   simp only[hE0,if_true]at qr qn
   skip
   refine Bz1 (X4 f0 f2 f3 q5) ?_
   refine qcp (hck _) fun k5=>?_
   refine Bz1 (X4 f0 f2 f3 dE) ?_
   refine qcp (ZHM _ (h1.bump k5)) fun k6=>?_
   refine Bz1 (X5 f0 f2 f3 q4 q5) ?_
   exact fin rfl (RdX.set hid (zad _) (hX.post.post))
  ·obtain⟨_,dF⟩:=ZHs hE0
   simp only[if_neg hE0]at hB
   skip
   refine Bz1 (X4 f0 f2 f3 q5) ?_
   refine qcp (hck _) fun k5=>?_
   refine Bz1 (X4 f0 f2 f3 dF) ?_
   exact Zap.use (ZHV _ (h1.bump k5) (hB trivial)) fun _ _ h=>h.elim
open Go.RowKit Go.Lib
theorem ZJY {d:Dm} (h:Zdv d=0):∀t∈d.tiers,ZJO t:=by
 unfold Zdv at h
 split at h
 ·cases h
 ·split at h
  ·cases h
  ·intro t ht
   obtain⟨k,hk,rfl⟩:=zar ht
   have hk':=ZDO h hk
   by_cases h2:k+1<d.tiers.length
   ·rw[ZC9 h2]at hk'
    exact ZIo hk'
   ·rw[zbf Xa]at hk'
    exact ZIo (a:=0) hk'
theorem reps_V {α:Type} {f:Tx->Option (α×Tx)} {V:α->Prop} (hf:∀b a r,f b=some (a,r)->V a):∀(n:Nat) (acc:List α) (b:Tx) (l:List α) (r:Tx),ZHu (fun _=>f) n acc b=some (l,r)->(∀x∈acc,V x)->∀x∈l,V x
 | 0,acc,b,l,r,h,ha=>by
  simp only[ZHu,zab,zai]at h
  rw[<- h.1];exact ha
 | n+1,acc,b,l,r,h,ha=>by
  rw[ZHu]at h
  split at h
  ·rename_i a r1 e1
   refine reps_V hf n _ _ _ _ h fun x hx=>?_
   rcases zaj.1 hx with hx|hx
   ·exact ha x hx
   ·simp at hx;rw[hx];exact hf _ _ _ e1
  ·cases h
theorem ZKy {E:Zaa} {id:Nat} {S:Tx} {k:Nat} {b:Tx} {H:Zaa} {B:Prop} (h:RdS E id S k b H) (hB:gSc b=none->B):Zay (RP E id S B) 37 [.ptr id 0] H (RdQ E id S H (gSc b) fun s=>.agg (eSc s)):=by
 have hid:=Zaa.lt h.g
 unfold gSc at hB ⊢
 have dE:((0:Int) == 0)=true:=rfl
 have fin:∀{G':Zaa} {ds:List Dm} {ms:List Tx} {t1 t2:Tok} {r:Tx} {o:Option (Sc×Tx)},o=some (⟨ds,ms⟩,r)->RdX E id S r H G'->∃r2 H2,Zb6 (.agg [.sl t1 (rD ds),.sl t2 (rS ms)]) G' r2 H2/\RdQ E id S H o (fun s=>.agg (eSc s)) r2 H2:=fun ho hX=>ZIp ho (ZJ9 ⟨_,_⟩ _ _) hX
 refine fnQ cf37 fun Q qr qn=>?_
 refine Bz0 ?_
 have hX0:=RdX.alloc (o:=.cells zS 25) hid (RdX.alloc (o:=.cells zS 25) hid (ZIj h))
 refine Zap.use (ZHq 16 Xa ((h.alloc _).alloc _) fun e=>hB (by rw[e])) ?_
 rintro _ G1 ⟨n,r1,hn,rfl,hX1⟩
 have hn16:=(ZHr hn).1
 simp only[hn]at hB qr qn
 have g4:=hX1.2.2 H.next _ Xa (show((H.alloc (.cells zS 25)).alloc (.cells zS 25)).get H.next=some (.cells zS 25) by rw[Zaa.Zag Xe];exact Zaa.Zae)
 have g5:=hX1.2.2 (H.next+1) _ Xa (show((H.alloc (.cells zS 25)).alloc (.cells zS 25)).get (H.next+1)=some (.cells zS 25)from Zaa.Zat xN)
 have hX:=hX0.trans hX1
 generalize hoo:ZHu (fun _=>gDim) n [] r1=oo at *
 have hB0:=hB
 have hB:oo=none->B:=fun e=>hB0 (by rw[e])
 refine Bz0 ?_
 refine ZbJ (N:=n) (fun i F G'=>Fr.get F 7=.i (i:Int)/\Fr.get F 6=.i (n:Nat)/\Fr.get F 0=.ptr id 0/\Fr.get F 2=.ptr H.next 0/\Fr.get F 3=.ptr (H.next+1) 0/\∃acc tok r,acc.length=i/\ZHu (fun _=>gDim) (n - i) acc r=oo/\G'.get H.next=some (.cells zS 25)/\G'.get (H.next+1)=some (.cells [.sl tok (rD acc),.sl .full []] 25)/\ZCe (H.next+2) G' 39 2 i tok/\RdX E id S r H G') Xd (fun k F G h=>⟨h.1,h.2.1⟩) (GStep.refl _ _) ⟨rfl,rfl,rfl,rfl,rfl,[],.full,r1,rfl,hoo,g4,g5,.inl rfl,hX⟩ ?_ ?_
 ·rintro i F G' hi ⟨fi,fN,f0,f2,f3,acc,tok,r,hal,hro,q4,q5,hT,hX⟩
  rw[show n - i=(n - (i+1))+1 by omega,ZHE]at hro
  have hXc:=hX
  obtain⟨⟨k1,h1⟩,hnx1,hold1⟩:=hXc
  have hw:=ZCE (s:=i) Xa
  skip
  refine Bz1 (X6 fi fN f0 f2 f3 q5) ?_
  refine Zap.use (ZJG h1 fun e=>hB (by rw[<- hro,e])) ?_
  rintro _ G5 ⟨x,r2,hx,rfl,hX5⟩
  rw[hx]at hro
  simp only at hro
  have hrl:(rD acc).length=i:=by simp[hal]
  have hall:ZaE 2 (rD acc)=true:=ZaU (f:=fun x:Dm=>eDm x) (sz:=2) (fun _=>rfl) _
  have hm1:i+1<=maxLen:=ZAp Xa
  have hm2:(i+1) * 40<=140737488355328:=Xa
  have hsn:rD acc++[eDm x]=rD (acc++[x]):=Xc
  generalize hR1:rD (acc++[x])=R1 at *
  generalize hR0:rD acc=R0 at *
  have hal2:ZaE 2 [eDm x]=true:=rfl
  obtain⟨e0,e1,e2,e3⟩:=Za7 x
  have p4:=hX5.2.2 _ _ Xa q4
  have p5:=hX5.2.2 _ _ Xa q5
  have l4:=Zaa.lt p4
  have l5:=Zaa.lt p5
  have hX':=hX.trans hX5
  have hnx5:=hX'.2.1
  have ne1:H.next+1≠id:=Xa
  rcases hT with rfl|⟨t',ht',rfl,hgt⟩
  ·refine Bz1 (X12 fi fN f0 f2 f3 p5 e0 e1 e2 e3 hrl (X6 hall hal2 hm1 hm2 hsn hw)) ?_
   exact⟨acc++[x],.own G5.next,r2,by simp[hal],hro,by first|exact p4|(rw[Zaa.Zah Xa,Zaa.Zag Xa];exact p4),by rw[hR1],.inr ⟨G5.next,Xa,rfl,by rw[Zaa.Zah Xa];exact Zaa.Zae⟩,RdX.set hid Xa (RdX.alloc hid hX')⟩
  ·have hgt5:=hX5.2.2 t' _ Xa hgt
   have nt5:t'≠H.next+1:=Xa
   have lt5:=Zaa.lt hgt5
   refine Bz1 (X12 fi fN f0 f2 f3 p5 hgt5 e0 e1 e2 e3 (X7 hrl hall hal2 hm1 hm2 hsn hw)) ?_
   exact⟨acc++[x],.own t',r2,by simp[hal],hro,by first|exact p4|(rw[Zaa.Zah Xa,Zaa.Zah Xa];exact p4),by rw[hR1],.inr ⟨t',ht',rfl,by rw[Zaa.Zah Xa];exact Zaa.Zal lt5⟩,RdX.set hid Xa (RdX.set hid Xa hX')⟩
 ·rintro F G2 ⟨fi,fN,f0,f2,f3,ds,td,r2,hdl,hro,q4,q5,hTd,hX⟩
  rw[zaY,ZHu]at hro
  subst hro
  have hds:=reps_V (f:=gDim) (V:=fun d=>∀t∈d.tiers,ZJO t) (fun b a r h=>ZJY (ZK1 h).1) _ _ _ _ _ hoo (fun t h=>by cases h)
  simp only at hB0 qr qn
  clear hB hoo
  have hXc:=hX
  obtain⟨⟨k2,h2⟩,hnx2,hold2⟩:=hXc
  skip
  refine Bz1 (X1 f0) ?_
  refine Zap.use (ZHq 3 Xa h2 fun e=>hB0 (by rw[e])) ?_
  rintro _ G3 ⟨m,r3,hm,rfl,hX3⟩
  have hm3:=(ZHr hm).1
  simp only[hm]at hB0 qr qn
  have g4:=hX3.2.2 _ _ Xa q4
  have g5:=hX3.2.2 _ _ Xa q5
  have hX:=hX.trans hX3
  generalize hoo:ZHu (fun _=>gTxt 12) m [] r3=oo at *
  have hB:oo=none->B:=fun e=>hB0 (by rw[e])
  refine Bz0 ?_
  refine ZbJ (N:=m) (fun i F G'=>Fr.get F 19=.i (i:Int)/\Fr.get F 18=.i (m:Nat)/\Fr.get F 0=.ptr id 0/\Fr.get F 2=.ptr H.next 0/\Fr.get F 3=.ptr (H.next+1) 0/\∃acc tok r,acc.length=i/\ZHu (fun _=>gTxt 12) (m - i) acc r=oo/\G'.get H.next=some (.cells zS 25)/\G'.get (H.next+1)=some (.cells [.sl td (rD ds),.sl tok (rS acc)] 25)/\ZCe (H.next+2) G' 9 1 i tok/\RdX E id S r H G') Xd (fun k F G h=>⟨h.1,h.2.1⟩) (GStep.refl _ _) ⟨rfl,rfl,by simpa [Fr.get] using f0,by simpa [Fr.get] using f2,by simpa [Fr.get] using f3,[],.full,r3,rfl,hoo,g4,g5,.inl rfl,hX⟩ ?_ ?_
  ·rintro i F G' hi ⟨fi,fN,f0,f2,f3,acc,tok,r,hal,hro,q4,q5,hT,hX⟩
   rw[show m - i=(m - (i+1))+1 by omega,ZHE]at hro
   have hXc:=hX
   obtain⟨⟨k1,h1⟩,hnx1,hold1⟩:=hXc
   have hw:=ZCE (s:=i) Xa
   skip
   refine Bz1 (X6 fi fN f0 f2 f3 q5) ?_
   refine Zap.use (ZHB 12 Xa h1 fun e=>hB (by rw[<- hro,e])) ?_
   rintro _ G5 ⟨x,r2,hx,rfl,hX5⟩
   rw[hx]at hro
   simp only at hro
   have hrl:(rS acc).length=i:=by simp[hal]
   have hall:ZaE 1 (rS acc)=true:=ZaU (f:=fun x:Tx=>[eS x]) (sz:=1) (fun _=>rfl) _
   have hm1:i+1<=maxLen:=ZAp Xa
   have hm2:(i+1) * 16<=140737488355328:=Xa
   have hsn:rS acc++[[eS x]]=rS (acc++[x]):=Xc
   generalize hR1:rS (acc++[x])=R1 at *
   generalize hR0:rS acc=R0 at *
   have hal2:ZaE 1 [[eS x]]=true:=rfl
   have p4:=hX5.2.2 _ _ Xa q4
   have p5:=hX5.2.2 _ _ Xa q5
   have l4:=Zaa.lt p4
   have l5:=Zaa.lt p5
   have hX':=hX.trans hX5
   have hnx5:=hX'.2.1
   have ne1:H.next+1≠id:=Xa
   rcases hT with rfl|⟨t',ht',rfl,hgt⟩
   ·refine Bz1 (X12 fi fN f0 f2 f3 p5 hrl hall hal2 hm1 hm2 (X2 hsn hw)) ?_
    exact⟨acc++[x],.own G5.next,r2,by simp[hal],hro,by first|exact p4|(rw[Zaa.Zah Xa,Zaa.Zag Xa];exact p4),by rw[hR1],.inr ⟨G5.next,Xa,rfl,by rw[Zaa.Zah Xa];exact Zaa.Zae⟩,RdX.set hid Xa (RdX.alloc hid hX')⟩
   ·have hgt5:=hX5.2.2 t' _ Xa hgt
    have nt5:t'≠H.next+1:=Xa
    have lt5:=Zaa.lt hgt5
    refine Bz1 (X12 fi fN f0 f2 f3 p5 hgt5 hrl hall hal2 hm1 (X3 hm2 hsn hw)) ?_
    exact⟨acc++[x],.own t',r2,by simp[hal],hro,by first|exact p4|(rw[Zaa.Zah Xa,Zaa.Zah Xa];exact p4),by rw[hR1],.inr ⟨t',ht',rfl,by rw[Zaa.Zah Xa];exact Zaa.Zal lt5⟩,RdX.set hid Xa (RdX.set hid Xa hX')⟩
  ·rintro F G4 ⟨fi,fN,f0,f2,f3,ms,tm,r4,hml,hro,q4,q5,hTm,hX⟩
   rw[zaY,ZHu]at hro
   subst hro
   have hck:∀H,Zay (RP E id S B) 40 [.agg [.sl td (rD ds),.sl tm (rS ms)]] H (Pure H (.i (scE ⟨ds,ms⟩))):=fun H=>(ZEI (ZJ9 ⟨ds,ms⟩ td tm) (Zc9 ⟨ds,ms⟩ H fun d hd t ht=>by have:=(hds d hd t ht).2;unfold Zgr;omega)).up
   have hXc:=hX
   obtain⟨⟨k1,h1⟩,hnx1,hold1⟩:=hXc
   have l4:=Zaa.lt q4
   simp only at hB0 qr qn
   by_cases hE0:scE ⟨ds,ms⟩=0
   ·rw[hE0]at hck
    simp only[hE0,if_true]at qr qn
    skip
    refine Bz1 (X4 f0 f2 f3 q5) ?_
    refine qcp (hck _) fun k5=>?_
    refine Bz1 (X4 f0 f2 f3 dE) ?_
    refine qcp (ZHM _ (h1.bump k5)) fun k6=>?_
    refine Bz1 (X5 f0 f2 f3 q4 q5) ?_
    exact fin rfl (RdX.set hid (zad _) (hX.post.post))
   ·obtain⟨_,dF⟩:=ZHs hE0
    simp only[if_neg hE0]at hB0
    skip
    refine Bz1 (X4 f0 f2 f3 q5) ?_
    refine qcp (hck _) fun k5=>?_
    refine Bz1 (X4 f0 f2 f3 dF) ?_
    exact Zap.use (ZHV _ (h1.bump k5) (hB0 trivial)) fun _ _ h=>h.elim
open Go.RowKit Go.Lib
def ScQ (o:Option Sc) (H:Zaa) (v:AV) (G:Zaa):Prop:=match o with
 | some s=>Pure H (.tup [.agg (eSc s),.i 0]) v G
 | none=>∃e,e≠0/\Pure H (.tup [.agg (eSc ⟨[],[]⟩),.i e]) v G
theorem sc_no {o:Option Sc} (ho:o=none) {e:Int} (he:e≠0) {H0 H:Zaa} (hx:Zaa.Ext H0 H):∃r2 H2,Zb6 (.tup [.agg [.sl .full [],.sl .full []],.i e]) H r2 H2/\ScQ o H0 r2 H2:=by
 subst ho
 have hw:Wkn (.tup [.agg [.sl .full [],.sl .full []],.i e]) (.tup [.agg (eSc ⟨[],[]⟩),.i e]):=.tup _ _ rfl fun i x y hx hy=>by
  match i with
  | 0=>simp at hx hy;subst hx hy;exact ZJ9 ⟨[],[]⟩ .full .full
  | 1=>simp at hx hy;subst hx hy;exact .refl _
  | i+2=>simp at hx
 obtain⟨r2,H2,k1,k2⟩:=Zc1 hw hx
 exact⟨r2,H2,k1,e,he,k2⟩
theorem sc_yes {o:Option Sc} {s:Sc} (ho:o=some s) {H0 H:Zaa} (hx:Zaa.Ext H0 H):∃r2 H2,Zb6 (.tup [.agg (eSc s),.i 0]) H r2 H2/\ScQ o H0 r2 H2:=by
 subst ho
 exact Zc1 (.refl _) hx
theorem RdS.start {E H:Zaa} {S:Tx} (hE:Zaa.Ext E H) (hl:S.length<=100000):RdS E H.next S 0 S (H.alloc (rdO ⟨S.toArray⟩ 0 true)) :=
 ⟨zas _,rfl,Zaa.Zae,hl,hE.alloc,hE.next⟩
theorem ZKP {E:Zaa} {id k:Nat} {S r:Tx} {G G':Zaa} {RN:Int->Zaa->Prop} (h:RdS E id S k r G) (hg:G'.get id=G.get id) (hR:k=S.length - r.length->RN (k:Int) G'):rdRet id ⟨S.toArray⟩ RN G':=by
 have hk:=h.kl
 have hl:=h.len
 refine⟨(k:Int),hR Xa,by rw[hg];exact h.g,Xa,?_⟩
 show(k:Int)<=((S.toArray.size:Nat):Int)
 rw[zaP];omega
theorem ZKq {b:Tx} {s:Sc} {r:Tx} (h:gSc b=some (s,r)):wholeSc b=if r=[] then some s else none:=by
 unfold wholeSc
 rw[h]
 cases r<;>rfl
theorem ZKu {b:Tx} (h:gSc b=none):wholeSc b=none:=by unfold wholeSc;rw[h]
theorem ZJP {S r:Tx} {k:Nat} (hr:r.length<=S.length) (hk:k=S.length - r.length):(if (k:Int)=(⟨S.toArray⟩:ByteArray).size then (0:Int) else 3)=if r=[] then 0 else 3:=by
 have e:(((⟨S.toArray⟩:ByteArray).size:Nat):Int)=(S.length:Int):=by
  show((S.toArray.size:Nat):Int)=_
  rw[zaP]
 rw[e]
 cases r with
 | nil=>rw[if_pos (by simp at hk;omega),if_pos rfl]
 | cons c r =>
  rw[List.length_cons]at hk hr
  rw[if_neg Xa,if_neg Xc]
theorem ZLz (b:Tx) (H:Zaa) (hl:b.length<=100000):Zay Tryz.prog 11 [eS b] H (ScQ (wholeSc b) H):=by
 have hx0:Zaa.Ext H H:=.refl _
 obtain⟨H1,hH1⟩:∃H1,H1=(H.alloc (.cells zS 25)).alloc (.cells zS 25):=⟨_,rfl⟩
 have hn1:H1.next=H.next+2:=by rw[hH1];simp only[nx]
 have q2:H1.get H.next=some (.cells zS 25):=by rw[hH1,Zaa.Zag Xe];exact Zaa.Zae
 have q4:H1.get (H.next+1)=some (.cells zS 25):=by rw[hH1];exact Zaa.Zat xN
 have hx1:Zaa.Ext H H1:=by rw[hH1];exact hx0.alloc.alloc
 have hall:=Zw3 ⟨b.toArray⟩ (by show b.toArray.size<=maxLen;rw[zaP];unfold maxLen;omega) 36 [] [.ptr (H.next+1) 0] H1
  (fun at' H2=>∃s r,gSc b=some (s,r)/\r.length<=b.length/\(∃k:Nat,at'=(k:Int)/\k=b.length - r.length)/\H2.get H.next=some (.cells zS 25)/\H2.get (H.next+1)=some (.cells (eSc s) 25)/\Zaa.Ext H H2)
  (fun ev H2=>ev≠0/\gSc b=none/\Zaa.Ext H1 H2) (by
   show Zay (RP H1 H1.next b (gSc b=none)) 36 [.ptr H1.next 0,.ptr (H.next+1) 0] (H1.alloc (rdO ⟨b.toArray⟩ 0 true)) _
   have hrd:=ZKy (B:=gSc b=none) (RdS.start (S:=b) (Zaa.Ext.refl H1) hl) id
   refine fnQ cf36 fun Q qr qn=>?_
   refine Bz0 ?_
   refine Zap.use hrd ?_
   rintro _ G ⟨s,r,hs,rfl,hX⟩
   have p2:=hX.2.2 H.next _ Xa (by rw[Zaa.Zag Xa];exact q2)
   have p4:=hX.2.2 (H.next+1) _ Xa (by rw[Zaa.Zag Xa];exact q4)
   obtain⟨⟨k,h1⟩,_,_⟩:=hX
   have hxG:Zaa.Ext H G:=hx1.trans h1.x
   obtain⟨e0,e1,e2,e3⟩:=ZbB s
   have hlen:=h1.len
   refine Bz1 (X3 p4 e0 e3) ?_
   refine Zaq (ZKP h1 (by rw[Zaa.Zah Xa]) fun hk=>⟨s,r,hs,Xa,⟨k,rfl,hk⟩,by rw[Zaa.Zah Xa];exact p2,Zaa.Zal (Zaa.lt p4),xX⟩))
 have hnx:=hx1.next
 refine fnQ cf11 fun Q qr qn=>?_
 refine Bz0 ?_
 rw[<- hH1]
 refine Zap.use hall ?_
 rintro v G ⟨H2,at',hg,rfl,hc⟩
 rcases hc with⟨⟨s,r,hs,hrl,⟨k,rfl,hk⟩,p2,p4,hx2⟩,rfl⟩|⟨ev,⟨hev,hno,hx2⟩,rfl⟩
 ·rw[ZJP hrl hk]
  rw[ZKq hs]at qr qn
  obtain⟨e0,e1,e2,e3⟩:=ZbB s
  have l2:=Zaa.lt p2
  by_cases hr:r=[]
  ·have d0:((0:Int) != 0)=false:=rfl
   rw[if_pos hr]
   rw[if_pos hr]at qr qn
   refine Bz1 (X5 d0 p2 p4 e0 e3) ?_
   exact sc_yes rfl xX
  ·have d0:((3:Int) != 0)=true:=rfl
   rw[if_neg hr]
   rw[if_neg hr]at qr qn
   refine Bz1 (X3 d0 p2 p4) ?_
   exact sc_no rfl Xb xX
 ·obtain⟨d0,_⟩:=ZHs hev
  rw[ZKu hno]at qr qn
  have p2:=hx2.get _ _ q2
  have hx3:=hx1.trans hx2
  have l2:=Zaa.lt p2
  refine Bz1 (X2 d0 p2) ?_
  exact sc_no rfl hev xX
end Go.Proofs.YtdfgoekdlmkdfaaGreatDoor
