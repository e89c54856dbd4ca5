/- Texts of the walk. -/
import Derived.Test.YtdfgoekdlmkdfaaGreatDoorNg
import Derived.Test.YtdfgoekdlmkdfaaGreatDoorNd
namespace Go.Proofs.YtdfgoekdlmkdfaaGreatDoor
set_option linter.defProp false
set_option maxHeartbeats 64000000
set_option linter.unusedSimpArgs false
set_option linter.unusedVariables false
open Go.RowKit Go.Lib
theorem ZJl (h:Tx) (l:List Tx):Lib.join (h :: l) [32]=h++ZBb l:=join_cons 32 h l
theorem ZKI (x:Rw) (H:Zaa) (hx:RwS x):Zay Tryz.prog 16 [.agg (eRw x)] H (Pure H (eS (rwW x))):=by
 obtain⟨a0,a1,a2,a3⟩:=ZHD x
 have hws:=fun H=>ZAE .no x.terms H (by have:=hx.n;omega) (by have:=hx.s;omega)
 have hwl:=ZAl hx.n hx.s
 have hil:=ZIh hx.i
 have hv3:=hx.v
 have hx0:Zaa.Ext H H:=.refl _
 refine fnQ cf16 fun Q qr qn=>?_
 refine Bz3 (X4 a0 a1 a2 a3) ?_
 refine ZbJ (N:=x.vals.length) (fun k F G=>Fr.get F 9=.i (k:Int)/\Fr.get F 8=.i (x.vals.length:Nat)/\Fr.get F 7=.sl .no (rI x.vals)/\Fr.get F 1=.ptr H.next 0/\G.get H.next=some (.cells (eRw x) 53)/\Zaa.Ext H G/\∃tok,Fr.get F 3=.sl tok (rS ((x.vals.map itoa).take k))/\ZCe (H.next+1) G 9 1 k tok) Xd (fun k F G h=>⟨h.1,h.2.1⟩) (GStep.refl _ _) ⟨rfl,rfl,rfl,rfl,Zaa.Zae,xX,.full,rfl,.inl rfl⟩ ?_ ?_
 ·rintro k F G hk ⟨f9,f8,f7,f1,g1,hxe,tok,f3,hT⟩
  have h0:(0:Int)<=(k:Int):=Xa
  have hr:(rI x.vals)[k]?=some [.i x.vals[k]]:=by simp[hk]
  have hk2:k<(x.vals.map itoa).length:=by simpa using hk
  have hsn:=ZAZ hk2
  rw[zbp]at hsn
  obtain⟨hi1,hi2⟩:=hx.i _ (zah hk)
  have hrl:(rS ((x.vals.map itoa).take k)).length=k:=by simp;omega
  have hal:ZaE 1 (rS ((x.vals.map itoa).take k))=true:=ZaU (f:=fun s:Tx=>[eS s]) (sz:=1) (fun _=>rfl) _
  have hm1:k+1<=maxLen:=ZAp Xa
  have hm2:(k+1) * 16<=140737488355328:=Xa
  have hw:=ZCE (s:=k) Xa
  generalize hR1:rS ((x.vals.map itoa).take (k+1))=R1 at *
  generalize rS ((x.vals.map itoa).take k)=R0 at *
  generalize x.vals[k]=n at *
  have hfm:∀H,Zay Tryz.prog 45 [.i n,.i 10] H (Pure H (eS (itoa n))):=fun H=>Same.pure (Zzz n H hi1 hi2)
  have hal2:ZaE 1 [[eS (itoa n)]]=true:=rfl
  have l1:=Zaa.lt g1
  rcases hT with rfl|⟨t',ht,rfl,hgt⟩
  ·skip
   refine Bz1 (X7 f9 f8 f7 f1 f3 h0 hr) ?_
   refine qcp (hfm _) fun k2=>?_
   refine Bz1 (X12 f9 f8 f7 f1 f3 hrl hal hal2 hm1 hm2 hsn hw) ?_
   exact⟨g1,xX,_,by rw[hR1]<;>rfl,.inr ⟨_,Xe,rfl,Zaa.Zat rfl⟩⟩
  ·have lt':=Zaa.lt hgt
   skip
   refine Bz1 (X7 f9 f8 f7 f1 f3 h0 hr) ?_
   refine qcp (hfm _) fun k2=>?_
   refine Bz1 (X12 f9 f8 f7 f1 f3 hrl hal hal2 hm1 hm2 hsn (X2 hgt hw)) ?_
   exact⟨g1,xX,_,by rw[hR1]<;>rfl,.inr ⟨t',ht,rfl,Zaa.Zal Xe⟩⟩
 ·rintro F G ⟨f9,f8,f7,f1,g1,hxe,tok,f3,hT⟩
  rw[zay Xc]at f3
  have hj:=fun t H=>ZAC t (x.vals.map itoa) [44] H Xa Xf
  have hv:rwW x=ZAc x.terms++[61]++Lib.join (x.vals.map itoa) [44]:=by unfold rwW;simp
  rw[hv]at qr qn
  generalize Lib.join (x.vals.map itoa) [44]=J at *
  generalize ZAc x.terms=W at *
  have u1:W.length+1<=maxLen:=ZA0 Xa
  have v1:(⟨W.toArray⟩:ByteArray)++⟨#[61]⟩=⟨(W++[61]).toArray⟩:=Zz9 W [61]
  have u2:(W++[61]).length+J.length<=maxLen:=by simp only[zaa,List.length_cons,List.length_nil];unfold maxLen;omega
  have v2:=Zz9 (W++[61]) J
  skip
  refine Bz1 (X10 f9 f8 f7 f1 f3 g1 a0 a1 a2 a3) ?_
  refine qcp (hws _) fun k2=>?_
  refine Bz1 (X7 f9 f8 f7 f1 f3 u1 v1) ?_
  refine qcp (hj _ _) fun k3=>?_
  refine Bz1 (X2 u2 v2) ?_
  exact ZaW xX rfl
theorem ZJV (p : Pk) (H : Zaa) (hp : ZIZ p) : Zay Tryz.prog 19 [.agg (ePk p)] H (Pure H (eS (pkW p))) := by
  obtain ⟨a0, a1, a2, a3, a4, a5, a6, a7, a8⟩ := ZHv p
  have hf2 := hp.f
  have hfl := ZJM hp
  have hwl := ZIx hp
  obtain ⟨hsl1, hsl2⟩ := hp.ZJU
  have hdt : ∀ H, Zay Tryz.prog 50 [.i (p.tier : Int)] H (Pure H (eS (itoa p.tier))) := fun H => Same.pure (ZAB (p.tier : Int) H Xa (by have := hp.t; omega))
  have hdb : ∀ H, Zay Tryz.prog 50 [.i ((p.by' - 1 : Nat) : Int)] H (Pure H (eS (itoa ((p.by' - 1 : Nat) : Int)))) := fun H => Same.pure (ZAB ((p.by' - 1 : Nat) : Int) H Xa (by have := hp.b; omega))
  have hlo := fun H => ZyQ p.lo H (by have := hp.lo; omega)
  have hhi := fun H => ZyQ p.hi H (by have := hp.hi; omega)
  have hset := fun H => ZAE .no p.set H (by have := hp.len; omega) Xa
  have til := Zz8 (ZHJ (n := p.tier) (by have := hp.t; omega))
  have bil := Zz8 (ZHJ (n := p.by' - 1) (by have := hp.b; omega))
  have lol := ZzU p.lo
  have hil := ZzU p.hi
  have hpl := hp.lo
  have hph := hp.hi
  rw [ZJc] at hwl ⊢
  generalize hWd : pkF p = W at *
  generalize hIb : itoa ((p.by' - 1 : Nat) : Int) = Ib at *
  have hx0 : Zaa.Ext H H := .refl _
  have e3 : 1 + Ib.length <= maxLen := ZA0 Xa
  have b3 : (⟨#[47]⟩ : ByteArray) ++ ⟨Ib.toArray⟩ = ⟨([47] ++ Ib).toArray⟩ := Zz9 [47] Ib
  have e4 : W.length + ([47] ++ Ib).length <= maxLen := by rw [zaa]; simp only [List.length_cons, List.length_nil]; unfold maxLen; omega
  have b4 := Zz9 W ([47] ++ Ib)
  have e4' : W.length + (1 + Ib.length) <= maxLen := ZA0 Xa
  have z0 : ((0 : Int) == 1) = false := rfl
  have z1 : ((0 : Int) == 2) = false := rfl
  have z2 : ((1 : Int) == 1) = true := rfl
  have z4 : ((2 : Int) == 1) = false := rfl
  have z5 : ((2 : Int) == 2) = true := rfl
  generalize hbb : decide (0 < p.by') = bb at a6
  have hfin0 : p.by' = 0 -> W ++ (if p.by' = 0 then [] else 47 :: Ib) = W := fun h => by rw [if_pos h, zaw]
  have hfin1 : ¬ p.by' = 0 -> W ++ (if p.by' = 0 then [] else 47 :: Ib) = W ++ ([47] ++ Ib) := fun h => by rw [if_neg h]; rfl
  rcases (show p.filt = 0 \/ p.filt = 1 \/ p.filt = 2 by omega) with h0 | h0 | h0
  case' inl =>
    have hW : W = [42] := by rw [<- hWd]; unfold pkF; rw [if_neg Xa, if_neg Xa]
    have hWc : (⟨#[42]⟩ : ByteArray) = ⟨W.toArray⟩ := by rw [hW]
    have hWt : [42] = W := hW.symm
    rw [h0] at a1
    have a1 : (ePk p)[0]? = some (AV.i 0) := a1
    refine fnQ cf19 fun Q qr qn => ?_
    refine Bz1 (X5 a0 a1 a2 a8 YZs) ?_
    refine qcp (hdt _) fun k1 => ?_
    ((have hd := tv; repeat' first | (first | apply Zad | apply Zac | apply Zab) <;> intro hd <;> try simp only [hd] | simp (disch := first | assumption | omega | simp only [nx] <;> omega | fail) only [hd, qr, qn, ZnE, ↓YA, YY, sevalprocAttr, a0, a1, a6, a8, z0, z1, hWc, YZs]) <;> try revert hd; refine ttr ?_)
  case' inr.inl =>
    have hWc := trivial
    have hWt : W = W := rfl
    have hW : W = itoa p.tier ++ ([126] ++ ZyH p.lo ++ [126] ++ ZyH p.hi) := by rw [<- hWd]; unfold pkF; rw [if_pos h0]; simp
    rw [h0] at a1
    have a1 : (ePk p)[0]? = some (AV.i 1) := a1
    generalize itoa (p.tier : Int) = It at *
    generalize ZyH p.lo = Wl at *
    generalize ZyH p.hi = Wh at *
    have u1 : 1 + Wl.length <= maxLen := ZA0 Xa
    have v1 : (⟨#[126]⟩ : ByteArray) ++ ⟨Wl.toArray⟩ = ⟨([126] ++ Wl).toArray⟩ := Zz9 [126] Wl
    have u2 : ([126] ++ Wl).length + 1 <= maxLen := by simp only [zaa, List.length_cons, List.length_nil]; unfold maxLen; omega
    have v2 : (⟨([126] ++ Wl).toArray⟩ : ByteArray) ++ ⟨#[126]⟩ = ⟨([126] ++ Wl ++ [126]).toArray⟩ := Zz9 ([126] ++ Wl) [126]
    have u3 : ([126] ++ Wl ++ [126]).length + Wh.length <= maxLen := by simp only [zaa, List.length_cons, List.length_nil]; unfold maxLen; omega
    have v3 := Zz9 ([126] ++ Wl ++ [126]) Wh
    have u4 : It.length + ([126] ++ Wl ++ [126] ++ Wh).length <= maxLen := by simp only [zaa, List.length_cons, List.length_nil]; unfold maxLen; omega
    have v4 := Zz9 It ([126] ++ Wl ++ [126] ++ Wh)
    rw [<- hW] at v4
    generalize hA1 : [126] ++ Wl = A1 at *
    generalize hA2 : A1 ++ [126] = A2 at *
    generalize hA3 : A2 ++ Wh = A3 at *
    refine fnQ cf19 fun Q qr qn => ?_
    refine Bz1 (X5 a0 a1 a2 a8 YZs) ?_
    refine qcp (hdt _) fun k1 => ?_
    refine Bz1 (X8 a0 a1 a2 a3 a4 a8 z2 YZs) ?_
    refine qcp (hlo _) fun k2 => ?_
    refine Bz1 (X11 a0 a1 a2 a3 a4 a8 u1 v1 u2 v2 YZs) ?_
    refine qcp (hhi _) fun k3 => ?_
    ((have hd := tv; repeat' first | (first | apply Zad | apply Zac | apply Zab) <;> intro hd <;> try simp only [hd] | simp (disch := first | assumption | omega | simp only [nx] <;> omega | fail) only [hd, qr, qn, ZnE, ↓YA, YY, sevalprocAttr, a0, a1, a2, a3, a4, a6, a8, u3, v3, u4, v4, YZs]) <;> try revert hd; refine ttr ?_)
  case' inr.inr =>
    have hWc := trivial
    have hWt : W = W := rfl
    have hW : W = itoa p.tier ++ ([61] ++ ZAc p.set) := by rw [<- hWd]; unfold pkF; rw [if_neg Xa, if_pos h0]; simp
    rw [h0] at a1
    have a1 : (ePk p)[0]? = some (AV.i 2) := a1
    generalize itoa (p.tier : Int) = It at *
    generalize ZAc p.set = Ws at *
    have u1 : 1 + Ws.length <= maxLen := ZA0 Xa
    have v1 : (⟨#[61]⟩ : ByteArray) ++ ⟨Ws.toArray⟩ = ⟨([61] ++ Ws).toArray⟩ := Zz9 [61] Ws
    have u2 : It.length + ([61] ++ Ws).length <= maxLen := by simp only [zaa, List.length_cons, List.length_nil]; unfold maxLen; omega
    have v2 := Zz9 It ([61] ++ Ws)
    rw [<- hW] at v2
    generalize hA1 : [61] ++ Ws = A1 at *
    refine fnQ cf19 fun Q qr qn => ?_
    refine Bz1 (X5 a0 a1 a2 a8 YZs) ?_
    refine qcp (hdt _) fun k1 => ?_
    refine Bz1 (X8 a0 a1 a2 a5 a8 z4 z5 YZs) ?_
    refine qcp (hset _) fun k2 => ?_
    ((have hd := tv; repeat' first | (first | apply Zad | apply Zac | apply Zab) <;> intro hd <;> try simp only [hd] | simp (disch := first | assumption | omega | simp only [nx] <;> omega | fail) only [hd, qr, qn, ZnE, ↓YA, YY, sevalprocAttr, a0, a1, a2, a5, a6, a8, u1, v1, u2, v2, YZs]) <;> try revert hd; refine ttr ?_)
  all_goals
    first
      | (have hby : p.by' = 0 := by have h9 := of_decide_eq_false (hbb.trans hd); omega
         rw [hfin0 hby, <- hWt]
         exact ZaW xX rfl)
      | (have hby : ¬ p.by' = 0 := by have h9 := of_decide_eq_true (hbb.trans hd); omega
         rw [hfin1 hby] at qr qn
         generalize hA9 : [47] ++ Ib = A9 at *
         refine Bz1 (X4 a0 a7 a8 YZs) ?_
         refine qcp (hdb _) fun k9 => ?_
         refine Bz1 (X6 hWc e3 b3 e4 b4 YZs) ?_
         exact ZaW xX rfl)
theorem ZIB (l:List Rw) (H:Zaa) (hl:l.length<=1000) (hi:∀x∈l,RwS x):Zay Tryz.prog 15 [.sl .no (rR l),.fn 16 [] []] H (SlQ (l.map rwW) H):=by
 refine fnQ cf15 fun Q qr qn=>?_
 refine Bz3 (X1 YZs) ?_
 refine ZbJ (N:=l.length) (fun k F G=>Fr.get F 10=.i (k:Int)/\Fr.get F 9=.i (l.length:Int)/\Fr.get F 8=.sl .no (rR l)/\Fr.get F 1=.fn 16 [] []/\Zaa.Ext H G/\∃tok,Fr.get F 5=.sl tok (rS ((l.map rwW).take k))/\ZCe H.next G 9 1 k tok) Xd (fun k F G h=>⟨h.1,h.2.1⟩) (GStep.refl _ _) ⟨rfl,rfl,rfl,rfl,.refl _,.full,rfl,.inl rfl⟩ ?_ ?_
 ·rintro k F G hk ⟨f10,f9,f8,f1,hx,tok,f5,hT⟩
  have h0:(0:Int)<=(k:Int):=Xa
  have hr:=ZKb hk
  have hk2:k<(l.map rwW).length:=by simpa using hk
  have hsn:=ZAZ hk2
  rw[zbp]at hsn
  have hin:=hi _ (zah hk)
  have hrl:(rS ((l.map rwW).take k)).length=k:=by simp;omega
  have hal:ZaE 1 (rS ((l.map rwW).take k))=true:=ZaU (f:=fun s:Tx=>[eS s]) (sz:=1) (fun _=>rfl) _
  have hm1:k+1<=maxLen:=by unfold maxLen;omega
  have hm2:(k+1) * 16<=140737488355328:=Xa
  have hw:=ZCE (s:=k) Xa
  generalize hR1:rS ((l.map rwW).take (k+1))=R1 at *
  generalize rS ((l.map rwW).take k)=R0 at *
  generalize l[k]=s at *
  obtain⟨a0,a1,a2,a3⟩:=ZHD s
  have hca:=fun H=>ZKI s H hin
  have hal2:ZaE 1 [[eS (rwW s)]]=true:=rfl
  rcases hT with rfl|⟨t',ht,rfl,hgt⟩
  ·refine Bz1 (X10 f10 f9 f8 f1 f5 h0 hr a0 a3 YZs) ?_
   refine qcp (hca _) fun k2=>?_
   refine Bz1 (X12 f10 f9 f8 f1 f5 hrl hal hal2 hm1 hm2 hsn hw) ?_
   have hnx:=hx.next
   exact⟨xX,_,by rw[hR1]<;>rfl,.inr ⟨_,Xe,rfl,Zaa.Zat rfl⟩⟩
  ·have lt':=Zaa.lt hgt
   refine Bz1 (X10 f10 f9 f8 f1 f5 h0 hr a0 a3 YZs) ?_
   refine qcp (hca _) fun k2=>?_
   refine Bz1 (X12 f10 f9 f8 f1 f5 hrl hal hal2 hm1 hm2 hsn (X2 hgt hw)) ?_
   exact⟨xX,_,by rw[hR1]<;>rfl,.inr ⟨t',ht,rfl,Zaa.Zal Xe⟩⟩
 ·rintro F G ⟨f10,f9,f8,f1,hx,tok,f5,hT⟩
  rw[zay Xc]at f5
  skip
  refine Bz1 (X4 f10 f9 f8 f5) ?_
  exact Zaq ⟨hx,tok,rfl⟩
theorem ZJR (l:List Pk) (H:Zaa) (hl:l.length<=1000) (hi:∀x∈l,ZIZ x):Zay Tryz.prog 18 [.sl .no (rP l),.fn 19 [] []] H (SlQ (l.map pkW) H):=by
 refine fnQ cf18 fun Q qr qn=>?_
 refine Bz3 (X1 YZs) ?_
 refine ZbJ (N:=l.length) (fun k F G=>Fr.get F 10=.i (k:Int)/\Fr.get F 9=.i (l.length:Int)/\Fr.get F 8=.sl .no (rP l)/\Fr.get F 1=.fn 19 [] []/\Zaa.Ext H G/\∃tok,Fr.get F 5=.sl tok (rS ((l.map pkW).take k))/\ZCe H.next G 9 1 k tok) Xd (fun k F G h=>⟨h.1,h.2.1⟩) (GStep.refl _ _) ⟨rfl,rfl,rfl,rfl,.refl _,.full,rfl,.inl rfl⟩ ?_ ?_
 ·rintro k F G hk ⟨f10,f9,f8,f1,hx,tok,f5,hT⟩
  have h0:(0:Int)<=(k:Int):=Xa
  have hr:=ZKg hk
  have hk2:k<(l.map pkW).length:=by simpa using hk
  have hsn:=ZAZ hk2
  rw[zbp]at hsn
  have hin:=hi _ (zah hk)
  have hrl:(rS ((l.map pkW).take k)).length=k:=by simp;omega
  have hal:ZaE 1 (rS ((l.map pkW).take k))=true:=ZaU (f:=fun s:Tx=>[eS s]) (sz:=1) (fun _=>rfl) _
  have hm1:k+1<=maxLen:=by unfold maxLen;omega
  have hm2:(k+1) * 16<=140737488355328:=Xa
  have hw:=ZCE (s:=k) Xa
  generalize hR1:rS ((l.map pkW).take (k+1))=R1 at *
  generalize rS ((l.map pkW).take k)=R0 at *
  generalize l[k]=s at *
  obtain⟨a0,a1,a2,a3,a4,a5,a6,a7,a8⟩:=ZHv s
  have hca:=fun H=>ZJV s H hin
  have hal2:ZaE 1 [[eS (pkW s)]]=true:=rfl
  rcases hT with rfl|⟨t',ht,rfl,hgt⟩
  ·refine Bz1 (X10 f10 f9 f8 f1 f5 h0 hr a0 a8 YZs) ?_
   refine qcp (hca _) fun k2=>?_
   refine Bz1 (X12 f10 f9 f8 f1 f5 hrl hal hal2 hm1 hm2 hsn hw) ?_
   have hnx:=hx.next
   exact⟨xX,_,by rw[hR1]<;>rfl,.inr ⟨_,Xe,rfl,Zaa.Zat rfl⟩⟩
  ·have lt':=Zaa.lt hgt
   refine Bz1 (X10 f10 f9 f8 f1 f5 h0 hr a0 a8 YZs) ?_
   refine qcp (hca _) fun k2=>?_
   refine Bz1 (X12 f10 f9 f8 f1 f5 hrl hal hal2 hm1 hm2 hsn (X2 hgt hw)) ?_
   exact⟨xX,_,by rw[hR1]<;>rfl,.inr ⟨t',ht,rfl,Zaa.Zal Xe⟩⟩
 ·rintro F G ⟨f10,f9,f8,f1,hx,tok,f5,hT⟩
  rw[zay Xc]at f5
  skip
  refine Bz1 (X4 f10 f9 f8 f5) ?_
  exact Zaq ⟨hx,tok,rfl⟩
theorem ZHN (t:Tok) (h:Tx) (l:List Tx) (H:Zaa) (hl:l.length<=900000) (hj:h.length+(ZBb l).length<=10000000):Zay Tryz.prog 12 [eS h,.sl t (rS l)] H (Pure H (eS (h++ZBb l))):=by
 have hx0:Zaa.Ext H H:=.refl _
 rw[<- ZJl]
 have hjn:∀t H,Zay Tryz.prog 38 [.sl t ([eS h] :: rS l),eS [32]] H (Pure H (eS (Lib.join (h :: l) [32]))):=fun t H=>ZAC t (h :: l) [32] H (by rw[ZJl,zaa];omega) (by rw[List.length_cons];omega)
 generalize Lib.join (h :: l) [32]=J at *
 have hal2:ZaE 1 [[eS h]]=true:=rfl
 have hall:ZaE 1 (rS l)=true:=ZaU (f:=fun s:Tx=>[eS s]) (sz:=1) (fun _=>rfl) _
 have hrl:(rS l).length=l.length:=Xc
 generalize hR0:rS l=R0 at *
 cases R0 with
 | nil =>
  have hq1:1+([]:List (List AV)).length<=maxLen:=ZAp Xc
  have hq3:1<=maxLen:=ZAp Xc
  have hq2:(1+([]:List (List AV)).length) * 16<=140737488355328:=Xc
  refine fnQ cf12 fun Q qr qn=>?_
  refine Bz1 (X5 hall hal2 hq1 hq2 hq3) ?_
  refine qcp (hjn _ _) fun k1=>?_
  refine Bz0 ?_
  exact ZaW xX rfl
 | cons y R0 =>
  rw[List.length_cons]at hrl
  have hq1:1+(R0.length+1)<=maxLen:=ZAp Xa
  have hq2:(1+(R0.length+1)) * 16<=140737488355328:=Xa
  refine fnQ cf12 fun Q qr qn=>?_
  refine Bz5 (X4 hall hal2 hq1 hq2) ?_
  refine qcp (hjn _ _) fun k1=>?_
  refine Bz0 ?_
  exact ZaW xX rfl
theorem ZKC (k:Int) (d:Tx) (H:Zaa) (hk:InI k) (hd:d.length<=100000):Zay Tryz.prog 21 [.agg [.i k,eS d]] H (Pure H (eS (ZH9 k d))):=by
 have hx0:Zaa.Ext H H:=.refl _
 obtain⟨h1,h2⟩:=hk
 have hdg:∀H,Zay Tryz.prog 50 [.i k] H (Pure H (eS (itoa k))):=fun H=>Same.pure (ZAB k H h1 h2)
 have hwd:=fun H=>ZyQ d H hd
 have til:=Zz8 (n:=k) ⟨h1,h2⟩
 have wl:=ZzU d
 have hv:ZH9 k d=[114,97,119]++ZBb [itoa k,ZyH d]:=by unfold ZH9 ZLT;simp[ZBb]
 rw[hv]
 generalize itoa k=It at *
 generalize ZyH d=W at *
 have hln:∀t H,Zay Tryz.prog 12 [eS [114,97,119],.sl t [[eS It],[eS W]]] H (Pure H (eS ([114,97,119]++ZBb [It,W]))):=fun t H=>ZHN t [114,97,119] [It,W] H Xc (by simp[ZBb];omega)
 generalize [114,97,119]++ZBb [It,W]=L at *
 refine fnQ cf21 fun Q qr qn=>?_
 refine Bz0 ?_
 refine qcp (hdg _) fun k1=>?_
 refine Bz0 ?_
 refine qcp (hwd _) fun k2=>?_
 refine Bz0 ?_
 refine qcp (hln _ _) fun k3=>?_
 refine Bz0 ?_
 exact ZaW xX rfl
theorem Zjy (k:Int) (H:Zaa) (hk:k=4\/k=6\/k=7):Zay Tryz.prog 20 [.i k] H (Pure H (eS (if k=4 then ZBk else if k=6 then ZCB else ZDA))):=by
 rcases hk with rfl|rfl|rfl
 all_goals
  refine fnQ cf20 fun Q qr qn=>?_
  refine Bz0 ?_
  refine Zcm (by rfl)
open Go.RowKit Go.Lib
theorem ZKt (s:Sc) (k:Int) (d:Tx) (H:Zaa) (hsm:Zh1 s) (hk:InI k) (hd:d.length<=10000):Zay Tryz.prog 6 [.agg (eSc s),.agg [.i k,eS d]] H (Pure H (eS (showW s k d))):=by
 have hx0:Zaa.Ext H H:=.refl _
 obtain⟨e0,e1,e2,e3⟩:=ZbB s
 have hraw:=fun H=>ZKC k d H hk Xa
 have hsc:=fun H=>ZLz d H Xa
 have hrt:=fun H=>ZLj s d H Xa hsm
 have hpt:=fun H=>ZLC s d H Xa hsm
 have z1:((0:Int) == 0)=true:=rfl
 have hcr:∀(t:Tok) (l:List Tx) H,l.length<=900000->(ZBb l).length<=9000000->Zay Tryz.prog 12 [eS [99,114,101,97,116,101],.sl t (rS l)] H (Pure H (eS (ZA8++ZBb l))):=fun t l H h1 h2=>ZHN t ZA8 l H h1 (by unfold ZA8;simp;omega)
 have hlo:∀(t:Tok) (l:List Tx) H,l.length<=900000->(ZBb l).length<=9000000->Zay Tryz.prog 12 [eS [108,111,97,100],.sl t (rS l)] H (Pure H (eS (ZBN++ZBb l))):=fun t l H h1 h2=>ZHN t ZBN l H h1 (by unfold ZBN;simp;omega)
 have hme:∀(t:Tok) (l:List Tx) H,l.length<=900000->(ZBb l).length<=9000000->Zay Tryz.prog 12 [eS [109,101,114,103,101],.sl t (rS l)] H (Pure H (eS (ZBy++ZBb l))):=fun t l H h1 h2=>ZHN t ZBy l H h1 (by unfold ZBy;simp;omega)
 have has:∀(t:Tok) (l:List Tx) H,l.length<=900000->(ZBb l).length<=9000000->Zay Tryz.prog 12 [eS [97,115,107],.sl t (rS l)] H (Pure H (eS (ZF3++ZBb l))):=fun t l H h1 h2=>ZHN t ZF3 l H h1 (by unfold ZF3;simp;omega)
 by_cases h1:k=1
 ·subst h1
  unfold showW
  rw[if_pos rfl]
  unfold ScQ at hsc
  cases hw:wholeSc d with
  | some x =>
   rw[hw]at hsc
   have hsc:∀H,Zay Tryz.prog 11 [eS d] H (Pure H (.tup [.agg (eSc x),.i 0])):=hsc
   obtain⟨hxe,hxd⟩:=ZI8 hw
   have hJ:=fun H=>ZiK x H hxe
   have hjl:=ZIS hxe
   have hsl:=ZFV hxe
   obtain⟨x0,x1,x2,x3⟩:=ZbB x
   have hcr:=fun H=>hcr .no (ZBi x) H Xa Xa
   show Zay Tryz.prog 6 [.agg (eSc s),.agg [.i 1,eS d]] H (Pure H (eS (ZA8++ZBb (ZBi x))))
   generalize ZA8++ZBb (ZBi x)=J at *
   refine fnQ cf6 fun Q qr qn=>?_
   refine Bz1 (X5 e0 e1 e2 e3 YZs) ?_
   refine qcp (hsc _) fun k1=>?_
   refine Bz1 (X10 z1 x0 x1 x2 x3 e0 e1 e2 e3 YZs) ?_
   refine qcp (hJ _) fun k2=>?_
   refine Bz0 ?_
   refine qcp (hcr _) fun k3=>?_
   refine Bz0 ?_
   exact ZaW xX rfl
  | none =>
   rw[hw]at hsc
   have hsc:∀H,Zay Tryz.prog 11 [eS d] H (fun v G=>∃e,e≠0/\Pure H (.tup [.agg (eSc ⟨[],[]⟩),.i e]) v G):=hsc
   obtain⟨x0,x1,x2,x3⟩:=ZbB ⟨[],[]⟩
   show Zay Tryz.prog 6 [.agg (eSc s),.agg [.i 1,eS d]] H (Pure H (eS (ZH9 1 d)))
   refine fnQ cf6 fun Q qr qn=>?_
   refine Bz1 (X5 e0 e1 e2 e3 YZs) ?_
   refine Zap.use (hsc _) ?_
   rintro _ _ ⟨e,he,rfl,k1,rfl⟩
   obtain⟨_,dz⟩:=ZHs he
   refine Bz1 (X8 dz x0 x3 e0 e1 e2 e3 YZs) ?_
   refine qcp (hraw _) fun k9=>?_
   refine Bz0 ?_
   exact ZaW xX rfl
 by_cases h2:k=2
 ·subst h2
  unfold showW
  rw[if_neg Xb,if_pos Xb]
  unfold ZJj at hrt
  cases hw:rowsR s d with
  | some l =>
   rw[hw]at hrt
   have hrt:∀H,Zay Tryz.prog 14 [.agg (eSc s),eS d] H (Pure H (.tup [.sl .no (rR l),.i 0])):=hrt
   obtain⟨_,hl3,_,hrs,_⟩:=ZIi hw
   have hEa:=fun H=>ZIB l H Xa hrs
   have hjl:=ZHI (f:=rwW) (l:=l) fun x hx=>ZIm (hrs x hx)
   have hlo:=fun t H=>hlo t (l.map rwW) H (by rw[zan];omega) Xa
   show Zay Tryz.prog 6 [.agg (eSc s),.agg [.i 2,eS d]] H (Pure H (eS (ZBN++ZBb (l.map rwW))))
   generalize ZBN++ZBb (l.map rwW)=J at *
   have w1:IntKind.i64.wrap ((2:Int) - 2)=0:=rfl
   have w2:(0:Int).toNat=0:=rfl
   have w3:(0:Int)<=0:=Xb
   refine fnQ cf6 fun Q qr qn=>?_
   refine Bz1 (X5 e0 e1 e2 e3 YZs) ?_
   refine qcp (hrt _) fun k1=>?_
   refine Bz1 (X9 z1 w1 w2 w3 e0 e1 e2 e3 YZs) ?_
   refine Zap.use (hEa _) ?_
   rintro _ G ⟨hxG,tok,rfl⟩
   have hxH:Zaa.Ext H G:=Zaa.Ext.trans xX hxG
   have g3:=hxG.get (H.next+1) (.cells [.i 2,eS d] 27) (by repeat (first|rw[Zaa.ZaB]|exact Zaa.Zat xN))
   refine Bz1 (X10 z1 w1 w2 w3 g3 e0 e1 e2 e3 YZs) ?_
   refine qcp (hlo _ _) fun k3=>?_
   refine Bz0 ?_
   exact ZaW xX rfl
  | none =>
   rw[hw]at hrt
   have hrt:∀H,Zay Tryz.prog 14 [.agg (eSc s),eS d] H (fun v G=>∃x e,e≠0/\Pure H (.tup [.sl .no x,.i e]) v G):=hrt
   show Zay Tryz.prog 6 [.agg (eSc s),.agg [.i 2,eS d]] H (Pure H (eS (ZH9 2 d)))
   refine fnQ cf6 fun Q qr qn=>?_
   refine Bz1 (X5 e0 e1 e2 e3 YZs) ?_
   refine Zap.use (hrt _) ?_
   rintro _ _ ⟨x,e,he,rfl,k1,rfl⟩
   obtain⟨_,dz⟩:=ZHs he
   refine Bz1 (X6 dz e0 e1 e2 e3 YZs) ?_
   refine qcp (hraw _) fun k9=>?_
   refine Bz0 ?_
   exact ZaW xX rfl
 by_cases h3:k=3
 ·subst h3
  unfold showW
  rw[if_neg Xb,if_pos Xb]
  unfold ZJj at hrt
  cases hw:rowsR s d with
  | some l =>
   rw[hw]at hrt
   have hrt:∀H,Zay Tryz.prog 14 [.agg (eSc s),eS d] H (Pure H (.tup [.sl .no (rR l),.i 0])):=hrt
   obtain⟨_,hl3,_,hrs,_⟩:=ZIi hw
   have hEa:=fun H=>ZIB l H Xa hrs
   have hjl:=ZHI (f:=rwW) (l:=l) fun x hx=>ZIm (hrs x hx)
   have hme:=fun t H=>hme t (l.map rwW) H (by rw[zan];omega) Xa
   show Zay Tryz.prog 6 [.agg (eSc s),.agg [.i 3,eS d]] H (Pure H (eS (ZBy++ZBb (l.map rwW))))
   generalize ZBy++ZBb (l.map rwW)=J at *
   have w1:IntKind.i64.wrap ((3:Int) - 2)=1:=rfl
   have w2:(1:Int).toNat=1:=rfl
   have w3:(0:Int)<=1:=Xb
   refine fnQ cf6 fun Q qr qn=>?_
   refine Bz1 (X5 e0 e1 e2 e3 YZs) ?_
   refine qcp (hrt _) fun k1=>?_
   refine Bz1 (X9 z1 w1 w2 w3 e0 e1 e2 e3 YZs) ?_
   refine Zap.use (hEa _) ?_
   rintro _ G ⟨hxG,tok,rfl⟩
   have hxH:Zaa.Ext H G:=Zaa.Ext.trans xX hxG
   have g3:=hxG.get (H.next+1) (.cells [.i 3,eS d] 27) (by repeat (first|rw[Zaa.ZaB]|exact Zaa.Zat xN))
   refine Bz1 (X10 z1 w1 w2 w3 g3 e0 e1 e2 e3 YZs) ?_
   refine qcp (hme _ _) fun k3=>?_
   refine Bz0 ?_
   exact ZaW xX rfl
  | none =>
   rw[hw]at hrt
   have hrt:∀H,Zay Tryz.prog 14 [.agg (eSc s),eS d] H (fun v G=>∃x e,e≠0/\Pure H (.tup [.sl .no x,.i e]) v G):=hrt
   show Zay Tryz.prog 6 [.agg (eSc s),.agg [.i 3,eS d]] H (Pure H (eS (ZH9 3 d)))
   refine fnQ cf6 fun Q qr qn=>?_
   refine Bz1 (X5 e0 e1 e2 e3 YZs) ?_
   refine Zap.use (hrt _) ?_
   rintro _ _ ⟨x,e,he,rfl,k1,rfl⟩
   obtain⟨_,dz⟩:=ZHs he
   refine Bz1 (X6 dz e0 e1 e2 e3 YZs) ?_
   refine qcp (hraw _) fun k9=>?_
   refine Bz0 ?_
   exact ZaW xX rfl
 by_cases h5:k=5
 ·subst h5
  unfold showW
  rw[if_neg Xb,if_neg Xb,if_pos rfl]
  unfold ZIK at hpt
  cases hw:picksR s d with
  | some l =>
   rw[hw]at hpt
   have hpt:∀H,Zay Tryz.prog 17 [.agg (eSc s),eS d] H (Pure H (.tup [.agg [.sl .no (rP l)],.i 0])):=hpt
   obtain⟨_,hl3,hps,_⟩:=ZIw hw
   have hEa:=fun H=>ZJR l H Xa hps
   have hjl:=ZHI (f:=pkW) (l:=l) fun x hx=>ZIx (hps x hx)
   have has:=fun t H=>has t (l.map pkW) H (by rw[zan];omega) Xa
   show Zay Tryz.prog 6 [.agg (eSc s),.agg [.i 5,eS d]] H (Pure H (eS (ZF3++ZBb (l.map pkW))))
   generalize ZF3++ZBb (l.map pkW)=J at *
   refine fnQ cf6 fun Q qr qn=>?_
   refine Bz1 (X5 e0 e1 e2 e3 YZs) ?_
   refine qcp (hpt _) fun k1=>?_
   refine Bz1 (X6 z1 e0 e1 e2 e3 YZs) ?_
   refine Zap.use (hEa _) ?_
   rintro _ G ⟨hxG,tok,rfl⟩
   have hxH:Zaa.Ext H G:=Zaa.Ext.trans xX hxG
   refine Bz0 ?_
   refine qcp (has _ _) fun k3=>?_
   refine Bz0 ?_
   exact ZaW xX rfl
  | none =>
   rw[hw]at hpt
   have hpt:∀H,Zay Tryz.prog 17 [.agg (eSc s),eS d] H (fun v G=>∃x e,e≠0/\Pure H (.tup [.agg [.sl .no x],.i e]) v G):=hpt
   show Zay Tryz.prog 6 [.agg (eSc s),.agg [.i 5,eS d]] H (Pure H (eS (ZH9 5 d)))
   refine fnQ cf6 fun Q qr qn=>?_
   refine Bz1 (X5 e0 e1 e2 e3 YZs) ?_
   refine Zap.use (hpt _) ?_
   rintro _ _ ⟨x,e,he,rfl,k1,rfl⟩
   obtain⟨_,dz⟩:=ZHs he
   refine Bz1 (X6 dz e0 e1 e2 e3 YZs) ?_
   refine qcp (hraw _) fun k9=>?_
   refine Bz0 ?_
   exact ZaW xX rfl
 have hv:showW s k d=if d=[]/\k=4 then ZBk else if d=[]/\k=6 then ZCB else if d=[]/\k=7 then ZDA else ZH9 k d:=by
  unfold showW
  rw[if_neg h1,if_neg (fun h=>h.elim h2 h3),if_neg h5]
 rw[hv]
 have y1:(k == 1)=false:=by simpa using h1
 have y2:(k == 2)=false:=by simpa using h2
 have y3:(k == 3)=false:=by simpa using h3
 have y5:(k == 5)=false:=by simpa using h5
 by_cases h467:k=4\/k=6\/k=7
 ·have hbn:=fun H=>Zjy k H h467
  by_cases hd0:d=[]
  ·have dE:decide (d=([]:Tx))=true:=decide_eq_true hd0
   have hv2:(if d=[]/\k=4 then ZBk else if d=[]/\k=6 then ZCB else if d=[]/\k=7 then ZDA else ZH9 k d)=(if k=4 then ZBk else if k=6 then ZCB else ZDA):=by
    rcases h467 with rfl|rfl|rfl
    ·rw[if_pos ⟨hd0,rfl⟩,if_pos rfl]
    ·rw[if_neg Xc,if_pos ⟨hd0,rfl⟩,if_neg Xb,if_pos rfl]
    ·rw[if_neg Xc,if_neg Xc,if_pos ⟨hd0,rfl⟩,if_neg Xb,if_neg Xb]
   rw[hv2]
   generalize (if k=4 then ZBk else if k=6 then ZCB else ZDA)=J at *
   rcases h467 with rfl|rfl|rfl
   all_goals
    refine fnQ cf6 fun Q qr qn=>?_
    refine Bz1 (X6 dE e0 e1 e2 e3 YZs) ?_
    refine qcp (hbn _) fun k1=>?_
    refine Bz0 ?_
    exact ZaW xX rfl
  ·have dN:decide (d=([]:Tx))=false:=decide_eq_false hd0
   rw[if_neg fun h=>hd0 h.1,if_neg fun h=>hd0 h.1,if_neg fun h=>hd0 h.1]
   rcases h467 with rfl|rfl|rfl
   all_goals
    refine fnQ cf6 fun Q qr qn=>?_
    refine Bz1 (X6 dN e0 e1 e2 e3 YZs) ?_
    refine qcp (hraw _) fun k9=>?_
    refine Bz0 ?_
    exact ZaW xX rfl
 ·have y4:(k == 4)=false:=by simp only[beq_eq_false_iff_ne];omega
  have y6:(k == 6)=false:=by simp only[beq_eq_false_iff_ne];omega
  have y7:(k == 7)=false:=by simp only[beq_eq_false_iff_ne];omega
  rw[if_neg fun h=>h467 (.inl h.2),if_neg fun h=>h467 (.inr (.inl h.2)),if_neg fun h=>h467 (.inr (.inr h.2))]
  refine fnQ cf6 fun Q qr qn=>?_
  refine Bz1 (X12 y1 y2 y3 y4 y5 y6 y7 e0 e1 e2 e3 YZs) ?_
  refine qcp (hraw _) fun k9=>?_
  refine Bz0 ?_
  exact ZaW xX rfl
open Go.RowKit Go.Lib
theorem HX.quiet {O:List (Nat×Zb3)} {H G G1:Zaa} (h:HX O H G) (k:HX [] G G1):HX O H G1 :=
 ⟨zaM h.n k.n,fun p hp=>(k.g _ (Zaa.lt (h.o p hp)) Xc).trans (h.o p hp),fun j hj hne=>(k.g _ (zaJ hj h.n) Xc).trans (h.g j hj hne)⟩
def FewT (t:Tir):Prop:=t.terms.length<=220/\t.up.length<=220
def FewTQ (t:Tir) (H:Zaa) (r:AV) (H':Zaa):Prop:=HX [] H H'/\∃b,r=.b b/\(b=true->FewT t)
theorem Zi5 (t:Tir) (H:Zaa):Zay Tryz.prog 34 [.agg (eTr t)] H (FewTQ t H):=by
 obtain⟨f0,f1,f2,f3,f4⟩:=Zba t
 have hmin:(if (5000:Int)<(t.name.length:Int) then (5000:Int) else (t.name.length:Int))=((min t.name.length 5000:Nat):Int):=by split<;>omega
 have hmin:∀q:List UInt8,(if (5000:Int)<(q.length:Int) then (5000:Int) else (q.length:Int))=((min q.length 5000:Nat):Int):=fun q=>by split<;>omega
 have g1:(H.alloc (.cells (eTr t) 42)).get H.next=some (.cells (eTr t) 42):=Zaa.Zae
 have l1:H.next<(H.alloc (.cells (eTr t) 42)).next:=Xc
 have hx0:HX [] H (H.alloc (.cells (eTr t) 42)):=(HX.ini (by simp[Zc5])).alloc
 refine fnQ cf34 fun Q qr qn=>?_
 refine Bz1 (X4 f0 f1 f4 hmin) ?_
 generalize H.alloc (.cells (eTr t) 42)=G0 at *
 refine Zcw [1] (σ:=Nat×Nat) (fun s=>s.1<=t.terms.length/\s.1<=221/\s.2<=(s.1+1) * 5000) (fun s=>t.terms.length - s.1) (fun s=>[(3,.i (s.2:Int)),(4,.i (s.1:Int))]) (fun s=>[]) (0,min t.name.length 5000) (GStep.refl _ _) xV ?_ xT xU ?_
 ·exact⟨Xc,Xc,by simp only;omega⟩
 ·(rintro⟨i,n⟩ G ⟨h1,h2,h3⟩ hG hn;try simp only[nx]at hn)
  simp only at h1 h2 h3
  have hc1:=(hG.g _ l1 Xc).trans g1
  have lc1:=Zaa.lt hc1
  by_cases c1:i<t.terms.length
  ·have d1:decide ((i:Int)<(t.terms.length:Int))=true:=by simp;omega
   by_cases c2:i<=220
   ·have d2:decide ((i:Int)<=220)=true:=by simp;omega
    have h0:(0:Int)<=(i:Int):=Xa
    have hr:(rS t.terms)[i]?=some [eS t.terms[i]]:=by simp[c1]
    have hw1:IntKind.i64.wrap ((n:Int)+((min t.terms[i].length 5000:Nat):Int))=((n+min t.terms[i].length 5000:Nat):Int):=by rw[Zaw Xa Xa];omega
    have hw2:IntKind.i64.wrap ((i:Int)+1)=((i+1:Nat):Int):=by rw[Zaw Xa Xa];omega
    refine Bz3 (X11 d1 d2 f0 f2 hc1 h0 c1 hr hmin hw1 hw2) ?_
    exact⟨(i+1,n+min t.terms[i].length 5000),⟨by simp only;omega,by simp only;omega,by simp only;omega⟩,by simp only;omega,⟨rfl,rfl⟩,hG⟩
   ·have d2:decide ((i:Int)<=220)=false:=by simp;omega
    have d3:decide ((t.terms.length:Int)<=220)=false:=by simp;omega
    refine Bz3 (X6 d1 d2 d3 hc1 f2 f3) ?_
    exact Zaq ⟨hx0.quiet hG,_,rfl,fun e=>by cases e⟩
  ·have d1:decide ((i:Int)<(t.terms.length:Int))=false:=by simp;omega
   by_cases c3:t.terms.length<=220/\t.up.length<=220
   ·have d3:decide ((t.terms.length:Int)<=220)=true:=by simp;omega
    have d4:decide ((t.up.length:Int)<=220)=true:=by simp;omega
    refine Bz3 (X6 d1 d3 d4 hc1 f2 f3) ?_
    exact Zaq ⟨hx0.quiet hG,_,rfl,fun _=>c3⟩
   ·by_cases c4:t.terms.length<=220
    ·have d3:decide ((t.terms.length:Int)<=220)=true:=by simp;omega
     have d4:decide ((t.up.length:Int)<=220)=false:=by simp;omega
     refine Bz3 (X6 d1 d3 d4 hc1 f2 f3) ?_
     exact Zaq ⟨hx0.quiet hG,_,rfl,fun e=>by cases e⟩
    ·have d3:decide ((t.terms.length:Int)<=220)=false:=by simp;omega
     refine Bz3 (X5 d1 d3 hc1 f2 f3) ?_
     exact Zaq ⟨hx0.quiet hG,_,rfl,fun e=>by cases e⟩
def FewD (d:Dm):Prop:=d.tiers.length<=6/\∀t∈d.tiers,FewT t
def FewDQ (d:Dm) (H:Zaa) (r:AV) (H':Zaa):Prop:=HX [] H H'/\∃b,r=.b b/\(b=true->FewD d)
theorem Zjv (d:Dm) (H:Zaa):Zay Tryz.prog 10 [.agg (eDm d)] H (FewDQ d H):=by
 obtain⟨f0,f1,f2,f3⟩:=Za7 d
 have g1:(H.alloc (.cells (eDm d) 39)).get H.next=some (.cells (eDm d) 39):=Zaa.Zae
 have l1:H.next<(H.alloc (.cells (eDm d) 39)).next:=Xc
 have hx0:HX [] H (H.alloc (.cells (eDm d) 39)):=(HX.ini (by simp[Zc5])).alloc
 refine fnQ cf10 fun Q qr qn=>?_
 refine Bz0 ?_
 generalize H.alloc (.cells (eDm d) 39)=G0 at *
 refine Zcw [1] (σ:=Nat) (fun s=>s<=d.tiers.length/\s<=7/\∀t∈d.tiers.take s,FewT t) (fun s=>d.tiers.length - s) (fun s=>[(3,.i (s:Int))]) (fun s=>[]) 0 (GStep.refl _ _) xV ?_ xT xU ?_
 ·exact⟨Xc,Xc,Xc⟩
 ·(rintro i G ⟨h1,h2,h3⟩ hG hn;try simp only[nx]at hn)
  have hc1:=(hG.g _ l1 Xc).trans g1
  have lc1:=Zaa.lt hc1
  by_cases c1:i<d.tiers.length
  ·have d1:decide ((i:Int)<(d.tiers.length:Int))=true:=by simp;omega
   by_cases c2:i<=6
   ·have d2:decide ((i:Int)<=6)=true:=by simp;omega
    have h0:(0:Int)<=(i:Int):=Xa
    have hr:=Zdh c1
    obtain⟨t0,t1,t2,t3,t4⟩:=Zba d.tiers[i]
    have hw2:IntKind.i64.wrap ((i:Int)+1)=((i+1:Nat):Int):=by rw[Zaw Xa Xa];omega
    refine Bz3 (X10 d1 d2 f2 hc1 h0 c1 hr t0 t4 hw2) ?_
    refine Zap.use (Zi5 d.tiers[i] _) ?_
    rintro r G2 ⟨hx2,b,rfl,hb⟩
    cases b with
    | false =>
     refine Bz0 ?_
     exact Zaq ⟨(hx0.quiet hG).quiet hx2,_,rfl,fun e=>by cases e⟩
    | true =>
     refine Bz1 (X1 hw2) ?_
     refine⟨i+1,⟨Xa,Xa,fun t ht=>?_⟩,Xa,rfl,hG.quiet hx2⟩
     rw[zae c1]at ht
     rcases zaj.1 ht with ht|ht
     ·exact h3 t ht
     ·rw[zat.1 ht];exact hb rfl
   ·have d2:decide ((i:Int)<=6)=false:=by simp;omega
    have d3:decide ((d.tiers.length:Int)<=6)=false:=by simp;omega
    refine Bz3 (X5 d1 d2 d3 hc1 f2) ?_
    exact Zaq ⟨hx0.quiet hG,_,rfl,fun e=>by cases e⟩
  ·have d1:decide ((i:Int)<(d.tiers.length:Int))=false:=by simp;omega
   by_cases c3:d.tiers.length<=6
   ·have d3:decide ((d.tiers.length:Int)<=6)=true:=by simp;omega
    refine Bz3 (X5 d1 d3 hc1 f1 f2) ?_
    exact Zaq ⟨hx0.quiet hG,_,rfl,fun _=>⟨c3,by rw[zay Xa]at h3;exact h3⟩⟩
   ·have d3:decide ((d.tiers.length:Int)<=6)=false:=by simp;omega
    refine Bz3 (X4 d1 d3 hc1 f2) ?_
    exact Zaq ⟨hx0.quiet hG,_,rfl,fun e=>by cases e⟩
def FewS (S:Sc):Prop:=S.dims.length<=20/\∀d∈S.dims,FewD d
def FewSQ (S:Sc) (H:Zaa) (r:AV) (H':Zaa):Prop:=HX [] H H'/\∃b,r=.b b/\(b=true->FewS S)
theorem ZiT (S:Sc) (H:Zaa):Zay Tryz.prog 4 [.agg (eSc S)] H (FewSQ S H):=by
 obtain⟨f0,f1,f2,f3⟩:=ZbB S
 have g1:(H.alloc (.cells (eSc S) 25)).get H.next=some (.cells (eSc S) 25):=Zaa.Zae
 have l1:H.next<(H.alloc (.cells (eSc S) 25)).next:=Xc
 have hx0:HX [] H (H.alloc (.cells (eSc S) 25)):=(HX.ini (by simp[Zc5])).alloc
 refine fnQ cf4 fun Q qr qn=>?_
 refine Bz0 ?_
 generalize H.alloc (.cells (eSc S) 25)=G0 at *
 refine Zcw [1] (σ:=Nat×Nat) (fun s=>s.1<=S.dims.length/\s.1<=21/\s.2<=s.1 * 1320/\∀d∈S.dims.take s.1,FewD d) (fun s=>S.dims.length - s.1) (fun s=>[(3,.i (s.2:Int)),(4,.i (s.1:Int))]) (fun s=>[]) (0,0) (GStep.refl _ _) xV ?_ xT xU ?_
 ·exact⟨Xc,Xc,Xc,Xc⟩
 ·(rintro⟨i,n⟩ G ⟨h1,h2,h3,h4⟩ hG hn;try simp only[nx]at hn)
  simp only at h1 h2 h3 h4
  have hc1:=(hG.g _ l1 Xc).trans g1
  have lc1:=Zaa.lt hc1
  by_cases c1:i<S.dims.length
  ·have d1:decide ((i:Int)<(S.dims.length:Int))=true:=by simp;omega
   by_cases c2:i<=20
   ·have d2:decide ((i:Int)<=20)=true:=by simp;omega
    have h0:(0:Int)<=(i:Int):=Xa
    have hr:=ZjQ c1
    obtain⟨q0,q1,q2,q3⟩:=Za7 S.dims[i]
    refine Bz3 (X9 d1 d2 f1 hc1 h0 c1 hr q0 q3) ?_
    refine Zap.use (Zjv S.dims[i] _) ?_
    rintro r G2 ⟨hx2,b,rfl,hb⟩
    cases b with
    | false =>
     refine Bz0 ?_
     exact Zaq ⟨(hx0.quiet hG).quiet hx2,_,rfl,fun e=>by cases e⟩
    | true =>
     have hb:=hb rfl
     have hc2:=(hx2.g _ lc1 Xc).trans hc1
     have lc2:=Zaa.lt hc2
     have hn2:=hx2.n
     generalize hdd:S.dims[i]=d at *
     obtain⟨w1,w2⟩:=hb
     refine Bz3 (X7 hc2 f1 c1 hr q0 q2 h0) ?_
     refine Zbs [1,4,32,33] (σ:=Nat) (fun(k:Nat) s=>s<=n+k * 220) (fun k s=>[(3,.i (s:Int))]) (fun k s=>[]) n (GStep.refl _ _) xV xW xW (by rfl) Xd ?_ xT xU ?_ ?_
     ·simp
     ·(rintro k m G3 hk hm hG3 hn3;try simp only[nx]at hn3)
      have hrt:=Zdh hk
      obtain⟨t0,t1,t2,t3,t4⟩:=Zba d.tiers[k]
      have ht:=(w2 _ (zah hk)).1
      have td:(eTr d.tiers[k]).drop 3=[]:=rfl
      generalize d.tiers[k]=t at *
      have hw1:IntKind.i64.wrap ((m:Int)+(t.terms.length:Int))=((m+t.terms.length:Nat):Int):=by rw[Zaw Xa Xa];omega
      refine Bz5 (X6 hrt t0 t2 t4 td hw1) ?_
      exact⟨m+t.terms.length,Xa,rfl,hG3.alloc⟩
     ·(rintro m G3 hm hG3 hn3;try simp only[nx]at hn3)
      have hw2:IntKind.i64.wrap ((i:Int)+1)=((i+1:Nat):Int):=by rw[Zaw Xa Xa];omega
      refine Bz1 (X1 hw2) ?_
      refine⟨(i+1,m),⟨by simp only;omega,by simp only;omega,by simp only;omega,fun e he=>?_⟩,by simp only;omega,⟨rfl,rfl⟩,(hG.quiet hx2).quiet hG3⟩
      rw[zae c1]at he
      rcases zaj.1 he with he|he
      ·exact h4 e he
      ·rw[zat.1 he,hdd];exact⟨w1,w2⟩
   ·have d2:decide ((i:Int)<=20)=false:=by simp;omega
    have hfew:S.dims.length<=20->FewS S:=fun h=>by omega
    refine Bz3 (X4 d1 d2 hc1 f1) ?_
    refine Zcw [1,3] (σ:=Nat×Nat) (fun s=>s.1<=S.meas.length/\s.1<=6/\s.2<=s.1 * 1000) (fun s=>S.meas.length - s.1) (fun s=>[(7,.i (s.2:Int)),(8,.i (s.1:Int))]) (fun s=>[]) (0,0) (GStep.refl _ _) xV ?_ xT xU ?_
    ·exact⟨Xc,Xc,Xc⟩
    ·(rintro⟨j,m⟩ G2 ⟨k1,k2,k3⟩ hG2 hn2;try simp only[nx]at hn2)
     simp only at k1 k2 k3
     have hc2:=(hG2.g _ lc1 Xc).trans hc1
     have lc2:=Zaa.lt hc2
     have hxx:=(hx0.quiet hG).quiet hG2
     by_cases e1:j<S.meas.length
     ·have g1:decide ((j:Int)<(S.meas.length:Int))=true:=by simp;omega
      by_cases e2:j<=5
      ·have g2:decide ((j:Int)<=5)=true:=by simp;omega
       have h0:(0:Int)<=(j:Int):=Xa
       have hr:(rS S.meas)[j]?=some [eS S.meas[j]]:=by simp[e1]
       have hmin:(if (1000:Int)<(S.meas[j].length:Int) then (1000:Int) else (S.meas[j].length:Int))=((min S.meas[j].length 1000:Nat):Int):=by split<;>omega
       have hw1:IntKind.i64.wrap ((m:Int)+((min S.meas[j].length 1000:Nat):Int))=((m+min S.meas[j].length 1000:Nat):Int):=by rw[Zaw Xa Xa];omega
       have hw2:IntKind.i64.wrap ((j:Int)+1)=((j+1:Nat):Int):=by rw[Zaw Xa Xa];omega
       refine Bz3 (X10 g1 g2 f2 hc2 h0 e1 hr hmin hw1 hw2) ?_
       exact⟨(j+1,m+min S.meas[j].length 1000),⟨by simp only;omega,by simp only;omega,by simp only;omega⟩,by simp only;omega,⟨rfl,rfl⟩,hG2⟩
      ·have g2:decide ((j:Int)<=5)=false:=by simp;omega
       have g4:decide ((S.meas.length:Int)<=5)=false:=by simp;omega
       by_cases c5:S.dims.length<=20
       ·have d5:decide ((S.dims.length:Int)<=20)=true:=by simp;omega
        refine Bz3 (X7 g1 g2 g4 d5 hc2 f1 f2) ?_
        exact Zaq ⟨hxx,_,rfl,fun e=>by cases e⟩
       ·have d5:decide ((S.dims.length:Int)<=20)=false:=by simp;omega
        refine Bz3 (X6 g1 g2 d5 hc2 f1 f2) ?_
        exact Zaq ⟨hxx,_,rfl,fun e=>by cases e⟩
     ·have g1:decide ((j:Int)<(S.meas.length:Int))=false:=by simp;omega
      by_cases c5:S.dims.length<=20
      ·have d5:decide ((S.dims.length:Int)<=20)=true:=by simp;omega
       ((have hd:=tv;repeat' first|(first|apply Zad|apply Zac|apply Zab)<;>intro hd<;>try simp only[hd]|simp(disch:=first|assumption|omega|simp only[nx]<;>omega|fail)only[hd,qr,qn,c4_0,↓YA,YY,sevalprocAttr,g1,d5,hc2,f1,f2,zan])<;>try revert hd;refine ttr ?_)
       all_goals exact Zaq ⟨hxx,_,rfl,fun _=>hfew c5⟩
      ·have d5:decide ((S.dims.length:Int)<=20)=false:=by simp;omega
       refine Bz3 (X5 g1 d5 hc2 f1 f2) ?_
       exact Zaq ⟨hxx,_,rfl,fun e=>by cases e⟩
  ·have d1:decide ((i:Int)<(S.dims.length:Int))=false:=by simp;omega
   have hfew:S.dims.length<=20->FewS S:=fun h=>⟨h,by rw[zay Xa]at h4;exact h4⟩
   refine Bz3 (X3 d1 hc1 f1) ?_
   refine Zcw [1,3] (σ:=Nat×Nat) (fun s=>s.1<=S.meas.length/\s.1<=6/\s.2<=s.1 * 1000) (fun s=>S.meas.length - s.1) (fun s=>[(7,.i (s.2:Int)),(8,.i (s.1:Int))]) (fun s=>[]) (0,0) (GStep.refl _ _) xV ?_ xT xU ?_
   ·exact⟨Xc,Xc,Xc⟩
   ·(rintro⟨j,m⟩ G2 ⟨k1,k2,k3⟩ hG2 hn2;try simp only[nx]at hn2)
    simp only at k1 k2 k3
    have hc2:=(hG2.g _ lc1 Xc).trans hc1
    have lc2:=Zaa.lt hc2
    have hxx:=(hx0.quiet hG).quiet hG2
    by_cases e1:j<S.meas.length
    ·have g1:decide ((j:Int)<(S.meas.length:Int))=true:=by simp;omega
     by_cases e2:j<=5
     ·have g2:decide ((j:Int)<=5)=true:=by simp;omega
      have h0:(0:Int)<=(j:Int):=Xa
      have hr:(rS S.meas)[j]?=some [eS S.meas[j]]:=by simp[e1]
      have hmin:(if (1000:Int)<(S.meas[j].length:Int) then (1000:Int) else (S.meas[j].length:Int))=((min S.meas[j].length 1000:Nat):Int):=by split<;>omega
      have hw1:IntKind.i64.wrap ((m:Int)+((min S.meas[j].length 1000:Nat):Int))=((m+min S.meas[j].length 1000:Nat):Int):=by rw[Zaw Xa Xa];omega
      have hw2:IntKind.i64.wrap ((j:Int)+1)=((j+1:Nat):Int):=by rw[Zaw Xa Xa];omega
      refine Bz3 (X10 g1 g2 f2 hc2 h0 e1 hr hmin hw1 hw2) ?_
      exact⟨(j+1,m+min S.meas[j].length 1000),⟨by simp only;omega,by simp only;omega,by simp only;omega⟩,by simp only;omega,⟨rfl,rfl⟩,hG2⟩
     ·have g2:decide ((j:Int)<=5)=false:=by simp;omega
      have g4:decide ((S.meas.length:Int)<=5)=false:=by simp;omega
      by_cases c5:S.dims.length<=20
      ·have d5:decide ((S.dims.length:Int)<=20)=true:=by simp;omega
       refine Bz3 (X7 g1 g2 g4 d5 hc2 f1 f2) ?_
       exact Zaq ⟨hxx,_,rfl,fun e=>by cases e⟩
      ·have d5:decide ((S.dims.length:Int)<=20)=false:=by simp;omega
       refine Bz3 (X6 g1 g2 d5 hc2 f1 f2) ?_
       exact Zaq ⟨hxx,_,rfl,fun e=>by cases e⟩
    ·have g1:decide ((j:Int)<(S.meas.length:Int))=false:=by simp;omega
     by_cases c5:S.dims.length<=20
     ·have d5:decide ((S.dims.length:Int)<=20)=true:=by simp;omega
      ((have hd:=tv;repeat' first|(first|apply Zad|apply Zac|apply Zab)<;>intro hd<;>try simp only[hd]|simp(disch:=first|assumption|omega|simp only[nx]<;>omega|fail)only[hd,qr,qn,c4_0,↓YA,YY,sevalprocAttr,g1,d5,hc2,f1,f2,zan])<;>try revert hd;refine ttr ?_)
      all_goals exact Zaq ⟨hxx,_,rfl,fun _=>hfew c5⟩
     ·have d5:decide ((S.dims.length:Int)<=20)=false:=by simp;omega
      refine Bz3 (X5 g1 d5 hc2 f1 f2) ?_
      exact Zaq ⟨hxx,_,rfl,fun e=>by cases e⟩
end Go.Proofs.YtdfgoekdlmkdfaaGreatDoor
