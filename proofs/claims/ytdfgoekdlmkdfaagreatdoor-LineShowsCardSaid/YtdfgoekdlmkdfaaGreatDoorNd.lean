/- Texts of the walk. -/
import Derived.Test.YtdfgoekdlmkdfaaGreatDoorNc
namespace Go.Proofs.YtdfgoekdlmkdfaaGreatDoor
set_option linter.defProp false
set_option maxHeartbeats 64000000
set_option linter.unusedSimpArgs false
set_option linter.unusedVariables false
open Go.RowKit Go.Lib
structure RwS (x:Rw):Prop where
 n:x.terms.length<=20
 s:ZAr x.terms<=1000
 v:x.vals.length<=3
 i:∀n∈x.vals,InI n
theorem ZIf:∀{l:List Tx},(∀t∈l,t.length<=16)->ZAr l<=16 * l.length
 | [],_=>zad _
 | t :: l,h=>by
  have h1:=h t Xc
  have h2:=ZIf (l:=l) fun u hu=>h u (by simp[hu])
  have e:ZAr (t :: l)=t.length+ZAr l:=by simp[ZAr]
  rw[e,List.length_cons];omega
theorem ZLL {t:Tx} (h:isT t=true):t.length<=16/\1<=t.length:=by unfold isT at h;simp at h;omega
theorem RwOk.small {nd nm:Nat} {x:Rw} (h:RwOk nd nm x) (h1:nd<=16) (h2:nm<=3):RwS x:=by
 have hs:=ZIf (l:=x.terms) fun t ht=>(ZLL (h.mem t ht)).1
 have:=h.ts
 exact⟨Xa,Xa,by rw[h.vs];exact h2,h.int⟩
theorem ZIh:∀{l:List Int},(∀n∈l,InI n)->(Lib.join (l.map itoa) [44]).length<=21 * l.length:=by
 intro l h
 have h1:=ZAw [44] (l.map itoa)
 have h2:∀{l:List Int},(∀n∈l,InI n)->ZAr (l.map itoa)<=20 * l.length:=by
  intro l
  induction l with
  | nil=>intro _;exact zad _
  | cons n l ih =>
   intro h
   have h3:=Zz8 (h n Xc)
   have h4:=ih fun m hm=>h m (by simp[hm])
   have e:ZAr ((n :: l).map itoa)=(itoa n).length+ZAr (l.map itoa):=by simp[ZAr]
   rw[e,List.length_cons];omega
 have h3:=h2 h
 simp only[List.length_cons,List.length_nil,zan]at h1
 omega
theorem ZIm {x:Rw} (h:RwS x):(rwW x).length<=3100:=by
 have h1:=ZAl h.n h.s
 have h2:=ZIh h.i
 have:=h.v
 unfold rwW
 rw[zaa,List.length_cons]
 omega
theorem ZIL {α:Type} {f:α->Tx} {l:List α} {k:Nat} (h:k<l.length):ZBb ((l.take (k+1)).map f)=ZBb ((l.take k).map f)++32 :: f l[k]:=by
 rw[zae h,zaD,ZBx]
 simp[ZBb]
theorem rvals_in {Q:AEx->Fr->Zaa->Prop} {F:Fr} {G:Zaa} {x:Rw} {w0:Tx} {i5:Nat} {v7 v8 v9:AV} (hx:RwS x) (hW:w0.length<=950000) (hg:G.get i5=some (.cells (eRw x) 53))
  (f3:Fr.get F 3=eS w0) (f5:Fr.get F 5=.ptr i5 0) (f7:Fr.get F 7=v7) (f8:Fr.get F 8=v8) (f9:Fr.get F 9=v9) (f22:Fr.get F 22=.i (x.vals.length:Nat)) (f23:Fr.get F 23=.i 0)
  (hQ:∀F' G',Zaa.Ext G G'->Fr.get F' 3=eS (w0++Lib.join (x.vals.map itoa) [44])->Fr.get F' 7=v7->Fr.get F' 8=v8->Fr.get F' 9=v9->Q .normal F' G'):AW Tryz.prog c31_2 Q F G:=by
 have qr:=trivial
 have qn:=trivial
 obtain⟨a0,a1,a2,a3⟩:=ZHD x
 have hbnd:∀k,(Lib.join ((x.vals.map itoa).take k) [44]).length<=100:=fun k=>by
  rw[<- List.map_take]
  have h1:=ZIh (l:=x.vals.take k) fun n hn=>hx.i n (zaH hn)
  have:=hx.v
  rw[zau]at h1
  omega
 refine ZbJ (N:=x.vals.length) (fun k F G'=>Fr.get F 23=.i (k:Int)/\Fr.get F 22=.i (x.vals.length:Nat)/\Fr.get F 5=.ptr i5 0/\Fr.get F 7=v7/\Fr.get F 8=v8/\Fr.get F 9=v9/\Zaa.Ext G G'/\∃J,J=Lib.join ((x.vals.map itoa).take k) [44]/\Fr.get F 3=eS (w0++J)) (by have:=hx.v;unfold maxLen;omega) (fun k F G h=>⟨h.1,h.2.1⟩) (GStep.refl _ _) ⟨f23,f22,f5,f7,f8,f9,.refl _,[],rfl,by rw[zaw];exact f3⟩ ?_ ?_
 ·rintro k F G' hk ⟨f23,f22,f5,f7,f8,f9,hxe,J0,hJ0,f3⟩
  have hz:(0:Int)<=(k:Int):=Xa
  have hr:(rI x.vals)[k]?=some [.i x.vals[k]]:=by simp[hk]
  have hk2:k<(x.vals.map itoa).length:=by simpa using hk
  have hjt:=ZAX (x.vals.map itoa) hk2
  rw[zbp]at hjt
  have hb:=hbnd k
  obtain⟨hi1,hi2⟩:=hx.i _ (zah hk)
  have hil:=Zz8 (hx.i _ (zah hk))
  rw[<- hJ0]at hb hjt
  generalize hJ1:Lib.join ((x.vals.map itoa).take (k+1)) [44]=J1 at *
  have hdg:=fun H=>ZAb x.vals[k] hi1 hi2 H
  generalize x.vals[k]=n at *
  have g5:=hxe.get _ _ hg
  have hw:=ZCE (s:=k) (by have:=hx.v;omega)
  have l1:(w0++J0).length<=960000:=by rw[zaa];omega
  generalize hO:w0++J0=O at *
  have hf1:O.length+1<=maxLen:=ZA0 Xa
  have hf2:O.length+(itoa n).length<=maxLen:=ZA0 Xa
  have hf3:(O++[44]).length+(itoa n).length<=maxLen:=by rw[zaa];simp only[List.length_cons,List.length_nil];unfold maxLen;omega
  have ha1:(⟨O.toArray⟩:ByteArray)++⟨#[44]⟩=⟨(O++[44]).toArray⟩:=Zz9 O [44]
  have ha2:=Zz9 O (itoa n)
  have ha3:=Zz9 (O++[44]) (itoa n)
  by_cases h0:0<k
  ·have d:decide ((k:Int) > 0)=true:=by simp;omega
   rw[if_pos h0]at hjt
   skip
   refine Bz1 (X12 f23 f22 f3 f5 d hz g5 hr a0 a1 a2 (X3 a3 hf1 ha1)) ?_
   refine qcp (hdg _) fun k2=>?_
   refine Bz1 (X10 f23 f22 f3 f5 f7 f8 f9 hf3 ha3 hw) ?_
   exact⟨hxe.bump,J1,hJ1.symm,by rw[hjt,<- hO];simp⟩
  ·have d:decide ((k:Int) > 0)=false:=by simp;omega
   rw[if_neg h0]at hjt
   have e0:J0=[]:=by
    have:k=0:=Xa
    rw[hJ0,this];rfl
   skip
   refine Bz1 (X12 f23 f22 f3 f5 d hz g5 hr a0 a1 a2 (X3 a3 hf1 ha1)) ?_
   refine qcp (hdg _) fun k2=>?_
   refine Bz1 (X10 f23 f22 f3 f5 f7 f8 f9 hf2 ha2 hw) ?_
   exact⟨hxe.bump,J1,hJ1.symm,by rw[hjt,<- hO,e0];simp⟩
 ·rintro F G' ⟨f23,f22,f5,f7,f8,f9,hxe,J0,hJ0,f3⟩
  rw[zay Xc]at hJ0
  rw[hJ0]at f3
  skip
  refine Bz0 ?_
  exact hQ _ _ hxe f3 f7 f8 f9
theorem ZID (l:List Rw) (H:Zaa) (hl:l.length<=300) (hs:∀x∈l,RwS x):Zay Tryz.prog 31 [.sl .no (rR l)] H (Pure H (eS (ZBb (l.map rwW)))):=by
 have hx0:Zaa.Ext H H:=.refl _
 refine fnQ cf31 fun Q qr qn=>?_
 refine Bz2 ?_
 refine ZbJ (N:=l.length) (fun k F G=>Fr.get F 9=.i (k:Int)/\Fr.get F 8=.i (l.length:Nat)/\Fr.get F 7=.sl .no (rR l)/\Zaa.Ext H G/\∃o:Tx,o.length<=3101 * k/\o=ZBb ((l.take k).map rwW)/\Fr.get F 3=eS o) Xd (fun k F G h=>⟨h.1,h.2.1⟩) (GStep.refl _ _) ⟨rfl,rfl,rfl,hx0,[],Xc,rfl,rfl⟩ ?_ ?_
 ·rintro k F G hk ⟨f9,f8,f7,hx,o,hol,ho,f3⟩
  have hz:(0:Int)<=(k:Int):=Xa
  have hr:=ZKb hk
  have hjw:=ZIL (f:=rwW) hk
  rw[<- ho]at hjw
  have hxs:=hs _ (zah hk)
  generalize l[k]=x at *
  obtain⟨a0,a1,a2,a3⟩:=ZHD x
  have hws:=fun H=>ZAA .no x.terms H (by have:=hxs.n;omega) (by have:=hxs.s;omega)
  have hwl:=ZAl hxs.n hxs.s
  have hrl:=ZIm hxs
  have hf1:o.length+1<=maxLen:=ZA0 Xa
  have ha1:(⟨o.toArray⟩:ByteArray)++⟨#[32]⟩=⟨(o++[32]).toArray⟩:=Zz9 o [32]
  have hf2:(o++[32]).length+(ZAc x.terms).length<=maxLen:=by rw[zaa];simp only[List.length_cons,List.length_nil];unfold maxLen;omega
  have ha2:=Zz9 (o++[32]) (ZAc x.terms)
  have hf3:(o++[32]++ZAc x.terms).length+1<=maxLen:=by simp only[zaa,List.length_cons,List.length_nil];unfold maxLen;omega
  have ha3:(⟨(o++[32]++ZAc x.terms).toArray⟩:ByteArray)++⟨#[61]⟩=⟨(o++[32]++ZAc x.terms++[61]).toArray⟩:=Zz9 (o++[32]++ZAc x.terms) [61]
  have hw:=ZCE (s:=k) Xa
  skip
  refine Bz1 (X12 f9 f8 f7 f3 hz hr a0 a1 a2 a3 hf1 ha1) ?_
  refine qcp (hws _) fun k1=>?_
  refine Bz3 (X12 f9 f8 f7 f3 a0 a1 a2 a3 hf2 ha2 hf3 ha3) ?_
  refine rvals_in (x:=x) (i5:=G.next) hxs (w0:=o++[32]++ZAc x.terms++[61]) (by simp only[zaa,List.length_cons,List.length_nil];omega) ?_ rfl rfl (by simpa [Fr.get] using f7) (by simpa [Fr.get] using f8) (by simpa [Fr.get] using f9) rfl rfl ?_
  ·repeat (first|rw[Zaa.ZaB]|exact Zaa.Zal Xe|exact Zaa.Zat rfl)
  ·intro F' G' hx' f3 f7 f8 f9
   have hfin:o++[32]++ZAc x.terms++[61]++Lib.join (x.vals.map itoa) [44]=o++32 :: rwW x:=by unfold rwW;simp
   rw[hfin]at f3
   refine Bz1 (X5 f9 f8 f7 f3 hw) ?_
   exact⟨Zaa.Ext.trans xX hx',o++32 :: rwW x,by rw[zaa,List.length_cons];omega,hjw.symm,rfl⟩
 ·rintro F G ⟨f9,f8,f7,hx,o,hol,ho,f3⟩
  rw[zaq]at ho
  rw[ho]at f3
  skip
  refine Bz1 (X1 f3) ?_
  exact ZaW hx rfl
open Go.RowKit Go.Lib
def pkF (p:Pk):Tx:=if p.filt=1 then itoa p.tier++126 :: (ZyH p.lo++126 :: ZyH p.hi) else if p.filt=2 then itoa p.tier++61 :: ZAc p.set else [42]
theorem ZJc (p:Pk):pkW p=pkF p++(if p.by'=0 then [] else 47 :: itoa ((p.by' - 1:Nat):Int)):=rfl
theorem ZKl:∀{l:List Tx} {w:Option Tx},Zgt w l=0->∀t∈l,t.length<=16:=by
 intro l w h t ht
 obtain⟨k,hk,rfl⟩:=zar ht
 exact(ZLL (ZGH l w h k hk).1).1
theorem ZIZ.ZJU {p:Pk} (h:ZIZ p):ZAr p.set<=3200/\(ZAc p.set).length<=7000:=by
 have h1:=ZIf (ZKl h.set)
 have h2:=h.len
 have h3:=ZAw [44] (p.set.map ZyH)
 have h4:=ZAj p.set
 simp only[List.length_cons,List.length_nil,zan]at h3
 unfold ZAc
 exact⟨Xa,Xa⟩
theorem ZHJ {n:Nat} (h:n<=1000000):InI (n:Int):=⟨Xa,Xa⟩
theorem ZJM {p:Pk} (h:ZIZ p):(pkF p).length<=7100:=by
 have h1:=h.ZJU.2
 have h2:=ZzU p.lo
 have h3:=ZzU p.hi
 have h4:=Zz8 (ZHJ (n:=p.tier) (by have:=h.t;omega))
 have h5:=h.lo
 have h6:=h.hi
 unfold pkF
 split
 ·simp only[zaa,List.length_cons];omega
 ·split
  ·simp only[zaa,List.length_cons];omega
  ·simp
theorem ZIx {p:Pk} (h:ZIZ p):(pkW p).length<=7200:=by
 have h1:=ZJM h
 have h4:=Zz8 (ZHJ (n:=p.by' - 1) (by have:=h.b;omega))
 rw[ZJc]
 split
 ·simp only[zaa,List.length_nil];omega
 ·simp only[zaa,List.length_cons];omega
theorem ZJi (l : List Pk) (H : Zaa) (hl : l.length <= 100) (hs : ∀ p ∈ l, ZIZ p) : Zay Tryz.prog 33 [.agg [.sl .no (rP l)]] H (Pure H (eS (ZBb (l.map pkW)))) := by
  have hx0 : Zaa.Ext H H := .refl _
  refine fnQ cf33 fun Q qr qn => ?_
  refine Bz3 (X1 YZs) ?_
  refine ZbJ (N := l.length) (fun k F G => Fr.get F 10 = .i (k : Int) /\ Fr.get F 9 = .i (l.length : Nat) /\ Fr.get F 8 = .sl .no (rP l) /\ Zaa.Ext H G /\ ∃ o : Tx, o.length <= 7201 * k /\ o = ZBb ((l.take k).map pkW) /\ Fr.get F 3 = eS o) Xd (fun k F G h => ⟨h.1, h.2.1⟩) (GStep.refl _ _) ⟨rfl, rfl, rfl, xX, [], Xc, rfl, rfl⟩ ?_ ?_
  · rintro k F G hk ⟨f10, f9, f8, hx, o, hol, ho, f3⟩
    have hz : (0 : Int) <= (k : Int) := Xa
    have hr := ZKg hk
    have hjw := ZIL (f := pkW) hk
    rw [<- ho] at hjw
    have hp := hs _ (zah hk)
    generalize l[k] = p at *
    obtain ⟨a0, a1, a2, a3, a4, a5, a6, a7, a8⟩ := ZHv p
    have hf2 := hp.f
    have hfl := ZJM hp
    have hwl := ZIx hp
    obtain ⟨hsl1, hsl2⟩ := hp.ZJU
    have hdt := fun H => ZAb (p.tier : Int) Xa (by have := hp.t; omega) H
    have hdb := fun H => ZAb ((p.by' - 1 : Nat) : Int) Xa (by have := hp.b; omega) H
    have hlo := fun H => ZyV p.lo H (by have := hp.lo; omega)
    have hhi := fun H => ZyV p.hi H (by have := hp.hi; omega)
    have hset := fun H => ZAA .no p.set H (by have := hp.len; omega) Xa
    have til := Zz8 (ZHJ (n := p.tier) (by have := hp.t; omega))
    have bil := Zz8 (ZHJ (n := p.by' - 1) (by have := hp.b; omega))
    have lol := ZzU p.lo
    have hil := ZzU p.hi
    have hpl := hp.lo
    have hph := hp.hi
    rw [ZJc] at hjw hwl
    generalize hWd : pkF p = W at *
    generalize hIb : itoa ((p.by' - 1 : Nat) : Int) = Ib at *
    generalize hbb : decide (0 < p.by') = bb at a6
    have hw := ZCE (s := k) Xa
    have e1 : o.length + 1 <= maxLen := ZA0 Xa
    have b1 : (⟨o.toArray⟩ : ByteArray) ++ ⟨#[32]⟩ = ⟨(o ++ [32]).toArray⟩ := Zz9 o [32]
    have e2 : (o ++ [32]).length + W.length <= maxLen := by rw [zaa]; simp only [List.length_cons, List.length_nil]; unfold maxLen; omega
    have b2 := Zz9 (o ++ [32]) W
    have e3 : W.length + 1 <= maxLen := ZA0 Xa
    have b3 : (⟨W.toArray⟩ : ByteArray) ++ ⟨#[47]⟩ = ⟨(W ++ [47]).toArray⟩ := Zz9 W [47]
    have e4 : (W ++ [47]).length + Ib.length <= maxLen := by rw [zaa]; simp only [List.length_cons, List.length_nil]; unfold maxLen; omega
    have b4 := Zz9 (W ++ [47]) Ib
    have e5 : (o ++ [32]).length + (W ++ [47] ++ Ib).length <= maxLen := by simp only [zaa, List.length_cons, List.length_nil]; unfold maxLen; omega
    have b5 := Zz9 (o ++ [32]) (W ++ [47] ++ Ib)
    have z0 : ((0 : Int) == 1) = false := rfl
    have z1 : ((0 : Int) == 2) = false := rfl
    have z2 : ((1 : Int) == 1) = true := rfl
    have z3 : ((1 : Int) == 2) = false := rfl
    have z4 : ((2 : Int) == 1) = false := rfl
    have z5 : ((2 : Int) == 2) = true := rfl
    have hfin0 : p.by' = 0 -> ZBb ((l.take (k + 1)).map pkW) = o ++ [32] ++ W := fun h => by rw [hjw, if_pos h]; simp
    have hfin1 : ¬ p.by' = 0 -> ZBb ((l.take (k + 1)).map pkW) = o ++ [32] ++ (W ++ [47] ++ Ib) := fun h => by rw [hjw, if_neg h]; simp
    have hln0 : (o ++ [32] ++ W).length <= 7201 * (k + 1) := by simp only [zaa, List.length_cons, List.length_nil]; omega
    have hln1 : ¬ p.by' = 0 -> (o ++ [32] ++ (W ++ [47] ++ Ib)).length <= 7201 * (k + 1) := fun h => by
      rw [if_neg h] at hwl
      simp only [zaa, List.length_cons, List.length_nil] at hwl ⊢; omega
    rcases (show p.filt = 0 \/ p.filt = 1 \/ p.filt = 2 by omega) with h0 | h0 | h0
    case' inl =>
      have hW : W = [42] := by rw [<- hWd]; unfold pkF; rw [if_neg Xa, if_neg Xa]
      have hW : (⟨#[42]⟩ : ByteArray) = ⟨W.toArray⟩ := by rw [hW]
      rw [h0] at a1
      have a1 : (ePk p)[0]? = some (AV.i 0) := a1
      skip
      ((have hd := tv; repeat' first | (first | apply Zad | apply Zac | apply Zab) <;> intro hd <;> try simp only [hd] | simp (disch := first | assumption | omega | simp only [nx] <;> omega | fail) only [hd, qr, qn, ZId, ↓YA, YY, sevalprocAttr, f10, f9, f8, hz, hr, a0, a1, a6, a8, z0, z1, hW, YZs]) <;> try revert hd; refine ttr ?_)
    case' inr.inl =>
      have hW : W = itoa p.tier ++ [126] ++ ZyH p.lo ++ [126] ++ ZyH p.hi := by rw [<- hWd]; unfold pkF; rw [if_pos h0]; simp
      rw [h0] at a1
      have a1 : (ePk p)[0]? = some (AV.i 1) := a1
      generalize itoa (p.tier : Int) = It at *
      generalize ZyH p.lo = Wl at *
      generalize ZyH p.hi = Wh at *
      have u1 : It.length + 1 <= maxLen := ZA0 Xa
      have v1 : (⟨It.toArray⟩ : ByteArray) ++ ⟨#[126]⟩ = ⟨(It ++ [126]).toArray⟩ := Zz9 It [126]
      have u2 : (It ++ [126]).length + Wl.length <= maxLen := by simp only [zaa, List.length_cons, List.length_nil]; unfold maxLen; omega
      have v2 := Zz9 (It ++ [126]) Wl
      have u3 : (It ++ [126] ++ Wl).length + 1 <= maxLen := by simp only [zaa, List.length_cons, List.length_nil]; unfold maxLen; omega
      have v3 : (⟨(It ++ [126] ++ Wl).toArray⟩ : ByteArray) ++ ⟨#[126]⟩ = ⟨(It ++ [126] ++ Wl ++ [126]).toArray⟩ := Zz9 (It ++ [126] ++ Wl) [126]
      have u4 : (It ++ [126] ++ Wl ++ [126]).length + Wh.length <= maxLen := by simp only [zaa, List.length_cons, List.length_nil]; unfold maxLen; omega
      have v4 := Zz9 (It ++ [126] ++ Wl ++ [126]) Wh
      rw [<- hW] at v4
      skip
      refine Bz1 (X12 f10 f9 f8 hz hr a0 a1 a2 a3 a4 a8 (X2 z2 YZs)) ?_
      refine qcp (hdt _) fun k1 => ?_
      refine Bz1 (X12 f10 f9 f8 a0 a1 a2 a3 a4 a8 u1 v1 YZs) ?_
      refine qcp (hlo _) fun k2 => ?_
      refine Bz1 (X12 f10 f9 f8 a0 a1 a2 a3 a4 a8 u2 v2 (X3 u3 v3 YZs)) ?_
      refine qcp (hhi _) fun k3 => ?_
      ((have hd := tv; repeat' first | (first | apply Zad | apply Zac | apply Zab) <;> intro hd <;> try simp only [hd] | simp (disch := first | assumption | omega | simp only [nx] <;> omega | fail) only [hd, qr, qn, ZId, ↓YA, YY, sevalprocAttr, f10, f9, f8, a0, a1, a2, a3, a4, a6, a8, u4, v4, z3, YZs]) <;> try revert hd; refine ttr ?_)
    case' inr.inr =>
      have hW : W = itoa p.tier ++ [61] ++ ZAc p.set := by rw [<- hWd]; unfold pkF; rw [if_neg Xa, if_pos h0]; simp
      rw [h0] at a1
      have a1 : (ePk p)[0]? = some (AV.i 2) := a1
      generalize itoa (p.tier : Int) = It at *
      generalize ZAc p.set = Ws at *
      have u1 : It.length + 1 <= maxLen := ZA0 Xa
      have v1 : (⟨It.toArray⟩ : ByteArray) ++ ⟨#[61]⟩ = ⟨(It ++ [61]).toArray⟩ := Zz9 It [61]
      have u2 : (It ++ [61]).length + Ws.length <= maxLen := by simp only [zaa, List.length_cons, List.length_nil]; unfold maxLen; omega
      have v2 := Zz9 (It ++ [61]) Ws
      rw [<- hW] at v2
      skip
      refine Bz1 (X12 f10 f9 f8 hz hr a0 a1 a2 a5 a8 z4 (X2 z5 YZs)) ?_
      refine qcp (hdt _) fun k1 => ?_
      refine Bz1 (X11 f10 f9 f8 a0 a1 a2 a5 a8 u1 v1 YZs) ?_
      refine qcp (hset _) fun k2 => ?_
      ((have hd := tv; repeat' first | (first | apply Zad | apply Zac | apply Zab) <;> intro hd <;> try simp only [hd] | simp (disch := first | assumption | omega | simp only [nx] <;> omega | fail) only [hd, qr, qn, ZId, ↓YA, YY, sevalprocAttr, f10, f9, f8, a0, a1, a2, a5, a6, a8, u2, v2, YZs]) <;> try revert hd; refine ttr ?_)
    all_goals
      first
        | (have hby : p.by' = 0 := by have h9 := of_decide_eq_false (hbb.trans hd); omega
           refine Bz1 (X11 f10 f9 f8 f3 a0 e1 b1 e2 b2 hw YZs) ?_
           exact ⟨xX, o ++ [32] ++ W, hln0, (hfin0 hby).symm, rfl⟩)
        | (have hby : ¬ p.by' = 0 := by have h9 := of_decide_eq_true (hbb.trans hd); omega
           refine Bz1 (X10 f10 f9 f8 f3 a0 a7 a8 e3 b3 YZs) ?_
           refine qcp (hdb _) fun k9 => ?_
           refine Bz1 (X12 f10 f9 f8 f3 e4 b4 e1 b1 e5 b5 hw YZs) ?_
           exact ⟨xX, o ++ [32] ++ (W ++ [47] ++ Ib), hln1 hby, (hfin1 hby).symm, rfl⟩)
  · rintro F G ⟨f10, f9, f8, hx, o, hol, ho, f3⟩
    rw [zaq] at ho
    rw [ho] at f3
    skip
    refine Bz1 (X1 f3) ?_
    exact ZaW hx rfl
open Go.RowKit Go.Lib
def ZH9 (k:Int) (d:Tx):Tx:=ZLT++32 :: (itoa k++32 :: ZyH d)
noncomputable def showW (s:Sc) (k:Int) (d:Tx):Tx :=
 if k=1 then (match wholeSc d with
  | some x=>ZA8++ZBb (ZBi x)
  | none=>ZH9 k d)
 else if k=2\/k=3 then (match rowsR s d with
  | some l=>(if k=2 then ZBN else ZBy)++ZBb (l.map rwW)
  | none=>ZH9 k d)
 else if k=5 then (match picksR s d with
  | some l=>ZF3++ZBb (l.map pkW)
  | none=>ZH9 k d)
 else if d=[]/\k=4 then ZBk
 else if d=[]/\k=6 then ZCB
 else if d=[]/\k=7 then ZDA
 else ZH9 k d
theorem ZIM (k:Int) (d:Tx) (H:Zaa) (hk:InI k) (hd:d.length<=100000):Zay Tryz.prog 8 [.agg [.i k,eS d]] H (Pure H (eS (ZH9 k d))):=by
 have hx0:Zaa.Ext H H:=.refl _
 obtain⟨h1,h2⟩:=hk
 have hdg:=fun H=>ZAb k h1 h2 H
 have hwd:=fun H=>ZyV d H hd
 have til:=Zz8 (n:=k) ⟨h1,h2⟩
 have wl:=ZzU d
 have hv:ZH9 k d=[114,97,119,32]++itoa k++[32]++ZyH d:=by unfold ZH9 ZLT;simp
 rw[hv]
 generalize itoa k=It at *
 generalize ZyH d=W at *
 have u1:4+It.length<=maxLen:=ZA0 Xa
 have v1:(⟨#[114,97,119,32]⟩:ByteArray)++⟨It.toArray⟩=⟨([114,97,119,32]++It).toArray⟩:=Zz9 [114,97,119,32] It
 have u2:([114,97,119,32]++It).length+1<=maxLen:=by simp only[zaa,List.length_cons,List.length_nil];unfold maxLen;omega
 have v2:(⟨([114,97,119,32]++It).toArray⟩:ByteArray)++⟨#[32]⟩=⟨([114,97,119,32]++It++[32]).toArray⟩:=Zz9 ([114,97,119,32]++It) [32]
 have u3:([114,97,119,32]++It++[32]).length+W.length<=maxLen:=by simp only[zaa,List.length_cons,List.length_nil];unfold maxLen;omega
 have v3:=Zz9 ([114,97,119,32]++It++[32]) W
 generalize hA:[114,97,119,32]++It=A at *
 generalize hA2:A++[32]=A2 at *
 generalize hA3:A2++W=A3 at *
 refine fnQ cf8 fun Q qr qn=>?_
 refine Bz0 ?_
 refine qcp (hdg _) fun k1=>?_
 refine Bz1 (X4 u1 v1 u2 v2) ?_
 refine qcp (hwd _) fun k2=>?_
 refine Bz1 (X2 u3 v3) ?_
 exact ZaW xX rfl
theorem ZJz {d:Tx} (h:wholeSc d=none):scR d=(⟨[],[]⟩,false):=by unfold scR;rw[h]
theorem ZJa {d:Tx} {x:Sc} (h:wholeSc d=some x):scR d=(x,true):=by unfold scR;rw[h]
theorem ZIi {s:Sc} {d:Tx} {l:List Rw} (h:rowsR s d=some l):scE s=0/\l.length<=300/\(∀x∈l,RwOk s.dims.length s.meas.length x)/\(∀x∈l,RwS x)/\d=ZA2 l.length++l.flatMap rwB:=by
 unfold rowsR at h
 split at h
 ·rename_i he
  split at h
  ·rename_i l' e
   split at h
   ·injection h with h
    subst h
    obtain⟨k1,k2,k3⟩:=ZKN e
    obtain⟨hl1,_,hl2,_⟩:=ZCV he
    exact⟨he,k1,k3,fun x hx=>(k3 x hx).small Xa Xa,by rw[k2,zaw]⟩
   ·cases h
  ·cases h
 ·cases h
theorem ZIw {s:Sc} {d:Tx} {l:List Pk} (h:picksR s d=some l):scE s=0/\l.length<=16/\(∀p∈l,ZIZ p)/\d=l.flatMap pkB:=by
 unfold picksR at h
 split at h
 ·rename_i he
  split at h
  ·rename_i l' e
   split at h
   ·injection h with h
    subst h
    obtain⟨k1,k2,k3⟩:=ZJH e
    obtain⟨hl1,_,hl2,_⟩:=ZCV he
    exact⟨he,Xa,k3,by rw[k2,zaw]⟩
   ·cases h
  ·cases h
 ·cases h
theorem ZHI {α:Type} {f:α->Tx} {n:Nat}:∀{l:List α},(∀x∈l,(f x).length<=n)->(ZBb (l.map f)).length<=(n+1) * l.length
 | [],_=>by simp[ZBb]
 | x :: l,h=>by
  have h1:=h x Xc
  have h2:=ZHI (l:=l) fun y hy=>h y (by simp[hy])
  rw[zao,ZBS,zaa,List.length_cons,List.length_cons,Nat.mul_succ]
  omega
theorem ZIS {s:Sc} (h:scE s=0):(ZBb (ZBi s)).length<=900000:=by
 obtain⟨h1,h2,h3,h4⟩:=ZCV h
 have h5:=ZCC (l:=s.dims) fun d hd=>ZC4 (h2 d hd)
 have h6:(ZBb (s.meas.map (43 :: ·))).length<=14 * s.meas.length:=ZHI (f:=fun m:Tx=>(43:UInt8) :: m) (n:=13) (l:=s.meas) fun m hm=>by
  have:=h4 m hm
  rw[List.length_cons];omega
 unfold ZBi
 rw[ZBx,zaa]
 omega
theorem ZJT (s:Sc) (k:Int) (d:Tx) (H:Zaa) (hsm:Zh1 s) (hk:InI k) (hd:d.length<=10000):Zay Tryz.prog 9 [.agg (eSc s),.agg [.i k,eS d]] H (Pure H (eS (showW s k d))):=by
 have hx0:Zaa.Ext H H:=.refl _
 obtain⟨e0,e1,e2,e3⟩:=ZbB s
 have hraw:=fun H=>ZIM k d H hk Xa
 have hsc:=fun H=>ZLA d H Xa
 have hrt:=fun H=>ZJI s d H Xa hsm
 have hpt:=fun H=>ZJX s d H Xa hsm
 have tc:([99,114,101,97,116,101]:Tx)=ZA8:=rfl
 have tl:([108,111,97,100]:Tx)=ZBN:=rfl
 have tm:([109,101,114,103,101]:Tx)=ZBy:=rfl
 have ta:([97,115,107]:Tx)=ZF3:=rfl
 have z1:((0:Int) == 0)=true:=rfl
 have dE:d=[]->decide (d=([]:Tx))=true:=fun h=>decide_eq_true h
 have dN:d≠[]->decide (d=([]:Tx))=false:=fun h=>decide_eq_false h
 have hcr:=fun(x:Tx) (h:x.length<=900000)=>(⟨ZA0 (show 6+x.length<=1000000000 by omega),Zz9 [99,114,101,97,116,101] x⟩:6+x.length<=maxLen/\(⟨#[99,114,101,97,116,101]⟩:ByteArray)++⟨x.toArray⟩=⟨([99,114,101,97,116,101]++x).toArray⟩)
 have hlo:=fun(x:Tx) (h:x.length<=1000000)=>(⟨ZA0 (show 4+x.length<=1000000000 by omega),Zz9 [108,111,97,100] x⟩:4+x.length<=maxLen/\(⟨#[108,111,97,100]⟩:ByteArray)++⟨x.toArray⟩=⟨([108,111,97,100]++x).toArray⟩)
 have hme:=fun(x:Tx) (h:x.length<=1000000)=>(⟨ZA0 (show 5+x.length<=1000000000 by omega),Zz9 [109,101,114,103,101] x⟩:5+x.length<=maxLen/\(⟨#[109,101,114,103,101]⟩:ByteArray)++⟨x.toArray⟩=⟨([109,101,114,103,101]++x).toArray⟩)
 have has:=fun(x:Tx) (h:x.length<=1000000)=>(⟨ZA0 (show 3+x.length<=1000000000 by omega),Zz9 [97,115,107] x⟩:3+x.length<=maxLen/\(⟨#[97,115,107]⟩:ByteArray)++⟨x.toArray⟩=⟨([97,115,107]++x).toArray⟩)
 by_cases h1:k=1
 ·subst h1
  unfold showW
  rw[if_pos rfl]
  cases hw:wholeSc d with
  | some x =>
   rw[ZJa hw]at hsc
   obtain⟨hxe,hxd⟩:=ZI8 hw
   have hJ:=fun H=>ZDR x H hxe
   have hjl:(ZBb (ZBi x)).length<=900000:=ZIS hxe
   obtain⟨x0,x1,x2,x3⟩:=ZbB x
   obtain⟨u1,v1⟩:=hcr _ hjl
   rw[tc]at v1
   show Zay Tryz.prog 9 [.agg (eSc s),.agg [.i 1,eS d]] H (Pure H (eS (ZA8++ZBb (ZBi x))))
   generalize ZBb (ZBi x)=J at *
   refine fnQ cf9 fun Q qr qn=>?_
   refine Bz1 (X5 e0 e1 e2 e3 YZs) ?_
   refine qcp (hsc _) fun k1=>?_
   refine Bz1 (X9 x0 x1 x2 x3 e0 e1 e2 e3 YZs) ?_
   refine qcp (hJ _) fun k2=>?_
   refine Bz1 (X2 u1 v1) ?_
   exact ZaW xX rfl
  | none =>
   rw[ZJz hw]at hsc
   have hsc:∀H,Zay Tryz.prog 28 [eS d] H (Pure H (.tup [.agg [.sl .no [],.sl .no []],.b false])):=hsc
   show Zay Tryz.prog 9 [.agg (eSc s),.agg [.i 1,eS d]] H (Pure H (eS (ZH9 1 d)))
   refine fnQ cf9 fun Q qr qn=>?_
   refine Bz1 (X5 e0 e1 e2 e3 YZs) ?_
   refine qcp (hsc _) fun k1=>?_
   by_cases hd0:d=[]
   ·have dE:=dE hd0
    refine Bz1 (X6 dE e0 e1 e2 e3 YZs) ?_
    refine qcp (hraw _) fun k9=>?_
    refine Bz0 ?_
    exact ZaW xX rfl
   ·have dN:=dN hd0
    refine Bz1 (X6 dN e0 e1 e2 e3 YZs) ?_
    refine qcp (hraw _) fun k9=>?_
    refine Bz0 ?_
    exact ZaW xX rfl
 by_cases h2:k=2
 ·subst h2
  unfold showW
  rw[if_neg Xb,if_pos Xb]
  unfold ZJj at hrt
  cases hw:rowsR s d with
  | some l =>
   rw[hw]at hrt
   have hrt:∀H,Zay Tryz.prog 30 [.agg (eSc s),eS d] H (Pure H (.tup [.sl .no (rR l),.i 0])):=hrt
   obtain⟨_,hl3,_,hrs,_⟩:=ZIi hw
   have hJ:=fun H=>ZID l H hl3 hrs
   have hjl:=ZHI (f:=rwW) (l:=l) fun x hx=>ZIm (hrs x hx)
   obtain⟨u1,v1⟩:=hlo _ (show(ZBb (l.map rwW)).length<=1000000 by omega)
   rw[tl]at v1
   show Zay Tryz.prog 9 [.agg (eSc s),.agg [.i 2,eS d]] H (Pure H (eS (ZBN++ZBb (l.map rwW))))
   generalize ZBb (l.map rwW)=J at *
   refine fnQ cf9 fun Q qr qn=>?_
   refine Bz1 (X5 e0 e1 e2 e3 YZs) ?_
   refine qcp (hrt _) fun k1=>?_
   refine Bz1 (X6 z1 e0 e1 e2 e3 YZs) ?_
   refine qcp (hJ _) fun k2=>?_
   refine Bz1 (X2 u1 v1) ?_
   exact ZaW xX rfl
  | none =>
   rw[hw]at hrt
   have hrt:∀H,Zay Tryz.prog 30 [.agg (eSc s),eS d] H (fun v G=>∃x e,e≠0/\Pure H (.tup [.sl .no x,.i e]) v G):=hrt
   show Zay Tryz.prog 9 [.agg (eSc s),.agg [.i 2,eS d]] H (Pure H (eS (ZH9 2 d)))
   refine fnQ cf9 fun Q qr qn=>?_
   refine Bz1 (X5 e0 e1 e2 e3 YZs) ?_
   refine Zap.use (hrt _) ?_
   rintro _ _ ⟨x,e,he,rfl,k1,rfl⟩
   obtain⟨_,dz⟩:=ZHs he
   by_cases hd0:d=[]
   ·have dE:=dE hd0
    refine Bz1 (X7 dE dz e0 e1 e2 e3 YZs) ?_
    refine qcp (hraw _) fun k9=>?_
    refine Bz0 ?_
    exact ZaW xX rfl
   ·have dN:=dN hd0
    refine Bz1 (X7 dN dz e0 e1 e2 e3 YZs) ?_
    refine qcp (hraw _) fun k9=>?_
    refine Bz0 ?_
    exact ZaW xX rfl
 by_cases h3:k=3
 ·subst h3
  unfold showW
  rw[if_neg Xb,if_pos Xb]
  unfold ZJj at hrt
  cases hw:rowsR s d with
  | some l =>
   rw[hw]at hrt
   have hrt:∀H,Zay Tryz.prog 30 [.agg (eSc s),eS d] H (Pure H (.tup [.sl .no (rR l),.i 0])):=hrt
   obtain⟨_,hl3,_,hrs,_⟩:=ZIi hw
   have hJ:=fun H=>ZID l H hl3 hrs
   have hjl:=ZHI (f:=rwW) (l:=l) fun x hx=>ZIm (hrs x hx)
   obtain⟨u1,v1⟩:=hme _ (show(ZBb (l.map rwW)).length<=1000000 by omega)
   rw[tm]at v1
   show Zay Tryz.prog 9 [.agg (eSc s),.agg [.i 3,eS d]] H (Pure H (eS (ZBy++ZBb (l.map rwW))))
   generalize ZBb (l.map rwW)=J at *
   refine fnQ cf9 fun Q qr qn=>?_
   refine Bz1 (X5 e0 e1 e2 e3 YZs) ?_
   refine qcp (hrt _) fun k1=>?_
   refine Bz1 (X6 z1 e0 e1 e2 e3 YZs) ?_
   refine qcp (hJ _) fun k2=>?_
   refine Bz1 (X2 u1 v1) ?_
   exact ZaW xX rfl
  | none =>
   rw[hw]at hrt
   have hrt:∀H,Zay Tryz.prog 30 [.agg (eSc s),eS d] H (fun v G=>∃x e,e≠0/\Pure H (.tup [.sl .no x,.i e]) v G):=hrt
   show Zay Tryz.prog 9 [.agg (eSc s),.agg [.i 3,eS d]] H (Pure H (eS (ZH9 3 d)))
   refine fnQ cf9 fun Q qr qn=>?_
   refine Bz1 (X5 e0 e1 e2 e3 YZs) ?_
   refine Zap.use (hrt _) ?_
   rintro _ _ ⟨x,e,he,rfl,k1,rfl⟩
   obtain⟨_,dz⟩:=ZHs he
   by_cases hd0:d=[]
   ·have dE:=dE hd0
    refine Bz1 (X7 dE dz e0 e1 e2 e3 YZs) ?_
    refine qcp (hraw _) fun k9=>?_
    refine Bz0 ?_
    exact ZaW xX rfl
   ·have dN:=dN hd0
    refine Bz1 (X7 dN dz e0 e1 e2 e3 YZs) ?_
    refine qcp (hraw _) fun k9=>?_
    refine Bz0 ?_
    exact ZaW xX rfl
 by_cases h5:k=5
 ·subst h5
  unfold showW
  rw[if_neg Xb,if_neg Xb,if_pos rfl]
  unfold ZIK at hpt
  cases hw:picksR s d with
  | some l =>
   rw[hw]at hpt
   have hpt:∀H,Zay Tryz.prog 32 [.agg (eSc s),eS d] H (Pure H (.tup [.agg [.sl .no (rP l)],.i 0])):=hpt
   obtain⟨_,hl3,hps,_⟩:=ZIw hw
   have hJ:=fun H=>ZJi l H Xa hps
   have hjl:=ZHI (f:=pkW) (l:=l) fun x hx=>ZIx (hps x hx)
   obtain⟨u1,v1⟩:=has _ (show(ZBb (l.map pkW)).length<=1000000 by omega)
   rw[ta]at v1
   show Zay Tryz.prog 9 [.agg (eSc s),.agg [.i 5,eS d]] H (Pure H (eS (ZF3++ZBb (l.map pkW))))
   generalize ZBb (l.map pkW)=J at *
   refine fnQ cf9 fun Q qr qn=>?_
   refine Bz1 (X5 e0 e1 e2 e3 YZs) ?_
   refine qcp (hpt _) fun k1=>?_
   refine Bz1 (X6 z1 e0 e1 e2 e3 YZs) ?_
   refine qcp (hJ _) fun k2=>?_
   refine Bz1 (X2 u1 v1) ?_
   exact ZaW xX rfl
  | none =>
   rw[hw]at hpt
   have hpt:∀H,Zay Tryz.prog 32 [.agg (eSc s),eS d] H (fun v G=>∃x e,e≠0/\Pure H (.tup [.agg [.sl .no x],.i e]) v G):=hpt
   show Zay Tryz.prog 9 [.agg (eSc s),.agg [.i 5,eS d]] H (Pure H (eS (ZH9 5 d)))
   refine fnQ cf9 fun Q qr qn=>?_
   refine Bz1 (X5 e0 e1 e2 e3 YZs) ?_
   refine Zap.use (hpt _) ?_
   rintro _ _ ⟨x,e,he,rfl,k1,rfl⟩
   obtain⟨_,dz⟩:=ZHs he
   by_cases hd0:d=[]
   ·have dE:=dE hd0
    refine Bz1 (X7 dE dz e0 e1 e2 e3 YZs) ?_
    refine qcp (hraw _) fun k9=>?_
    refine Bz0 ?_
    exact ZaW xX rfl
   ·have dN:=dN hd0
    refine Bz1 (X7 dN dz e0 e1 e2 e3 YZs) ?_
    refine qcp (hraw _) fun k9=>?_
    refine Bz0 ?_
    exact ZaW xX rfl
 have hv:showW s k d=if d=[]/\k=4 then ZBk else if d=[]/\k=6 then ZCB else if d=[]/\k=7 then ZDA else ZH9 k d:=by
  unfold showW
  rw[if_neg h1,if_neg (fun h=>h.elim h2 h3),if_neg h5]
 rw[hv]
 have y1:(k == 1)=false:=by simpa using h1
 have y2:(k == 2)=false:=by simpa using h2
 have y3:(k == 3)=false:=by simpa using h3
 have y5:(k == 5)=false:=by simpa using h5
 by_cases hd0:d=[]
 ·have dE:=dE hd0
  by_cases h4:k=4
  ·rw[if_pos ⟨hd0,h4⟩]
   subst h4
   refine fnQ cf9 fun Q qr qn=>?_
   refine Bz1 (X6 dE e0 e1 e2 e3 YZs) ?_
   exact ZaW xX rfl
  ·rw[if_neg fun h=>h4 h.2]
   by_cases h6:k=6
   ·rw[if_pos ⟨hd0,h6⟩]
    subst h6
    refine fnQ cf9 fun Q qr qn=>?_
    refine Bz1 (X6 dE e0 e1 e2 e3 YZs) ?_
    exact ZaW xX rfl
   ·rw[if_neg fun h=>h6 h.2]
    by_cases h7:k=7
    ·rw[if_pos ⟨hd0,h7⟩]
     subst h7
     refine fnQ cf9 fun Q qr qn=>?_
     refine Bz1 (X6 dE e0 e1 e2 e3 YZs) ?_
     exact ZaW xX rfl
    ·rw[if_neg fun h=>h7 h.2]
     have y4:(k == 4)=false:=by simpa using h4
     have y6:(k == 6)=false:=by simpa using h6
     have y7:(k == 7)=false:=by simpa using h7
     refine fnQ cf9 fun Q qr qn=>?_
     refine Bz1 (X12 dE y1 y2 y3 y4 y5 y6 y7 e0 e1 e2 (X2 e3 YZs)) ?_
     refine qcp (hraw _) fun k9=>?_
     refine Bz0 ?_
     exact ZaW xX rfl
 ·have dN:=dN hd0
  rw[if_neg fun h=>hd0 h.1,if_neg fun h=>hd0 h.1,if_neg fun h=>hd0 h.1]
  refine fnQ cf9 fun Q qr qn=>?_
  refine Bz1 (X10 dN y1 y2 y3 y5 e0 e1 e2 e3 YZs) ?_
  refine qcp (hraw _) fun k9=>?_
  refine Bz0 ?_
  exact ZaW xX rfl
end Go.Proofs.YtdfgoekdlmkdfaaGreatDoor
