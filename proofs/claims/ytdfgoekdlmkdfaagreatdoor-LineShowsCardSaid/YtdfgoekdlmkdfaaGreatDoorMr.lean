/- Texts of the walk. -/
import Derived.Test.YtdfgoekdlmkdfaaGreatDoorMq
namespace Go.Proofs.YtdfgoekdlmkdfaaGreatDoor
set_option linter.defProp false
set_option maxHeartbeats 64000000
set_option linter.unusedSimpArgs false
set_option linter.unusedVariables false
open Go.RowKit Go.Lib
def ZF4 (o:Option Tx) (H:Zaa) (r:AV) (G:Zaa):Prop:=match o with
 | some b=>Pure H (.tup [eS b,.b true]) r G
 | none=>∃x,Pure H (.tup [eS x,.b false]) r G
theorem ZBM {x:Tx} {H0 H:Zaa} (hx:Zaa.Ext H0 H):∃r2 H2,Zb6 (.tup [eS x,.b false]) H r2 H2/\ZF4 none H0 r2 H2:=by
 obtain⟨r2,H2,h1,h2⟩:=ZaW (r:=.tup [eS x,.b false]) hx rfl
 exact⟨r2,H2,h1,x,h2⟩
theorem ZDV {x y:Tx} {H0 H:Zaa} (e:x=y) (hx:Zaa.Ext H0 H):∃r2 H2,Zb6 (.tup [eS x,.b true]) H r2 H2/\ZF4 (some y) H0 r2 H2:=by
 subst e
 exact ZaW hx rfl
theorem ZCx (w:Tx) (hl:w.length<=100000):∃u b,(∀H,Zay Tryz.prog 54 [eS w] H (Pure H (.tup [eS u,.b b])))/\u.length<=w.length/\ZyG w=if b=true then some u else none:=by
 have h:=fun H=>Zy8 w H hl
 cases ht:ZyG w with
 | none=>rw[ht]at h;exact⟨[],false,h,zas _,rfl⟩
 | some u=>rw[ht]at h;exact⟨u,true,h,ZzT ht,rfl⟩
theorem ZE6 (c:UInt8) (w:Tx) (hl:w.length<=100000):∃u b,(∀H,Zay Tryz.prog 107 [eS w,eS [c]] H (Pure H (.tup [eS (ZyS c w).1,eS u,.b b])))/\(ZyS c w).1.length+u.length<=w.length/\(ZyS c w).2.getD []=u/\(ZyS c w).2.isSome=b/\(ZyS c w).2=if b=true then some u else none:=by
 have h:=fun H=>ZEp c w H hl
 have e:=congrArg List.length (ZzW c w)
 rw[zaa]at e
 unfold eCut at h
 cases ht:(ZyS c w).2 with
 | none=>rw[ht]at h e;exact⟨[],false,h,by simp at e ⊢;omega,rfl,rfl,rfl⟩
 | some u=>rw[ht]at h e;exact⟨u,true,h,by simp at e;omega,rfl,rfl,rfl⟩
theorem ZFe (w:Tx) (hl:w.length<=100000):∃n b,(∀H,Zay Tryz.prog 113 [eS w] H (Pure H (.tup [.i ((n:Nat):Int),.b b])))/\n<=9/\ZBU w=(if b=true then some n else none)/\(b=false->n=0):=by
 have h:=fun H=>ZFa w H hl
 cases ht:ZBU w with
 | none=>rw[ht]at h;exact⟨0,false,h,Xa,rfl,fun _=>rfl⟩
 | some u =>
  rw[ht]at h
  obtain⟨c,rfl,c1,c2,c3⟩:=ZCb ht
  exact⟨u,true,h,Xa,rfl,fun h=>by cases h⟩
theorem ZBf (n:Nat):(ZA2 n).length<=9:=by rw[ZA3];exact(ZA7 n).2
theorem ZDs {x c:UInt8} (h:x=c):(((x.toNat:Nat):Int) == ((c.toNat:Nat):Int))=true:=by rw[h];simp
theorem ZCm {x c:UInt8} (h:¬x=c):(((x.toNat:Nat):Int) == ((c.toNat:Nat):Int))=false:=by
 rw[beq_eq_false_iff_ne];intro e;exact h (UInt8.toNat_inj.1 Xa)
theorem ZGx (h:Tx) (H:Zaa) (hl:h.length<=9000):Zay Tryz.prog 112 [eS h] H (ZF4 (ZFr h) H):=by
 have hx0:Zaa.Ext H H:=.refl _
 have hp0:=fun H=>ZBc 0 Xa H
 have hp1:=fun H=>ZBc 1 Xa H
 have hp2:=fun H=>ZBc 2 Xa H
 have l1:=ZBf 1
 have l2:=ZBf 2
 unfold ZFr
 by_cases h0:h=[42]
 ·have d0:decide (h=[42])=true:=decide_eq_true h0
  rw[if_pos h0]
  refine fnQ ZIH fun Q qr qn=>?_
  refine Bz1 (X1 d0) ?_
  refine qcp (hp0 _) fun k1=>?_
  refine Bz0 ?_
  exact ZDV rfl hx0.bump
 have d0:decide (h=[42])=false:=decide_eq_false h0
 rw[if_neg h0]
 match h,hl,d0 with
 | [],_,d0 =>
  have d1:decide (([]:Tx)=[])=true:=rfl
  refine fnQ ZIH fun Q qr qn=>?_
  refine Bz1 (X2 d0 d1) ?_
  exact ZBM hx0
 | [c],_,d0 =>
  have d1:decide (([c]:Tx)=[])=false:=rfl
  have d2:decide (([]:Tx)=[])=true:=rfl
  obtain⟨n,b,hd,hn,he,_⟩:=ZFe [c] Xc
  have x1:=ZCa [c] 1
  have x2:=ZBP [c] 1
  have y1:([c]:Tx).take 1=[c]:=rfl
  have y2:([c]:Tx).drop 1=[]:=rfl
  have y3:([c]:Tx).length=1:=rfl
  rw[y1]at x1
  rw[y2,y3]at x2
  have b0:(0:Nat)<=1:=Xa
  have b1:(1:Nat)<=1:=Xa
  rcases bfb b with rfl|rfl
  ·refine fnQ ZIH fun Q qr qn=>?_
   refine Bz6 (X7 d0 d1 x1 x2 y3 b0 b1) ?_
   refine qcp (hd _) fun k1=>?_
   refine Bz6 (X8 d0 d1 d2 x1 x2 y3 b0 b1) ?_
   exact ZBM hx0.bump
  ·refine fnQ ZIH fun Q qr qn=>?_
   refine Bz6 (X7 d0 d1 x1 x2 y3 b0 b1) ?_
   refine qcp (hd _) fun k1=>?_
   refine Bz6 (X8 d0 d1 d2 x1 x2 y3 b0 b1) ?_
   exact ZBM hx0.bump
 | c :: x :: r,hl,d0 =>
  have d1:decide ((c :: x :: r)=[])=false:=rfl
  have d2:decide ((x :: r)=[])=false:=rfl
  obtain⟨n,b,hd,hn,he,_⟩:=ZFe [c] Xc
  have x1:=ZCa (c :: x :: r) 1
  have x2:=ZBP (c :: x :: r) 1
  have x3:=ZBP (x :: r) 1
  have y1:(c :: x :: r).take 1=[c]:=rfl
  have y2:(c :: x :: r).drop 1=x :: r:=rfl
  have y4:(x :: r).drop 1=r:=rfl
  have y3:(c :: x :: r).length=r.length+1+1:=rfl
  have y5:(x :: r).length=r.length+1:=rfl
  rw[y1]at x1
  rw[y2]at x2
  rw[y4]at x3
  have b0:(0:Nat)<=1:=Xa
  have b1:(1:Nat)<=r.length+1+1:=Xa
  have b2:(1:Nat)<=r.length+1:=Xa
  have hb:(⟨(x :: r).toArray⟩:ByteArray)[0]?=some x:=byte_at (l:=x :: r) (k:=0) Xc
  have hrl:r.length<=9000:=by simp at hl;omega
  rw[y3]at x2
  rw[y5]at x3
  simp only[he]
  rcases bfb b with rfl|rfl
  ·refine fnQ ZIH fun Q qr qn=>?_
   refine Bz6 (X7 d0 d1 x1 x2 y3 b0 b1) ?_
   refine qcp (hd _) fun k1=>?_
   refine Bz6 (X8 d0 d1 d2 x1 x2 y3 b0 b1) ?_
   exact ZBM hx0.bump
  ·have hpn:=fun H=>ZBc n Xa H
   have ln:=ZBf n
   simp only[if_true]
   by_cases hx:x=61
   ·have bq:(((x.toNat:Nat):Int) == 61)=true:=ZDs hx
    rw[if_pos hx]
    have htx:=fun H=>ZB2 r H Xa
    cases ht:ZBm r with
    | none =>
     rw[ht]at htx
     have htx:∀H,Zay Tryz.prog 108 [eS r] H (Pure H (.tup [.sl .no [],.b false])):=htx
     have hpu:=fun H=>ZCH .no [] H Xc (by simp[ZAr]) rfl
     have hrb:(ZB5 []).length<=100:=by simp[ZB5,ZBl];have:=ZBf 0;omega
     generalize ZB5 []=R at *
     have hpu:∀H,Zay Tryz.prog 156 [.sl .no []] H (Pure H (.tup [eS R,.i 0])):=hpu
     have a1:=Zz9 (ZA2 2) (ZA2 n)
     have f1:(ZA2 2).length+(ZA2 n).length<=maxLen:=ZAp Xa
     have a2:=Zz9 (ZA2 2++ZA2 n) R
     have f2:(ZA2 2++ZA2 n).length+R.length<=maxLen:=ZAp (by rw[zaa];omega)
     have f3:(ZA2 2).length+(ZA2 n).length+R.length<=maxLen:=ZAp Xa
     refine fnQ ZIH fun Q qr qn=>?_
     refine Bz6 (X7 d0 d1 x1 x2 y3 b0 b1) ?_
     refine qcp (hd _) fun k1=>?_
     refine Bz6 (X12 d0 d1 d2 x1 x2 x3 y3 y5 b0 b1 b2 (X2 hb bq)) ?_
     refine qcp (htx _) fun k2=>?_
     refine Bz0 ?_
     refine qcp (hpu _) fun k3=>?_
     refine Bz0 ?_
     refine qcp (hp2 _) fun k4=>?_
     refine Bz0 ?_
     refine qcp (hpn _) fun k5=>?_
     refine Bz1 (X5 a1 f1 a2 f2 f3) ?_
     exact ZBM hx0.bump.bump.bump.bump.bump
    | some set =>
     rw[ht]at htx
     have htx:∀H,Zay Tryz.prog 108 [eS r] H (Pure H (.tup [.sl .no (rS set),.b true])):=htx
     obtain⟨n1,n2⟩:=ZBR ht
     by_cases hr:Zgt none set=0
     ·simp only[if_pos hr]
      have hpu:=fun H=>ZCH .no set H Xa Xa hr
      have hrb:=ZCh set
      generalize ZB5 set=R at *
      have a1:=Zz9 (ZA2 2) (ZA2 n)
      have f1:(ZA2 2).length+(ZA2 n).length<=maxLen:=ZAp Xa
      have a2:=Zz9 (ZA2 2++ZA2 n) R
      have f2:(ZA2 2++ZA2 n).length+R.length<=maxLen:=ZAp (by rw[zaa];omega)
      have f3:(ZA2 2).length+(ZA2 n).length+R.length<=maxLen:=ZAp Xa
      refine fnQ ZIH fun Q qr qn=>?_
      refine Bz6 (X7 d0 d1 x1 x2 y3 b0 b1) ?_
      refine qcp (hd _) fun k1=>?_
      refine Bz6 (X12 d0 d1 d2 x1 x2 x3 y3 y5 b0 b1 b2 (X2 hb bq)) ?_
      refine qcp (htx _) fun k2=>?_
      refine Bz0 ?_
      refine qcp (hpu _) fun k3=>?_
      refine Bz0 ?_
      refine qcp (hp2 _) fun k4=>?_
      refine Bz0 ?_
      refine qcp (hpn _) fun k5=>?_
      refine Bz1 (X5 a1 f1 a2 f2 f3) ?_
      exact ZDV rfl hx0.bump.bump.bump.bump.bump
     ·simp only[if_neg hr]
      have hpu:=fun H=>tput_bad .no set H Xa hr
      have dr:(Zgt none set == 0)=false:=by simpa using hr
      have a1:=Zz9 (ZA2 2) (ZA2 n)
      have f1:(ZA2 2).length+(ZA2 n).length<=maxLen:=ZAp Xa
      have a2:=Zz9 (ZA2 2++ZA2 n) []
      have f2:(ZA2 2++ZA2 n).length+([]:Tx).length<=maxLen:=ZAp (by rw[zaa];simp;omega)
      have f3:(ZA2 2).length+(ZA2 n).length<=maxLen:=ZAp Xa
      have f4:(ZA2 2++ZA2 n).length<=maxLen:=ZAp (by rw[zaa];omega)
      refine fnQ ZIH fun Q qr qn=>?_
      refine Bz6 (X7 d0 d1 x1 x2 y3 b0 b1) ?_
      refine qcp (hd _) fun k1=>?_
      refine Bz6 (X12 d0 d1 d2 x1 x2 x3 y3 y5 b0 b1 b2 (X2 hb bq)) ?_
      refine qcp (htx _) fun k2=>?_
      refine Bz0 ?_
      refine qcp (hpu _) fun k3=>?_
      refine Bz0 ?_
      refine qcp (hp2 _) fun k4=>?_
      refine Bz0 ?_
      refine qcp (hpn _) fun k5=>?_
      refine Bz1 (X7 a1 f1 a2 f2 f3 f4 dr) ?_
      exact ZBM hx0.bump.bump.bump.bump.bump
   ·have bq:(((x.toNat:Nat):Int) == 61)=false:=ZCm hx
    rw[if_neg hx]
    obtain⟨hi,bc,hcut,hcl,c1,c2,_⟩:=ZE6 126 r Xa
    obtain⟨u,bu,htu,hul,eu⟩:=ZCx (ZyS 126 r).1 Xa
    obtain⟨v,bv,htv,hvl,ev⟩:=ZCx hi Xa
    rw[c1,c2,eu,ev]
    generalize (ZyS 126 r).1=lo at *
    have hpu:=fun H=>ZBB u Xa H
    have hpv:=fun H=>ZBB v Xa H
    have lu:=ZBe u
    have lv:=ZBe v
    have a1:=Zz9 (ZA2 1) (ZA2 n)
    have f1:(ZA2 1).length+(ZA2 n).length<=maxLen:=ZAp Xa
    have a2:=Zz9 (ZA2 1++ZA2 n) (ZA4 u)
    have f2:(ZA2 1).length+(ZA2 n).length+(ZA4 u).length<=maxLen:=ZAp Xa
    have a3:=Zz9 (ZA2 1++ZA2 n++ZA4 u) (ZA4 v)
    have g2:(ZA2 1++ZA2 n).length+(ZA4 u).length<=maxLen:=ZAp (by rw[zaa];omega)
    have g3:(ZA2 1++ZA2 n++ZA4 u).length+(ZA4 v).length<=maxLen:=ZAp (by rw[zaa,zaa];omega)
    have f3:(ZA2 1).length+(ZA2 n).length+(ZA4 u).length+(ZA4 v).length<=maxLen:=ZAp Xa
    obtain⟨bx,hbx⟩:∃bx,(((x.toNat:Nat):Int) == 126)=bx:=⟨_,rfl⟩
    refine(congrArg (fun o=>Zay Tryz.prog 112 [eS (c :: x :: r)] H (ZF4 o H)) (?_:_=(if (bx&&bc&&bu&&bv)=true then some (ZA2 1++ZA2 n++ZA4 u++ZA4 v) else none))).mpr ?_
    ·by_cases hx6:x=126
     ·have e:bx=true:=by rw[<- hbx];exact ZDs hx6
      subst e
      cases bc<;>cases bu<;>cases bv<;>simp[hx6]
     ·have e:bx=false:=by rw[<- hbx];exact ZCm hx6
      subst e
      cases bc<;>cases bu<;>cases bv<;>simp[hx6]
    refine fnQ ZIH fun Q qr qn=>?_
    refine Bz6 (X7 d0 d1 x1 x2 y3 b0 b1) ?_
    refine qcp (hd _) fun k1=>?_
    refine Bz6 (X12 d0 d1 d2 x1 x2 x3 y3 y5 b0 b1 b2 (X2 hb bq)) ?_
    refine qcp (hcut _) fun k2=>?_
    refine Bz0 ?_
    refine qcp (htu _) fun k3=>?_
    refine Bz0 ?_
    refine qcp (htv _) fun k4=>?_
    refine Bz1 (X1 hb) ?_
    refine qcp (hp1 _) fun k5=>?_
    refine Bz0 ?_
    refine qcp (hpn _) fun k6=>?_
    refine Bz1 (X2 a1 f1) ?_
    refine qcp (hpu _) fun k7=>?_
    refine Bz1 (X5 a2 f2 f3 g2 g3) ?_
    refine qcp (hpv _) fun k8=>?_
    cases bx with
    | false =>
     refine Bz1 (X4 a3 f3 g3 hbx) ?_
     exact ZBM hx0.bump.bump.bump.bump.bump.bump.bump.bump
    | true =>
     cases bc with
     | false =>
      refine Bz1 (X4 a3 f3 g3 hbx) ?_
      exact ZBM hx0.bump.bump.bump.bump.bump.bump.bump.bump
     | true =>
      cases bu with
      | false =>
       refine Bz1 (X4 a3 f3 g3 hbx) ?_
       exact ZBM hx0.bump.bump.bump.bump.bump.bump.bump.bump
      | true =>
       cases bv with
       | false =>
        refine Bz1 (X4 a3 f3 g3 hbx) ?_
        exact ZBM hx0.bump.bump.bump.bump.bump.bump.bump.bump
       | true =>
        refine Bz1 (X4 a3 f3 g3 hbx) ?_
        exact ZDV rfl hx0.bump.bump.bump.bump.bump.bump.bump.bump
theorem ZFz {h b:Tx} (e:ZFr h=some b):b.length<=20 * h.length+60:=by
 unfold ZFr at e
 by_cases h0:h=[42]
 ·rw[if_pos h0]at e
  injection e with e
  subst e
  have:=ZBf 0
  omega
 rw[if_neg h0]at e
 match h,e with
 | c :: x :: r,e =>
  simp only at e
  cases hd:ZBU [c]with
  | none=>rw[hd]at e;cases e
  | some d =>
   rw[hd]at e
   simp only at e
   have l1:=ZBf 1
   have l2:=ZBf 2
   have ln:=ZBf d
   have hl:(c :: x :: r).length=r.length+2:=rfl
   by_cases hx:x=61
   ·rw[if_pos hx]at e
    cases ht:ZBm r with
    | none=>rw[ht]at e;cases e
    | some set =>
     rw[ht]at e
     simp only at e
     obtain⟨n1,n2⟩:=ZBR ht
     have hrb:=ZCh set
     split at e
     ·injection e with e
      subst e
      simp only[zaa]
      omega
     ·cases e
   ·rw[if_neg hx]at e
    have hc:=congrArg List.length (ZzW 126 r)
    rw[zaa]at hc
    have hg:(ZyS 126 r).1.length+((ZyS 126 r).2.getD []).length<=r.length:=by
     cases h2:(ZyS 126 r).2 with
     | none=>rw[h2]at hc;simp at hc ⊢;omega
     | some q=>rw[h2]at hc;simp at hc ⊢;omega
    cases h3:ZyG (ZyS 126 r).1 with
    | none=>rw[h3]at e;cases e
    | some u =>
     cases h4:ZyG ((ZyS 126 r).2.getD [])with
     | none=>rw[h3,h4]at e;cases e
     | some v =>
      rw[h3,h4]at e
      simp only at e
      have k1:=ZzT h3
      have k2:=ZzT h4
      have k3:=ZBe u
      have k4:=ZBe v
      split at e
      ·injection e with e
       subst e
       simp only[zaa]
       omega
      ·cases e
theorem ZeW {n:Nat} (h:n<=1000000000):n<=maxLen:=by unfold maxLen;omega
theorem ZEd (tw:Tok) (l:List Tx) (H:Zaa) (hl:l.length<=2300) (hs:ZAr l<=120000) (hw0:∀w∈l,w.length<=9000):Zay Tryz.prog 57 [.sl tw (rS l)] H (Pure H (eRow (ZBI l))):=by
 have hx0:Zaa.Ext H H:=.refl _
 generalize hT0:ZBI l=T at *
 refine fnQ cf57 fun Q qr qn=>?_
 refine Bz2 ?_
 refine ZbJ (N:=l.length) (fun k F G=>Fr.get F 16=.i (k:Int)/\Fr.get F 15=.i (l.length:Int)/\Fr.get F 14=.sl tw (rS l)/\Zaa.Ext H G/\∃o,Fr.get F 4=eS o/\o.length<=20 * ZAr (l.take k)+80 * k/\T=(ZBI (l.drop k)).map (o++·)) Xd (fun k F G h=>⟨h.1,h.2.1⟩) (GStep.refl _ _) ⟨rfl,rfl,rfl,hx0,[],rfl,Xc,by rw[zaL,<- hT0];simp⟩ ?_ ?_
 ·rintro k F G hk ⟨f16,f15,f14,hx,o,f4,hol,hT⟩
  have hz:(0:Int)<=(k:Int):=Xa
  have hr:(rS l)[k]?=some [eS l[k]]:=by simp[hk]
  obtain⟨s1,s2,s3⟩:=ZCi hk
  have hwk:=hw0 _ (zah hk)
  rw[zal hk,ZBI]at hT
  generalize hw:l[k]=w at *
  obtain⟨q,bg,hcut,hcl,c1,c2,c3⟩:=ZE6 47 w Xa
  obtain⟨n,bd,hd,hn,he,hn0⟩:=ZFe q Xa
  have hfs:=fun H=>ZGx (ZyS 47 w).1 H Xa
  have hpe:ZCY w=match ZFr (ZyS 47 w).1 with
   | none=>none
   | some b=>match (ZyS 47 w).2 with
    | none=>some (b++ZA2 0)
    | some q=>(ZBU q).map fun n=>b++ZA2 (n+1):=rfl
  rw[c3]at hpe
  have hfl:=fun b=>ZFz (h:=(ZyS 47 w).1) (b:=b)
  have hq0:bg=false->q=[]:=fun e=>by rw[<- c1,c3,e];rfl
  generalize (ZyS 47 w).1=h at *
  cases hf:ZFr h with
  | none =>
   rw[hf]at hpe hfs
   have hpe:ZCY w=none:=hpe
   rw[hpe]at hT
   have hT:T=none:=hT
   skip
   refine Bz1 (X6 f16 f15 f14 f4 hz hr) ?_
   refine qcp (hcut _) fun k1=>?_
   refine Bz1 (X4 f16 f15 f14 f4) ?_
   refine Zap.use (hfs _) ?_
   rintro _ _ ⟨x,rfl,k2,rfl⟩
   refine Bz1 (X4 f16 f15 f14 f4) ?_
   rw[hT]
   exact ZaW hx.bump.bump rfl
  | some b =>
   rw[hf]at hpe hfs
   have hfl:=hfl b hf
   have hfs:∀H,Zay Tryz.prog 112 [eS h] H (Pure H (.tup [eS b,.b true])):=hfs
   simp only at hpe
   cases bg with
   | false =>
    obtain rfl:=hq0 rfl
    have hbd:bd=false:=by
     cases bd with
     | false=>rfl
     | true=>have:ZBU []=none:=rfl;rw[this]at he;cases he
    subst hbd
    obtain rfl:=hn0 rfl
    have hpe:ZCY w=some (b++ZA2 0):=hpe
    rw[hpe]at hT
    have hpn:=fun H=>ZBc 0 Xa H
    have ln:=ZBf 0
    have a1:=Zz9 b (ZA2 0)
    have f1:b.length+(ZA2 0).length<=maxLen:=ZeW Xa
    have a2:=Zz9 o (b++ZA2 0)
    have f2:o.length+(b++ZA2 0).length<=maxLen:=ZeW (by rw[zaa];omega)
    have f3:o.length+(b.length+(ZA2 0).length)<=maxLen:=ZeW Xa
    skip
    refine Bz1 (X6 f16 f15 f14 f4 hz hr) ?_
    refine qcp (hcut _) fun k1=>?_
    refine Bz1 (X4 f16 f15 f14 f4) ?_
    refine qcp (hfs _) fun k2=>?_
    refine Bz1 (X4 f16 f15 f14 f4) ?_
    refine qcp (hd _) fun k3=>?_
    refine Bz1 (X4 f16 f15 f14 f4) ?_
    refine qcp (hpn _) fun k4=>?_
    refine Bz1 (X9 f16 f15 f14 f4 a1 f1 a2 f2 f3) ?_
    exact⟨hx.bump.bump.bump.bump,o++(b++ZA2 0),rfl,by rw[zaa,zaa];omega,by rw[hT];simp only[zbB];congr 1;funext q;simp⟩
   | true =>
    cases bd with
    | false =>
     have hpe:ZCY w=none:=by rw[hpe];show Option.map _ (ZBU q)=none;rw[he];rfl
     rw[hpe]at hT
     have hT:T=none:=hT
     skip
     refine Bz1 (X6 f16 f15 f14 f4 hz hr) ?_
     refine qcp (hcut _) fun k1=>?_
     refine Bz1 (X4 f16 f15 f14 f4) ?_
     refine qcp (hfs _) fun k2=>?_
     refine Bz1 (X4 f16 f15 f14 f4) ?_
     refine qcp (hd _) fun k3=>?_
     refine Bz1 (X4 f16 f15 f14 f4) ?_
     rw[hT]
     exact ZaW hx.bump.bump.bump rfl
    | true =>
     have hpe:ZCY w=some (b++ZA2 (n+1)):=by rw[hpe];show Option.map _ (ZBU q)=_;rw[he];rfl
     rw[hpe]at hT
     have hpn:=fun H=>ZBc (n+1) Xa H
     have ln:=ZBf (n+1)
     have w1:=ZCE (s:=n) Xa
     have a1:=Zz9 b (ZA2 (n+1))
     have f1:b.length+(ZA2 (n+1)).length<=maxLen:=ZeW Xa
     have a2:=Zz9 o (b++ZA2 (n+1))
     have f2:o.length+(b++ZA2 (n+1)).length<=maxLen:=ZeW (by rw[zaa];omega)
     have f3:o.length+(b.length+(ZA2 (n+1)).length)<=maxLen:=ZeW Xa
     skip
     refine Bz1 (X6 f16 f15 f14 f4 hz hr) ?_
     refine qcp (hcut _) fun k1=>?_
     refine Bz1 (X4 f16 f15 f14 f4) ?_
     refine qcp (hfs _) fun k2=>?_
     refine Bz1 (X4 f16 f15 f14 f4) ?_
     refine qcp (hd _) fun k3=>?_
     refine Bz1 (X5 f16 f15 f14 f4 w1) ?_
     refine qcp (hpn _) fun k4=>?_
     refine Bz1 (X9 f16 f15 f14 f4 a1 f1 a2 f2 f3) ?_
     exact⟨hx.bump.bump.bump.bump,o++(b++ZA2 (n+1)),rfl,by rw[zaa,zaa];omega,by rw[hT];simp only[zbB];congr 1;funext q;simp⟩
 ·rintro F G ⟨f16,f15,f14,hx,o,f4,hol,hT⟩
  have hT:T=some o:=by rw[hT,zaG];simp[ZBI]
  skip
  refine Bz1 (X1 f4) ?_
  rw[hT]
  exact ZaW hx rfl
open Go.RowKit Go.Lib
theorem ZDa {o:Option Tx} {x:Tx} {bb:Bool} {H0 H:Zaa} (hr:o=if bb=true then some x else none) (hx:Zaa.Ext H0 H):∃r2 H2,Zb6 (.tup [eS x,.b bb]) H r2 H2/\ZF4 o H0 r2 H2:=by
 subst hr
 cases bb with
 | false=>exact ZBM hx
 | true=>exact ZDV rfl hx
end Go.Proofs.YtdfgoekdlmkdfaaGreatDoor
