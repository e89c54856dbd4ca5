/- Texts of the walk. -/
import Derived.Test.YtemmgefppobboaaGreatDoorMq
namespace Go.Proofs.YtemmgefppobboaaGreatDoor
set_option linter.defProp false
set_option linter.unusedSimpArgs false
set_option linter.unusedVariables false
open Go.RowKit Go.Lib
def ZF4 (o:Option Tx) (H:Zaa) (r:AV) (G:Zaa):Prop:=match o with
 | some b=>Pure H (.tup [eS b,.b true]) r G
 | none=>∃x,Pure H (.tup [eS x,.b false]) r G
theorem ZBM {x:Tx} {H0 H:Zaa} (hx:Zaa.Ext H0 H):∃r2 H2,Zb6 (.tup [eS x,.b false]) H r2 H2/\ZF4 none H0 r2 H2:=by
 obtain⟨r2,H2,h1,h2⟩:=ZaW (r:=.tup [eS x,.b false]) hx rfl
 exact⟨r2,H2,h1,x,h2⟩
theorem ZDV {x y:Tx} {H0 H:Zaa} (e:x=y) (hx:Zaa.Ext H0 H):∃r2 H2,Zb6 (.tup [eS x,.b true]) H r2 H2/\ZF4 (some y) H0 r2 H2:=by
 subst e
 exact ZaW hx rfl
theorem ZCx (w:Tx) (hl:w.length<=100000):∃u b,(∀H,Zay Tryz.prog 8 [eS w] H (Pure H (.tup [eS u,.b b])))/\u.length<=w.length/\ZyG w=if b=true then some u else none:=by
 have h:=fun H=>Zy8 w H hl
 cases ht:ZyG w with
 | none=>rw[ht]at h;exact⟨[],false,h,zaA _,rfl⟩
 | some u=>rw[ht]at h;exact⟨u,true,h,ZzT ht,rfl⟩
theorem ZE6 (c:UInt8) (w:Tx) (hl:w.length<=100000):∃u b,(∀H,Zay Tryz.prog 73 [eS w,eS [c]] H (Pure H (.tup [eS (ZyS c w).1,eS u,.b b])))/\(ZyS c w).1.length+u.length<=w.length/\(ZyS c w).2.getD []=u/\(ZyS c w).2.isSome=b/\(ZyS c w).2=if b=true then some u else none:=by
 have h:=fun H=>ZEp c w H hl
 have e:=congrArg List.length (ZzW c w)
 rw[zab]at e
 unfold eCut at h
 cases ht:(ZyS c w).2 with
 | none=>rw[ht]at h e;exact⟨[],false,h,by simp at e ⊢;omega,rfl,rfl,rfl⟩
 | some u=>rw[ht]at h e;exact⟨u,true,h,by simp at e;omega,rfl,rfl,rfl⟩
theorem ZFe (w:Tx) (hl:w.length<=100000):∃n b,(∀H,Zay Tryz.prog 79 [eS w] H (Pure H (.tup [.i ((n:Nat):Int),.b b])))/\n<=9/\ZBU w=(if b=true then some n else none)/\(b=false->n=0):=by
 have h:=fun H=>ZFa w H hl
 cases ht:ZBU w with
 | none=>rw[ht]at h;exact⟨0,false,h,by omega,rfl,fun _=>rfl⟩
 | some u =>
  rw[ht]at h
  obtain⟨c,rfl,c1,c2,c3⟩:=ZCb ht
  exact⟨u,true,h,by omega,rfl,fun h=>by cases h⟩
theorem ZBf (n:Nat):(ZA2 n).length<=9:=by rw[ZA3];exact(ZA7 n).2
theorem ZDs {x c:UInt8} (h:x=c):(((x.toNat:Nat):Int) == ((c.toNat:Nat):Int))=true:=by rw[h];simp
theorem ZCm {x c:UInt8} (h:¬x=c):(((x.toNat:Nat):Int) == ((c.toNat:Nat):Int))=false:=by
 rw[beq_eq_false_iff_ne];intro e;exact h (UInt8.toNat_inj.1 (by omega))
set_option maxHeartbeats 16000000 in
theorem ZGx (h:Tx) (H:Zaa) (hl:h.length<=5000):Zay Tryz.prog 78 [eS h] H (ZF4 (ZFr h) H):=by
 have hx0:Zaa.Ext H H:=.refl _
 have hp0:=fun H=>ZBc 0 (by omega) H
 have hp1:=fun H=>ZBc 1 (by omega) H
 have hp2:=fun H=>ZBc 2 (by omega) H
 have l1:=ZBf 1
 have l2:=ZBf 2
 unfold ZFr
 by_cases h0:h=[42]
 ·have d0:decide (h=[42])=true:=decide_eq_true h0
  rw[if_pos h0]
  refine Zak hE cf78 (zaa rfl) fun Q qr qn=>?_
  have hZ:=d0;refine Bz1 ?_
  refine qcp (hp0 _) fun k1=>?_
  refine Bz0 ?_
  exact ZDV rfl hx0.bump
 have d0:decide (h=[42])=false:=decide_eq_false h0
 rw[if_neg h0]
 match h,hl,d0 with
 | [],_,d0 =>
  have d1:decide (([]:Tx)=[])=true:=rfl
  refine Zak hE cf78 (zaa rfl) fun Q qr qn=>?_
  have hZ:=an7 d0<|d1;refine Bz1 ?_
  exact ZBM hx0
 | [c],_,d0 =>
  have d1:decide (([c]:Tx)=[])=false:=rfl
  have d2:decide (([]:Tx)=[])=true:=rfl
  obtain⟨n,b,hd,hn,he,_⟩:=ZFe [c] (by simp)
  have x1:=ZCa [c] 1
  have x2:=ZBP [c] 1
  have y1:([c]:Tx).take 1=[c]:=rfl
  have y2:([c]:Tx).drop 1=[]:=rfl
  have y3:([c]:Tx).length=1:=rfl
  rw[y1]at x1
  rw[y2,y3]at x2
  have b0:(0:Nat)<=1:=by omega
  have b1:(1:Nat)<=1:=by omega
  rcases bfb b with rfl|rfl
  ·refine Zak hE cf78 (zaa rfl) fun Q qr qn=>?_
   ((have hd:=tv;repeat' first|(first|apply Zad|apply Zac|apply Zab)<;>intro hd<;>try simp only[hd]|simp(disch:=first|assumption|omega|simp only[nx]<;>omega|fail)only[hd,qr,qn,ZtG,↓YA,YY,sevalprocAttr,d0,d1,Zdi,x1,x2,y3,b0,b1])<;>try revert hd;refine ttr ?_)
   refine qcp (hd _) fun k1=>?_
   ((have hd:=tv;repeat' first|(first|apply Zad|apply Zac|apply Zab)<;>intro hd<;>try simp only[hd]|simp(disch:=first|assumption|omega|simp only[nx]<;>omega|fail)only[hd,qr,qn,ZtG,↓YA,YY,sevalprocAttr,d0,d1,d2,Zdi,x1,x2,y3,b0,b1])<;>try revert hd;refine ttr ?_)
   exact ZBM hx0.bump
  ·refine Zak hE cf78 (zaa rfl) fun Q qr qn=>?_
   ((have hd:=tv;repeat' first|(first|apply Zad|apply Zac|apply Zab)<;>intro hd<;>try simp only[hd]|simp(disch:=first|assumption|omega|simp only[nx]<;>omega|fail)only[hd,qr,qn,ZtG,↓YA,YY,sevalprocAttr,d0,d1,Zdi,x1,x2,y3,b0,b1])<;>try revert hd;refine ttr ?_)
   refine qcp (hd _) fun k1=>?_
   ((have hd:=tv;repeat' first|(first|apply Zad|apply Zac|apply Zab)<;>intro hd<;>try simp only[hd]|simp(disch:=first|assumption|omega|simp only[nx]<;>omega|fail)only[hd,qr,qn,ZtG,↓YA,YY,sevalprocAttr,d0,d1,d2,Zdi,x1,x2,y3,b0,b1])<;>try revert hd;refine ttr ?_)
   exact ZBM hx0.bump
 | c :: x :: r,hl,d0 =>
  have d1:decide ((c :: x :: r)=[])=false:=rfl
  have d2:decide ((x :: r)=[])=false:=rfl
  obtain⟨n,b,hd,hn,he,_⟩:=ZFe [c] (by simp)
  have x1:=ZCa (c :: x :: r) 1
  have x2:=ZBP (c :: x :: r) 1
  have x3:=ZBP (x :: r) 1
  have y1:(c :: x :: r).take 1=[c]:=rfl
  have y2:(c :: x :: r).drop 1=x :: r:=rfl
  have y4:(x :: r).drop 1=r:=rfl
  have y3:(c :: x :: r).length=r.length+1+1:=rfl
  have y5:(x :: r).length=r.length+1:=rfl
  rw[y1]at x1
  rw[y2]at x2
  rw[y4]at x3
  have b0:(0:Nat)<=1:=by omega
  have b1:(1:Nat)<=r.length+1+1:=by omega
  have b2:(1:Nat)<=r.length+1:=by omega
  have hb:(⟨(x :: r).toArray⟩:ByteArray)[0]?=some x:=byte_at (l:=x :: r) (k:=0) (by simp)
  have hrl:r.length<=5000:=by simp at hl;omega
  rw[y3]at x2
  rw[y5]at x3
  simp only[he]
  rcases bfb b with rfl|rfl
  ·refine Zak hE cf78 (zaa rfl) fun Q qr qn=>?_
   ((have hd:=tv;repeat' first|(first|apply Zad|apply Zac|apply Zab)<;>intro hd<;>try simp only[hd]|simp(disch:=first|assumption|omega|simp only[nx]<;>omega|fail)only[hd,qr,qn,ZtG,↓YA,YY,sevalprocAttr,d0,d1,Zdi,x1,x2,y3,b0,b1])<;>try revert hd;refine ttr ?_)
   refine qcp (hd _) fun k1=>?_
   ((have hd:=tv;repeat' first|(first|apply Zad|apply Zac|apply Zab)<;>intro hd<;>try simp only[hd]|simp(disch:=first|assumption|omega|simp only[nx]<;>omega|fail)only[hd,qr,qn,ZtG,↓YA,YY,sevalprocAttr,d0,d1,d2,Zdi,x1,x2,y3,b0,b1])<;>try revert hd;refine ttr ?_)
   exact ZBM hx0.bump
  ·have hpn:=fun H=>ZBc n (by omega) H
   have ln:=ZBf n
   simp only[if_true]
   by_cases hx:x=61
   ·have bq:(((x.toNat:Nat):Int) == 61)=true:=ZDs hx
    rw[if_pos hx]
    have htx:=fun H=>ZB2 r H (by omega)
    cases ht:ZBm r with
    | none =>
     rw[ht]at htx
     have htx:∀H,Zay Tryz.prog 74 [eS r] H (Pure H (.tup [.sl .no [],.b false])):=htx
     have hpu:=fun H=>ZCH .no [] H (by simp) (by simp[ZAr]) rfl
     have hrb:(ZB5 []).length<=100:=by simp[ZB5,ZBl];have:=ZBf 0;omega
     generalize ZB5 []=R at *
     have hpu:∀H,Zay Tryz.prog 115 [.sl .no []] H (Pure H (.tup [eS R,.i 0])):=hpu
     have a1:=Zz9 (ZA2 2) (ZA2 n)
     have f1:(ZA2 2).length+(ZA2 n).length<=maxLen:=ZAp (by omega)
     have a2:=Zz9 (ZA2 2++ZA2 n) R
     have f2:(ZA2 2++ZA2 n).length+R.length<=maxLen:=ZAp (by rw[zab];omega)
     have f3:(ZA2 2).length+(ZA2 n).length+R.length<=maxLen:=ZAp (by omega)
     refine Zak hE cf78 (zaa rfl) fun Q qr qn=>?_
     ((have hd:=tv;repeat' first|(first|apply Zad|apply Zac|apply Zab)<;>intro hd<;>try simp only[hd]|simp(disch:=first|assumption|omega|simp only[nx]<;>omega|fail)only[hd,qr,qn,ZtG,↓YA,YY,sevalprocAttr,d0,d1,Zdi,x1,x2,y3,b0,b1])<;>try revert hd;refine ttr ?_)
     refine qcp (hd _) fun k1=>?_
     ((have hd:=tv;repeat' first|(first|apply Zad|apply Zac|apply Zab)<;>intro hd<;>try simp only[hd]|simp(disch:=first|assumption|omega|simp only[nx]<;>omega|fail)only[hd,qr,qn,ZtG,↓YA,YY,sevalprocAttr,d0,d1,d2,Zdi,x1,x2,x3,y3,y5,b0,b1,b2,hb,bq])<;>try revert hd;refine ttr ?_)
     refine qcp (htx _) fun k2=>?_
     refine Bz0 ?_
     refine qcp (hpu _) fun k3=>?_
     refine Bz0 ?_
     refine qcp (hp2 _) fun k4=>?_
     refine Bz0 ?_
     refine qcp (hpn _) fun k5=>?_
     have hZ:=an7 a1<|an7 f1<|an7 a2<|an7 f2<|f3;refine Bz1 ?_
     exact ZBM hx0.bump.bump.bump.bump.bump
    | some set =>
     rw[ht]at htx
     have htx:∀H,Zay Tryz.prog 74 [eS r] H (Pure H (.tup [.sl .no (rS set),.b true])):=htx
     obtain⟨n1,n2⟩:=ZBR ht
     by_cases hr:Zgt none set=0
     ·simp only[if_pos hr]
      have hpu:=fun H=>ZCH .no set H (by omega) (by omega) hr
      have hrb:=ZCh set
      generalize ZB5 set=R at *
      have a1:=Zz9 (ZA2 2) (ZA2 n)
      have f1:(ZA2 2).length+(ZA2 n).length<=maxLen:=ZAp (by omega)
      have a2:=Zz9 (ZA2 2++ZA2 n) R
      have f2:(ZA2 2++ZA2 n).length+R.length<=maxLen:=ZAp (by rw[zab];omega)
      have f3:(ZA2 2).length+(ZA2 n).length+R.length<=maxLen:=ZAp (by omega)
      refine Zak hE cf78 (zaa rfl) fun Q qr qn=>?_
      ((have hd:=tv;repeat' first|(first|apply Zad|apply Zac|apply Zab)<;>intro hd<;>try simp only[hd]|simp(disch:=first|assumption|omega|simp only[nx]<;>omega|fail)only[hd,qr,qn,ZtG,↓YA,YY,sevalprocAttr,d0,d1,Zdi,x1,x2,y3,b0,b1])<;>try revert hd;refine ttr ?_)
      refine qcp (hd _) fun k1=>?_
      ((have hd:=tv;repeat' first|(first|apply Zad|apply Zac|apply Zab)<;>intro hd<;>try simp only[hd]|simp(disch:=first|assumption|omega|simp only[nx]<;>omega|fail)only[hd,qr,qn,ZtG,↓YA,YY,sevalprocAttr,d0,d1,d2,Zdi,x1,x2,x3,y3,y5,b0,b1,b2,hb,bq])<;>try revert hd;refine ttr ?_)
      refine qcp (htx _) fun k2=>?_
      refine Bz0 ?_
      refine qcp (hpu _) fun k3=>?_
      refine Bz0 ?_
      refine qcp (hp2 _) fun k4=>?_
      refine Bz0 ?_
      refine qcp (hpn _) fun k5=>?_
      have hZ:=an7 a1<|an7 f1<|an7 a2<|an7 f2<|f3;refine Bz1 ?_
      exact ZDV rfl hx0.bump.bump.bump.bump.bump
     ·simp only[if_neg hr]
      have hpu:=fun H=>tput_bad .no set H (by omega) hr
      have dr:(Zgt none set == 0)=false:=by simpa using hr
      have a1:=Zz9 (ZA2 2) (ZA2 n)
      have f1:(ZA2 2).length+(ZA2 n).length<=maxLen:=ZAp (by omega)
      have a2:=Zz9 (ZA2 2++ZA2 n) []
      have f2:(ZA2 2++ZA2 n).length+([]:Tx).length<=maxLen:=ZAp (by rw[zab];simp;omega)
      have f3:(ZA2 2).length+(ZA2 n).length<=maxLen:=ZAp (by omega)
      have f4:(ZA2 2++ZA2 n).length<=maxLen:=ZAp (by rw[zab];omega)
      refine Zak hE cf78 (zaa rfl) fun Q qr qn=>?_
      ((have hd:=tv;repeat' first|(first|apply Zad|apply Zac|apply Zab)<;>intro hd<;>try simp only[hd]|simp(disch:=first|assumption|omega|simp only[nx]<;>omega|fail)only[hd,qr,qn,ZtG,↓YA,YY,sevalprocAttr,d0,d1,Zdi,x1,x2,y3,b0,b1])<;>try revert hd;refine ttr ?_)
      refine qcp (hd _) fun k1=>?_
      ((have hd:=tv;repeat' first|(first|apply Zad|apply Zac|apply Zab)<;>intro hd<;>try simp only[hd]|simp(disch:=first|assumption|omega|simp only[nx]<;>omega|fail)only[hd,qr,qn,ZtG,↓YA,YY,sevalprocAttr,d0,d1,d2,Zdi,x1,x2,x3,y3,y5,b0,b1,b2,hb,bq])<;>try revert hd;refine ttr ?_)
      refine qcp (htx _) fun k2=>?_
      refine Bz0 ?_
      refine qcp (hpu _) fun k3=>?_
      refine Bz0 ?_
      refine qcp (hp2 _) fun k4=>?_
      refine Bz0 ?_
      refine qcp (hpn _) fun k5=>?_
      have hZ:=an7 a1<|an7 f1<|an7 a2<|an7 f2<|an7 f3<|an7 f4<|dr;refine Bz1 ?_
      exact ZBM hx0.bump.bump.bump.bump.bump
   ·have bq:(((x.toNat:Nat):Int) == 61)=false:=ZCm hx
    rw[if_neg hx]
    obtain⟨hi,bc,hcut,hcl,c1,c2,_⟩:=ZE6 126 r (by omega)
    obtain⟨u,bu,htu,hul,eu⟩:=ZCx (ZyS 126 r).1 (by omega)
    obtain⟨v,bv,htv,hvl,ev⟩:=ZCx hi (by omega)
    rw[c1,c2,eu,ev]
    generalize (ZyS 126 r).1=lo at *
    have hpu:=fun H=>ZBB u (by omega) H
    have hpv:=fun H=>ZBB v (by omega) H
    have lu:=ZBe u
    have lv:=ZBe v
    have a1:=Zz9 (ZA2 1) (ZA2 n)
    have f1:(ZA2 1).length+(ZA2 n).length<=maxLen:=ZAp (by omega)
    have a2:=Zz9 (ZA2 1++ZA2 n) (ZA4 u)
    have f2:(ZA2 1).length+(ZA2 n).length+(ZA4 u).length<=maxLen:=ZAp (by omega)
    have a3:=Zz9 (ZA2 1++ZA2 n++ZA4 u) (ZA4 v)
    have g2:(ZA2 1++ZA2 n).length+(ZA4 u).length<=maxLen:=ZAp (by rw[zab];omega)
    have g3:(ZA2 1++ZA2 n++ZA4 u).length+(ZA4 v).length<=maxLen:=ZAp (by rw[zab,zab];omega)
    have f3:(ZA2 1).length+(ZA2 n).length+(ZA4 u).length+(ZA4 v).length<=maxLen:=ZAp (by omega)
    obtain⟨bx,hbx⟩:∃bx,(((x.toNat:Nat):Int) == 126)=bx:=⟨_,rfl⟩
    refine(congrArg (fun o=>Zay Tryz.prog 78 [eS (c :: x :: r)] H (ZF4 o H)) (?_:_=(if (bx&&bc&&bu&&bv)=true then some (ZA2 1++ZA2 n++ZA4 u++ZA4 v) else none))).mpr ?_
    ·by_cases hx6:x=126
     ·have e:bx=true:=by rw[<- hbx];exact ZDs hx6
      subst e
      cases bc<;>cases bu<;>cases bv<;>simp[hx6]
     ·have e:bx=false:=by rw[<- hbx];exact ZCm hx6
      subst e
      cases bc<;>cases bu<;>cases bv<;>simp[hx6]
    refine Zak hE cf78 (zaa rfl) fun Q qr qn=>?_
    ((have hd:=tv;repeat' first|(first|apply Zad|apply Zac|apply Zab)<;>intro hd<;>try simp only[hd]|simp(disch:=first|assumption|omega|simp only[nx]<;>omega|fail)only[hd,qr,qn,ZtG,↓YA,YY,sevalprocAttr,d0,d1,Zdi,x1,x2,y3,b0,b1])<;>try revert hd;refine ttr ?_)
    refine qcp (hd _) fun k1=>?_
    ((have hd:=tv;repeat' first|(first|apply Zad|apply Zac|apply Zab)<;>intro hd<;>try simp only[hd]|simp(disch:=first|assumption|omega|simp only[nx]<;>omega|fail)only[hd,qr,qn,ZtG,↓YA,YY,sevalprocAttr,d0,d1,d2,Zdi,x1,x2,x3,y3,y5,b0,b1,b2,hb,bq])<;>try revert hd;refine ttr ?_)
    refine qcp (hcut _) fun k2=>?_
    refine Bz0 ?_
    refine qcp (htu _) fun k3=>?_
    refine Bz0 ?_
    refine qcp (htv _) fun k4=>?_
    have hZ:=hb;refine Bz1 ?_
    refine qcp (hp1 _) fun k5=>?_
    refine Bz0 ?_
    refine qcp (hpn _) fun k6=>?_
    have hZ:=an7 a1<|f1;refine Bz1 ?_
    refine qcp (hpu _) fun k7=>?_
    have hZ:=an7 a2<|an7 f2<|an7 f3<|an7 g2<|g3;refine Bz1 ?_
    refine qcp (hpv _) fun k8=>?_
    cases bx with
    | false =>
     have hZ:=an7 a3<|an7 f3<|an7 g3<|hbx;refine Bz1 ?_
     exact ZBM hx0.bump.bump.bump.bump.bump.bump.bump.bump
    | true =>
     cases bc with
     | false =>
      have hZ:=an7 a3<|an7 f3<|an7 g3<|hbx;refine Bz1 ?_
      exact ZBM hx0.bump.bump.bump.bump.bump.bump.bump.bump
     | true =>
      cases bu with
      | false =>
       have hZ:=an7 a3<|an7 f3<|an7 g3<|hbx;refine Bz1 ?_
       exact ZBM hx0.bump.bump.bump.bump.bump.bump.bump.bump
      | true =>
       cases bv with
       | false =>
        have hZ:=an7 a3<|an7 f3<|an7 g3<|hbx;refine Bz1 ?_
        exact ZBM hx0.bump.bump.bump.bump.bump.bump.bump.bump
       | true =>
        have hZ:=an7 a3<|an7 f3<|an7 g3<|hbx;refine Bz1 ?_
        exact ZDV rfl hx0.bump.bump.bump.bump.bump.bump.bump.bump
theorem ZFz {h b:Tx} (e:ZFr h=some b):b.length<=20 * h.length+60:=by
 unfold ZFr at e
 by_cases h0:h=[42]
 ·rw[if_pos h0]at e
  injection e with e
  subst e
  have:=ZBf 0
  omega
 rw[if_neg h0]at e
 match h,e with
 | c :: x :: r,e =>
  simp only at e
  cases hd:ZBU [c]with
  | none=>rw[hd]at e;cases e
  | some d =>
   rw[hd]at e
   simp only at e
   have l1:=ZBf 1
   have l2:=ZBf 2
   have ln:=ZBf d
   have hl:(c :: x :: r).length=r.length+2:=rfl
   by_cases hx:x=61
   ·rw[if_pos hx]at e
    cases ht:ZBm r with
    | none=>rw[ht]at e;cases e
    | some set =>
     rw[ht]at e
     simp only at e
     obtain⟨n1,n2⟩:=ZBR ht
     have hrb:=ZCh set
     split at e
     ·injection e with e
      subst e
      simp only[zab]
      omega
     ·cases e
   ·rw[if_neg hx]at e
    have hc:=congrArg List.length (ZzW 126 r)
    rw[zab]at hc
    have hg:(ZyS 126 r).1.length+((ZyS 126 r).2.getD []).length<=r.length:=by
     cases h2:(ZyS 126 r).2 with
     | none=>rw[h2]at hc;simp at hc ⊢;omega
     | some q=>rw[h2]at hc;simp at hc ⊢;omega
    cases h3:ZyG (ZyS 126 r).1 with
    | none=>rw[h3]at e;cases e
    | some u =>
     cases h4:ZyG ((ZyS 126 r).2.getD [])with
     | none=>rw[h3,h4]at e;cases e
     | some v =>
      rw[h3,h4]at e
      simp only at e
      have k1:=ZzT h3
      have k2:=ZzT h4
      have k3:=ZBe u
      have k4:=ZBe v
      split at e
      ·injection e with e
       subst e
       simp only[zab]
       omega
      ·cases e
set_option maxHeartbeats 16000000 in
theorem ZEd (tw:Tok) (l:List Tx) (H:Zaa) (hl:l.length<=3000) (hs:ZAr l<=4000):Zay Tryz.prog 48 [.sl tw (rS l)] H (Pure H (eRow (ZBI l))):=by
 have hx0:Zaa.Ext H H:=.refl _
 generalize hT0:ZBI l=T at *
 refine Zak hE cf48 (zaa rfl) fun Q qr qn=>?_
 refine Bz2 ?_
 refine ZbJ (N:=l.length) (fun k F G=>Fr.get F 16=.i (k:Int)/\Fr.get F 15=.i (l.length:Int)/\Fr.get F 14=.sl tw (rS l)/\Zaa.Ext H G/\∃o,Fr.get F 4=eS o/\o.length<=20 * ZAr (l.take k)+80 * k/\T=(ZBI (l.drop k)).map (o++·)) (by unfold maxLen;omega) (fun k F G h=>⟨h.1,h.2.1⟩) (GStep.refl _ _) ⟨rfl,rfl,rfl,hx0,[],rfl,by simp,by rw[zax,<- hT0];simp⟩ ?_ ?_
 ·rintro k F G hk ⟨f16,f15,f14,hx,o,f4,hol,hT⟩
  have hz:(0:Int)<=(k:Int):=by omega
  have hr:(rS l)[k]?=some [eS l[k]]:=by simp[hk]
  obtain⟨s1,s2,s3⟩:=ZCi hk
  rw[zai hk,ZBI]at hT
  generalize hw:l[k]=w at *
  obtain⟨q,bg,hcut,hcl,c1,c2,c3⟩:=ZE6 47 w (by omega)
  obtain⟨n,bd,hd,hn,he,hn0⟩:=ZFe q (by omega)
  have hfs:=fun H=>ZGx (ZyS 47 w).1 H (by omega)
  have hpe:ZCY w=match ZFr (ZyS 47 w).1 with
   | none=>none
   | some b=>match (ZyS 47 w).2 with
    | none=>some (b++ZA2 0)
    | some q=>(ZBU q).map fun n=>b++ZA2 (n+1):=rfl
  rw[c3]at hpe
  have hfl:=fun b=>ZFz (h:=(ZyS 47 w).1) (b:=b)
  have hq0:bg=false->q=[]:=fun e=>by rw[<- c1,c3,e];rfl
  generalize (ZyS 47 w).1=h at *
  cases hf:ZFr h with
  | none =>
   rw[hf]at hpe hfs
   have hpe:ZCY w=none:=hpe
   rw[hpe]at hT
   have hT:T=none:=hT
   skip
   have hZ:=an7 f16<|an7 f15<|an7 f14<|an7 f4<|an7 hz<|hr;refine Bz1 ?_
   refine qcp (hcut _) fun k1=>?_
   have hZ:=an7 f16<|an7 f15<|an7 f14<|f4;refine Bz1 ?_
   refine Zap.use (hfs _) ?_
   rintro _ _ ⟨x,rfl,k2,rfl⟩
   have hZ:=an7 f16<|an7 f15<|an7 f14<|f4;refine Bz1 ?_
   rw[hT]
   exact ZaW hx.bump.bump rfl
  | some b =>
   rw[hf]at hpe hfs
   have hfl:=hfl b hf
   have hfs:∀H,Zay Tryz.prog 78 [eS h] H (Pure H (.tup [eS b,.b true])):=hfs
   simp only at hpe
   cases bg with
   | false =>
    obtain rfl:=hq0 rfl
    have hbd:bd=false:=by
     cases bd with
     | false=>rfl
     | true=>have:ZBU []=none:=rfl;rw[this]at he;cases he
    subst hbd
    obtain rfl:=hn0 rfl
    have hpe:ZCY w=some (b++ZA2 0):=hpe
    rw[hpe]at hT
    have hpn:=fun H=>ZBc 0 (by omega) H
    have ln:=ZBf 0
    have a1:=Zz9 b (ZA2 0)
    have f1:b.length+(ZA2 0).length<=maxLen:=ZAp (by omega)
    have a2:=Zz9 o (b++ZA2 0)
    have f2:o.length+(b++ZA2 0).length<=maxLen:=ZAp (by rw[zab];omega)
    have f3:o.length+(b.length+(ZA2 0).length)<=maxLen:=ZAp (by omega)
    skip
    have hZ:=an7 f16<|an7 f15<|an7 f14<|an7 f4<|an7 hz<|hr;refine Bz1 ?_
    refine qcp (hcut _) fun k1=>?_
    have hZ:=an7 f16<|an7 f15<|an7 f14<|f4;refine Bz1 ?_
    refine qcp (hfs _) fun k2=>?_
    have hZ:=an7 f16<|an7 f15<|an7 f14<|f4;refine Bz1 ?_
    refine qcp (hd _) fun k3=>?_
    have hZ:=an7 f16<|an7 f15<|an7 f14<|f4;refine Bz1 ?_
    refine qcp (hpn _) fun k4=>?_
    have hZ:=an7 f16<|an7 f15<|an7 f14<|an7 f4<|an7 a1<|an7 f1<|an7 a2<|an7 f2<|f3;refine Bz1 ?_
    exact⟨hx.bump.bump.bump.bump,o++(b++ZA2 0),rfl,by rw[zab,zab];omega,by rw[hT];simp only[zbf];congr 1;funext q;simp⟩
   | true =>
    cases bd with
    | false =>
     have hpe:ZCY w=none:=by rw[hpe];show Option.map _ (ZBU q)=none;rw[he];rfl
     rw[hpe]at hT
     have hT:T=none:=hT
     skip
     have hZ:=an7 f16<|an7 f15<|an7 f14<|an7 f4<|an7 hz<|hr;refine Bz1 ?_
     refine qcp (hcut _) fun k1=>?_
     have hZ:=an7 f16<|an7 f15<|an7 f14<|f4;refine Bz1 ?_
     refine qcp (hfs _) fun k2=>?_
     have hZ:=an7 f16<|an7 f15<|an7 f14<|f4;refine Bz1 ?_
     refine qcp (hd _) fun k3=>?_
     have hZ:=an7 f16<|an7 f15<|an7 f14<|f4;refine Bz1 ?_
     rw[hT]
     exact ZaW hx.bump.bump.bump rfl
    | true =>
     have hpe:ZCY w=some (b++ZA2 (n+1)):=by rw[hpe];show Option.map _ (ZBU q)=_;rw[he];rfl
     rw[hpe]at hT
     have hpn:=fun H=>ZBc (n+1) (by omega) H
     have ln:=ZBf (n+1)
     have w1:=ZCE (s:=n) (by omega)
     have a1:=Zz9 b (ZA2 (n+1))
     have f1:b.length+(ZA2 (n+1)).length<=maxLen:=ZAp (by omega)
     have a2:=Zz9 o (b++ZA2 (n+1))
     have f2:o.length+(b++ZA2 (n+1)).length<=maxLen:=ZAp (by rw[zab];omega)
     have f3:o.length+(b.length+(ZA2 (n+1)).length)<=maxLen:=ZAp (by omega)
     skip
     have hZ:=an7 f16<|an7 f15<|an7 f14<|an7 f4<|an7 hz<|hr;refine Bz1 ?_
     refine qcp (hcut _) fun k1=>?_
     have hZ:=an7 f16<|an7 f15<|an7 f14<|f4;refine Bz1 ?_
     refine qcp (hfs _) fun k2=>?_
     have hZ:=an7 f16<|an7 f15<|an7 f14<|f4;refine Bz1 ?_
     refine qcp (hd _) fun k3=>?_
     have hZ:=an7 f16<|an7 f15<|an7 f14<|an7 f4<|w1;refine Bz1 ?_
     refine qcp (hpn _) fun k4=>?_
     have hZ:=an7 f16<|an7 f15<|an7 f14<|an7 f4<|an7 a1<|an7 f1<|an7 a2<|an7 f2<|f3;refine Bz1 ?_
     exact⟨hx.bump.bump.bump.bump,o++(b++ZA2 (n+1)),rfl,by rw[zab,zab];omega,by rw[hT];simp only[zbf];congr 1;funext q;simp⟩
 ·rintro F G ⟨f16,f15,f14,hx,o,f4,hol,hT⟩
  have hT:T=some o:=by rw[hT,zaw];simp[ZBI]
  skip
  have hZ:=f4;refine Bz1 ?_
  rw[hT]
  exact ZaW hx rfl
open Go.RowKit Go.Lib
def ZED:Zar:=rs 83 [.M 4,.O (.ixa 1 (.t 84) (ik 0)),.l 1 85,.C 28 [.t 86,.c (.sc (.int .u8 126))],.s 7]<|ri 87 [.R 7,.B .neq 89 3,.h 90,.M 7,.O (.ixa 1 (.t 92) (ik 0)),.l 1 93,.c 88 [94],.B .lss 95 0,.z] 97 (rr 0 [.o 2 (.mv (.c (.sc (.string ⟨#[]⟩)))),.K 3])<|rs 98 [.M 7,.O (.ixa 1 (.t 99) (ik 1)),.l 1 100,.c 9 [101],.s 98,.e 98 0,.e 98 1,.m 10 103,.s 11]<|rs 105 [.M 7,.O (.ixa 1 (.t 106) (ik 2)),.l 1 107,.c 9 [108],.s 105,.e 105 0,.e 105 1,.m 12 110,.s 13]<|.seq (.drw [ip (im 113 7),ip (io 114 (.ixa 1 (.t 113) (ik 0))),ip (io 115 (.ld 1 false (.t 114))),ip (im 119 10),ip (im 122 12),ip (im 125 6),ip (im 127 11),(io 112 (.call (jf 53) [ik 1]),[io 115 (.ld 1 false (.t 114))]),ip (io 116 (.call (jf 88) [.t 115])),ip (io 117 (.call (jf 53) [.t 116])),ip (io 118 (.bin .add (.t 112) (.t 117))),ip (io 120 (.call (jf 82) [.t 119])),ip (io 121 (.bin .add (.t 118) (.t 120))),ip (io 123 (.call (jf 82) [.t 122])),ip (io 124 (.bin .add (.t 121) (.t 123))),ip (io 126 (.bin .add (.t 124) (.t 125))),ip (im 128 127),ip (ig 128 129 (.mv (.t 13))),ip (io 130 (.pick (.t 128) (.t 129) (ib false))),ip (im 2 126),ip (im 3 130)])<|.ret
def ZCn:Zar:=ri 37 [.M 4,.O (.ixa 1 (.t 38) (ik 0)),.l 1 39,.O (.bin .eql (.t 40) (.c (.sc (.string ⟨#[42]⟩))))] 41 (rr 41 [.C 53 [ik 0],.M 6,.b .add 42 43,.s 2,.T 3])<|rs 44 [.M 4,.O (.ixa 1 (.t 45) (ik 0)),.l 1 46,.C 28 [.t 47,.c (.sc (.int .u8 61))],.s 7]<|ri 48 [.R 7,.B .eql 50 2,.y 51,.M 7,.O (.ixa 1 (.t 53) (ik 0)),.l 1 54,.c 88 [55],.B .geq 56 0,.z] 58 (rs 59 [.M 7,.O (.ixa 1 (.t 60) (ik 1)),.l 1 61,.c 86 [62],.s 59,.e 59 0,.e 59 1,.m 8 64,.s 9]<|.seq (.drw [ip (im 67 7),ip (io 68 (.ixa 1 (.t 67) (ik 0))),ip (io 69 (.ld 1 false (.t 68))),ip (im 73 8),ip (im 76 6),ip (im 78 9),(io 66 (.call (jf 53) [ik 2]),[io 69 (.ld 1 false (.t 68))]),ip (io 70 (.call (jf 88) [.t 69])),ip (io 71 (.call (jf 53) [.t 70])),ip (io 72 (.bin .add (.t 66) (.t 71))),ip (io 74 (.call (jf 89) [.t 73])),ip (io 75 (.bin .add (.t 72) (.t 74))),ip (io 77 (.bin .add (.t 75) (.t 76))),ip (im 79 78),ip (ig 79 80 (.mv (.t 8))),ip (ig 79 81 (.call (jf 90) [.t 80])),ip (ig 79 82 (.bin .eql (.t 81) (ik 0))),ip (io 83 (.pick (.t 79) (.t 82) (ib false))),ip (im 2 77),ip (im 3 83)])<|.ret)<|ZED
theorem ZC0:ZkZ=.seq (.reg [io 2 (.mv (.c (.sc (.string ⟨#[]⟩)))),io 3 (.mv (ib false))]) (.seq (.reg [im 14 0,io 15 (.call (jf 28) [.t 14,.c (.sc (.int .u8 47))]),im 4 15]) (.seq (.reg [jm 5 0]) (.seq (.seq (.reg [im 16 4,io 17 (.len false (.t 16)),io 18 (.bin .eql (.t 17) (ik 2))]) (.cond (.t 18) (.reg [im 19 4,io 20 (.ixa 1 (.t 19) (ik 1)),io 21 (.ld 1 false (.t 20)),io 22 (.call (jf 88) [.t 21]),io 23 (.bin .add (.t 22) (ik 1)),im 5 23]) .skip)) (.seq (.seq (.reg [im 24 4,io 25 (.len false (.t 24)),io 26 (.bin .gtr (.t 25) (ik 2)),im 27 26,ih 27 28 (.mv (.t 4)),ih 27 29 (.len false (.t 28)),ih 27 30 (.bin .eql (.t 29) (ik 2)),ih 27 31 (.mv (.t 30)),ig 31 32 (.mv (.t 5)),ig 31 33 (.bin .eql (.t 32) (ik 0)),ih 27 34 (.pick (.t 31) (.t 33) (ib false)),io 35 (.pick (.t 27) (ib true) (.t 34))]) (.cond (.t 35) (.seq (.reg [io 2 (.mv (.c (.sc (.string ⟨#[]⟩)))),io 3 (.mv (ib false))]) .ret) .skip)) (.seq (.reg [im 36 5,io 37 (.call (jf 53) [.t 36]),im 6 37]) ZCn))))):=rfl
theorem ZDc (w:Tx) (hl:w.length<=100000):∃u b,(∀H,Zay Tryz.prog 9 [eS w] H (Pure H (.tup [eS u,.b b])))/\u.length<=w.length/\ZyG w=if b=true then some u else none:=by
 have h:=fun H=>ZzE w H hl
 cases ht:ZyG w with
 | none=>rw[ht]at h;exact⟨[],false,h,zaA _,rfl⟩
 | some u=>rw[ht]at h;exact⟨u,true,h,ZzT ht,rfl⟩
theorem ZD6 (w:Tx) (hl:w.length<=100000):(ZBU w=none/\∀H,Zay Tryz.prog 88 [eS w] H (Pure H (.i (-1))))\/∃n,ZBU w=some n/\n<=9/\∀H,Zay Tryz.prog 88 [eS w] H (Pure H (.i ((n:Nat):Int))):=by
 have h:=fun H=>ZEx w H hl
 cases ht:ZBU w with
 | none=>rw[ht]at h;exact .inl ⟨rfl,h⟩
 | some u =>
  rw[ht]at h
  obtain⟨c,rfl,c1,c2,c3⟩:=ZCb ht
  exact .inr ⟨u,rfl,by omega,h⟩
set_option maxHeartbeats 16000000 in
theorem ZEs {Q:AEx->Fr->Zaa->Prop} {F:Fr} {H G:Zaa} {tk:Tok} {a e:Tx} {rest:List (List AV)} (ha:a.length<=5000) (he:e.length<=9) (f4:Fr.get F 4=.sl tk ([eS a] :: rest)) (f6:Fr.get F 6=eS e) (hx0:Zaa.Ext H G)
  (hQ:∀F' G' x bb,Fr.get F' 2=eS x->Fr.get F' 3=.b bb->Zaa.Ext H G'->(ZBq (ZyA 126 a)).map (·++e)=(if bb=true then some x else none)->Q .ret F' G'):AW Tryz.prog ZED Q F G:=by
 have qr:=trivial
 have qn:=trivial
 have hsp:=fun H=>ZBj 126 a H (by omega)
 have hmem:=ZBw 126 a
 have h0:([eS a] :: rest)[0]?=some [eS a]:=rfl
 have z0:(0:Int)<=0:=za9 _
 by_cases h3:(ZyA 126 a).length=3
 ·match hp:ZyA 126 a,h3 with
  | [x,y,z],_ =>
   rw[hp]at hsp hmem hQ
   have hxl:=hmem x (by simp)
   have hyl:=hmem y (by simp)
   have hzl:=hmem z (by simp)
   have hsp:∀H,Zay Tryz.prog 28 [eS a,u8 126] H (Pure H (.sl .no [[eS x],[eS y],[eS z]])):=hsp
   have dl:([[eS x],[eS y],[eS z]]:List (List AV)).length=3:=rfl
   have d3:((((3:Nat):Int)) != 3)=false:=rfl
   have q0:([[eS x],[eS y],[eS z]]:List (List AV))[0]?=some [eS x]:=rfl
   have q1:([[eS x],[eS y],[eS z]]:List (List AV))[1]?=some [eS y]:=rfl
   have q2:([[eS x],[eS y],[eS z]]:List (List AV))[2]?=some [eS z]:=rfl
   have z1:(0:Int)<=1:=by decide
   have z2:(0:Int)<=2:=by decide
   rcases ZD6 x (by omega)with⟨hd,hdg⟩|⟨n,hd,hn,hdg⟩
   ·have hr:ZBq [x,y,z]=none:=by unfold ZBq;simp only[hd]
    have dm:decide ((-1:Int)<0)=true:=by decide
    unfold ZED
    have hZ:=an7 f4<|an7 f6<|an7 h0<|z0;refine Bz1 ?_
    refine qcp (hsp _) fun k1=>?_
    have hZ:=an7 f4<|an7 f6<|an7 dl<|an7 d3<|an7 q0<|an7 q1<|an7 q2<|an7 z0<|an7 z1<|z2;refine Bz1 ?_
    refine qcp (hdg _) fun k2=>?_
    have hZ:=an7 f4<|an7 f6<|dm;refine Bz1 ?_
    exact hQ _ _ [] false rfl rfl hx0.bump.bump (by rw[hr];rfl)
   ·obtain⟨u,bu,htu,hul,eu⟩:=ZDc y (by omega)
    obtain⟨v,bv,htv,hvl,ev⟩:=ZDc z (by omega)
    have hr:ZBq [x,y,z]=if (bu&&bv)=true then some (ZA2 1++ZA2 n++ZA4 u++ZA4 v) else none:=by
     unfold ZBq
     simp only[hd,eu,ev]
     cases bu<;>cases bv<;>rfl
    have dm:decide (((n:Nat):Int)<0)=false:=by simp
    have hp1:=fun H=>ZA6 1 (by omega) H
    have hpn:=fun H=>ZA6 n (by omega) H
    have hpu:=fun H=>ZBr u (by omega) H
    have hpv:=fun H=>ZBr v (by omega) H
    have l1:=ZBf 1
    have ln:=ZBf n
    have lu:=ZBe u
    have lv:=ZBe v
    have a1:=Zz9 (ZA2 1) (ZA2 n)
    have f1:(ZA2 1).length+(ZA2 n).length<=maxLen:=ZAp (by omega)
    have a2:=Zz9 (ZA2 1++ZA2 n) (ZA4 u)
    have f2:(ZA2 1++ZA2 n).length+(ZA4 u).length<=maxLen:=ZAp (by rw[zab];omega)
    have a3:=Zz9 (ZA2 1++ZA2 n++ZA4 u) (ZA4 v)
    have f3:(ZA2 1++ZA2 n++ZA4 u).length+(ZA4 v).length<=maxLen:=ZAp (by rw[zab,zab];omega)
    have a4:=Zz9 (ZA2 1++ZA2 n++ZA4 u++ZA4 v) e
    have f5:(ZA2 1++ZA2 n++ZA4 u++ZA4 v).length+e.length<=maxLen:=ZAp (by rw[zab,zab,zab];omega)
    unfold ZED
    have hZ:=an7 f4<|an7 f6<|an7 h0<|z0;refine Bz1 ?_
    refine qcp (hsp _) fun k1=>?_
    have hZ:=an7 f4<|an7 f6<|an7 dl<|an7 d3<|an7 q0<|an7 q1<|an7 q2<|an7 z0<|an7 z1<|z2;refine Bz1 ?_
    refine qcp (hdg _) fun k2=>?_
    have hZ:=an7 f4<|an7 f6<|an7 dm<|an7 dl<|an7 d3<|an7 q0<|an7 q1<|an7 q2<|an7 z0<|an7 z1<|z2;refine Bz1 ?_
    refine qcp (htu _) fun k3=>?_
    have hZ:=an7 f4<|an7 f6<|an7 dl<|an7 d3<|an7 q0<|an7 q1<|an7 q2<|an7 z0<|an7 z1<|z2;refine Bz1 ?_
    refine qcp (htv _) fun k4=>?_
    have hZ:=an7 f4<|an7 f6<|an7 dl<|an7 d3<|an7 q0<|an7 q1<|an7 q2<|an7 z0<|an7 z1<|z2;refine Bz1 ?_
    refine qcp (hp1 _) fun k5=>?_
    have hZ:=an7 f4<|an7 f6<|an7 dl<|an7 d3<|an7 q0<|an7 q1<|an7 q2<|an7 z0<|an7 z1<|z2;refine Bz1 ?_
    refine qcp (hdg _) fun k6=>?_
    have hZ:=an7 f4<|f6;refine Bz1 ?_
    refine qcp (hpn _) fun k7=>?_
    have hZ:=an7 f4<|an7 f6<|an7 a1<|f1;refine Bz1 ?_
    refine qcp (hpu _) fun k8=>?_
    have hZ:=an7 f4<|an7 f6<|an7 a2<|f2;refine Bz1 ?_
    refine qcp (hpv _) fun k9=>?_
    cases bu with
    | false =>
     have hZ:=an7 f4<|an7 f6<|an7 a3<|an7 f3<|an7 a4<|f5;refine Bz1 ?_
     exact hQ _ _ _ false rfl rfl hx0.bump.bump.bump.bump.bump.bump.bump.bump.bump (by rw[hr];rfl)
    | true =>
     have hZ:=an7 f4<|an7 f6<|an7 a3<|an7 f3<|an7 a4<|f5;refine Bz1 ?_
     exact hQ _ _ _ bv rfl rfl hx0.bump.bump.bump.bump.bump.bump.bump.bump.bump (by rw[hr];cases bv<;>simp)
 ·have hr:ZBq (ZyA 126 a)=none:=by
   match hp:ZyA 126 a,h3 with
   | [],_=>rfl
   | [_],_=>rfl
   | [_,_],_=>rfl
   | _ :: _ :: _ :: _ :: _,_=>rfl
  have d3:((((ZyA 126 a).length:Nat):Int) != 3)=true:=by simp only[bne_iff_ne];omega
  generalize ZyA 126 a=ps at *
  unfold ZED
  have hZ:=an7 f4<|an7 f6<|an7 h0<|z0;refine Bz1 ?_
  refine qcp (hsp _) fun k1=>?_
  have hZ:=an7 f4<|an7 f6<|d3;refine Bz3 ?_
  exact hQ _ _ [] false rfl rfl hx0.bump (by rw[hr];rfl)
theorem filR_no {h:Tx} (h0:¬h=[42]) (h2:(ZyA 61 h).length≠2):filR h=ZBq (ZyA 126 h):=by
 unfold filR
 rw[if_neg h0]
 match hp:ZyA 61 h,h2 with
 | [],_=>rfl
 | [_],_=>rfl
 | _ :: _ :: _ :: _,_=>rfl
theorem filR_two {h x y:Tx} (h0:¬h=[42]) (hp:ZyA 61 h=[x,y]):filR h=match ZBU x with
  | none=>ZBq (ZyA 126 h)
  | some d=>match ZBm y with
   | none=>none
   | some set=>if Zgt none set=0 then some (ZA2 2++ZA2 d++ZB5 set) else none:=by
 unfold filR
 rw[if_neg h0,hp]
 rfl
set_option maxHeartbeats 16000000 in
theorem ZDD {Q:AEx->Fr->Zaa->Prop} {F:Fr} {H G:Zaa} {tk:Tok} {a e:Tx} {rest:List (List AV)} (ha:a.length<=5000) (he:e.length<=9) (f4:Fr.get F 4=.sl tk ([eS a] :: rest)) (f6:Fr.get F 6=eS e) (hx0:Zaa.Ext H G)
  (hQ:∀F' G' x bb,Fr.get F' 2=eS x->Fr.get F' 3=.b bb->Zaa.Ext H G'->(filR a).map (·++e)=(if bb=true then some x else none)->Q .ret F' G'):AW Tryz.prog ZCn Q F G:=by
 have qr:=trivial
 have qn:=trivial
 have hp0:=fun H=>ZA6 0 (by omega) H
 have hp2:=fun H=>ZA6 2 (by omega) H
 have l0:=ZBf 0
 have l2:=ZBf 2
 have h0:([eS a] :: rest)[0]?=some [eS a]:=rfl
 have z0:(0:Int)<=0:=za9 _
 by_cases hs:a=[42]
 ·have ds:decide (a=[42])=true:=decide_eq_true hs
  have hr:filR a=some (ZA2 0):=by unfold filR;rw[if_pos hs]
  have a1:=Zz9 (ZA2 0) e
  have f1:(ZA2 0).length+e.length<=maxLen:=ZAp (by omega)
  unfold ZCn
  have hZ:=an7 f4<|an7 f6<|an7 h0<|an7 z0<|ds;refine Bz1 ?_
  refine qcp (hp0 _) fun k1=>?_
  have hZ:=an7 f4<|an7 f6<|an7 a1<|f1;refine Bz1 ?_
  exact hQ _ _ _ true rfl rfl hx0.bump (by rw[hr];rfl)
 have ds:decide (a=[42])=false:=decide_eq_false hs
 have hsp:=fun H=>ZBj 61 a H (by omega)
 have hmem:=ZBw 61 a
 by_cases h3:(ZyA 61 a).length=2
 ·match hp:ZyA 61 a,h3 with
  | [x,y],_ =>
   have hfr:=filR_two hs hp
   rw[hp]at hsp hmem
   have hxl:=hmem x (by simp)
   have hyl:=hmem y (by simp)
   have hsp:∀H,Zay Tryz.prog 28 [eS a,u8 61] H (Pure H (.sl .no [[eS x],[eS y]])):=hsp
   have dl:([[eS x],[eS y]]:List (List AV)).length=2:=rfl
   have d3:((((2:Nat):Int)) == 2)=true:=rfl
   have q0:([[eS x],[eS y]]:List (List AV))[0]?=some [eS x]:=rfl
   have q1:([[eS x],[eS y]]:List (List AV))[1]?=some [eS y]:=rfl
   have z1:(0:Int)<=1:=by decide
   rcases ZD6 x (by omega)with⟨hd,hdg⟩|⟨n,hd,hn,hdg⟩
   ·rw[hd]at hfr
    simp only at hfr
    have dm:decide ((-1:Int)≥0)=false:=by decide
    unfold ZCn
    have hZ:=an7 f4<|an7 f6<|an7 h0<|an7 z0<|ds;refine Bz1 ?_
    refine qcp (hsp _) fun k1=>?_
    have hZ:=an7 f4<|an7 f6<|an7 dl<|an7 d3<|an7 q0<|an7 q1<|an7 z0<|z1;refine Bz1 ?_
    refine qcp (hdg _) fun k2=>?_
    have hZ:=an7 f4<|an7 f6<|dm;refine Bz1 ?_
    exact ZEs (tk:=tk) (rest:=rest) ha he f4 f6 hx0.bump.bump (by rw[<- hfr];exact hQ)
   ·rw[hd]at hfr
    simp only at hfr
    have dm:decide (((n:Nat):Int)≥0)=true:=by simp
    have hpn:=fun H=>ZA6 n (by omega) H
    have ln:=ZBf n
    have htx:=fun H=>ZCT y H (by omega)
    have a1:=Zz9 (ZA2 2) (ZA2 n)
    have f1:(ZA2 2).length+(ZA2 n).length<=maxLen:=ZAp (by omega)
    cases ht:ZBm y with
    | none =>
     rw[ht]at htx hfr
     have htx:∀H,Zay Tryz.prog 86 [eS y] H (Pure H (.tup [.sl .no [],.b false])):=htx
     have hpu:=fun H=>ZCl .no [] H (by simp) (by simp[ZAr])
     have hrb:(ZB5 []).length<=100:=by simp[ZB5,ZBl];have:=ZBf 0;omega
     generalize ZB5 []=R at *
     have hpu:∀H,Zay Tryz.prog 89 [.sl .no []] H (Pure H (eS R)):=hpu
     have a2:=Zz9 (ZA2 2++ZA2 n) R
     have f2:(ZA2 2++ZA2 n).length+R.length<=maxLen:=ZAp (by rw[zab];omega)
     have a3:=Zz9 (ZA2 2++ZA2 n++R) e
     have f3:(ZA2 2++ZA2 n++R).length+e.length<=maxLen:=ZAp (by rw[zab,zab];omega)
     unfold ZCn
     have hZ:=an7 f4<|an7 f6<|an7 h0<|an7 z0<|ds;refine Bz1 ?_
     refine qcp (hsp _) fun k1=>?_
     have hZ:=an7 f4<|an7 f6<|an7 dl<|an7 d3<|an7 q0<|an7 q1<|an7 z0<|z1;refine Bz1 ?_
     refine qcp (hdg _) fun k2=>?_
     have hZ:=an7 f4<|an7 f6<|an7 dm<|an7 dl<|an7 d3<|an7 q0<|an7 q1<|an7 z0<|z1;refine Bz1 ?_
     refine qcp (htx _) fun k3=>?_
     have hZ:=an7 f4<|an7 f6<|an7 dl<|an7 d3<|an7 q0<|an7 q1<|an7 z0<|z1;refine Bz1 ?_
     refine qcp (hp2 _) fun k4=>?_
     have hZ:=an7 f4<|an7 f6<|an7 dl<|an7 d3<|an7 q0<|an7 q1<|an7 z0<|z1;refine Bz1 ?_
     refine qcp (hdg _) fun k5=>?_
     have hZ:=an7 f4<|f6;refine Bz1 ?_
     refine qcp (hpn _) fun k6=>?_
     have hZ:=an7 f4<|an7 f6<|an7 a1<|f1;refine Bz1 ?_
     refine qcp (hpu _) fun k7=>?_
     have hZ:=an7 f4<|an7 f6<|an7 a2<|an7 f2<|an7 a3<|f3;refine Bz1 ?_
     exact hQ _ _ _ false rfl rfl hx0.bump.bump.bump.bump.bump.bump.bump (by rw[hfr];rfl)
    | some set =>
     rw[ht]at htx hfr
     have htx:∀H,Zay Tryz.prog 86 [eS y] H (Pure H (.tup [.sl .no (rS set),.b true])):=htx
     obtain⟨n1,n2⟩:=ZBR ht
     have hpu:=fun H=>ZCl .no set H (by omega) (by omega)
     have hrw:=fun H=>Zki .no set H (by omega)
     have hrb:=ZCh set
     simp only at hfr
     generalize ZB5 set=R at *
     have a2:=Zz9 (ZA2 2++ZA2 n) R
     have f2:(ZA2 2++ZA2 n).length+R.length<=maxLen:=ZAp (by rw[zab];omega)
     have a3:=Zz9 (ZA2 2++ZA2 n++R) e
     have f3:(ZA2 2++ZA2 n++R).length+e.length<=maxLen:=ZAp (by rw[zab,zab];omega)
     unfold ZCn
     have hZ:=an7 f4<|an7 f6<|an7 h0<|an7 z0<|ds;refine Bz1 ?_
     refine qcp (hsp _) fun k1=>?_
     have hZ:=an7 f4<|an7 f6<|an7 dl<|an7 d3<|an7 q0<|an7 q1<|an7 z0<|z1;refine Bz1 ?_
     refine qcp (hdg _) fun k2=>?_
     have hZ:=an7 f4<|an7 f6<|an7 dm<|an7 dl<|an7 d3<|an7 q0<|an7 q1<|an7 z0<|z1;refine Bz1 ?_
     refine qcp (htx _) fun k3=>?_
     have hZ:=an7 f4<|an7 f6<|an7 dl<|an7 d3<|an7 q0<|an7 q1<|an7 z0<|z1;refine Bz1 ?_
     refine qcp (hp2 _) fun k4=>?_
     have hZ:=an7 f4<|an7 f6<|an7 dl<|an7 d3<|an7 q0<|an7 q1<|an7 z0<|z1;refine Bz1 ?_
     refine qcp (hdg _) fun k5=>?_
     have hZ:=an7 f4<|f6;refine Bz1 ?_
     refine qcp (hpn _) fun k6=>?_
     have hZ:=an7 f4<|an7 f6<|an7 a1<|f1;refine Bz1 ?_
     refine qcp (hpu _) fun k7=>?_
     have hZ:=an7 f4<|an7 f6<|an7 a2<|an7 f2<|an7 a3<|f3;refine Bz1 ?_
     refine qcp (hrw _) fun k8=>?_
     have hZ:=an7 f4<|f6;refine Bz1 ?_
     refine hQ _ _ _ (Zgt none set == 0) rfl rfl hx0.bump.bump.bump.bump.bump.bump.bump.bump ?_
     rw[hfr]
     by_cases hr:Zgt none set=0
     ·simp[hr]
     ·simp[hr]
 ·have hr:=filR_no hs h3
  have d3:((((ZyA 61 a).length:Nat):Int) == 2)=false:=by simp only[beq_eq_false_iff_ne];omega
  generalize ZyA 61 a=ps at *
  unfold ZCn
  have hZ:=an7 f4<|an7 f6<|an7 h0<|an7 z0<|ds;refine Bz1 ?_
  refine qcp (hsp _) fun k1=>?_
  have hZ:=an7 f4<|an7 f6<|d3;refine Bz3 ?_
  exact ZEs (tk:=tk) (rest:=rest) ha he f4 f6 hx0.bump (by rw[<- hr];exact hQ)
theorem ZDa {o:Option Tx} {x:Tx} {bb:Bool} {H0 H:Zaa} (hr:o=if bb=true then some x else none) (hx:Zaa.Ext H0 H):∃r2 H2,Zb6 (.tup [eS x,.b bb]) H r2 H2/\ZF4 o H0 r2 H2:=by
 subst hr
 cases bb with
 | false=>exact ZBM hx
 | true=>exact ZDV rfl hx
set_option maxHeartbeats 16000000 in
theorem ZEg (w:Tx) (H:Zaa) (hl:w.length<=5000):Zay Tryz.prog 55 [eS w] H (ZF4 (ZCY w) H):=by
 have hx0:Zaa.Ext H H:=.refl _
 rw[<- ZGX]
 have hsp:=fun H=>ZBj 47 w H (by omega)
 have hmem:=ZBw 47 w
 have hcl:(ZyS 47 w).1.length<=w.length:=by
  have e:=congrArg List.length (ZzW 47 w)
  rw[zab]at e
  omega
 have hpc:=ZyM 47 w
 unfold pickR
 obtain⟨p,ps,hps⟩:=ZBd 47 w
 rw[hps]at hsp hmem hpc ⊢
 injection hpc with hpc _
 rw[<- hpc]at hcl ⊢
 have z0:(0:Int)<=0:=za9 _
 have z1:(0:Int)<=1:=by decide
 match ps,hsp,hmem with
 | [],hsp,hmem =>
  have hsp:∀H,Zay Tryz.prog 28 [eS w,u8 47] H (Pure H (.sl .no [[eS p]])):=hsp
  have dl:([[eS p]]:List (List AV)).length=1:=rfl
  have d1:((((1:Nat):Int)) == 2)=false:=rfl
  have d2:decide ((((1:Nat):Int)) > 2)=false:=rfl
  have hp0:=fun H=>ZA6 0 (by omega) H
  refine Zak hE cf55 (zaa rfl) fun Q qr qn=>?_
  rw[ZC0]
  refine Bz0 ?_
  refine qcp (hsp _) fun k1=>?_
  have hZ:=an7 dl<|an7 d1<|d2;refine Bz1 ?_
  refine qcp (hp0 _) fun k2=>?_
  refine Bz0 ?_
  refine ZDD (a:=p) (e:=ZA2 0) (tk:=.no) (rest:=[]) (by omega) (ZBf 0) rfl rfl hx0.bump.bump ?_
  intro F' G' x bb f2 f3 hx hr
  have hZ:=an7 f2<|f3;refine Bz1 ?_
  exact ZDa hr hx
 | [q],hsp,hmem =>
  have hql:=hmem q (by simp)
  have hsp:∀H,Zay Tryz.prog 28 [eS w,u8 47] H (Pure H (.sl .no [[eS p],[eS q]])):=hsp
  have dl:([[eS p],[eS q]]:List (List AV)).length=2:=rfl
  have d1:((((2:Nat):Int)) == 2)=true:=rfl
  have d2:decide ((((2:Nat):Int)) > 2)=false:=rfl
  have q1:([[eS p],[eS q]]:List (List AV))[1]?=some [eS q]:=rfl
  rcases ZD6 q (by omega)with⟨hd,hdg⟩|⟨n,hd,hn,hdg⟩
  ·have hb:byR [p,q]=none:=by show(ZBU q).map _=none;rw[hd];rfl
   rw[hb]
   have w0:IntKind.i64.wrap (-1+1)=0:=by rw[Zaw (by omega) (by omega)];rfl
   refine Zak hE cf55 (zaa rfl) fun Q qr qn=>?_
   rw[ZC0]
   refine Bz0 ?_
   refine qcp (hsp _) fun k1=>?_
   have hZ:=an7 dl<|an7 d1<|an7 d2<|an7 q1<|z1;refine Bz1 ?_
   refine qcp (hdg _) fun k2=>?_
   have hZ:=an7 dl<|an7 d1<|an7 d2<|w0;refine Bz1 ?_
   exact ZBM hx0.bump.bump
  ·have hb:byR [p,q]=some (n+1):=by show(ZBU q).map _=_;rw[hd];rfl
   rw[hb]
   have w1:=ZCE (s:=n) (by omega)
   have d3:((((n+1:Nat):Int)) == 0)=false:=by simp only[beq_eq_false_iff_ne];omega
   have hpn:=fun H=>ZA6 (n+1) (by omega) H
   refine Zak hE cf55 (zaa rfl) fun Q qr qn=>?_
   rw[ZC0]
   refine Bz0 ?_
   refine qcp (hsp _) fun k1=>?_
   have hZ:=an7 dl<|an7 d1<|an7 d2<|an7 q1<|z1;refine Bz1 ?_
   refine qcp (hdg _) fun k2=>?_
   have hZ:=an7 dl<|an7 d1<|an7 d2<|an7 w1<|d3;refine Bz1 ?_
   refine qcp (hpn _) fun k3=>?_
   refine Bz0 ?_
   refine ZDD (a:=p) (e:=ZA2 (n+1)) (tk:=.no) (rest:=[[eS q]]) (by omega) (ZBf _) rfl rfl hx0.bump.bump.bump ?_
   intro F' G' x bb f2 f3 hx hr
   have hZ:=an7 f2<|f3;refine Bz1 ?_
   exact ZDa hr hx
 | q :: r :: t,hsp,hmem =>
  have dl:(rS (p :: q :: r :: t)).length=t.length+3:=by simp
  have d1:((((t.length+3:Nat):Int)) == 2)=false:=by simp only[beq_eq_false_iff_ne];omega
  have d2:decide ((((t.length+3:Nat):Int)) > 2)=true:=by simp only[decide_eq_true_eq];omega
  show Zay _ _ _ _ (ZF4 none H)
  generalize rS (p :: q :: r :: t)=R at *
  refine Zak hE cf55 (zaa rfl) fun Q qr qn=>?_
  rw[ZC0]
  refine Bz0 ?_
  refine qcp (hsp _) fun k1=>?_
  have hZ:=an7 dl<|an7 d1<|d2;refine Bz1 ?_
  exact ZBM hx0.bump
end Go.Proofs.YtemmgefppobboaaGreatDoor
