/- Texts of the walk. -/
import Derived.Test.YtdfgoekdlmkdfaaGreatDoorMu
namespace Go.Proofs.YtdfgoekdlmkdfaaGreatDoor
set_option linter.defProp false
set_option maxHeartbeats 64000000
set_option linter.unusedSimpArgs false
set_option linter.unusedVariables false
open Go.RowKit Go.Lib
def ZHe (k:Int):FuncId:=if k=1 then 55 else if k=2\/k=3 then 56 else if k=5 then 57 else 58
theorem ZCW (k:Int) (H:Zaa):Zay Tryz.prog 25 [.i k] H (Pure H (.fn (ZHe k) [] [])):=by
 have hx0:Zaa.Ext H H:=.refl _
 unfold ZHe
 by_cases h1:k=1
 ·have d1:(k == 1)=true:=by simpa using h1
  rw[if_pos h1]
  refine fnQ cf25 fun Q qr qn=>?_
  refine Bz1 (X1 d1) ?_
  exact ZaW hx0 rfl
 have d1:(k == 1)=false:=by simpa using h1
 rw[if_neg h1]
 by_cases h2:k=2
 ·have d2:(k == 2)=true:=by simpa using h2
  rw[if_pos (.inl h2)]
  refine fnQ cf25 fun Q qr qn=>?_
  refine Bz1 (X2 d1 d2) ?_
  exact ZaW hx0 rfl
 have d2:(k == 2)=false:=by simpa using h2
 by_cases h3:k=3
 ·have d3:(k == 3)=true:=by simpa using h3
  rw[if_pos (.inr h3)]
  refine fnQ cf25 fun Q qr qn=>?_
  refine Bz1 (X3 d1 d2 d3) ?_
  exact ZaW hx0 rfl
 have d3:(k == 3)=false:=by simpa using h3
 rw[if_neg Xa]
 by_cases h5:k=5
 ·have d5:(k == 5)=true:=by simpa using h5
  rw[if_pos h5]
  refine fnQ cf25 fun Q qr qn=>?_
  refine Bz1 (X4 d1 d2 d3 d5) ?_
  exact ZaW hx0 rfl
 have d5:(k == 5)=false:=by simpa using h5
 rw[if_neg h5]
 refine fnQ cf25 fun Q qr qn=>?_
 refine Bz1 (X4 d1 d2 d3 d5) ?_
 exact ZaW hx0 rfl
theorem ZFn {f:FuncId} {xs:List AV} {H:Zaa} {o:Option Tx} (h:Zay Tryz.prog f xs H (Pure H (eRow o))):Zay Tryz.prog f xs H (ZF4 o H):=by
 cases o with
 | none=>exact h.mono fun r G hp=>⟨[],hp⟩
 | some b=>exact h
structure PreP (k:Int) (r:List Tx):Prop where
 n:r.length<=2300
 c1:k=1->ZAr r+27 * r.length<=99000
 c2:k=2\/k=3->ZAr r<=45000
 c5:k=5->ZAr r<=120000
 w1:k=1\/k=2\/k=3->∀w∈r,w.length<=5000
 w5:k=5->∀w∈r,w.length<=9000
theorem ZDw (k:Int) (t:Tok) (r:List Tx) (H:Zaa) (hp:PreP k r):Zay Tryz.prog (ZHe k) [.sl t (rS r)] H (ZF4 (ZDp k r) H):=by
 have hn:=hp.n
 unfold ZHe ZDp
 by_cases h1:k=1
 ·rw[if_pos h1,if_pos h1];exact ZEJ t r H hp.n (hp.c1 h1) (hp.w1 (.inl h1))
 rw[if_neg h1,if_neg h1]
 by_cases h2:k=2\/k=3
 ·rw[if_pos h2,if_pos h2];exact ZFn (ZEH t r H hp.n (hp.c2 h2) (hp.w1 (.inr h2)))
 rw[if_neg h2,if_neg h2]
 by_cases h5:k=5
 ·rw[if_pos h5,if_pos h5];exact ZFn (ZEd t r H hp.n (hp.c5 h5) (hp.w5 h5))
 rw[if_neg h5,if_neg h5]
 exact ZFK t r H Xa
def PreL (line:Tx):Prop:=∀h r,ZyA 32 line=h :: r->(h=ZLT->ZAr r<=5000/\r.length<=100000)/\(h≠ZLT->PreP (ZBu h) r)
def eErr (o:Option (Int×Tx)):AV:=match o with
 | some _=>.i 0
 | none=>.i 16
theorem ZFE (h:Tx) (r:List Tx):((rS (h :: r)).take (rS (h :: r)).length).drop 1=rS r:=by
 rw[zaq];rfl
theorem fil_any {o:Option Tx} {H:Zaa} {r:AV} {G:Zaa} (h:ZF4 o H r G):∃x bb,Pure H (.tup [eS x,.b bb]) r G:=by
 cases o with
 | none=>obtain⟨x,h⟩:=h;exact⟨x,false,h⟩
 | some b=>exact⟨b,true,h⟩
theorem ZE1 (line:Tx) (H:Zaa) (hl:line.length<=100000) (hpre:PreL line):Zay Tryz.prog 7 [eS line] H (Pure H (.tup [eCall (ZDl line),eErr (ZDl line)])):=by
 have hx0:Zaa.Ext H H:=.refl _
 have hsp:=fun H=>ZEV 32 line H Xa
 have hcnt:=ZBo 32 line
 have hsum:=ZCt 32 line
 unfold ZDl
 obtain⟨h,r,hp⟩:=ZBd 32 line
 obtain⟨hpr,hpn⟩:=hpre h r hp
 rw[hp]at hsp hcnt hsum ⊢
 have hsum2:h.length+ZAr r<=line.length:=by simpa [ZAr] using hsum
 have hrl:r.length+1<=line.length+1:=hcnt
 have q0:(rS (h :: r))[0]?=some [eS h]:=rfl
 have z0:(0:Int)<=0:=zbv _
 have z1:(0:Int)<=1:=Xb
 have al:ZaE 1 (rS (h :: r))=true:=ZaU (f:=fun s:Tx=>[eS s]) (sz:=1) (fun _=>rfl) _
 have dl:(rS (h :: r)).length=r.length+1:=Xc
 have b1:1<=r.length+1:=Xa
 have b2:r.length+1<=r.length+1:=zad _
 have dr:((rS (h :: r)).take (r.length+1)).drop 1=rS r:=by have:=ZFE h r;rw[dl]at this;exact this
 have hg0:(H.alloc (.cells [.i 0,eS []] 27)).get H.next=some (.cells [.i 0,eS []] 27):=Zaa.Zat rfl
 have hsp:∀H,Zay Tryz.prog 22 [eS line,eS [32]] H (Pure H (.sl .no (rS (h :: r)))):=hsp
 generalize hR0:rS (h :: r)=R0 at *
 simp only
 by_cases hraw:h=ZLT
 ·have d0:decide (h=[114,97,119])=true:=decide_eq_true hraw
  rw[if_pos hraw]
  have hany:=fun t H=>ZGM t r H (hpr hraw).2 (hpr hraw).1
  cases hrp:rawP r with
  | none =>
   rw[hrp]at hany
   refine fnQ cf7 fun Q qr qn=>?_
   refine Bz0 ?_
   refine qcp (hsp _) fun k1=>?_
   refine Bz8 (X9 q0 z0 d0 z1 al dl b1 b2 dr) ?_
   refine Zap.use (hany _ _) ?_
   rintro _ _ ⟨a,b,rfl,k2,rfl⟩
   refine Bz1 (X1 hg0) ?_
   exact ZaW (((hx0.alloc.bump.bump).alloc).set (zad _)) rfl
  | some p =>
   rw[hrp]at hany
   obtain⟨n,s⟩:=p
   refine fnQ cf7 fun Q qr qn=>?_
   refine Bz0 ?_
   refine qcp (hsp _) fun k1=>?_
   refine Bz8 (X9 q0 z0 d0 z1 al dl b1 b2 dr) ?_
   refine Zap.use (hany _ _) ?_
   rintro _ _ ⟨rfl,k2,rfl⟩
   refine Bz1 (X1 hg0) ?_
   exact ZaW (((hx0.alloc.bump.bump).alloc).set (zad _)) rfl
 ·have d0:decide (h=[114,97,119])=false:=decide_eq_false hraw
  rw[if_neg hraw]
  have hkg:=kind_get h
  have kof:(KK.one .str).of (.sc (.string ⟨h.toArray⟩))=some (kS h):=rfl
  by_cases hk:ZBu h=0
  ·rw[if_pos hk]at hkg ⊢
   have hrd:=fun H=>ZCW 0 H
   have hby:=fun t H=>ZDw 0 t r H (by rw[<- hk];exact hpn hraw)
   have n0:((0:Int) == 0)=true:=rfl
   refine fnQ cf7 fun Q qr qn=>?_
   refine Bz0 ?_
   refine qcp (hsp _) fun k1=>?_
   refine Bz8 (X9 q0 z0 d0 z1 al dl b1 b2 dr) ?_
   refine Zap.use (ZCp _) ?_
   rintro _ _ ⟨rfl,rfl⟩
   refine Bz8 (X11 q0 z0 d0 z1 al dl b1 b2 dr kof hkg) ?_
   refine qcp (hrd _) fun k2=>?_
   refine Bz0 ?_
   refine Zap.use (hby _ _) ?_
   intro v G hv
   obtain⟨x,bb,rfl,k3,rfl⟩:=fil_any hv
   cases bb with
   | false =>
    refine Bz1 (X2 hg0 n0) ?_
    exact ZaW ((((hx0.alloc.bump).alloc.bump).bump).set (zad _)) rfl
   | true =>
    refine Bz1 (X2 hg0 n0) ?_
    exact ZaW ((((hx0.alloc.bump).alloc.bump).bump).set (zad _)) rfl
  ·rw[if_neg hk]at hkg ⊢
   have d1:(ZBu h == 0)=false:=by simpa using hk
   have hrd:=fun H=>ZCW (ZBu h) H
   have hby:=fun t H=>ZDw (ZBu h) t r H (hpn hraw)
   generalize hK:ZBu h=K at *
   cases hb:ZDp K r with
   | none =>
    rw[hb]at hby
    refine fnQ cf7 fun Q qr qn=>?_
    refine Bz0 ?_
    refine qcp (hsp _) fun k1=>?_
    refine Bz8 (X9 q0 z0 d0 z1 al dl b1 b2 dr) ?_
    refine Zap.use (ZCp _) ?_
    rintro _ _ ⟨rfl,rfl⟩
    refine Bz8 (X11 q0 z0 d0 z1 al dl b1 b2 dr kof hkg) ?_
    refine qcp (hrd _) fun k2=>?_
    refine Bz0 ?_
    refine Zap.use (hby _ _) ?_
    rintro _ _ ⟨x,rfl,k3,rfl⟩
    refine Bz1 (X2 hg0 d1) ?_
    exact ZaW ((((hx0.alloc.bump).alloc.bump).bump).set (zad _)) rfl
   | some b =>
    rw[hb]at hby
    have hby:∀t H,Zay Tryz.prog (ZHe K) [.sl t (rS r)] H (Pure H (.tup [eS b,.b true])):=hby
    refine fnQ cf7 fun Q qr qn=>?_
    refine Bz0 ?_
    refine qcp (hsp _) fun k1=>?_
    refine Bz8 (X9 q0 z0 d0 z1 al dl b1 b2 dr) ?_
    refine Zap.use (ZCp _) ?_
    rintro _ _ ⟨rfl,rfl⟩
    refine Bz8 (X11 q0 z0 d0 z1 al dl b1 b2 dr kof hkg) ?_
    refine qcp (hrd _) fun k2=>?_
    refine Bz0 ?_
    refine qcp (hby _ _) fun k3=>?_
    refine Bz1 (X2 hg0 d1) ?_
    exact ZaW ((((hx0.alloc.bump).alloc.bump).bump).set (zad _)) rfl
open Go.RowKit Go.Lib
open Go.RowKit Go.Lib
open Go.RowKit Go.Lib
end Go.Proofs.YtdfgoekdlmkdfaaGreatDoor
