/- Texts of the walk. -/
import Derived.Test.YtdfgoekdlmkdfaaGreatDoorMl
namespace Go.Proofs.YtdfgoekdlmkdfaaGreatDoor
set_option linter.defProp false
set_option maxHeartbeats 64000000
set_option linter.unusedSimpArgs false
set_option linter.unusedVariables false
open Go.RowKit Go.Lib
theorem ZBJ {α:Type} {f:α->Tx} {l:List α} {k:Nat} (h:k<l.length):(l.take (k+1)).flatMap f=(l.take k).flatMap f++f l[k]:=by
 rw[zae h,za5]
 simp
theorem ZBD {α:Type} {w:α->Nat} {l:List α} {k:Nat} (h:k<l.length):w l[k]<=(l.map w).sum:=by
 induction l generalizing k with
 | nil=>simp at h
 | cons y l ih =>
  rw[zao,List.sum_cons]
  cases k with
  | zero=>simp
  | succ k=>have:=ih (k:=k) (by simpa using h);simp;omega
theorem ZBL {α:Type} {w:α->Nat} {f:α->Tx} (hw:∀x,(f x).length<=w x) (l:List α):(l.flatMap f).length<=(l.map w).sum:=by
 induction l with
 | nil=>simp
 | cons y l ih =>
  have:=hw y
  rw[zaz,zaa,zao,List.sum_cons];omega
theorem ZB6 {α:Type} {w:α->Nat} {f:α->Tx} (hw:∀x,(f x).length<=w x) {l:List α} {k:Nat} (h:k<l.length):((l.take k).flatMap f).length+(f l[k]).length<=(l.map w).sum:=by
 have h1:=ZBL hw (l.take (k+1))
 rw[ZBJ h,zaa]at h1
 have h2:((l.take (k+1)).map w).sum<=(l.map w).sum:=by
  conv=>rhs;rw[<- zaV (k+1) l]
  rw[zaD,zbc];omega
 omega
def ZBX (n:Int):Tx:=ZA2 n.toNat
theorem ZDS (n:Int):(ZBX n).length<=9:=by unfold ZBX;rw[ZA3];exact(ZA7 _).2
theorem pnumI (n:Int) (h:n<=9223372036854775807) (H:Zaa):Zay Tryz.prog 106 [.i n] H (Pure H (eS (ZBX n))):=by
 have hw:=u64n n.toNat Xa
 have hm:(if (0:Int) > n then (0:Int) else n)=(n.toNat:Int):=by split<;>omega
 unfold ZBX
 refine fnQ cf106 fun Q qr qn=>?_
 refine Bz1 (X2 hm hw) ?_
 refine qcp (ZDe n.toNat _ Xa) fun k1=>?_
 refine Bz0 ?_
 refine Zcm (by rfl)
def ZB0 (t:Tir):Tx:=ZA4 t.name++ZB5 t.terms++t.up.flatMap ZBX
def dmB (d:Dm):Tx:=ZA4 d.name++ZA2 d.tiers.length++d.tiers.reverse.flatMap ZB0
def scB (s:Sc):Tx:=ZA2 s.dims.length++s.dims.flatMap dmB++ZA2 s.meas.length++s.meas.flatMap ZA4
def wT (t:Tir):Nat:=t.name.length+ZAr t.terms+18 * t.terms.length+9 * t.up.length+18
def wD (d:Dm):Nat:=d.name.length+18+(d.tiers.map wT).sum
def wX (s:Tx):Nat:=s.length+9
def wC (s:Sc):Nat:=(s.dims.map wD).sum+(s.meas.map wX).sum+18
theorem sum9 {α:Type} (l:List α):(l.map fun _=>9).sum=9 * l.length:=by
 induction l with
 | nil=>rfl
 | cons y l ih=>rw[zao,List.sum_cons,ih,List.length_cons];omega
theorem ZF7 (l:List Nat):l.reverse.sum=l.sum:=by
 induction l with
 | nil=>rfl
 | cons y l ih=>rw[zb7,zbc,ih];simp;omega
theorem ZDo {α:Type} {w:α->Nat} (hw:∀x,1<=w x) (l:List α):l.length<=(l.map w).sum:=by
 induction l with
 | nil=>simp
 | cons y l ih=>have:=hw y;rw[zao,List.sum_cons,List.length_cons];omega
theorem ZCz (t:Tir):(ZB0 t).length<=wT t:=by
 have h1:=ZBe t.name
 have h2:=ZCh t.terms
 have h3:=ZBL (w:=fun _=>9) (f:=ZBX) ZDS t.up
 rw[sum9]at h3
 unfold ZB0 wT
 simp only[zaa]
 omega
theorem ZDj (d:Dm):(dmB d).length<=wD d:=by
 have h1:=ZBe d.name
 have h2:=(ZA7 d.tiers.length).2
 have h3:=ZBL ZCz d.tiers.reverse
 rw[List.map_reverse,ZF7]at h3
 unfold dmB wD
 simp only[zaa,ZA3]
 omega
theorem ZBC (s:Tx):(ZA4 s).length<=wX s:=ZBe s
theorem tput_ups {Q:AEx->Fr->Zaa->Prop} {F:Fr} {H G:Zaa} {t:Tok} {l:List Int} {h0:Tx} (hu:∀n∈l,n<=9223372036854775807) (hl:l.length<=1000000) (hb:h0.length+(l.map (fun _=>9)).sum<=1000000) 
  (f30:Fr.get F 30=.sl t (rI l)) (f31:Fr.get F 31=.i (l.length:Int)) (f32:Fr.get F 32=.i 0) (f9:Fr.get F 9=eS h0) (hx0:Zaa.Ext H G)
  (hQ:∀F' G',Zaa.Ext H G'->Fr.get F' 9=eS (h0++l.flatMap ZBX)->Q .normal F' G'):AW Tryz.prog c190_1 Q F G:=by
 have qr:=trivial
 have qn:=trivial
 refine ZbJ (N:=l.length) (fun k F G'=>Fr.get F 32=.i (k:Int)/\Fr.get F 31=.i (l.length:Int)/\Fr.get F 30=.sl t (rI l)/\Fr.get F 9=eS (h0++(l.take k).flatMap ZBX)/\Zaa.Ext H G') Xd (fun k F G h=>⟨h.1,h.2.1⟩) (GStep.refl _ _) ⟨f32,f31,f30,by rw[f9];simp,hx0⟩ ?_ ?_
 ·rintro k F G' hk ⟨f32,f31,f30,f9,hx⟩
  have hz:(0:Int)<=(k:Int):=Xa
  have hr:(rI l)[k]?=some ((fun n=>[AV.i n]) l[k]):=by simp[hk]
  have hsn:=ZBJ (f:=ZBX) hk
  have hle:=ZB6 (w:=(fun _=>9)) (f:=ZBX) (fun x=>ZDS x) hk
  have hwx:=ZBD (w:=(fun _=>9)) hk
  have hxu:=hu _ (zah hk)
  generalize hB1:(l.take (k+1)).flatMap ZBX=B1 at *
  generalize (l.take k).flatMap ZBX=B0 at *
  generalize l[k]=x at *
  have ha:(⟨(h0++B0).toArray⟩:ByteArray)++⟨(ZBX x).toArray⟩=⟨(h0++B1).toArray⟩:=by rw[Zz9,hsn,zam]
  have hf:(h0++B0).length+(ZBX x).length<=maxLen:=ZAp (by rw[zaa];omega)
  have hl0:h0.length+B0.length+(ZBX x).length<=maxLen:=ZAp Xa
  skip
  refine Bz1 (X7 f32 f31 f30 f9 hz hr hl0) ?_
  refine qcp (pnumI x hxu _) fun k1=>?_
  refine Bz1 (X8 f32 f31 f30 f9 ha hf hl0 hl0) ?_
  exact⟨by rw[hB1],hx.bump⟩
 ·rintro F G' ⟨f32,f31,f30,f9,hx⟩
  rw[zaq]at f9
  skip
  refine Bz0 ?_
  exact hQ _ _ hx  (by simpa [Fr.get] using f9)
theorem ZCu {t:Tir} {above:Int} (h:ZbO t above=0):Zgt none t.terms=0:=by
 unfold ZbO at h
 split at h
 ·cases h
 ·split at h
  ·cases h
  ·split at h
   ·exact absurd h (by assumption)
   ·rename_i h2;simpa using h2
theorem ZDT (t:Tir) (above:Int) (H:Zaa) (hw:wT t<=100000) (hu:∀n∈t.up,n<=9223372036854775807) (he:ZbO t above=0):Zay Tryz.prog 190 [.agg (eTr t),.i above] H (Pure H (.tup [eS (ZB0 t),.i 0])):=by
 have hck:=ZkD t above
 rw[he]at hck
 have d0:((0:Int) != 0)=false:=rfl
 have hrow:=ZCu he
 obtain⟨e0,e1,e2,e3,e4⟩:=Zba t
 have hwt:=hw
 unfold wT at hwt
 have hn:=ZBB t.name Xa
 have hp:∀tk H,Zay Tryz.prog 156 [.sl tk (rS t.terms)] H (Pure H (.tup [eS (ZB5 t.terms),.i 0])):=fun tk H=>ZCH tk t.terms H Xa Xa hrow
 have g0:(H.alloc (.cells (eTr t) 42)).get H.next=some (.cells (eTr t) 42):=Zaa.Zae
 have hx0:Zaa.Ext H (H.alloc (.cells (eTr t) 42)):=(Zaa.Ext.refl H).alloc
 have ht:=ZBe t.name
 have hr:=ZCh t.terms
 have ha:(⟨(ZA4 t.name).toArray⟩:ByteArray)++⟨(ZB5 t.terms).toArray⟩=⟨(ZA4 t.name++ZB5 t.terms).toArray⟩:=Zz9 _ _
 have hb:(ZA4 t.name).length+(ZB5 t.terms).length<=maxLen:=ZAp Xa
 refine fnQ cf190 fun Q qr qn=>?_
 refine Bz1 (X5 e0 e1 e2 e3 e4) ?_
 refine qcp (hck _ Xa) fun k1=>?_
 refine Bz1 (X6 d0 e0 e1 e2 e3 e4) ?_
 refine qcp (hp _ _) fun k2=>?_
 refine Bz1 (X5 e0 e1 e2 e3 e4) ?_
 refine qcp (hn _) fun k3=>?_
 refine Bz3 (X7 ha hb e0 e1 e2 e3 e4) ?_
 refine tput_ups (H:=H) (h0:=ZA4 t.name++ZB5 t.terms) hu Xa (by rw[zaa,sum9];omega) rfl rfl rfl rfl hx0.bump.bump.bump ?_
 intro F1 G1 hx1 f9
 refine Bz1 (X1 f9) ?_
 exact ZaW hx1 rfl
theorem ZDN {α:Type} {l:List α} {i:Nat} (h:i<l.length) (f:α->Tx):(l.drop i).reverse.flatMap f=(l.drop (i+1)).reverse.flatMap f++f l[i]:=by
 rw[zal h,zb7,za5]
 simp
theorem ZGN {α:Type} {w:α->Nat} {f:α->Tx} (hw:∀x,(f x).length<=w x) (l:List α) (i:Nat):((l.drop i).reverse.flatMap f).length<=(l.map w).sum:=by
 have h1:=ZBL hw (l.drop i).reverse
 rw[List.map_reverse,ZF7]at h1
 have h2:((l.drop i).map w).sum<=(l.map w).sum:=by
  conv=>rhs;rw[<- zaV i l]
  rw[zaD,zbc];omega
 omega
theorem ZDO:∀{l:List Tir} {seen:List Tx},Zkb seen l=0->∀{k:Nat} (h:k<l.length),ZbO l[k] (ZbR (l.drop (k+1)))=0
 | [],_,_,k,h=>by simp at h
 | t :: r,seen,hd,k,h=>by
  unfold Zkb at hd
  split at hd
  ·exact absurd hd (by assumption)
  ·rename_i h1
   split at hd
   ·cases hd
   ·cases k with
    | zero=>simpa using h1
    | succ k=>exact ZDO hd (by simpa using h)
def UpI (t:Tir):Prop:=∀n∈t.up,n<=9223372036854775807
theorem ZEh (d:Dm) (H:Zaa) (hw:wD d<=100000) (hu:∀t∈d.tiers,UpI t) (he:Zdv d=0):Zay Tryz.prog 151 [.agg (eDm d)] H (Pure H (.tup [eS (dmB d),.i 0])):=by
 have hwt:=hw
 unfold wD at hwt
 have hwk:∀k (h:k<d.tiers.length),wT d.tiers[k]<=(d.tiers.map wT).sum:=fun k h=>ZBD h
 have hsm:∀t∈d.tiers,Zgr t:=fun t ht=>by
  obtain⟨k,hk,rfl⟩:=zar ht
  have h1:=hwk k hk
  have h2:wT d.tiers[k]<=100000:=Xa
  unfold wT at h2
  unfold Zgr
  omega
 have hck:=Zlf d
 rw[he]at hck
 have hF:Zkb [] d.tiers=0/\d.tiers.length<=4:=by
  unfold Zdv at he
  split at he
  ·cases he
  ·split at he
   ·cases he
   ·exact⟨he,Xa⟩
 obtain⟨hF,hl4⟩:=hF
 have d0:((0:Int) != 0)=false:=rfl
 obtain⟨e0,e1,e2,e3⟩:=Za7 d
 have hn:=ZBB d.name Xa
 have hp:=ZBc d.tiers.length Xa
 have g0:(H.alloc (.cells (eDm d) 39)).get H.next=some (.cells (eDm d) 39):=Zaa.Zae
 have hx0:Zaa.Ext H (H.alloc (.cells (eDm d) 39)):=(Zaa.Ext.refl H).alloc
 have ht:=ZBe d.name
 have hpl:=ZA3 d.tiers.length
 have hsz:=(ZA7 d.tiers.length).2
 have ha:(⟨(ZA4 d.name).toArray⟩:ByteArray)++⟨(ZA2 d.tiers.length).toArray⟩=⟨(ZA4 d.name++ZA2 d.tiers.length).toArray⟩:=Zz9 _ _
 have hb:(ZA4 d.name).length+(ZA2 d.tiers.length).length<=maxLen:=ZAp Xa
 have hws:IntKind.i64.wrap ((d.tiers.length:Int) - 1)=(d.tiers.length:Int) - 1:=Zaw Xa Xa
 unfold dmB
 generalize hh0:ZA4 d.name++ZA2 d.tiers.length=h0 at *
 have hh1:h0.length=(ZA4 d.name).length+(ZA2 d.tiers.length).length:=by rw[<- hh0,zaa]
 refine fnQ cf151 fun Q qr qn=>?_
 refine Bz1 (X4 e0 e1 e2 e3) ?_
 refine qcp (hck _ hsm) fun k1=>?_
 refine Bz3 (X5 d0 e0 e1 e2 e3) ?_
 refine qcp (hn _) fun k2=>?_
 refine Bz3 (X4 e0 e1 e2 e3) ?_
 refine qcp (hp _) fun k3=>?_
 refine Bz3 (X7 ha hb e0 e1 e2 e3 hws) ?_
 refine ZBA (fun m F G=>m<=d.tiers.length/\Fr.get F 6=.i ((m:Int) - 1)/\Fr.get F 1=.ptr H.next 0/\Fr.get F 5=eS (h0++(d.tiers.drop m).reverse.flatMap ZB0)/\Zaa.Ext H G/\G.get H.next=some (.cells (eDm d) 39)) d.tiers.length (GStep.refl _ _) ⟨zad _,rfl,rfl,by rw[zaG];show eS h0=_;simp,hx0.bump.bump.bump,(Zaa.Ext.refl _).bump.bump.bump.get _ _ g0⟩ ?_
 rintro m F G ⟨hm,f6,f1,f5,hx,hg⟩
 cases m with
 | succ i =>
  have e5:(((i+1:Nat):Int) - 1)=(i:Int):=Xa
  rw[e5]at f6
  have d1:decide ((i:Int)≥0)=true:=Xc
  have hz:(0:Int)<=(i:Int):=Xa
  have hw1:IntKind.i64.wrap ((i:Int) - 1)=(i:Int) - 1:=Zaw Xa Xa
  have hi:i<d.tiers.length:=Xa
  have hrk:=Zdh hi
  have hte:=ZDO hF hi
  have hab:=Zjn d i
  have hwi:=hwk i hi
  have hput:=fun H=>ZDT d.tiers[i] (ZbR (d.tiers.drop (i+1))) H Xa (hu _ (zah hi)) hte
  have hst:=ZDN hi ZB0
  have hrl:=ZGN ZCz d.tiers (i+1)
  have htl:=ZCz d.tiers[i]
  generalize hR1:(d.tiers.drop i).reverse.flatMap ZB0=R1 at *
  generalize (d.tiers.drop (i+1)).reverse.flatMap ZB0=R0 at *
  generalize d.tiers[i]=t at *
  generalize ZbR (d.tiers.drop (i+1))=av at *
  have ha2:(⟨(h0++R0).toArray⟩:ByteArray)++⟨(ZB0 t).toArray⟩=⟨(h0++R1).toArray⟩:=by rw[Zz9,hst,zam]
  have hf2:(h0++R0).length+(ZB0 t).length<=maxLen:=ZAp (by rw[zaa];omega)
  have hf3:h0.length+R0.length+(ZB0 t).length<=maxLen:=ZAp Xa
  obtain⟨et0,_,_,_,et4⟩:=Zba t
  skip
  refine Bz1 (X12 f6 f1 f5 hg d1 hz hrk e0 e1 e2 e3 (X2 et0 et4)) ?_
  refine qcp (hab _ hi Xa) fun k4=>?_
  refine Bz1 (X12 f6 f1 f5 hg d1 hz hrk e0 e1 e2 e3 (X2 et0 et4)) ?_
  refine qcp (hput _) fun k5=>?_
  refine Bz1 (X8 f6 f1 f5 hg ha2 hf2 hf3 hw1) ?_
  exact⟨i,Xa,Xa,rfl,by rw[hR1],hx.bump.bump⟩
 | zero =>
  have d1:decide ((((0:Nat):Int) - 1)≥0)=false:=Xb
  rw[zaL]at f5
  skip
  refine Bz1 (X3 f6 f5 d1) ?_
  exact ZaW hx rfl
open Go.RowKit Go.Lib
theorem ZF1 {Q:AEx->Fr->Zaa->Prop} {F:Fr} {H G:Zaa} {t:Tok} {l:List Dm} {h0:Tx} {ia:Nat} (hd:∀d∈l,Zdv d=0) (hu:∀d∈l,∀t∈d.tiers,UpI t) (hw:(l.map wD).sum<=100000) (hl:l.length<=1000000) (hb:h0.length+(l.map wD).sum<=1000000) (q1:Fr.get F 1=.ptr ia 0) 
  (f22:Fr.get F 22=.sl t (rD l)) (f23:Fr.get F 23=.i (l.length:Int)) (f24:Fr.get F 24=.i 0) (f5:Fr.get F 5=eS h0) (hx0:Zaa.Ext H G)
  (hQ:∀F' G',Zaa.Ext H G'->Fr.get F' 1=.ptr ia 0->Fr.get F' 5=eS (h0++l.flatMap dmB)->Q .normal F' G'):AW Tryz.prog c104_1 Q F G:=by
 have qr:=trivial
 have qn:=trivial
 refine ZbJ (N:=l.length) (fun k F G'=>Fr.get F 24=.i (k:Int)/\Fr.get F 23=.i (l.length:Int)/\Fr.get F 22=.sl t (rD l)/\Fr.get F 5=eS (h0++(l.take k).flatMap dmB)/\Zaa.Ext H G'/\Fr.get F 1=.ptr ia 0) Xd (fun k F G h=>⟨h.1,h.2.1⟩) (GStep.refl _ _) ⟨f24,f23,f22,by rw[f5];simp,hx0,q1⟩ ?_ ?_
 ·rintro k F G' hk ⟨f24,f23,f22,f5,hx,q1⟩
  have hz:(0:Int)<=(k:Int):=Xa
  have hr:(rD l)[k]?=some (eDm l[k]):=by simp[hk]
  have hsn:=ZBJ (f:=dmB) hk
  have hle:=ZB6 (w:=wD) (f:=dmB) (fun x=>ZDj x) hk
  have hwx:=ZBD (w:=wD) hk
  have hput:=fun H=>ZEh l[k] H Xa (hu _ (zah hk)) (hd _ (zah hk))
  generalize hB1:(l.take (k+1)).flatMap dmB=B1 at *
  generalize (l.take k).flatMap dmB=B0 at *
  generalize l[k]=x at *
  have ha:(⟨(h0++B0).toArray⟩:ByteArray)++⟨(dmB x).toArray⟩=⟨(h0++B1).toArray⟩:=by rw[Zz9,hsn,zam]
  have hf:(h0++B0).length+(dmB x).length<=maxLen:=ZAp (by rw[zaa];omega)
  have hl0:h0.length+B0.length+(dmB x).length<=maxLen:=ZAp Xa
  obtain⟨e0,e1,e2,e3⟩:=Za7 x
  have hst:List.take 0 [AV.sc (.string ⟨#[]⟩),AV.sl .full []]++eDm x++List.drop (0+(eDm x).length) [AV.sc (.string ⟨#[]⟩),AV.sl .full []]=eDm x:=rfl
  skip
  refine Bz1 (X12 f24 f23 f22 f5 q1 hz hr e0 e1 e2 e3 hst) ?_
  refine qcp (hput _) fun k1=>?_
  refine Bz1 (X12 f24 f23 f22 f5 q1 ha hf hl0 e0 e1 e2 (X2 e3 hst)) ?_
  exact⟨by rw[hB1],hx.alloc.bump⟩
 ·rintro F G' ⟨f24,f23,f22,f5,hx,q1⟩
  rw[zaq]at f5
  skip
  refine Bz0 ?_
  exact hQ _ _ hx (by simpa [Fr.get] using q1) (by simpa [Fr.get] using f5)
theorem ZFJ {Q:AEx->Fr->Zaa->Prop} {F:Fr} {H G:Zaa} {t:Tok} {l:List Tx} {h0:Tx} (hw:(l.map wX).sum<=100000) (hl:l.length<=1000000) (hb:h0.length+(l.map wX).sum<=1000000) 
  (f44:Fr.get F 44=.sl t (rS l)) (f45:Fr.get F 45=.i (l.length:Int)) (f46:Fr.get F 46=.i 0) (f5:Fr.get F 5=eS h0) (hx0:Zaa.Ext H G)
  (hQ:∀F' G',Zaa.Ext H G'->Fr.get F' 5=eS (h0++l.flatMap ZA4)->Q .normal F' G'):AW Tryz.prog c104_2 Q F G:=by
 have qr:=trivial
 have qn:=trivial
 refine ZbJ (N:=l.length) (fun k F G'=>Fr.get F 46=.i (k:Int)/\Fr.get F 45=.i (l.length:Int)/\Fr.get F 44=.sl t (rS l)/\Fr.get F 5=eS (h0++(l.take k).flatMap ZA4)/\Zaa.Ext H G') Xd (fun k F G h=>⟨h.1,h.2.1⟩) (GStep.refl _ _) ⟨f46,f45,f44,by rw[f5];simp,hx0⟩ ?_ ?_
 ·rintro k F G' hk ⟨f46,f45,f44,f5,hx⟩
  have hz:(0:Int)<=(k:Int):=Xa
  have hr:(rS l)[k]?=some ((fun s=>[eS s]) l[k]):=by simp[hk]
  have hsn:=ZBJ (f:=ZA4) hk
  have hle:=ZB6 (w:=wX) (f:=ZA4) (fun x=>ZBC x) hk
  have hwx:=ZBD (w:=wX) hk
  have hput:=fun H=>ZBB l[k] (by have:=(show l[k].length+9=wX l[k]from rfl);omega) H
  generalize hB1:(l.take (k+1)).flatMap ZA4=B1 at *
  generalize (l.take k).flatMap ZA4=B0 at *
  generalize l[k]=x at *
  have ha:(⟨(h0++B0).toArray⟩:ByteArray)++⟨(ZA4 x).toArray⟩=⟨(h0++B1).toArray⟩:=by rw[Zz9,hsn,zam]
  have hf:(h0++B0).length+(ZA4 x).length<=maxLen:=ZAp (by rw[zaa];omega)
  have hl0:h0.length+B0.length+(ZA4 x).length<=maxLen:=ZAp Xa
  skip
  refine Bz1 (X6 f46 f45 f44 f5 hz hr) ?_
  refine qcp (hput _) fun k1=>?_
  refine Bz1 (X7 f46 f45 f44 f5 ha hf hl0) ?_
  exact⟨by rw[hB1],hx.bump⟩
 ·rintro F G' ⟨f46,f45,f44,f5,hx⟩
  rw[zaq]at f5
  skip
  refine Bz0 ?_
  exact hQ _ _ hx  (by simpa [Fr.get] using f5)
theorem ZDX:∀{l:List Dm} {seen:List Tx},Zd1 seen l=0->∀d∈l,Zdv d=0
 | [],_,_,d,h=>by cases h
 | t :: r,seen,hd,d,h=>by
  unfold Zd1 at hd
  split at hd
  ·exact absurd hd (by assumption)
  ·rename_i h1
   split at hd
   ·cases hd
   ·rcases zak.1 h with rfl|h
    ·simpa using h1
    ·exact ZDX hd d h
theorem ZFi (s:Sc) (H:Zaa) (hw:wC s<=100000) (hu:∀d∈s.dims,∀t∈d.tiers,UpI t) (he:scE s=0):Zay Tryz.prog 104 [.agg (eSc s)] H (Pure H (.tup [eS (scB s),.i 0])):=by
 have hwt:=hw
 unfold wC at hwt
 have hl1:s.dims.length<=100000:=by
  have:=ZDo (w:=wD) (fun t=>by unfold wD;omega) s.dims
  omega
 have hl2:s.meas.length<=100000:=by
  have:=ZDo (w:=wX) (fun t=>by unfold wX;omega) s.meas
  omega
 have hsm:Zh1 s:=fun d hd t ht=>by
  obtain⟨k,hk,rfl⟩:=zar hd
  obtain⟨j,hj,rfl⟩:=zar ht
  have h1:=ZBD (w:=wD) hk
  have h2:=ZBD (w:=wT) hj
  have h3:wD s.dims[k]<=100000:=Xa
  unfold wD at h3
  have h4:wT s.dims[k].tiers[j]<=100000:=Xa
  unfold wT at h4
  unfold Zgr
  omega
 have hck:=Zc9 s
 rw[he]at hck
 have d0:((0:Int) != 0)=false:=rfl
 have hd:∀d∈s.dims,Zdv d=0:=by
  unfold scE at he
  split at he
  ·cases he
  ·split at he
   ·exact absurd he (by assumption)
   ·rename_i h2;exact ZDX (by simpa using h2)
 obtain⟨e0,e1,e2,e3⟩:=ZbB s
 have g0:(H.alloc (.cells (eSc s) 25)).get H.next=some (.cells (eSc s) 25):=Zaa.Zae
 have hx0:Zaa.Ext H (H.alloc (.cells (eSc s) 25)):=(Zaa.Ext.refl H).alloc
 have hp1:=ZBc s.dims.length Xa
 have hp2:=ZBc s.meas.length Xa
 have hpl:=ZA3 s.dims.length
 have hsz:=(ZA7 s.dims.length).2
 have hpl2:=ZA3 s.meas.length
 have hsz2:=(ZA7 s.meas.length).2
 have hfl:=ZBL ZDj s.dims
 unfold scB
 generalize hP1:ZA2 s.dims.length=P1 at *
 generalize hP2:ZA2 s.meas.length=P2 at *
 refine fnQ cf104 fun Q qr qn=>?_
 refine Bz3 (X4 e0 e1 e2 e3) ?_
 refine qcp (hck _ hsm) fun k1=>?_
 refine Bz3 (X5 d0 e0 e1 e2 e3) ?_
 refine qcp (hp1 _) fun k2=>?_
 refine Bz3 (X4 e0 e1 e2 e3) ?_
 refine ZF1 (H:=H.alloc (.cells (eSc s) 25)) (ia:=H.next) (h0:=P1) hd hu Xa Xa Xa rfl rfl rfl rfl rfl (Zaa.Ext.refl _).bump.bump ?_
 intro F1 G1 hx1 f1 f5
 have g1:=hx1.get _ _ g0
 have hx2:Zaa.Ext H G1:=hx0.trans hx1
 obtain⟨B0,hB0⟩:∃B,B=P1++s.dims.flatMap dmB:=⟨_,rfl⟩
 have lB0:B0.length=P1.length+(s.dims.flatMap dmB).length:=by rw[hB0,zaa]
 rw[<- hB0]at f5
 have ha:(⟨B0.toArray⟩:ByteArray)++⟨P2.toArray⟩=⟨(B0++P2).toArray⟩:=Zz9 _ _
 have hb:B0.length+P2.length<=maxLen:=ZAp Xa
 refine Bz3 (X7 f1 f5 g1 e0 e1 e2 e3) ?_
 refine qcp (hp2 _) fun k3=>?_
 refine Bz3 (X9 f1 f5 g1 e0 e1 e2 e3 ha hb) ?_
 refine ZFJ (H:=H) (h0:=B0++P2) Xa Xa (by rw[zaa];omega) rfl rfl rfl rfl hx2.bump ?_
 intro F2 G2 hx3 f5
 refine Bz1 (X1 f5) ?_
 rw[<- hB0]
 exact ZaW hx3 rfl
end Go.Proofs.YtdfgoekdlmkdfaaGreatDoor
