/- Texts of the walk. -/
import Derived.Test.YtdfgoekdlmkdfaaGreatDoorMr
namespace Go.Proofs.YtdfgoekdlmkdfaaGreatDoor
set_option linter.defProp false
set_option maxHeartbeats 64000000
set_option linter.unusedSimpArgs false
set_option linter.unusedVariables false
open Go.RowKit Go.Lib
structure TSm (t:Tir):Prop where
 name:t.name.length<=12
 cnt:t.terms.length<=200
 txt:∀s∈t.terms,s.length<=16
structure FrT (F:Fr) (it:Nat) (v1 v5:AV) (t:Tir) (i:Nat):Prop where
 f1:Fr.get F 1=v1
 f2:Fr.get F 2=.ptr it 0
 f5:Fr.get F 5=v5
 f16:Fr.get F 16=.sl .no (rS t.terms)
 f17:Fr.get F 17=.i (t.terms.length:Int)
 f18:Fr.get F 18=.i (i:Int)
theorem tw_above {Q:AEx->Fr->Zaa->Prop} {F:Fr} {H G:Zaa} {t:Tir} {q:List Tir} {tk:Tok} {it i:Nat} {w0:Tx} {v1 v5:AV} (hk:TOk t q) (hi:i<t.terms.length) (hq:∀u∈q,∀s∈u.terms,s.length<=16) (h0:w0.length<=1000) (hF:FrT F it v1 v5 t i) (f6:Fr.get F 6=.i (i:Int))
  (f26:Fr.get F 26=.sl tk (rT (q.take 1))) (f27:Fr.get F 27=.i ((q.take 1).length:Int)) (f28:Fr.get F 28=.i 0) (f8:Fr.get F 8=eS w0) (hx0:Zaa.Ext H G) (g:G.get it=some (.cells (eTr t) 42))
  (hQ:∀F' G',FrT F' it v1 v5 t i->Fr.get F' 8=eS (w0++ZBs q (t.up.getD i 0))->Zaa.Ext H G'->G'.get it=some (.cells (eTr t) 42)->Q .normal F' G'):AW Tryz.prog c39_2 Q F G:=by
 have qr:=trivial
 have qn:=trivial
 cases q with
 | nil =>
  refine ZbJ (N:=0) (fun k F G'=>k=0/\Fr.get F 28=.i (k:Int)/\Fr.get F 27=.i 0/\FrT F it v1 v5 t i/\Fr.get F 8=eS w0/\Zaa.Ext H G'/\G'.get it=some (.cells (eTr t) 42)) Xd (fun k F G h=>⟨h.2.1,h.2.2.1⟩) (GStep.refl _ _) ⟨rfl,f28,f27,hF,f8,hx0,g⟩ (fun k F G' hk=>absurd hk Xa) ?_
  rintro F G' ⟨_,f28,f27,⟨f1,f2,f5,f16,f17,f18⟩,f8,hx,g⟩
  skip
  refine Bz0 ?_
  refine hQ _ _ ⟨f1,f2,f5,f16,f17,f18⟩ ?_ hx g
  show Fr.get F 8=_
  rw[f8];simp[ZBs]
 | cons u r =>
  obtain⟨h1,h2,h3⟩:=hk.len u r rfl
  have hiu:i<t.up.length:=Xa
  obtain⟨n1,n2⟩:=h3 _ (zah hiu)
  have e3:t.up.getD i 0=t.up[i]:=by simp[hiu]
  have hnu:t.up[i].toNat<u.terms.length:=Xa
  have e5:u.terms.getD t.up[i].toNat []=u.terms[t.up[i].toNat]:=by simp[hnu]
  have hsl:=hq u Xc _ (zah hnu)
  have hri:(rI t.up)[i]?=some [.i t.up[i]]:=by simp[hiu]
  have hrs:(rS u.terms)[t.up[i].toNat]?=some [eS u.terms[t.up[i].toNat]]:=by simp[hnu]
  have hab:ZBs (u :: r) (t.up.getD i 0)=62 :: ZyH u.terms[t.up[i].toNat]:=by rw[e3];simp only[ZBs,e5]
  rw[hab]at hQ
  generalize u.terms[t.up[i].toNat]=x at *
  generalize t.up[i]=n at *
  have hwl:=ZzU x
  have hws:=fun H=>ZyQ x H Xa
  generalize ZyH x=wx at *
  refine ZbJ (N:=1) (fun k F G'=>Fr.get F 28=.i (k:Int)/\Fr.get F 27=.i 1/\Fr.get F 26=.sl tk [eTr u]/\Fr.get F 6=.i (i:Int)/\FrT F it v1 v5 t i/\Fr.get F 8=(if k=0 then eS w0 else eS (w0++62 :: wx))/\Zaa.Ext H G'/\G'.get it=some (.cells (eTr t) 42)) Xd (fun k F G h=>⟨h.1,h.2.1⟩) (GStep.refl _ _) ⟨f28,f27,f26,f6,hF,f8,hx0,g⟩ ?_ ?_
  ·rintro k F G' hk0 ⟨f28,f27,f26,f6,⟨f1,f2,f5,f16,f17,f18⟩,f8,hx,g⟩
   obtain rfl:k=0:=Xa
   rw[if_pos rfl]at f8
   obtain⟨t0,t1,t2,t3,t4⟩:=Zba u
   obtain⟨s0,s1,s2,s3,s4⟩:=Zba t
   have hz:(0:Int)<=((0:Nat):Int):=Xa
   have hiz:(0:Int)<=(i:Int):=Xa
   have hit:((i:Int)).toNat=i:=Xa
   have lt:=Zaa.lt g
   have hr0:([eTr u]:List (List AV))[0]?=some (eTr u):=rfl
   have a1:=Zz9 [62] wx
   have f1':1+wx.length<=maxLen:=ZAp Xa
   have a2:=Zz9 w0 (62 :: wx)
   have f2':w0.length+(62 :: wx).length<=maxLen:=ZAp (by rw[List.length_cons];omega)
   have f3':w0.length+(wx.length+1)<=maxLen:=ZAp Xa
   skip
   ((have hd:=tv;repeat' first|(first|apply Zad|apply Zac|apply Zab)<;>intro hd<;>try simp only[hd]|simp(disch:=first|assumption|omega|simp only[nx]<;>omega|fail)only[hd,qr,qn,Zt8,↓YA,YY,sevalprocAttr,f28,f27,f26,f6,f2,f8,hz,hr0,t0,t1,t2,t3,t4,s0,s1,s2,s3,s4,g,hiz,hit,hri,hrs,n1,List.getElem_cons_zero])<;>try revert hd;refine ttr ?_)
   refine qcp (hws _) fun k1=>?_
   refine Bz1 (X11 f28 f27 f26 f6 f2 f8 a1 f1' a2 f2' f3') ?_
   exact⟨⟨f1,f2,f5,f16,f17,f18⟩,hx.alloc.bump,g⟩
  ·rintro F G' ⟨f28,f27,f26,f6,⟨f1,f2,f5,f16,f17,f18⟩,f8,hx,g⟩
   rw[if_neg Xa]at f8
   skip
   refine Bz0 ?_
   exact hQ _ _ ⟨f1,f2,f5,f16,f17,f18⟩ f8 hx g
theorem ZC7 (t:Tir) (q:List Tir) (k:Nat):(List.range (k+1)).map (ZCQ t q)=(List.range k).map (ZCQ t q)++[ZCQ t q k]:=by rw[List.range_succ,zaD];rfl
theorem ZEU (t:Tir) (q:List Tir) (tk:Tok) (H:Zaa) (hk:TOk t q) (hs:TSm t) (hq:∀u∈q,∀s∈u.terms,s.length<=16):Zay Tryz.prog 39 [.agg (eTr t),.sl tk (rT (q.take 1))] H (Pure H (.sl .no (rS (ZCX t q)))):=by
 have hx0:Zaa.Ext H H:=.refl _
 obtain⟨s0,s1,s2,s3,s4⟩:=Zba t
 have hnm:=hs.name
 have a1:=Zz9 [94] t.name
 have f1':1+t.name.length<=maxLen:=ZAp Xa
 have hg:(H.alloc (.cells (eTr t) 42)).get H.next=some (.cells (eTr t) 42):=Zaa.Zat rfl
 have hlq:(rT (q.take 1)).length=(q.take 1).length:=Xc
 refine fnQ cf39 fun Q qr qn=>?_
 refine Bz3 (X7 s0 s1 s2 s3 s4 a1 f1') ?_
 refine ZbJ (N:=t.terms.length) (fun k F G=>Fr.get F 18=.i (k:Int)/\Fr.get F 17=.i (t.terms.length:Int)/\Fr.get F 16=.sl .no (rS t.terms)/\Fr.get F 1=.sl tk (rT (q.take 1))/\Fr.get F 2=.ptr H.next 0/\Zaa.Ext H G/\G.get H.next=some (.cells (eTr t) 42)/\∃tok,Fr.get F 5=.sl tok (rS ((94 :: t.name) :: (List.range k).map (ZCQ t q)))/\ZCe H.next G 9 1 (k+1) tok) (by have:=hs.cnt;unfold maxLen;omega) (fun k F G h=>⟨h.1,h.2.1⟩) (GStep.refl _ _) ⟨rfl,rfl,rfl,rfl,rfl,hx0.alloc,hg,.full,rfl,.inl rfl⟩ ?_ ?_
 ·rintro k F G hkl ⟨f18,f17,f16,f1,f2,hx,g,tok,f5,hT⟩
  have hz:(0:Int)<=(k:Int):=Xa
  have hr:(rS t.terms)[k]?=some [eS t.terms[k]]:=by simp[hkl]
  have hgd:t.terms.getD k []=t.terms[k]:=by simp[hkl]
  have hsl:=hs.txt _ (zah hkl)
  have hcn:=hs.cnt
  have hmw:ZCQ t q k=46 :: (ZyH t.terms[k]++ZBs q (t.up.getD k 0)):=by unfold ZCQ;rw[hgd]
  have hsn:=ZC7 t q k
  generalize t.terms[k]=x at *
  have hwl:=ZzU x
  have hws:=fun H=>ZyQ x H Xa
  generalize ZyH x=wx at *
  have a2:=Zz9 [46] wx
  have f2':1+wx.length<=maxLen:=ZAp Xa
  skip
  refine Bz1 (X8 f18 f17 f16 f1 f2 f5 hz hr) ?_
  refine qcp (hws _) fun k1=>?_
  refine Bz3 (X8 f18 f17 f16 f1 f2 f5 a2 f2') ?_
  refine tw_above (H:=G.bump k1) (t:=t) (q:=q) (tk:=tk) (it:=H.next) (i:=k) (w0:=46 :: wx) (v1:=.sl tk (rT (q.take 1))) (v5:=.sl tok (rS ((94 :: t.name) :: (List.range k).map (ZCQ t q)))) hk hkl hq (by rw[List.length_cons];omega) ⟨f1,f2,f5,f16,f17,f18⟩ rfl rfl rfl rfl rfl (.refl _) g ?_
  intro F' G' ⟨f1,f2,f5,f16,f17,f18⟩ f8 hx2 g2
  rw[List.cons_append,<- hmw]at f8
  generalize ZCQ t q k=mw at *
  have hxx:Zaa.Ext H G':=hx.bump.trans hx2
  have hrl:(rS ((94 :: t.name) :: (List.range k).map (ZCQ t q))).length=k+1:=Xc
  have hal:ZaE 1 (rS ((94 :: t.name) :: (List.range k).map (ZCQ t q)))=true:=ZaU (f:=fun s:Tx=>[eS s]) (sz:=1) (fun _=>rfl) _
  have hm1:k+1+1<=maxLen:=ZAp Xa
  have hm2:(k+1+1) * 16<=140737488355328:=Xa
  have hal2:ZaE 1 [[eS mw]]=true:=rfl
  have hsn2:rS ((94 :: t.name) :: (List.range k).map (ZCQ t q))++[[eS mw]]=rS ((94 :: t.name) :: (List.range (k+1)).map (ZCQ t q)):=by rw[hsn];simp
  generalize rS ((94 :: t.name) :: (List.range k).map (ZCQ t q))=R0 at *
  rcases hT with rfl|⟨t',ht',rfl,hgt⟩
  ·skip
   refine Bz1 (X12 f1 f2 f5 f16 f17 f18 f8 hrl hal hal2 hm1 (X2 hm2 hsn2)) ?_
   exact⟨hxx.alloc,by rw[Zaa.Zag (by have:=Zaa.lt g2;omega)];exact g2,.own G'.next,rfl,.inr ⟨_,hxx.next,rfl,Zaa.Zat rfl⟩⟩
  ·have hgt:=hx2.get t' _ hgt
   have lt':=Zaa.lt hgt
   skip
   refine Bz1 (X12 f1 f2 f5 f16 f17 f18 f8 hrl hal hal2 hm1 (X3 hm2 hsn2 hgt)) ?_
   have hne:t'≠H.next:=fun e=>by rw[e,g2]at hgt;cases hgt
   exact⟨hxx.set ht',by rw[Zaa.Zah hne.symm];exact g2,.own t',rfl,.inr ⟨t',ht',rfl,Zaa.Zal lt'⟩⟩
 ·rintro F G ⟨f18,f17,f16,f1,f2,hx,g,tok,f5,hT⟩
  skip
  refine Bz1 (X1 f5) ?_
  exact Zc1 (Zfm _ _) hx
theorem ZEt (t:Tir) (q:List Tir):(ZCX t q).length=t.terms.length+1:=by simp[ZCX]
theorem ZCP:∀{l:List Tir},(∀t∈l,t.terms.length<=200)->(ZA9 l).length<=201 * l.length
 | [],_=>by simp[ZA9]
 | t :: q,h=>by
  have ih:=ZCP (l:=q) fun t ht=>h t (by simp[ht])
  have h1:=h t Xc
  rw[ZA9,zaa,ZEt,List.length_cons]
  omega
structure DOk (d:Dm):Prop where
 name:d.name.length<=12
 cnt:d.tiers.length<=4
 ok:ZF5 d.tiers
 sm:∀t∈d.tiers,TSm t
theorem ZF5.get:∀{l:List Tir},ZF5 l->∀{k:Nat} (h:k<l.length),TOk l[k] (l.drop (k+1))
 | t :: q,.cons _ _ h1 h2,0,_=>h1
 | t :: q,.cons _ _ h1 h2,k+1,h=>ZF5.get h2 (by simpa using h)
structure FrS (F:Fr) (is i:Nat) (s:Sc):Prop where
 f1:Fr.get F 1=.ptr is 0
 f10:Fr.get F 10=.sl .no (rD s.dims)
 f11:Fr.get F 11=.i (s.dims.length:Int)
 f12:Fr.get F 12=.i (i:Int)
theorem ZG1 {ts:List Tir} {k h:Nat} (hh:(h=k+2)\/(h=ts.length/\k+1=ts.length)):((rT ts).take h).drop (k+1)=rT ((ts.drop (k+1)).take 1):=by
 rw[<- List.map_take,<- List.map_drop,List.drop_take]
 rcases hh with rfl|⟨rfl,h2⟩
 ·rw[show k+2 - (k+1)=1 by omega]
 ·rw[h2,zaG];simp
theorem ZFC {Q:AEx->Fr->Zaa->Prop} {F:Fr} {H G:Zaa} {s:Sc} {d:Dm} {tok:Tok} {is ip i:Nat} {W:List Tx} (hd:DOk d) (hF:FrS F is i s) (f5:Fr.get F 5=.ptr ip 0) (f6:Fr.get F 6=.i ((d.tiers.length:Int) - 1)) (f3:Fr.get F 3=.sl tok (rS W)) (hW:W.length<=20000)
  (hx0:Zaa.Ext H G) (gs:G.get is=some (.cells (eSc s) 25)) (gp:G.get ip=some (.cells (eDm d) 39)) (hT:ZCe H.next G 9 1 W.length tok)
  (hQ:∀F' G' tok',FrS F' is i s->Fr.get F' 3=.sl tok' (rS (W++ZA9 d.tiers))->Zaa.Ext H G'->G'.get is=some (.cells (eSc s) 25)->ZCe H.next G' 9 1 (W++ZA9 d.tiers).length tok'->Q .normal F' G'):AW Tryz.prog c13_2 Q F G:=by
 have qr:=trivial
 have qn:=trivial
 obtain⟨e0,e1,e2,e3⟩:=Za7 d
 have hcn:=hd.cnt
 refine ZBA (fun m F G=>m<=d.tiers.length/\FrS F is i s/\Fr.get F 5=.ptr ip 0/\Fr.get F 6=.i ((m:Int) - 1)/\Zaa.Ext H G/\G.get is=some (.cells (eSc s) 25)/\G.get ip=some (.cells (eDm d) 39)/\∃tok,Fr.get F 3=.sl tok (rS (W++ZA9 (d.tiers.drop m)))/\ZCe H.next G 9 1 (W++ZA9 (d.tiers.drop m)).length tok) d.tiers.length (GStep.refl _ _)
  ⟨zad _,hF,f5,f6,hx0,gs,gp,tok,by rw[zaG,f3];simp[ZA9],by rw[zaG];simpa [ZA9] using hT⟩ ?_
 rintro m F G ⟨hm,⟨f1,f10,f11,f12⟩,f5,f6,hx,gs,gp,tok,f3,hT⟩
 cases m with
 | zero =>
  have dz:decide ((((0:Nat):Int) - 1)≥0)=false:=Xb
  rw[zaL]at f3 hT
  skip
  refine Bz1 (X2 f6 dz) ?_
  exact hQ _ _ tok ⟨f1,f10,f11,f12⟩ f3 hx gs hT
 | succ k =>
  have hk:k<d.tiers.length:=Xa
  have ek:(((k+1:Nat):Int) - 1)=(k:Int):=Xa
  rw[ek]at f6
  have dz:decide ((k:Int)≥0)=true:=Xc
  have hz:(0:Int)<=(k:Int):=Xa
  have hkt:((k:Int)).toNat=k:=Xa
  have hg:=Zdh hk
  have w1:=ZCE (s:=k) Xa
  have w2:IntKind.i64.wrap ((k:Int)+2)=((k+2:Nat):Int):=by rw[Zaw Xa Xa];omega
  have w3:IntKind.i64.wrap ((k:Int) - 1)=(k:Int) - 1:=Zaw Xa Xa
  have ht:=hd.ok.get hk
  have hs:=hd.sm _ (zah hk)
  have hq:∀u∈d.tiers.drop (k+1),∀x∈u.terms,x.length<=16:=fun u hu=>(hd.sm u (zaN hu)).txt
  have hti:=fun tk H=>ZEU d.tiers[k] (d.tiers.drop (k+1)) tk H ht hs hq
  have htw:ZA9 (d.tiers.drop k)=ZA9 (d.tiers.drop (k+1))++ZCX d.tiers[k] (d.tiers.drop (k+1)):=by rw[zal hk,ZA9]
  have hlw:=ZCP (l:=d.tiers.drop (k+1)) fun t ht=>(hd.sm t (zaN ht)).cnt
  rw[zaB]at hlw
  have hlt:=ZEt d.tiers[k] (d.tiers.drop (k+1))
  have hcnt:=hs.cnt
  obtain⟨t0,t1,t2,t3,t4⟩:=Zba d.tiers[k]
  obtain⟨a0,ms,ea⟩:∃a0 ms,ZCX d.tiers[k] (d.tiers.drop (k+1))=a0 :: ms:=⟨_,_,rfl⟩
  have hal:ZaE 1 (rS (W++ZA9 (d.tiers.drop (k+1))))=true:=ZaU (f:=fun s:Tx=>[eS s]) (sz:=1) (fun _=>rfl) _
  have hal2:ZaE 1 (rS (a0 :: ms))=true:=ZaU (f:=fun s:Tx=>[eS s]) (sz:=1) (fun _=>rfl) _
  have hal2:ZaE 1 ([eS a0] :: rS ms)=true:=hal2
  have hrl:(rS (W++ZA9 (d.tiers.drop (k+1)))).length=(W++ZA9 (d.tiers.drop (k+1))).length:=Xc
  have hwn:(W++ZA9 (d.tiers.drop (k+1))).length+(ms.length+1)=(W++ZA9 (d.tiers.drop k)).length:=by
   rw[htw,ea]
   simp only[zaa,List.length_cons]
   omega
  have hsn:rS (W++ZA9 (d.tiers.drop (k+1)))++[eS a0] :: rS ms=rS (W++ZA9 (d.tiers.drop k)):=by rw[htw,ea];simp
  have hwl:(W++ZA9 (d.tiers.drop (k+1))).length+(ms.length+1)<=100000:=by
   have:=congrArg List.length ea
   rw[hlt,List.length_cons]at this
   rw[zaa]
   omega
  rw[ea]at hti
  have hti:∀tk H,Zay Tryz.prog 39 [.agg (eTr d.tiers[k]),.sl tk (rT ((d.tiers.drop (k+1)).take 1))] H (Pure H (.sl .no ([eS a0] :: rS ms))):=hti
  have hml:(rS ms).length=ms.length:=Xc
  generalize W++ZA9 (d.tiers.drop (k+1))=W1 at *
  generalize hW2:W++ZA9 (d.tiers.drop k)=W2 at *
  have hm1:W1.length+(ms.length+1)<=maxLen:=ZAp Xa
  have hm2:(W1.length+(ms.length+1)) * 16<=140737488355328:=Xa
  have l3:ZaE 3 (rT d.tiers)=true:=ZaU (f:=eTr) (sz:=3) (fun _=>rfl) _
  have b3:d.tiers.length<=d.tiers.length:=zad _
  have b1:k+1<=d.tiers.length:=Xa
  by_cases h2:d.tiers.length<k+2
  ·have c1:(((d.tiers.length:Nat):Int)<((k+2:Nat):Int))=True:=by rw[eq_iff_iff,iff_true];omega
   have c2:(0:Int)<=((d.tiers.length:Nat):Int):=Xa
   have c3:(((d.tiers.length:Nat):Int)).toNat=d.tiers.length:=Xa
   have hdr:=ZG1 (ts:=d.tiers) (k:=k) (h:=d.tiers.length) (.inr ⟨rfl,Xa⟩)
   skip
   refine Bz8 (X12 f6 dz f3 f5 gp e0 e1 e2 e3 hz hkt (X12 hg t0 t4 w1 w2 c1 c2 c3 hdr l3 b1 b3)) ?_
   refine qcp (hti _ _) fun k1=>?_
   rcases hT with rfl|⟨t',ht',rfl,hgt⟩
   ·refine Bz5 (X12 f6 dz f3 f5 hrl hal hal2 hml hm1 hm2 hsn w3) ?_
    refine⟨k,Xa,Xa,⟨f1,f10,f11,f12⟩,?_⟩
    rw[hW2]
    exact⟨rfl,hx.bump.alloc,by rw[Zaa.Zag (by have:=Zaa.lt gs;simp only[nx];omega),Zaa.ZaB];exact gs,by rw[Zaa.Zag (by have:=Zaa.lt gp;simp only[nx];omega),Zaa.ZaB];exact gp,_,rfl,.inr ⟨G.next+k1,by have:=hx.next;omega,rfl,by rw[<- hwn];exact Zaa.Zat rfl⟩⟩
   ·have lt':=Zaa.lt hgt
    refine Bz5 (X12 f6 dz f3 f5 hrl hal hal2 hml hm1 hm2 hsn (X2 w3 hgt)) ?_
    refine⟨k,Xa,Xa,⟨f1,f10,f11,f12⟩,?_⟩
    rw[hW2]
    have n1:is≠t':=fun e=>by rw[<- e,gs]at hgt;cases hgt
    have n2:ip≠t':=fun e=>by rw[<- e,gp]at hgt;cases hgt
    exact⟨rfl,hx.bump.set ht',by rw[Zaa.Zah n1,Zaa.ZaB];exact gs,by rw[Zaa.Zah n2,Zaa.ZaB];exact gp,_,rfl,.inr ⟨t',ht',rfl,by rw[<- hwn];exact Zaa.Zal Xe⟩⟩
  ·have c1:(((d.tiers.length:Nat):Int)<((k+2:Nat):Int))=False:=by rw[eq_iff_iff,iff_false];omega
   have c2:(0:Int)<=((k+2:Nat):Int):=Xa
   have c3:(((k+2:Nat):Int)).toNat=k+2:=Xa
   have b2:k+2<=d.tiers.length:=Xa
   have b4:k+1<=k+2:=Xa
   have hdr:=ZG1 (ts:=d.tiers) (k:=k) (h:=k+2) (.inl rfl)
   skip
   refine Bz8 (X12 f6 dz f3 f5 gp e0 e1 e2 e3 hz hkt (X12 hg t0 t4 w1 w2 c1 c2 c3 hdr l3 b1 (X3 b2 b3 b4))) ?_
   refine qcp (hti _ _) fun k1=>?_
   rcases hT with rfl|⟨t',ht',rfl,hgt⟩
   ·refine Bz5 (X12 f6 dz f3 f5 hrl hal hal2 hml hm1 hm2 hsn w3) ?_
    refine⟨k,Xa,Xa,⟨f1,f10,f11,f12⟩,?_⟩
    rw[hW2]
    exact⟨rfl,hx.bump.alloc,by rw[Zaa.Zag (by have:=Zaa.lt gs;simp only[nx];omega),Zaa.ZaB];exact gs,by rw[Zaa.Zag (by have:=Zaa.lt gp;simp only[nx];omega),Zaa.ZaB];exact gp,_,rfl,.inr ⟨G.next+k1,by have:=hx.next;omega,rfl,by rw[<- hwn];exact Zaa.Zat rfl⟩⟩
   ·have lt':=Zaa.lt hgt
    refine Bz5 (X12 f6 dz f3 f5 hrl hal hal2 hml hm1 hm2 hsn (X2 w3 hgt)) ?_
    refine⟨k,Xa,Xa,⟨f1,f10,f11,f12⟩,?_⟩
    rw[hW2]
    have n1:is≠t':=fun e=>by rw[<- e,gs]at hgt;cases hgt
    have n2:ip≠t':=fun e=>by rw[<- e,gp]at hgt;cases hgt
    exact⟨rfl,hx.bump.set ht',by rw[Zaa.Zah n1,Zaa.ZaB];exact gs,by rw[Zaa.Zah n2,Zaa.ZaB];exact gp,_,rfl,.inr ⟨t',ht',rfl,by rw[<- hwn];exact Zaa.Zal Xe⟩⟩
theorem ZC4 {d:Dm} (h:Zdv d=0):DOk d:=by
 have hok:=ZGO h
 unfold Zdv at h
 split at h
 ·cases h
 ·rename_i h1
  split at h
  ·cases h
  ·rename_i h2
   have hsm:∀{l:List Tir} {seen:List Tx},Zkb seen l=0->∀t∈l,TSm t:=by
    intro l
    induction l with
    | nil=>intro seen _ t ht;cases ht
    | cons u r ih =>
     intro seen h t ht
     unfold Zkb at h
     split at h
     ·exact absurd h (by assumption)
     ·rename_i h3
      have h3:ZbO u (ZbR r)=0:=zbD h3
      split at h
      ·cases h
      ·rcases zak.1 ht with rfl|ht
       ·obtain⟨_,k2,k3⟩:=ZBT h3
        refine⟨k3,k2,fun s hs=>?_⟩
        obtain⟨i,hi,rfl⟩:=zar hs
        have:=(ZG0 (ZCu h3) hi).1
        unfold isT at this
        simp at this
        omega
       ·exact ih h t ht
   refine⟨?_,Xa,hok,hsm h⟩
   have:ZbK d.name=true:=by simpa using h1
   unfold ZbK at this
   simp at this
   omega
theorem dimW_len {d:Dm} (h:DOk d):(ZCM d).length<=805:=by
 have:=ZCP (l:=d.tiers) fun t ht=>(h.sm t ht).cnt
 have:=h.cnt
 unfold ZCM
 rw[List.length_cons]
 omega
theorem ZCD:∀{l:List Dm},(∀d∈l,DOk d)->(l.flatMap ZCM).length<=805 * l.length
 | [],_=>by simp
 | d :: r,h=>by
  have h1:=dimW_len (h d Xc)
  have h2:=ZCD (l:=r) fun d hd=>h d (by simp[hd])
  rw[zaz,zaa,List.length_cons]
  omega
theorem Zdf {l:List Dm} {k:Nat} (h:k<l.length):(l.take (k+1)).flatMap ZCM=(l.take k).flatMap ZCM++(64 :: l[k].name) :: ZA9 l[k].tiers:=by
 rw[zae h,za5]
 simp[ZCM]
theorem sh_dims {Q:AEx->Fr->Zaa->Prop} {F:Fr} {H G:Zaa} {s:Sc} {is:Nat} (hd:∀d∈s.dims,DOk d) (hl:s.dims.length<=16) (hF:FrS F is 0 s) (f3:Fr.get F 3=.sl .full [])
  (hx0:Zaa.Ext H G) (gs:G.get is=some (.cells (eSc s) 25))
  (hQ:∀F' G' tok',Fr.get F' 1=.ptr is 0->Fr.get F' 3=.sl tok' (rS (s.dims.flatMap ZCM))->Zaa.Ext H G'->G'.get is=some (.cells (eSc s) 25)->ZCe H.next G' 9 1 (s.dims.flatMap ZCM).length tok'->Q .normal F' G'):AW Tryz.prog c13_1 Q F G:=by
 have qr:=trivial
 have qn:=trivial
 refine ZbJ (N:=s.dims.length) (fun k F G=>Fr.get F 12=.i (k:Int)/\Fr.get F 11=.i (s.dims.length:Int)/\FrS F is k s/\Zaa.Ext H G/\G.get is=some (.cells (eSc s) 25)/\∃tok,Fr.get F 3=.sl tok (rS ((s.dims.take k).flatMap ZCM))/\ZCe H.next G 9 1 ((s.dims.take k).flatMap ZCM).length tok) Xd (fun k F G h=>⟨h.1,h.2.1⟩) (GStep.refl _ _) ⟨hF.f12,hF.f11,hF,hx0,gs,.full,f3,.inl rfl⟩ ?_ ?_
 ·rintro k F G hk ⟨f12,f11,⟨f1,f10,_,_⟩,hx,gs,tok,f3,hT⟩
  have hz:(0:Int)<=(k:Int):=Xa
  have hg:=ZjQ hk
  have hdk:=hd _ (zah hk)
  have hlw:=ZCD (l:=s.dims.take k) fun d hd'=>hd d (zaH hd')
  rw[zau]at hlw
  have htf:=Zdf hk
  generalize s.dims[k]=d at *
  generalize (s.dims.take k).flatMap ZCM=W0 at *
  obtain⟨e0,e1,e2,e3⟩:=Za7 d
  have hnm:=hdk.name
  have hcn:=hdk.cnt
  have a1:=Zz9 [64] d.name
  have f1':1+d.name.length<=maxLen:=ZAp Xa
  have hal:ZaE 1 (rS W0)=true:=ZaU (f:=fun s:Tx=>[eS s]) (sz:=1) (fun _=>rfl) _
  have hrl:(rS W0).length=W0.length:=Xc
  have hm1:W0.length+1<=maxLen:=ZAp Xa
  have hm2:(W0.length+1) * 16<=140737488355328:=Xa
  have hal2:ZaE 1 [[eS (64 :: d.name)]]=true:=rfl
  have hsn:rS W0++[[eS (64 :: d.name)]]=rS (W0++[64 :: d.name]):=Xc
  have hw1:IntKind.i64.wrap ((d.tiers.length:Int) - 1)=(d.tiers.length:Int) - 1:=Zaw Xa Xa
  have ls:=Zaa.lt gs
  rcases hT with rfl|⟨t',ht',rfl,hgt⟩
  ·skip
   refine Bz3 (X12 f12 f11 f1 f10 f3 hz hg e0 e1 e2 e3 (X9 a1 f1' hal hrl hm1 hm2 hal2 hsn hw1)) ?_
   refine ZFC (H:=H) (s:=s) (d:=d) (is:=is) (ip:=G.next) (i:=k) (W:=W0++[64 :: d.name]) hdk ⟨f1,f10,f11,f12⟩ rfl rfl rfl (by rw[zaa];simp;omega) hx.alloc.alloc ?_ ?_ (.inr ⟨G.next+1,by have:=hx.next;omega,rfl,?_⟩) ?_
   ·rw[Zaa.Zag Xe,Zaa.Zag Xa];exact gs
   ·rw[Zaa.Zag Xe];exact Zaa.Zat rfl
   ·rw[zaa];exact Zaa.Zat rfl
   intro F' G' tok' ⟨f1,f10,f11,f12⟩ f3 hx gs hT
   rw[zam,List.singleton_append,<- htf]at f3 hT
   skip
   refine Bz1 (X1 f12) ?_
   exact⟨f11,⟨f1,f10,f11,rfl⟩,hx,gs,tok',f3,hT⟩
  ·have lt':=Zaa.lt hgt
   skip
   refine Bz3 (X12 f12 f11 f1 f10 f3 hz hg e0 e1 e2 e3 (X10 a1 f1' hal hrl hm1 hm2 hal2 hsn hw1 hgt)) ?_
   have n1:is≠t':=fun e=>by rw[<- e,gs]at hgt;cases hgt
   refine ZFC (H:=H) (s:=s) (d:=d) (is:=is) (ip:=G.next) (i:=k) (W:=W0++[64 :: d.name]) hdk ⟨f1,f10,f11,f12⟩ rfl rfl rfl (by rw[zaa];simp;omega) (hx.alloc.set ht') ?_ ?_ (.inr ⟨t',ht',rfl,?_⟩) ?_
   ·rw[Zaa.Zah n1,Zaa.Zag Xa];exact gs
   ·rw[Zaa.Zah Xa];exact Zaa.Zat rfl
   ·rw[zaa];exact Zaa.Zal Xe
   intro F' G' tok' ⟨f1,f10,f11,f12⟩ f3 hx gs hT
   rw[zam,List.singleton_append,<- htf]at f3 hT
   skip
   refine Bz1 (X1 f12) ?_
   exact⟨f11,⟨f1,f10,f11,rfl⟩,hx,gs,tok',f3,hT⟩
 ·rintro F G ⟨f12,f11,⟨f1,f10,_,_⟩,hx,gs,tok,f3,hT⟩
  rw[zaq]at f3 hT
  skip
  refine Bz0 ?_
  exact hQ _ _ tok f1 f3 hx gs hT
theorem ZEj {l:List Tx} {k:Nat} (h:k<l.length):(l.take (k+1)).map ((43:UInt8) :: ·)=(l.take k).map ((43:UInt8) :: ·)++[43 :: l[k]]:=by
 rw[zae h,zaD]
 rfl
theorem sh_meas {Q:AEx->Fr->Zaa->Prop} {F:Fr} {H G:Zaa} {l W:List Tx} {tok:Tok} (hl:l.length<=3) (hs:∀m∈l,m.length<=12) (hW:W.length<=20000) (f51:Fr.get F 51=.sl .no (rS l)) (f52:Fr.get F 52=.i (l.length:Int)) (f53:Fr.get F 53=.i 0) (f3:Fr.get F 3=.sl tok (rS W))
  (hx0:Zaa.Ext H G) (hT:ZCe H.next G 9 1 W.length tok)
  (hQ:∀F' G' tok',Fr.get F' 3=.sl tok' (rS (W++l.map ((43:UInt8) :: ·)))->Zaa.Ext H G'->Q .normal F' G'):AW Tryz.prog c13_3 Q F G:=by
 have qr:=trivial
 have qn:=trivial
 refine ZbJ (N:=l.length) (fun k F G=>Fr.get F 53=.i (k:Int)/\Fr.get F 52=.i (l.length:Int)/\Fr.get F 51=.sl .no (rS l)/\Zaa.Ext H G/\∃tok,Fr.get F 3=.sl tok (rS (W++(l.take k).map ((43:UInt8) :: ·)))/\ZCe H.next G 9 1 (W.length+k) tok) Xd (fun k F G h=>⟨h.1,h.2.1⟩) (GStep.refl _ _) ⟨f53,f52,f51,hx0,tok,by rw[f3];simp,hT⟩ ?_ ?_
 ·rintro k F G hk ⟨f53,f52,f51,hx,tok,f3,hT⟩
  have hz:(0:Int)<=(k:Int):=Xa
  have hr:(rS l)[k]?=some [eS l[k]]:=by simp[hk]
  have hml:=hs _ (zah hk)
  have htm:=ZEj hk
  have hrl:(rS (W++(l.take k).map ((43:UInt8) :: ·))).length=W.length+k:=by
   simp only[zan,zaa,zau];omega
  generalize l[k]=x at *
  have a1:=Zz9 [43] x
  have f1':1+x.length<=maxLen:=ZAp Xa
  have hal:ZaE 1 (rS (W++(l.take k).map ((43:UInt8) :: ·)))=true:=ZaU (f:=fun s:Tx=>[eS s]) (sz:=1) (fun _=>rfl) _
  have hm1:W.length+k+1<=maxLen:=ZAp Xa
  have hm2:(W.length+k+1) * 16<=140737488355328:=Xa
  have hal2:ZaE 1 [[eS (43 :: x)]]=true:=rfl
  have hsn:rS (W++(l.take k).map ((43:UInt8) :: ·))++[[eS (43 :: x)]]=rS (W++(l.take (k+1)).map ((43:UInt8) :: ·)):=by rw[htm];simp
  generalize hR1:rS (W++(l.take (k+1)).map ((43:UInt8) :: ·))=R1 at *
  generalize rS (W++(l.take k).map ((43:UInt8) :: ·))=R0 at *
  rcases hT with rfl|⟨t',ht',rfl,hgt⟩
  ·skip
   refine Bz1 (X12 f53 f52 f51 f3 hz hr a1 f1' hal hrl hm1 (X3 hm2 hal2 hsn)) ?_
   exact⟨hx.alloc,_,by rw[hR1],.inr ⟨_,hx.next,rfl,Zaa.Zat rfl⟩⟩
  ·have lt':=Zaa.lt hgt
   skip
   refine Bz1 (X12 f53 f52 f51 f3 hz hr a1 f1' hal hrl hm1 (X4 hm2 hal2 hsn hgt)) ?_
   exact⟨hx.set ht',_,by rw[hR1],.inr ⟨t',ht',rfl,Zaa.Zal lt'⟩⟩
 ·rintro F G ⟨f53,f52,f51,hx,tok,f3,hT⟩
  rw[zaq]at f3
  skip
  refine Bz0 ?_
  exact hQ _ _ tok f3 hx
theorem ZiK (s:Sc) (H:Zaa) (he:scE s=0):Zay Tryz.prog 13 [.agg (eSc s)] H (Pure H (.sl .no (rS (ZBi s)))):=by
 have hx0:Zaa.Ext H H:=.refl _
 obtain⟨h1,h2,h3,h4⟩:=ZCV he
 have hd:∀d∈s.dims,DOk d:=fun d hd=>ZC4 (h2 d hd)
 have hlw:=ZCD hd
 obtain⟨s0,s1,s2,s3⟩:=ZbB s
 have hg:(H.alloc (.cells (eSc s) 25)).get H.next=some (.cells (eSc s) 25):=Zaa.Zat rfl
 refine fnQ cf13 fun Q qr qn=>?_
 refine Bz3 (X4 s0 s1 s2 s3) ?_
 refine sh_dims (H:=H) (s:=s) (is:=H.next) hd h1 ⟨rfl,rfl,rfl,rfl⟩ rfl hx0.alloc hg ?_
 intro F' G' tok' f1 f3 hx gs hT
 skip
 refine Bz3 (X6 f1 gs s0 s1 s2 s3) ?_
 refine sh_meas (H:=H) (l:=s.meas) (W:=s.dims.flatMap ZCM) h3 h4 Xa rfl rfl rfl f3 hx hT ?_
 intro F' G' tok' f3 hx
 skip
 refine Bz1 (X1 f3) ?_
 exact Zc1 (Zfm _ _) hx
open Go.RowKit Go.Lib
def ZBb (l:List Tx):Tx:=l.flatMap fun w=>32 :: w
theorem ZBx (a b:List Tx):ZBb (a++b)=ZBb a++ZBb b:=za5
theorem ZDf (w:Tx):ZBb [w]=32 :: w:=by simp[ZBb]
theorem ZBS (w:Tx) (l:List Tx):ZBb (w :: l)=32 :: w++ZBb l:=by simp[ZBb]
theorem ZBY {x:Tx} (h:x.length<=16):(ZyH x).length<=33:=by have:=ZzU x;omega
theorem ZFB (l:List Tx) (i:Nat) (h:∀s∈l,s.length<=16):(l.getD i []).length<=16:=by
 by_cases hi:i<l.length
 ·have e:l.getD i []=l[i]:=by simp[hi]
  rw[e];exact h _ (zah hi)
 ·have e:l.getD i []=[]:=by simp[List.getElem?_eq_none_iff.2 (by omega:l.length<=i)]
  rw[e];simp
theorem ZFP (q:List Tir) (n:Int) (h:∀u∈q,∀s∈u.terms,s.length<=16):(ZBs q n).length<=34:=by
 cases q with
 | nil=>simp[ZBs]
 | cons u r =>
  have:=ZBY (ZFB u.terms n.toNat (h u Xc))
  simp only[ZBs,List.length_cons];omega
theorem ZCk (t:Tir) (q:List Tir) (ht:TSm t) (h:∀u∈q,∀s∈u.terms,s.length<=16):∀k,(ZBb ((List.range k).map (ZCQ t q))).length<=69 * k
 | 0=>by simp[ZBb]
 | k+1=>by
  have ih:=ZCk t q ht h k
  have h1:=ZBY (ZFB t.terms k ht.txt)
  have h2:=ZFP q (t.up.getD k 0) h
  rw[ZC7,ZBx,ZDf,zaa]
  simp only[ZCQ,List.length_cons,zaa]
  omega
theorem ZGF (t:Tir) (q:List Tir) (ht:TSm t) (h:∀u∈q,∀s∈u.terms,s.length<=16):(ZBb (ZCX t q)).length<=13814:=by
 have h1:=ZCk t q ht h t.terms.length
 have h2:=ht.cnt
 have h3:=ht.name
 unfold ZCX
 rw[ZBS,zaa,List.length_cons,List.length_cons]
 omega
theorem ZCJ:∀{l:List Tir},(∀t∈l,TSm t)->(ZBb (ZA9 l)).length<=13814 * l.length
 | [],_=>by simp[ZA9,ZBb]
 | t :: q,h=>by
  have ih:=ZCJ (l:=q) fun t ht=>h t (by simp[ht])
  have h1:=ZGF t q (h t Xc) fun u hu=>(h u (by simp[hu])).txt
  rw[ZA9,ZBx,zaa,List.length_cons]
  omega
theorem dimJ_len {d:Dm} (h:DOk d):(ZBb (ZCM d)).length<=55270:=by
 have h1:=ZCJ h.sm
 have h2:=h.cnt
 have h3:=h.name
 unfold ZCM
 rw[ZBS,zaa,List.length_cons,List.length_cons]
 omega
theorem ZCC:∀{l:List Dm},(∀d∈l,DOk d)->(ZBb (l.flatMap ZCM)).length<=55270 * l.length
 | [],_=>by simp[ZBb]
 | d :: r,h=>by
  have h1:=dimJ_len (h d Xc)
  have h2:=ZCC (l:=r) fun d hd=>h d (by simp[hd])
  rw[zaz,ZBx,zaa,List.length_cons]
  omega
structure FrJ (F:Fr) (is ip i k:Nat) (s:Sc):Prop where
 f1:Fr.get F 1=.ptr is 0
 f5:Fr.get F 5=.ptr ip 0
 f6:Fr.get F 6=.i (k:Int)
 f11:Fr.get F 11=.sl .no (rD s.dims)
 f12:Fr.get F 12=.i (s.dims.length:Int)
 f13:Fr.get F 13=.i (i:Int)
theorem sj_terms {Q:AEx->Fr->Zaa->Prop} {F:Fr} {G:Zaa} {s:Sc} {d:Dm} {is ip i k:Nat} {w0:Tx} (hd:DOk d) (hk:k<d.tiers.length) (hF:FrJ F is ip i k s) (gp:G.get ip=some (.cells (eDm d) 39))
  (f45:Fr.get F 45=.i (d.tiers[k].terms.length:Int)) (f46:Fr.get F 46=.i 0) (f3:Fr.get F 3=eS w0) (hw:w0.length<=980000)
  (hQ:∀F' G',FrJ F' is ip i k s->Fr.get F' 3=eS (w0++ZBb ((List.range d.tiers[k].terms.length).map (ZCQ d.tiers[k] (d.tiers.drop (k+1)))))->Zaa.Ext G G'->Q .normal F' G'):AW Tryz.prog c29_3 Q F G:=by
 have qr:=trivial
 have qn:=trivial
 obtain⟨e0,e1,e2,e3⟩:=Za7 d
 have ht:=hd.ok.get hk
 have hs:=hd.sm _ (zah hk)
 have hg:=Zdh hk
 obtain⟨t0,t1,t2,t3,t4⟩:=Zba d.tiers[k]
 have hcn:=hd.cnt
 have hct:=hs.cnt
 have hq:∀u∈d.tiers.drop (k+1),∀x∈u.terms,x.length<=16:=fun u hu=>(hd.sm u (zaN hu)).txt
 have hml:=fun j=>ZCk d.tiers[k] (d.tiers.drop (k+1)) hs hq j
 refine ZbJ (N:=d.tiers[k].terms.length) (fun j F G1=>Fr.get F 46=.i (j:Int)/\Fr.get F 45=.i (d.tiers[k].terms.length:Int)/\FrJ F is ip i k s/\Zaa.Ext G G1/\Fr.get F 3=eS (w0++ZBb ((List.range j).map (ZCQ d.tiers[k] (d.tiers.drop (k+1)))))) Xd (fun k F G h=>⟨h.1,h.2.1⟩) (GStep.refl _ _) ⟨f46,f45,hF,.refl _,by rw[f3];simp[ZBb]⟩ ?_ ?_
 ·rintro j F G1 hj ⟨f46,f45,⟨f1,f5,f6,f11,f12,f13⟩,hx,f3⟩
  have gp1:=hx.get _ _ gp
  have hz:(0:Int)<=(k:Int):=Xa
  have hkt:((k:Int)).toNat=k:=Xa
  have hjz:(0:Int)<=(j:Int):=Xa
  have hjt:((j:Int)).toNat=j:=Xa
  have hr:(rS d.tiers[k].terms)[j]?=some [eS d.tiers[k].terms[j]]:=by simp[hj]
  have hgd:d.tiers[k].terms.getD j []=d.tiers[k].terms[j]:=by simp[hj]
  have hxl:=hs.txt _ (zah hj)
  have hmw:ZCQ d.tiers[k] (d.tiers.drop (k+1)) j=46 :: (ZyH d.tiers[k].terms[j]++ZBs (d.tiers.drop (k+1)) (d.tiers[k].up.getD j 0)):=by unfold ZCQ;rw[hgd]
  have hsn:=ZC7 d.tiers[k] (d.tiers.drop (k+1)) j
  have hmj:=hml j
  have w1:=ZCE (s:=k) Xa
  generalize d.tiers[k].terms[j]=x at *
  have hwl:=ZBY hxl
  have hws:=fun H=>ZyV x H Xa
  generalize ZyH x=wx at *
  have hfin:w0++ZBb ((List.range (j+1)).map (ZCQ d.tiers[k] (d.tiers.drop (k+1))))=w0++ZBb ((List.range j).map (ZCQ d.tiers[k] (d.tiers.drop (k+1))))++[32,46]++wx++ZBs (d.tiers.drop (k+1)) (d.tiers[k].up.getD j 0):=by
   rw[hsn,ZBx,ZDf,hmw];simp
  generalize hJ0:ZBb ((List.range j).map (ZCQ d.tiers[k] (d.tiers.drop (k+1))))=J at *
  have hJ:(w0++J).length<=995000:=by rw[zaa];omega
  generalize w0++J=w1' at *
  have a1:=Zz9 w1' [32,46]
  have f1':w1'.length+2<=maxLen:=ZAp Xa
  have a2:=Zz9 (w1'++[32,46]) wx
  have f2':(w1'++[32,46]).length+wx.length<=maxLen:=ZAp (by simp only[zaa,List.length_cons,List.length_nil];omega)
  have f3':w1'.length+(0+1+1)+wx.length<=maxLen:=ZAp Xa
  by_cases hl:k+1<d.tiers.length
  ·have dl:decide (((k+1:Nat):Int)<(d.tiers.length:Int))=true:=by simp;omega
   have hdn:d.tiers.drop (k+1)=d.tiers[k+1] :: d.tiers.drop (k+1+1):=zal hl
   obtain⟨h1,h2,h3⟩:=ht.len _ _ hdn
   have hju:j<d.tiers[k].up.length:=Xa
   obtain⟨n1,n2⟩:=h3 _ (zah hju)
   have e3':d.tiers[k].up.getD j 0=d.tiers[k].up[j]:=by simp[hju]
   have hnu:d.tiers[k].up[j].toNat<d.tiers[k+1].terms.length:=Xa
   have e5':d.tiers[k+1].terms.getD d.tiers[k].up[j].toNat []=d.tiers[k+1].terms[d.tiers[k].up[j].toNat]:=by simp[hnu]
   have hsl:=(hd.sm _ (zah hl)).txt _ (zah hnu)
   have hri:(rI d.tiers[k].up)[j]?=some [.i d.tiers[k].up[j]]:=by simp[hju]
   have hrs:(rS d.tiers[k+1].terms)[d.tiers[k].up[j].toNat]?=some [eS d.tiers[k+1].terms[d.tiers[k].up[j].toNat]]:=by simp[hnu]
   have hab:ZBs (d.tiers.drop (k+1)) (d.tiers[k].up.getD j 0)=62 :: ZyH d.tiers[k+1].terms[d.tiers[k].up[j].toNat]:=by rw[e3',hdn];simp only[ZBs,e5']
   rw[hab]at hfin
   have hg1:=Zdh hl
   obtain⟨v0,v1,v2,v3,v4⟩:=Zba d.tiers[k+1]
   generalize d.tiers[k+1].terms[d.tiers[k].up[j].toNat]=y at *
   generalize d.tiers[k].up[j]=n at *
   have hwly:=ZBY hsl
   have hwsy:=fun H=>ZyV y H Xa
   generalize ZyH y=wy at *
   have a3:=Zz9 (w1'++[32,46]++wx) [62]
   have g3:(w1'++[32,46]++wx).length+1<=maxLen:=ZAp (by simp only[zaa,List.length_cons,List.length_nil];omega)
   have a4:=Zz9 (w1'++[32,46]++wx++[62]) wy
   have g4:(w1'++[32,46]++wx++[62]).length+wy.length<=maxLen:=ZAp (by simp only[zaa,List.length_cons,List.length_nil];omega)
   have hz1:(0:Int)<=((k+1:Nat):Int):=Xa
   have hkt1:(((k+1:Nat):Int)).toNat=k+1:=Xa
   skip
   refine Bz1 (X12 f46 f45 f5 f6 f3 gp1 e0 e1 e2 e3 hz (X12 hkt hg t0 t1 t2 t3 t4 hjz hjt hr a1 f1')) ?_
   refine qcp (hws _) fun k1=>?_
   ((have hd:=tv;repeat' first|(first|apply Zad|apply Zac|apply Zab)<;>intro hd<;>try simp only[hd]|simp(disch:=first|assumption|omega|simp only[nx]<;>omega|fail)only[hd,qr,qn,ZoU,↓YA,YY,sevalprocAttr,f46,f45,f5,f6,f3,gp1,e0,e1,e2,e3,a2,f2',f3',w1,dl,hz,hkt,hg,t0,t1,t2,t3,t4,hjz,hjt,hz1,hkt1,hg1,v0,v1,v2,v3,v4,hri,n1,hrs,a3,g3,zan,List.getElem_cons_zero])<;>try revert hd;refine ttr ?_)
   refine qcp (hwsy _) fun k2=>?_
   refine Bz1 (X7 f46 f45 f5 f6 f3 a4 g4) ?_
   refine⟨⟨f1,f5,f6,f11,f12,f13⟩,hx.bump.bump,?_⟩
   rw[hfin]
   simp
  ·have dl:decide (((k+1:Nat):Int)<(d.tiers.length:Int))=false:=by simp;omega
   have hdn:d.tiers.drop (k+1)=[]:=zaQ Xa
   skip
   refine Bz1 (X12 f46 f45 f5 f6 f3 gp1 e0 e1 e2 e3 hz (X12 hkt hg t0 t1 t2 t3 t4 hjz hjt hr a1 f1')) ?_
   refine qcp (hws _) fun k1=>?_
   refine Bz3 (X12 f46 f45 f5 f6 f3 gp1 e0 e1 e2 e3 a2 (X4 f2' f3' w1 dl)) ?_
   refine⟨⟨f1,f5,f6,f11,f12,f13⟩,hx.bump,?_⟩
   rw[hfin,hdn]
   simp[ZBs]
 ·rintro F G1 ⟨f46,f45,hF,hx,f3⟩
  obtain⟨f1,f5,f6,f11,f12,f13⟩:=hF
  skip
  refine Bz0 ?_
  exact hQ _ _ ⟨f1,f5,f6,f11,f12,f13⟩ f3 hx
structure FrK (F:Fr) (is i:Nat) (s:Sc):Prop where
 f1:Fr.get F 1=.ptr is 0
 f11:Fr.get F 11=.sl .no (rD s.dims)
 f12:Fr.get F 12=.i (s.dims.length:Int)
 f13:Fr.get F 13=.i (i:Int)
theorem sj_tiers {Q:AEx->Fr->Zaa->Prop} {F:Fr} {G:Zaa} {s:Sc} {d:Dm} {is ip i:Nat} {w0:Tx} (hd:DOk d) (hF:FrK F is i s) (f5:Fr.get F 5=.ptr ip 0) (f6:Fr.get F 6=.i ((d.tiers.length:Int) - 1)) (f3:Fr.get F 3=eS w0) (hw:w0.length<=900000)
  (gp:G.get ip=some (.cells (eDm d) 39))
  (hQ:∀F' G',FrK F' is i s->Fr.get F' 3=eS (w0++ZBb (ZA9 d.tiers))->Zaa.Ext G G'->Q .normal F' G'):AW Tryz.prog c29_2 Q F G:=by
 have qr:=trivial
 have qn:=trivial
 obtain⟨e0,e1,e2,e3⟩:=Za7 d
 have hcn:=hd.cnt
 refine ZBA (fun m F G1=>m<=d.tiers.length/\FrK F is i s/\Fr.get F 5=.ptr ip 0/\Fr.get F 6=.i ((m:Int) - 1)/\Zaa.Ext G G1/\Fr.get F 3=eS (w0++ZBb (ZA9 (d.tiers.drop m)))) d.tiers.length (GStep.refl _ _)
  ⟨zad _,hF,f5,f6,.refl _,by rw[zaG,f3];simp[ZA9,ZBb]⟩ ?_
 rintro m F G1 ⟨hm,⟨f1,f11,f12,f13⟩,f5,f6,hx,f3⟩
 cases m with
 | zero =>
  have dz:decide ((((0:Nat):Int) - 1)≥0)=false:=Xb
  rw[zaL]at f3
  skip
  refine Bz1 (X2 f6 dz) ?_
  exact hQ _ _ ⟨f1,f11,f12,f13⟩ f3 hx
 | succ k =>
  have hk:k<d.tiers.length:=Xa
  have ek:(((k+1:Nat):Int) - 1)=(k:Int):=Xa
  rw[ek]at f6
  have gp1:=hx.get _ _ gp
  have dz:decide ((k:Int)≥0)=true:=Xc
  have hz:(0:Int)<=(k:Int):=Xa
  have hkt:((k:Int)).toNat=k:=Xa
  have hg:=Zdh hk
  have w3:IntKind.i64.wrap ((k:Int) - 1)=(k:Int) - 1:=Zaw Xa Xa
  have hs:=hd.sm _ (zah hk)
  have hnm:=hs.name
  have htw:ZA9 (d.tiers.drop k)=ZA9 (d.tiers.drop (k+1))++ZCX d.tiers[k] (d.tiers.drop (k+1)):=by rw[zal hk,ZA9]
  have hlw:=ZCJ (l:=d.tiers.drop (k+1)) fun t ht=>hd.sm t (zaN ht)
  rw[zaB]at hlw
  obtain⟨t0,t1,t2,t3,t4⟩:=Zba d.tiers[k]
  have hfin:w0++ZBb (ZA9 (d.tiers.drop k))=w0++ZBb (ZA9 (d.tiers.drop (k+1)))++[32,94]++d.tiers[k].name++ZBb ((List.range d.tiers[k].terms.length).map (ZCQ d.tiers[k] (d.tiers.drop (k+1)))):=by
   rw[htw,ZBx]
   simp only[ZCX,ZBS,zam]
   simp
  have hWl:(w0++ZBb (ZA9 (d.tiers.drop (k+1)))).length<=960000:=by rw[zaa];omega
  generalize w0++ZBb (ZA9 (d.tiers.drop (k+1)))=W1 at *
  have a1:=Zz9 W1 [32,94]
  have f1':W1.length+2<=maxLen:=ZAp Xa
  have a2:=Zz9 (W1++[32,94]) d.tiers[k].name
  have f2':(W1++[32,94]).length+d.tiers[k].name.length<=maxLen:=ZAp (by simp only[zaa,List.length_cons,List.length_nil];omega)
  have hWl2:(W1++[32,94]++d.tiers[k].name).length<=980000:=by simp only[zaa,List.length_cons,List.length_nil];omega
  skip
  refine Bz3 (X12 f6 dz f3 f5 gp1 e0 e1 e2 e3 hz hkt (X9 hg t0 t1 t2 t4 a1 f1' a2 f2')) ?_
  refine sj_terms (s:=s) (d:=d) (is:=is) (ip:=ip) (i:=i) (k:=k) (w0:=W1++[32,94]++d.tiers[k].name) hd hk ⟨f1,f5,f6,f11,f12,f13⟩ gp1 rfl rfl rfl hWl2 ?_
  intro F' G' ⟨f1,f5,f6,f11,f12,f13⟩ f3 hx2
  rw[<- hfin]at f3
  skip
  refine Bz1 (X2 f6 w3) ?_
  exact⟨k,Xa,Xa,⟨f1,f11,f12,f13⟩,f5,rfl,hx.trans hx2,f3⟩
theorem sj_dims {Q:AEx->Fr->Zaa->Prop} {F:Fr} {G:Zaa} {s:Sc} {is:Nat} (hd:∀d∈s.dims,DOk d) (hl:s.dims.length<=16) (hF:FrK F is 0 s) (f3:Fr.get F 3=eS [])
  (hQ:∀F' G',Fr.get F' 1=.ptr is 0->Fr.get F' 3=eS (ZBb (s.dims.flatMap ZCM))->Zaa.Ext G G'->Q .normal F' G'):AW Tryz.prog c29_1 Q F G:=by
 have qr:=trivial
 have qn:=trivial
 refine ZbJ (N:=s.dims.length) (fun k F G1=>Fr.get F 13=.i (k:Int)/\Fr.get F 12=.i (s.dims.length:Int)/\FrK F is k s/\Zaa.Ext G G1/\Fr.get F 3=eS (ZBb ((s.dims.take k).flatMap ZCM))) Xd (fun k F G h=>⟨h.1,h.2.1⟩) (GStep.refl _ _) ⟨hF.f13,hF.f12,hF,.refl _,f3⟩ ?_ ?_
 ·rintro k F G1 hk ⟨f13,f12,⟨f1,f11,_,_⟩,hx,f3⟩
  have hz:(0:Int)<=(k:Int):=Xa
  have hg:=ZjQ hk
  have hdk:=hd _ (zah hk)
  have hlw:=ZCC (l:=s.dims.take k) fun d hd'=>hd d (zaH hd')
  rw[zau]at hlw
  have htf:=Zdf hk
  generalize s.dims[k]=d at *
  have hfin:ZBb ((s.dims.take (k+1)).flatMap ZCM)=ZBb ((s.dims.take k).flatMap ZCM)++[32,64]++d.name++ZBb (ZA9 d.tiers):=by
   rw[htf,ZBx,ZBS];simp
  generalize ZBb ((s.dims.take k).flatMap ZCM)=W0 at *
  obtain⟨e0,e1,e2,e3⟩:=Za7 d
  have hnm:=hdk.name
  have hcn:=hdk.cnt
  have a1:=Zz9 W0 [32,64]
  have f1':W0.length+2<=maxLen:=ZAp Xa
  have a2:=Zz9 (W0++[32,64]) d.name
  have f2':(W0++[32,64]).length+d.name.length<=maxLen:=ZAp (by simp only[zaa,List.length_cons,List.length_nil];omega)
  have hWl2:(W0++[32,64]++d.name).length<=900000:=by simp only[zaa,List.length_cons,List.length_nil];omega
  have hw1:IntKind.i64.wrap ((d.tiers.length:Int) - 1)=(d.tiers.length:Int) - 1:=Zaw Xa Xa
  skip
  refine Bz3 (X12 f13 f12 f1 f11 f3 hz hg e0 e1 e2 e3 (X5 a1 f1' a2 f2' hw1)) ?_
  refine sj_tiers (s:=s) (d:=d) (is:=is) (ip:=G1.next) (i:=k) (w0:=W0++[32,64]++d.name) hdk ⟨f1,f11,f12,f13⟩ rfl rfl rfl hWl2 (Zaa.Zat rfl) ?_
  intro F' G' ⟨f1,f11,f12,f13⟩ f3 hx2
  rw[<- hfin]at f3
  skip
  refine Bz1 (X1 f13) ?_
  exact⟨f12,⟨f1,f11,f12,rfl⟩,hx.trans ((Zaa.Ext.refl G1).alloc.trans hx2),f3⟩
 ·rintro F G1 ⟨f13,f12,⟨f1,f11,_,_⟩,hx,f3⟩
  rw[zaq]at f3
  skip
  refine Bz0 ?_
  exact hQ _ _ f1 f3 hx
theorem sj_meas {Q:AEx->Fr->Zaa->Prop} {F:Fr} {G:Zaa} {l:List Tx} {w0:Tx} (hl:l.length<=3) (hs:∀m∈l,m.length<=12) (hW:w0.length<=900000) (f93:Fr.get F 93=.sl .no (rS l)) (f94:Fr.get F 94=.i (l.length:Int)) (f95:Fr.get F 95=.i 0) (f3:Fr.get F 3=eS w0)
  (hQ:∀F' G',Fr.get F' 3=eS (w0++ZBb (l.map ((43:UInt8) :: ·)))->Zaa.Ext G G'->Q .normal F' G'):AW Tryz.prog c29_4 Q F G:=by
 have qr:=trivial
 have qn:=trivial
 refine ZbJ (N:=l.length) (fun k F G1=>Fr.get F 95=.i (k:Int)/\Fr.get F 94=.i (l.length:Int)/\Fr.get F 93=.sl .no (rS l)/\Zaa.Ext G G1/\∃o:Tx,o.length<=w0.length+14 * k/\o=w0++ZBb ((l.take k).map ((43:UInt8) :: ·))/\Fr.get F 3=eS o) Xd (fun k F G h=>⟨h.1,h.2.1⟩) (GStep.refl _ _) ⟨f95,f94,f93,.refl _,w0,Xa,by simp[ZBb],f3⟩ ?_ ?_
 ·rintro k F G1 hk ⟨f95,f94,f93,hx,o,hol,ho,f3⟩
  have hz:(0:Int)<=(k:Int):=Xa
  have hr:(rS l)[k]?=some [eS l[k]]:=by simp[hk]
  have hml:=hs _ (zah hk)
  have htm:=ZEj hk
  generalize l[k]=x at *
  have a1:=Zz9 o [32,43]
  have f1':o.length+2<=maxLen:=ZAp Xa
  have a2:=Zz9 (o++[32,43]) x
  have f2':(o++[32,43]).length+x.length<=maxLen:=ZAp (by simp only[zaa,List.length_cons,List.length_nil];omega)
  skip
  refine Bz1 (X10 f95 f94 f93 f3 hz hr a1 f1' a2 f2') ?_
  exact⟨hx,o++[32,43]++x,by simp only[zaa,List.length_cons,List.length_nil];omega,by rw[htm,ZBx,ZDf,ho];simp,rfl⟩
 ·rintro F G1 ⟨f95,f94,f93,hx,o,hol,ho,f3⟩
  rw[zaq]at ho
  rw[ho]at f3
  skip
  refine Bz0 ?_
  exact hQ _ _ f3 hx
theorem ZDR (s:Sc) (H:Zaa) (he:scE s=0):Zay Tryz.prog 29 [.agg (eSc s)] H (Pure H (eS (ZBb (ZBi s)))):=by
 have hx0:Zaa.Ext H H:=.refl _
 obtain⟨h1,h2,h3,h4⟩:=ZCV he
 have hd:∀d∈s.dims,DOk d:=fun d hd=>ZC4 (h2 d hd)
 have hlw:=ZCC hd
 obtain⟨s0,s1,s2,s3⟩:=ZbB s
 have hg:(H.alloc (.cells (eSc s) 25)).get H.next=some (.cells (eSc s) 25):=Zaa.Zat rfl
 refine fnQ cf29 fun Q qr qn=>?_
 refine Bz3 (X4 s0 s1 s2 s3) ?_
 refine sj_dims (s:=s) (is:=H.next) hd h1 ⟨rfl,rfl,rfl,rfl⟩ rfl ?_
 intro F' G' f1 f3 hx
 have gs:=hx.get _ _ hg
 skip
 refine Bz3 (X6 f1 gs s0 s1 s2 s3) ?_
 refine sj_meas (l:=s.meas) (w0:=ZBb (s.dims.flatMap ZCM)) h3 h4 Xa rfl rfl rfl f3 ?_
 intro F' G2 f3 hx2
 skip
 refine Bz1 (X1 f3) ?_
 have e:ZBb (s.dims.flatMap ZCM)++ZBb (s.meas.map ((43:UInt8) :: ·))=ZBb (ZBi s):=by rw[<- ZBx];rfl
 rw[e]
 exact ZaW (hx0.alloc.trans (hx.trans hx2)) rfl
end Go.Proofs.YtdfgoekdlmkdfaaGreatDoor
