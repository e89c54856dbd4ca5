/- Texts of the walk. -/
import Derived.Test.YtdfgoekdlmkdfaaGreatDoorMp
namespace Go.Proofs.YtdfgoekdlmkdfaaGreatDoor
set_option linter.defProp false
set_option maxHeartbeats 64000000
set_option linter.unusedSimpArgs false
set_option linter.unusedVariables false
open Go.RowKit
section
variable {g:Gh} {H:Zaa} {w:World} {D:Nat->Bool}
theorem WR.setCells {id:Nat} {cs cs':List AV} {E:TypeId} (hW:WR g H w) (hget:H.get id=some (.cells cs E)) (hone:∀x∈cs',x.one=true)
  (hv:∀b carr,g.ι id=some b->w.heap[b]?=some (.cells carr E (0,0))->VRs g w cs' carr.toList):WR g (H.set id (.cells cs' E)) w/\Stp g H w g (H.set id (.cells cs' E)) w:=by
 have hid:=Zaa.lt hget
 have key:∀i o b,(H.set id (.cells cs' E)).get i=some o->Zcy g i o b->∃o',H.get i=some o'/\Zcy g i o' b:=by
  intro i o b h1 h2
  by_cases e:i=id
  ·subst e
   rw[Zaa.Zal hid]at h1
   injection h1 with h1
   subst h1
   exact⟨_,hget,h2⟩
  ·rw[Zaa.Zah e]at h1
   exact⟨o,h1,h2⟩
 refine⟨⟨fun i o h=>?_,fun i i' o o' b a1 a2 b1 b2=>?_,hW.dom,fun i o b h1 h2=>?_,hW.ro⟩,⟨.refl _ _,zad _,rfl,rfl,rfl,zad _,fun _ _ _=>rfl,fun b _ ⟨i,o,h1,h2⟩=>?_,fun _ _ _ h=>.inl h⟩⟩
 ·by_cases e:i=id
  ·subst e
   rw[Zaa.Zal hid]at h
   injection h with h
   subst h
   obtain⟨b,carr,k1,k2,_,_,k5⟩:=hW.obj i _ hget
   exact⟨b,carr,k1,k2,hv b carr k1 k2,hone,k5⟩
  ·rw[Zaa.Zah e]at h
   exact hW.obj i o h
 ·obtain⟨p,p1,p2⟩:=key i o b a1 b1
  obtain⟨q,q1,q2⟩:=key i' o' b a2 b2
  exact hW.inj i i' p q b p1 q1 p2 q2
 ·obtain⟨p,p1,p2⟩:=key i o b h1 h2
  exact hW.bd i p b p1 p2
 ·obtain⟨p,p1,p2⟩:=key i o b h1 h2
  exact⟨i,p,p1,p2⟩
theorem frz_cell {id:Nat} {cs cs':List AV} {E:TypeId} (hW:WR g H w) (hget:H.get id=some (.cells cs E)) (hD:D id=false) (hl:cs.length=cs'.length) (hf:∀(i:Nat) x y,cs[i]?=some x->cs'[i]?=some y->Frz H D x y) :
  WR (g.frz H D) ((H.ZFq D).set id (.cells cs' E)) w/\Stp g H w (g.frz H D) ((H.ZFq D).set id (.cells cs' E)) w:=by
 obtain⟨k1,k2⟩:=frz_ok (D:=D) hW
 have hg2:(H.ZFq D).get id=some (.cells cs E):=by rw[ZD7 hD];exact hget
 obtain⟨b0,carr0,j1,j2,j3,j4,_⟩:=hW.obj id _ hget
 obtain⟨m1,m2⟩:=WR.setCells k1 hg2 (cs':=cs') (fun y hy=>by
  obtain⟨j,hj,rfl⟩:=zar hy
  obtain⟨x,hx⟩:=ZaN hl (zac hj)
  rw[<- (hf j x _ hx (zac hj)).one]
  exact j4 x (List.mem_of_getElem? hx)) (fun b carr h1 h2=>by
  have h1:g.ι id=some b:=h1
  rw[j1]at h1
  injection h1 with h1
  subst h1
  rw[j2]at h2
  injection h2 with h2
  injection h2 with h2
  subst h2
  refine⟨by rw[<- hl];exact j3.1,fun i y u hy hu=>?_⟩
  obtain⟨x,hx⟩:=ZaN hl hy
  exact(j3.2 i x u hx hu).frz (hf i x y hx hy) hW)
 exact⟨m1,k2.trans m2⟩
end
theorem Zay.frzC {P:Program} {f:FuncId} {xs bs:List AV} {H:Zaa} {D:Nat->Bool} {R:AV->Zaa->Prop} {id:Nat} {cs cs':List AV} {E:TypeId} (hget:H.get id=some (.cells cs E)) (hD:D id=false) (hlc:cs.length=cs'.length)
  (hf:∀(i:Nat) x y,cs[i]?=some x->cs'[i]?=some y->Frz H D x y) (h:Zay P f bs ((H.ZFq D).set id (.cells cs' E)) R) (hl:xs.length=bs.length) (hw:∀(i:Nat) x y,xs[i]?=some x->bs[i]?=some y->Frz H D x y):Zay P f xs H R :=
 ⟨h.1,fun g w vs hW hV hEn=>by
  obtain⟨k1,k2⟩:=frz_cell (D:=D) hW hget hD hlc hf
  exact(h.2 (g.frz H D) w vs k1 ⟨by rw[<- hl];exact hV.1,fun i y u hy hu=>by
   obtain⟨x,hx⟩:=ZaN hl hy
   exact(hV.2 i x u hx hu).frz (hw i x y hx hy) hW⟩ (hEn.mono k2.le.RO k2.le.cell)).mono fun e w' hh=>hh.imp (fun⟨v,r,H',g',h1,h2,h3,h4,h5⟩=>⟨v,r,H',g',h1,h2,h3,h4,k2.trans h5⟩) fun⟨u,H',g',h1,h2,h3,h4⟩=>⟨u,H',g',h1,h2,h3,k2.trans h4⟩⟩
open Go.RowKit Go.Lib
theorem ZDd (c:UInt8):∀l:Tx,(ZyA c l).length=l.count c+1
 | []=>by simp[ZyA]
 | x :: l=>by
  have ih:=ZDd c l
  obtain⟨p,ps,h⟩:=ZBd c l
  rw[h]at ih
  by_cases hx:x=c
  ·subst hx
   rw[parts_eq x l h,List.count_cons_self,<- ih];rfl
  ·rw[ZBv l hx h,List.count_cons_of_ne (by simpa using hx),<- ih];rfl
theorem ZuI {α:Type} (f:α->AV):∀l:List α,chunk 1 l.length (l.map f)=l.map fun x=>[f x]
 | []=>rfl
 | x :: l=>congrArg _ (ZuI f l)
theorem frz_strs {H:Zaa} {D:Nat->Bool} {id cap:Nat} {l:List Tx} {E:TypeId} (ho:H.get id=some (.cells (l.map fun s=>eS s) E)) (hd:D id=true):Frz H D (.arr id 0 l.length cap) (.sl .no (rS l)):=by
 have e:chunk 1 l.length ((l.map fun s=>eS s).drop 0)=rS l:=ZuI (fun s:Tx=>eS s) l
 refine .arr id 0 1 l.length cap E _ _ hd ho Xc Xc (fun i r r' h h'=>?_) (fun i r r' j x y h h' hx hy=>?_)
 ·rw[e,h']at h;injection h with h;rw[h]
 ·rw[e,h']at h;injection h with h;subst h;rw[hx]at hy;injection hy with hy;subst hy;exact .refl _
theorem ZGd {l:List Tx} {n k:Nat} (hk:k<l.length) (hn:n=l.length):splice ((l.take k).map (fun s=>eS s)++List.replicate (n - k) (eS [])) k [eS l[k]]=(l.take (k+1)).map (fun s=>eS s)++List.replicate (n - (k+1)) (eS []):=by
 subst hn
 have hl:((l.take k).map fun s=>eS s).length=k:=by rw[zan,zau];omega
 unfold splice
 rw[zbh hl,List.drop_append,hl]
 have e1:((l.take k).map fun s=>eS s).drop (k+[eS l[k]].length)=[]:=zaQ Xf
 have e2:k+[eS l[k]].length - k=1:=Xc
 rw[e1,e2,List.nil_append,List.drop_replicate,zae hk,zaD]
 simp[Nat.sub_sub]
theorem ZEc (c:UInt8) (s:Tx) (H:Zaa) (hl:s.length<=100000):Zay Tryz.prog 52 [eS s,eS [c],.i 0,.i (-1)] H (Pure H (.sl .no (rS (ZyA c s)))):=by
 have hx0:Zaa.Ext H H:=.refl _
 have hcnt:=ZDd c s
 have hle:=ZBo c s
 have hsuf:=Zzx c s
 have hto:∀t:Tx,(⟨t.toArray⟩:ByteArray).data.toList=t:=fun t=>by show t.toArray.toList=t;rw[List.toList_toArray]
 have hco:∀H,Zay Tryz.prog 98 [eS s,eS [c]] H (Pure H (.i ((s.count c:Nat):Int))):=fun H=>by
  have h:=Same.pure (ZzO ⟨s.toArray⟩ c H)
  rw[hto]at h
  exact h
 have hix:∀(t:Tx) H,Zay Tryz.prog 99 [eS t,eS [c]] H (Pure H (.i (indexByte t c))):=fun t H=>by
  have h:=Same.pure (ZzL ⟨t.toArray⟩ c H)
  rw[hto]at h
  exact h
 generalize hN:s.count c=N at *
 have d0:(((-1:Int)) == 0)=false:=Xb
 have d2:decide (([c]:Tx)=[])=false:=decide_eq_false Xc
 have d3:decide ((-1:Int)<0)=true:=Xb
 have w1:=ZCE (s:=N) Xa
 have w2:=ZCE (s:=s.length) Xa
 have d4:(((s.length+1:Nat):Int)<((N+1:Nat):Int))=False:=by rw[eq_iff_iff,iff_false];omega
 have hq:((N+1:Nat):Int)<=((N+1:Nat):Int):=zbv _
 have hm1:N+1<=maxLen:=ZAp Xa
 have hm2:(N+1) * 16<=140737488355328:=Xa
 have hne:(((N+1:Nat):Int)=0)=False:=by rw[eq_iff_iff,iff_false];omega
 have w3:IntKind.i64.wrap (((N+1:Nat):Int) - 1)=(N:Int):=by rw[Zaw Xa Xa];omega
 have hz:(0:Int)<=((N+1:Nat):Int):=Xa
 have ht:((N+1:Nat):Int).toNat=N+1:=Xa
 refine fnQ cf52 fun Q qr qn=>?_
 refine Bz1 (X3 d0 d2 d3) ?_
 refine qcp (hco _) fun k1=>?_
 refine Bz1 (X10 w1 w2 d4 w3 hz ht hq hm1 hm2 hne) ?_
 refine ZBA (fun m F G=>∃k,m+k=N/\Fr.get F 0=eS (ZyL c s k)/\Fr.get F 1=eS [c]/\Fr.get F 2=.i 0/\Fr.get F 3=.i (N:Int)/\Fr.get F 10=.i (k:Int)/\∃id,H.next<=id/\Fr.get F 9=.arr id 0 (N+1) (N+1)/\G.get id=some (.cells (((ZyA c s).take k).map (fun s=>eS s)++List.replicate (N+1 - k) (eS [])) 9)/\Zaa.Ext H G) N (GStep.refl _ _) ⟨0,Xa,rfl,rfl,rfl,rfl,rfl,_,?_,rfl,?_,?_⟩ ?_
 ·omega
 ·rw[Zaa.Zat xN]
  simp
 ·exact hx0.bump.alloc
 rintro m F G ⟨k,hm,f0,f1,f2,f3,f10,id,hid,f9,hg,hx⟩
 have hkl:k<(ZyA c s).length:=Xa
 have hlt:=Zaa.lt hg
 have hsk:=hsuf k
 have hkz:(0:Int)<=(k:Int):=Xa
 have hktn:((k:Int)).toNat=k:=Xa
 have hkb:((k:Int)<((N+1:Nat):Int))=True:=by rw[eq_iff_iff,iff_true];omega
 have hpa:=ZGn c s hkl
 have hel:(ZyA c s)[k]=(ZyS c (ZyL c s k)).1:=by
  rw[zac hkl]at hpa
  exact za4 hpa
 have hce:=ZzW c (ZyL c s k)
 have hicut:=Zzm c (ZyL c s k)
 have hset:=ZGd hkl hcnt.symm
 have hlc:(((ZyA c s).take k).map (fun s=>eS s)++List.replicate (N+1 - k) (eS [])).length=N+1:=by
  rw[zaa,zan,zau,zaW];omega
 by_cases h:k<N
 ·have e1:decide ((k:Int)<(N:Int))=true:=by simp;omega
  have hnn:(ZyS c (ZyL c s k)).2≠none:=fun e=>by
   have:=(Zzo c s hkl).1 e
   omega
  obtain⟨r,hr⟩:∃r,(ZyS c (ZyL c s k)).2=some r:=Option.ne_none_iff_exists'.1 hnn
  have hsu:ZyL c s (k+1)=r:=by rw[Zy3,hr]
  rw[hr]at hce hicut
  rw[hel]at hset
  generalize (ZyS c (ZyL c s k)).1=p at *
  have hixk:=hix (ZyL c s k)
  have hll:(ZyL c s k).length<=s.length:=Xa
  simp only at hicut hce
  rw[hicut]at hixk
  have hpl:p.length+r.length+1=(ZyL c s k).length:=by rw[hce];simp;omega
  have e2:decide (((p.length:Nat):Int)<0)=false:=Xc
  have w4:IntKind.i64.wrap ((p.length:Int)+0)=(p.length:Int):=by rw[Int.add_zero];exact Zaw Xa Xa
  have w5:=ZCE (s:=p.length) Xa
  have w6:=ZCE (s:=k) Xa
  have hp0:(0:Int)<=(p.length:Int):=Xa
  have hpt:((p.length:Int)).toNat=p.length:=Xa
  have hp1:(0:Int)<=((p.length+1:Nat):Int):=Xa
  have hz0:0<=p.length:=zas _
  have hp2:(0:Int)<=(p.length:Int)+((1:Nat):Int):=Xa
  have hpt2:((p.length:Int)+((1:Nat):Int)).toNat=p.length+1:=Xa
  have hkn:k<=N:=Xa
  have hpt1:(((p.length+1:Nat):Int)).toNat=p.length+1:=Xa
  have b1:p.length<=(ZyL c s k).length:=Xa
  have b2:p.length+1<=(ZyL c s k).length:=Xa
  have x1:=ZCa (ZyL c s k) p.length
  have x2:=ZBP (ZyL c s k) (p.length+1)
  have y1:(ZyL c s k).take p.length=p:=by rw[hce];simp
  have y2:(ZyL c s k).drop (p.length+1)=r:=by
   rw[hce,List.drop_append,zaQ Xa];simp
  rw[y1]at x1
  rw[y2]at x2
  generalize ZyL c s k=q at *
  skip
  refine Bz1 (X7 f0 f1 f2 f3 f10 f9 e1) ?_
  refine qcp (hixk _) fun k2=>?_
  refine Bz8 (X12 f0 f1 f2 f3 f10 f9 e2 w4 w5 w6 hp0 (X12 hpt hz0 hp2 hpt2 b1 x1 x2 b2 hp1 hpt1 hkb (X8 hkz hktn hg hlc hset hkn hkl hcnt))) ?_
  exact⟨m - 1,Xa,k+1,Xa,by rw[hsu],rfl,id,hid,rfl,(by first|exact Zaa.Zal (by first|omega|(simp only[nx];omega))|(rw[show N+1 - (k+1)=N - k by omega];exact Zaa.Zal (by first|omega|(simp only[nx];omega)))),hx.bump.set hid⟩
 ·obtain rfl:k=N:=Xa
  have e1:decide ((k:Int)<(k:Int))=false:=Xc
  have hno:(ZyS c (ZyL c s k)).2=none:=(Zzo c s hkl).2 Xa
  rw[hno,zaw]at hce
  rw[hel,<- hce]at hset
  have w6:=ZCE (s:=k) Xa
  have hkn:k<=k:=zad _
  have e0:k+1 - (k+1)=0:=Xa
  have e2:(ZyA c s).take (k+1)=ZyA c s:=zay Xa
  rw[e0,List.replicate_zero,zaw,e2]at hset
  have hp1:(0:Int)<=((k+1:Nat):Int):=Xa
  have hpt1:(((k+1:Nat):Int)).toNat=k+1:=Xa
  have hne1:(k+1=0)=False:=Xc
  generalize ZyL c s k=q at *
  skip
  refine Bz8 (X12 f0 f1 f2 f3 f10 f9 e1 hkb hkz hktn hg (X7 hlc hkn hset w6 hp1 hpt1 hne1)) ?_
  have e3:k+1 - 0=(ZyA c s).length:=Xa
  first|rw[e3]|rw[show k+1=(ZyA c s).length from e3]
  exact ZpD (D:=fun i=>decide (H.next<=i)) (frz_strs (Zaa.Zal hlt) (decide_eq_true hid)) (fun i hi=>decide_eq_false Xa) (hx.set hid)
open Go.RowKit Go.Lib
theorem AW_rfR {P:Prg} {gx:AX} {ps:List Nat} {ca cb:Zar} {Q:AEx->Fr->Zaa->Prop} {F:Fr} {H:Zaa} {f:FuncId} {caps:List AV} (hge:gx.ev F=.fn f [] caps) (ks:List Nat) (xs:List (List AV)) (H0:Zaa) (I:Nat->Zaa->Prop) (Ir:Zaa->Prop)
  (a1:ItK P.p f caps ks xs H) (a2:∀x∈xs,x.length=ps.length) (a3:∀id∈ks,(∃cs E,H.get id=some (.cells cs E))/\H0.get id=none) (a4:∀i o,H0.get i=some o->H.get i=some o) (a5:H.next<=H0.next)
  (a8:I 0 H0)
  (hr:∀k x G,xs[k]?=some x->H0.next<=G.next->I k G->∀Q1:AEx->Fr->Zaa->Prop,(∀F1 G2,I (k+1) G2->Q1 .normal F1 G2)->(∀F1 G2,Ir G2->Q1 .ret F1 G2)->∀Q2:AEx->Fr->Zaa->Prop,(∀F1 G1,AW P.calm cb Q1 F1 G1->Q2 .normal F1 G1)->AW P.calm ca Q2 (ZxS F ps x) G)
  (he:∀G,H0.next<=G.next->I xs.length G->Q .normal F G) (hx:∀G,H0.next<=G.next->Ir G->Q .ret F G):AW P (.rf gx ps ca cb) Q F H :=
 AW_rf hge ks xs H0 H0 I Ir a1 a2 a3 a4 a5 (GStep.refl _ _) a8 (fun k x G h1 h2 h3=>hr k x G h1 h2 h3 _ (fun _ G2 h=>⟨G2,GStep.refl _ _,h⟩) (fun _ G2 h=>⟨G2,GStep.refl _ _,h⟩) _ (fun _ _ h=>h)) he hx
def SeqQ2 (c:UInt8) (s:Tx) (H:Zaa) (r:AV) (G:Zaa):Prop :=
 Zaa.Ext H G/\∃is ip iz,r=.fn 191 [] [.ptr ip 0,.ptr is 0,.ptr iz 0]/\H.next<=is/\is<ip/\ip<iz/\G.get ip=some (.cells [.sc (.string ⟨#[c]⟩)] 9)/\G.get is=some (.cells [eS s] 9)/\G.get iz=some (.cells [.i 0] 3)
theorem ZFY (c:UInt8) (s:Tx) (H:Zaa):Zay Tryz.prog 154 [eS s,eS [c],.i 0] H (SeqQ2 c s H):=by
 have hC:SeqQ2 c s H (.fn 191 [] [.ptr (H.next+1) 0,.ptr H.next 0,.ptr (H.next+2) 0]) (((H.alloc (.cells [eS s] 9)).alloc (.cells [eS [c]] 9)).alloc (.cells [.i 0] 3)):=by
  refine⟨(Zaa.Ext.refl H).alloc.alloc.alloc,_,_,_,rfl,zad _,Xa,Xa,?_,?_,Zaa.Zat rfl⟩
  ·rw[Zaa.Zag Xe];exact Zaa.Zat rfl
  ·rw[Zaa.Zag Xe,Zaa.Zag Xe];exact Zaa.Zat rfl
 refine fnQ cf154 fun Q qr qn=>?_
 refine Bz0 ?_
 exact Zaq hC
theorem ZEC (c:UInt8) (s:Tx) (H:Zaa):Zay Tryz.prog 110 [eS s,eS [c]] H (SeqQ2 c s H):=by
 refine fnQ cf110 fun Q qr qn=>?_
 refine Bz0 ?_
 refine Zap.use (ZFY c s _) ?_
 intro r G hC
 refine Bz0 ?_
 exact Zaq hC
def tx_a:Zar:=ry 4 [.M 12]
def tx_b:Zar:=.blk 1<|rs 13 [.M 5,.c 54 [14],.s 13,.e 13 0,.e 13 1,.m 6 16,.s 7]<|ri 17 [.M 7,.u 18] 19 (rr 0 [.w (.st 1 (.t 2) jn),.w (.st 1 (.t 3) (ib false))])<|ry 19 [.l 1 4,.M 6,.A 9 1 16 20 21,.Z 1 4 23]
theorem tx_a_ok {Q:AEx->Fr->Zaa->Prop} {F:Fr} {H:Zaa} {v:AV} (h:Fr.get F 12=v) (k:Q .normal ((5,v) :: F) H):AW Tryz.prog tx_a Q F H:=by
 have qr:=trivial
 have qn:=trivial
 unfold tx_a
 refine Bz1 (X1 h) ?_
 exact k
theorem tx_no {Q:AEx->Fr->Zaa->Prop} {F:Fr} {G:Zaa} {w:Tx} {i2 i3:Nat} {u2 u3:AV} (f5:Fr.get F 5=eS w) (f2:Fr.get F 2=.ptr i2 0) (f3:Fr.get F 3=.ptr i3 0) (hw:w.length<=100000) (ht:ZyG w=none)
  (g2:G.get i2=some (.cells [u2] 23)) (g3:G.get i3=some (.cells [u3] 4)) (h23:i2≠i3)
  (hQ:∀F1 k,Q .ret F1 (((G.bump k).set i2 (.cells [.sl .full []] 23)).set i3 (.cells [.b false] 4))):AW Tryz.prog tx_b Q F G:=by
 have qr:=trivial
 have qn:=trivial
 have htx:∀H,Zay Tryz.prog 54 [eS w] H (Pure H (.tup [eS [],.b false])):=fun H=>by
  have:=Zy8 w H hw
  rw[ht]at this
  exact this
 have l2:=Zaa.lt g2
 have l3:=Zaa.lt g3
 have h32:=h23.symm
 unfold tx_b
 refine Bz1 (X3 f5 f2 f3) ?_
 refine qcp (htx _) fun k1=>?_
 refine Bz1 (X7 f5 f2 f3 g2 g3 h23 h32) ?_
 exact hQ _ _
theorem tx_yes {Q:AEx->Fr->Zaa->Prop} {F:Fr} {G:Zaa} {w u:Tx} {i4 base:Nat} {tok:Tok} {done:List Tx} (f5:Fr.get F 5=eS w) (f4:Fr.get F 4=.ptr i4 0) (hw:w.length<=100000) (ht:ZyG w=some u)
  (g4:G.get i4=some (.cells [.sl tok (rS done)] 23)) (hd:done.length<=20000) (hT:ZCe base G 9 1 done.length tok) (hb:base<=G.next)
  (hQ:∀F1 G1 tok',(∀i o,i≠i4->i<base->G.get i=some o->G1.get i=some o)->G.next<=G1.next->G1.get i4=some (.cells [.sl tok' (rS (done++[u]))] 23)->ZCe base G1 9 1 (done.length+1) tok'->Q .normal F1 G1):AW Tryz.prog tx_b Q F G:=by
 have qr:=trivial
 have qn:=trivial
 have htx:∀H,Zay Tryz.prog 54 [eS w] H (Pure H (.tup [eS u,.b true])):=fun H=>by
  have:=Zy8 w H hw
  rw[ht]at this
  exact this
 have l4:=Zaa.lt g4
 have hrl:(rS done).length=done.length:=Xc
 have hal:ZaE 1 (rS done)=true:=ZaU (f:=fun s:Tx=>[eS s]) (sz:=1) (fun _=>rfl) _
 have hm1:done.length+1<=maxLen:=ZAp Xa
 have hm2:(done.length+1) * 16<=140737488355328:=Xa
 have hal2:ZaE 1 [[eS u]]=true:=rfl
 have hsn:rS done++[[eS u]]=rS (done++[u]):=Xc
 rcases hT with rfl|⟨t',ht',rfl,hgt⟩
 ·unfold tx_b
  refine Bz1 (X2 f5 f4) ?_
  refine qcp (htx _) fun k1=>?_
  refine Bz1 (X9 f5 f4 g4 hrl hal hal2 hm1 hm2 hsn) ?_
  refine hQ _ _ (.own (G.next+k1)) ?_ ?_ ?_ (.inr ⟨G.next+k1,Xa,rfl,?_⟩)
  ·intro i o h1 h2 h3
   rw[Zaa.Zah h1,Zaa.Zag Xe,Zaa.ZaB];exact h3
  ·simp only[nx];omega
  ·exact Zaa.Zal Xe
  ·rw[Zaa.Zah Xa];exact Zaa.Zat rfl
 ·have lt':=Zaa.lt hgt
  have hne:t'≠i4:=fun e=>by rw[e,g4]at hgt;cases hgt
  have hne2:=hne.symm
  unfold tx_b
  refine Bz1 (X2 f5 f4) ?_
  refine qcp (htx _) fun k1=>?_
  refine Bz1 (X10 f5 f4 g4 hrl hal hal2 hm1 hm2 hsn hgt) ?_
  refine hQ _ _ (.own t') ?_ ?_ ?_ (.inr ⟨t',ht',rfl,?_⟩)
  ·intro i o h1 h2 h3
   rw[Zaa.Zah h1,Zaa.Zah Xa,Zaa.ZaB];exact h3
  ·simp only[nx];omega
  ·exact Zaa.Zal Xe
  ·rw[Zaa.Zah hne];exact Zaa.Zal Xe
theorem ZB2 (s:Tx) (H:Zaa) (hl:s.length<=10000):Zay Tryz.prog 108 [eS s] H (Pure H (eTexts (ZBm s))):=by
 have hx0:Zaa.Ext H H:=.refl _
 unfold ZBm
 by_cases hs:s=[]
 ·subst hs
  have d:decide (([]:Tx)=[])=true:=rfl
  rw[if_pos rfl]
  refine fnQ cf108 fun Q qr qn=>?_
  refine Bz1 (X1 d) ?_
  exact Zc1 (ZCf (Zfm _ [])) ((hx0.alloc.alloc.set Xa).set Xa)
 have d:decide (s=[])=false:=decide_eq_false hs
 rw[if_neg hs]
 have hcnt:=ZBo 44 s
 have hmem:=ZBw 44 s
 have hit:=fun(ip is iz:Nat) H=>ZDP 44 s 9 9 3 ip is iz H Xa
 generalize ZyA 44 s=ps at *
 generalize hT0:tsB ps=T at *
 refine fnQ cf108 fun Q qr qn=>?_
 refine Bz1 (X1 d) ?_
 refine Zap.use (ZEC 44 s _) ?_
 rintro _ G ⟨hxG,is,ip,iz,rfl,l1,l2,l3,gp,gs,gz⟩
 simp only[nx]at l1
 refine Bz0 ?_
 have hn:=hxG.next
 simp only[nx]at hn
 have q2:G.get H.next=some (.cells [.sl .full []] 23):=hxG.get _ _ (by rw[Zaa.Zag Xe,Zaa.Zag Xe];exact Zaa.Zat rfl)
 have q3:G.get (H.next+1)=some (.cells [.b false] 4):=hxG.get _ _ (by rw[Zaa.Zag Xe];exact Zaa.Zat rfl)
 have q4:G.get (H.next+2)=some (.cells [.sl .full []] 23):=hxG.get _ _ (Zaa.Zat rfl)
 have hnone:∀i,H.next+3<=i->(((H.alloc (.cells [.sl .full []] 23)).alloc (.cells [.b false] 4)).alloc (.cells [.sl .full []] 23)).get i=none:=fun i hi=>Zaa.wf _ i Xe
 refine AW_rfR (f:=191) (caps:=[.ptr ip 0,.ptr is 0,.ptr iz 0]) rfl [ip,is,iz] (ps.map fun p=>[eS p]) ((((H.alloc (.cells [.sl .full []] 23)).alloc (.cells [.b false] 4)).alloc (.cells [.sl .full []] 23)).bump (G.next - (H.next+3)))
  (fun k G1=>Zaa.Ext H G1/\G1.get H.next=some (.cells [.sl .full []] 23)/\G1.get (H.next+1)=some (.cells [.b false] 4)/\∃tok done,G1.get (H.next+2)=some (.cells [.sl tok (rS done)] 23)/\done.length=k/\ZCe (H.next+3) G1 9 1 done.length tok/\T=(tsB (ps.drop k)).map (done++·))
  (fun G1=>Zaa.Ext H G1/\G1.get H.next=some (.cells [.sl .full []] 23)/\G1.get (H.next+1)=some (.cells [.b false] 4)/\T=none) (hit ip is iz G gp gs gz Xa Xa) ?_ ?_ ?_ Xe ?_ ?_ ?_ ?_
 ·intro x hx
  obtain⟨p,_,rfl⟩:=List.mem_map.1 hx
  rfl
 ·intro id hi
  simp only[zak,zbe,or_false]at hi
  rcases hi with rfl|rfl|rfl
  ·exact⟨⟨_,_,gp⟩,by rw[Zaa.ZaB];exact hnone _ Xa⟩
  ·exact⟨⟨_,_,gs⟩,by rw[Zaa.ZaB];exact hnone _ Xa⟩
  ·exact⟨⟨_,_,gz⟩,by rw[Zaa.ZaB];exact hnone _ Xa⟩
 ·intro i o h
  rw[Zaa.ZaB]at h
  exact hxG.get i o h
 ·refine⟨hx0.alloc.alloc.alloc.bump,?_,?_,.full,[],Zaa.Zat rfl,rfl,.inl rfl,?_⟩
  ·rw[Zaa.ZaB,Zaa.Zag Xe,Zaa.Zag Xe];exact Zaa.Zat rfl
  ·rw[Zaa.ZaB,Zaa.Zag Xe];exact Zaa.Zat rfl
  ·rw[zaL,<- hT0];simp
 ·intro k x G1 hx1 hn1 ⟨hx,p2,p3,tok,done,p4,hdl,hTk,hT⟩ Q1 hQ1 qr Q2 hQ2
  simp only[nx]at hn1
  have hk:k<ps.length:=by
   have:=(List.getElem?_eq_some_iff.1 hx1).1
   simpa using this
  have ex:x=[eS ps[k]]:=by
   rw[List.getElem?_map,zac hk]at hx1
   simpa using hx1.symm
  subst ex
  have hwl:=hmem _ (zah hk)
  rw[zal hk,tsB]at hT
  generalize ps[k]=w at *
  refine tx_a_ok (v:=eS w) rfl (hQ2 _ _ ?_)
  cases hw:ZyG w with
  | none =>
   rw[hw]at hT
   refine tx_no rfl rfl rfl Xa hw p2 p3 Xa fun F1 kk=>qr _ _ ⟨(hx.bump.set Xa).set Xa,?_,?_,hT⟩
   ·rw[Zaa.Zah Xa];exact Zaa.Zal (by simp only[nx];have:=Zaa.lt p2;omega)
   ·exact Zaa.Zal (by simp only[nx];have:=Zaa.lt p3;omega)
  | some u =>
   rw[hw]at hT
   refine tx_yes (base:=H.next+3) rfl rfl Xa hw p4 Xa hTk Xa fun F1 G2 tok' k1 k2 k3 k4=>hQ1 _ _ ⟨⟨by have:=hx.next;omega,fun i o h=>?_⟩,?_,?_,tok',done++[u],k3,by simp[hdl],by rw[zaa];exact k4,?_⟩
   ·have:=Zaa.lt h
    exact k1 i o Xa Xa (hx.get i o h)
   ·exact k1 _ _ Xa Xa p2
   ·exact k1 _ _ Xa Xa p3
   ·rw[hT];simp only[zbB];congr 1;funext l;simp
 ·intro G1 hn1 ⟨hx,p2,p3,tok,done,p4,hdl,hTk,hT⟩
  have hT:T=some done:=by rw[hT,zaQ Xc];simp[tsB]
  have lt2:=Zaa.lt p2
  have lt3:=Zaa.lt p3
  skip
  refine Bz1 (X3 p2 p3 p4) ?_
  rw[hT]
  exact Zc1 (ZCf (Zfm _ _)) ((hx.set Xa).set Xa)
 ·intro G1 hn1 ⟨hx,p2,p3,hT⟩
  have lt2:=Zaa.lt p2
  have lt3:=Zaa.lt p3
  skip
  refine Bz1 (X2 p2 p3) ?_
  rw[hT]
  exact Zc1 (ZCf (Zfm _ [])) hx
open Go.RowKit Go.Lib
structure St3 (H G:Zaa) (i2 i3 i4:Nat) (o:Tx):Prop where
 x:Zaa.Ext H G
 l2:H.next<=i2
 l3:H.next<=i3
 l4:H.next<=i4
 n23:i2≠i3
 n24:i2≠i4
 n34:i3≠i4
 g2:G.get i2=some (.cells [eS []] 9)
 g3:G.get i3=some (.cells [.b false] 4)
 g4:G.get i4=some (.cells [eS o] 9)
theorem St3.put {H G:Zaa} {i2 i3 i4 k:Nat} {o o':Tx} (h:St3 H G i2 i3 i4 o):St3 H ((G.bump k).set i4 (.cells [eS o'] 9)) i2 i3 i4 o' :=
 ⟨h.x.bump.set h.l4,h.l2,h.l3,h.l4,h.n23,h.n24,h.n34,by rw[Zaa.Zah h.n24];exact h.g2,by rw[Zaa.Zah h.n34];exact h.g3,Zaa.Zal (by have:=Zaa.lt h.g4;simp only[nx];omega)⟩
theorem St3.ext {H G G':Zaa} {i2 i3 i4:Nat} {o:Tx} (h:St3 H G i2 i3 i4 o) (hx:Zaa.Ext G G'):St3 H G' i2 i3 i4 o :=
 ⟨h.x.trans hx,h.l2,h.l3,h.l4,h.n23,h.n24,h.n34,hx.get _ _ h.g2,hx.get _ _ h.g3,hx.get _ _ h.g4⟩
theorem St3.put2 {H G:Zaa} {i2 i3 i4:Nat} {o o':Tx} (h:St3 H G i2 i3 i4 o):St3 H (G.set i4 (.cells [eS o'] 9)) i2 i3 i4 o' :=
 ⟨h.x.set h.l4,h.l2,h.l3,h.l4,h.n23,h.n24,h.n34,by rw[Zaa.Zah h.n24];exact h.g2,by rw[Zaa.Zah h.n34];exact h.g3,Zaa.Zal (Zaa.lt h.g4)⟩
theorem St3.no {H G:Zaa} {i2 i3 i4:Nat} {o:Tx} (h:St3 H G i2 i3 i4 o):St3 H ((G.set i2 (.cells [eS []] 9)).set i3 (.cells [.b false] 4)) i2 i3 i4 o :=
 ⟨(h.x.set h.l2).set h.l3,h.l2,h.l3,h.l4,h.n23,h.n24,h.n34,by rw[Zaa.Zah h.n23];exact Zaa.Zal (Zaa.lt h.g2),Zaa.Zal (by have:=Zaa.lt h.g3;simp only[nx];omega),by rw[Zaa.Zah h.n34.symm,Zaa.Zah h.n24.symm];exact h.g4⟩
structure FrR (F:Fr) (i2 i3 i4:Nat) (t:Tok) (ws:List Tx) (kw:Nat) (b:Tx):Prop where
 f2:Fr.get F 2=.ptr i2 0
 f3:Fr.get F 3=.ptr i3 0
 f4:Fr.get F 4=.ptr i4 0
 f8:Fr.get F 8=eS b
 f20:Fr.get F 20=.sl t (rS ws)
 f21:Fr.get F 21=.i (ws.length:Int)
 f22:Fr.get F 22=.i (kw:Int)
theorem rb_names {Q:AEx->Fr->Zaa->Prop} {F:Fr} {H G:Zaa} {i2 i3 i4:Nat} {t tw:Tok} {l ws:List Tx} {kw:Nat} {h0 b:Tx} (hw:(l.map wX).sum<=100000) (hl:l.length<=1000000) (hb:h0.length+(l.map wX).sum<=1000000) (hF:FrR F i2 i3 i4 tw ws kw b)
  (f43:Fr.get F 43=.sl t (rS l)) (f44:Fr.get F 44=.i (l.length:Int)) (f45:Fr.get F 45=.i 0) (hS0:St3 H G i2 i3 i4 h0)
  (hQ:∀F' G',FrR F' i2 i3 i4 tw ws kw b->St3 H G' i2 i3 i4 (h0++l.flatMap ZA4)->Q .normal F' G'):AW Tryz.prog c56_2 Q F G:=by
 have qr:=trivial
 have qn:=trivial
 refine ZbJ (N:=l.length) (fun k F G'=>Fr.get F 45=.i (k:Int)/\Fr.get F 44=.i (l.length:Int)/\Fr.get F 43=.sl t (rS l)/\FrR F i2 i3 i4 tw ws kw b/\St3 H G' i2 i3 i4 (h0++(l.take k).flatMap ZA4)) Xd (fun k F G h=>⟨h.1,h.2.1⟩) (GStep.refl _ _) ⟨f45,f44,f43,hF,by simpa using hS0⟩ ?_ ?_
 ·rintro k F G' hk ⟨f45,f44,f43,⟨f2,f3,f4,f8,f20,f21,f22⟩,hS⟩
  have hz:(0:Int)<=(k:Int):=Xa
  have hr:(rS l)[k]?=some ((fun s=>[eS s]) l[k]):=by simp[hk]
  have hsn:=ZBJ (f:=ZA4) hk
  have hle:=ZB6 (w:=wX) (f:=ZA4) (fun x=>ZBC x) hk
  have hwx:=ZBD (w:=wX) hk
  have hput:=fun H=>ZBB l[k] (by have:=(show l[k].length+9=wX l[k]from rfl);omega) H
  generalize hB1:(l.take (k+1)).flatMap ZA4=B1 at *
  generalize (l.take k).flatMap ZA4=B0 at *
  generalize l[k]=x at *
  have ha:(⟨(h0++B0).toArray⟩:ByteArray)++⟨(ZA4 x).toArray⟩=⟨(h0++B1).toArray⟩:=by rw[Zz9,hsn,zam]
  have hf:(h0++B0).length+(ZA4 x).length<=maxLen:=ZAp (by rw[zaa];omega)
  have hl0:h0.length+B0.length+(ZA4 x).length<=maxLen:=ZAp Xa
  have g4:=hS.g4
  have l4:=Zaa.lt g4
  skip
  refine Bz1 (X7 f45 f44 f43 f4 hz hr g4) ?_
  refine qcp (hput _) fun k1=>?_
  refine Bz1 (X8 f45 f44 f43 f4 g4 ha hf hl0) ?_
  exact⟨⟨f2,f3,f4,f8,f20,f21,f22⟩,by rw[hB1];exact hS.put⟩
 ·rintro F G' ⟨f45,f44,f43,⟨f2,f3,f4,f8,f20,f21,f22⟩,hS⟩
  rw[zaq]at hS
  skip
  refine Bz0 ?_
  exact hQ _ _ ⟨f2,f3,f4,f8,f20,f21,f22⟩ hS
def rv_a:Zar:=ry 13 [.M 58]
def rv_b:Zar:=.blk 5<|rs 59 [.M 14,.c 53 [60],.s 59,.e 59 0,.e 59 1,.m 15 62,.s 16]<|ri 63 [.M 16,.u 64] 65 (rr 0 [.w (.st 1 (.t 2) (.c (.sc (.string ⟨#[]⟩)))),.w (.st 1 (.t 3) (ib false))])<|.drw [ip (io 66 (.ld 1 false (.t 4))),ip (im 67 15),(io 68 (.call (jf 111) [.t 67]),[io 66 (.ld 1 false (.t 4))]),ip (io 69 (.bin .add (.t 66) (.t 68))),ip (iz (.st 1 (.t 4) (.t 69)))]
theorem rv_a_ok {Q:AEx->Fr->Zaa->Prop} {F:Fr} {H:Zaa} {v:AV} (h:Fr.get F 58=v) (k:Q .normal ((14,v) :: F) H):AW Tryz.prog rv_a Q F H:=by
 have qr:=trivial
 have qn:=trivial
 unfold rv_a
 refine Bz1 (X1 h) ?_
 exact k
theorem rv_no {Q:AEx->Fr->Zaa->Prop} {F:Fr} {H G:Zaa} {w o:Tx} {i2 i3 i4:Nat} (f14:Fr.get F 14=eS w) (f2:Fr.get F 2=.ptr i2 0) (f3:Fr.get F 3=.ptr i3 0) (hw:w.length<=100000) (ht:numOf w=none) (hS:St3 H G i2 i3 i4 o)
  (hQ:∀F1 G1,Zaa.Ext G G1->Q .ret F1 ((G1.set i2 (.cells [eS []] 9)).set i3 (.cells [.b false] 4))):AW Tryz.prog rv_b Q F G:=by
 have qr:=trivial
 have qn:=trivial
 have hno:=fun H=>num_no w (ZCd ht) H hw
 have h23:=hS.n23
 have h32:=h23.symm
 unfold rv_b
 refine Bz1 (X3 f14 f2 f3) ?_
 refine Zap.use (hno _) ?_
 rintro r G2 ⟨⟨n,rfl⟩,hx2⟩
 have hS2:=hS.ext hx2
 have g2:=hS2.g2
 have g3:=hS2.g3
 have l2:=Zaa.lt g2
 have l3:=Zaa.lt g3
 skip
 refine Bz1 (X7 f14 f2 f3 g2 g3 h23 h32) ?_
 exact hQ _ _ hx2
theorem rv_yes {Q:AEx->Fr->Zaa->Prop} {F:Fr} {H G:Zaa} {n:Int} {o:Tx} {i2 i3 i4:Nat} (f14:Fr.get F 14=eS (itoa n)) (f4:Fr.get F 4=.ptr i4 0) (hin:InI n) (hS:St3 H G i2 i3 i4 o) (ho:o.length<=900000)
  (hQ:∀F1 G1,Zaa.Ext G G1->Q .normal F1 (G1.set i4 (.cells [eS (o++ZCF n)] 9))):AW Tryz.prog rv_b Q F G:=by
 have qr:=trivial
 have qn:=trivial
 have hys:=fun H=>ZGt n hin H
 have hpi:=fun H=>ZFL n hin H
 have hil:=ZCy n
 have g4:=hS.g4
 have l4:=Zaa.lt g4
 have ha:(⟨o.toArray⟩:ByteArray)++⟨(ZCF n).toArray⟩=⟨(o++ZCF n).toArray⟩:=by rw[Zz9]
 have hf:o.length+(ZCF n).length<=maxLen:=ZAp Xa
 unfold rv_b
 refine Bz1 (X2 f14 f4) ?_
 refine qcp (hys _) fun k1=>?_
 refine Bz1 (X3 f14 f4 g4) ?_
 refine qcp (hpi _) fun k2=>?_
 refine Bz1 (X5 f14 f4 g4 ha hf) ?_
 exact hQ _ _ (Zaa.Ext.refl G).bump.bump
theorem rv_rf {Q:AEx->Fr->Zaa->Prop} {F:Fr} {H G0 G:Zaa} {b o:Tx} {is ip iz i2 i3 i4:Nat} (f57:Fr.get F 57=.fn 191 [] [.ptr ip 0,.ptr is 0,.ptr iz 0]) (f2:Fr.get F 2=.ptr i2 0) (f3:Fr.get F 3=.ptr i3 0) (f4:Fr.get F 4=.ptr i4 0)
  (hb:b.length<=10000) (ho:o.length<=500000) (hS:St3 H G0 i2 i3 i4 o) (hxG:Zaa.Ext G0 G) (l1:G0.next<=is) (l2:is<ip) (l3:ip<iz) (gp:G.get ip=some (.cells [.sc (.string ⟨#[44]⟩)] 9)) (gs:G.get is=some (.cells [eS b] 9)) (gz:G.get iz=some (.cells [.i 0] 3))
  (hR:∀G' o',numsOf (ZyA 44 b)=none->St3 H G' i2 i3 i4 o'->Q .ret F G')
  (hQ:∀G' ns,numsOf (ZyA 44 b)=some ns->St3 H G' i2 i3 i4 (o++ns.flatMap ZCF)->Q .normal F G'):AW Tryz.prog (.rf (.t 57) [58] rv_a rv_b) Q F G:=by
 have hcnt:=ZBo 44 b
 have hmem:=ZBw 44 b
 have hit:=ZDP 44 b 9 9 3 ip is iz G Xa gp gs gz Xa Xa
 generalize ZyA 44 b=ps at *
 have hn:=hxG.next
 refine AW_rfR (f:=191) (caps:=[.ptr ip 0,.ptr is 0,.ptr iz 0]) f57 [ip,is,iz] (ps.map fun p=>[eS p]) (G0.bump (G.next - G0.next))
  (fun k G1=>∃done,done.length=k/\St3 H G1 i2 i3 i4 (o++done.flatMap ZCF)/\numsOf ps=(numsOf (ps.drop k)).map (done++·))
  (fun G1=>numsOf ps=none/\∃o',St3 H G1 i2 i3 i4 o') hit ?_ ?_ ?_ Xe ?_ ?_ ?_ ?_
 ·intro x hx
  obtain⟨p,_,rfl⟩:=List.mem_map.1 hx
  rfl
 ·have hnone:∀i,G0.next<=i->(G0.bump (G.next - G0.next)).get i=none:=fun i hi=>by rw[Zaa.ZaB];exact Zaa.wf _ i hi
  intro id hi
  simp only[zak,zbe,or_false]at hi
  rcases hi with rfl|rfl|rfl
  ·exact⟨⟨_,_,gp⟩,hnone _ Xa⟩
  ·exact⟨⟨_,_,gs⟩,hnone _ Xa⟩
  ·exact⟨⟨_,_,gz⟩,hnone _ Xa⟩
 ·intro i o h
  rw[Zaa.ZaB]at h
  exact hxG.get i o h
 ·exact⟨[],rfl,by simpa using hS.ext (Zaa.Ext.refl _).bump,by rw[zaL];simp⟩
 ·intro k x G1 hx1 hn1 ⟨done,hdl,hS1,hT⟩ Q1 hQ1 qr Q2 hQ2
  have hk:k<ps.length:=by
   have:=(List.getElem?_eq_some_iff.1 hx1).1
   simpa using this
  have ex:x=[eS ps[k]]:=by
   rw[List.getElem?_map,zac hk]at hx1
   simpa using hx1.symm
  subst ex
  have hwl:=hmem _ (zah hk)
  rw[zal hk,numsOf]at hT
  have hbl:=ZBL (w:=fun _=>9) (f:=ZCF) ZCy done
  rw[sum9]at hbl
  generalize ps[k]=w at *
  refine rv_a_ok (v:=eS w) rfl (hQ2 _ _ ?_)
  cases hw:numOf w with
  | none =>
   rw[hw]at hT
   exact rv_no rfl f2 f3 Xa hw hS1 fun F1 G2 hx2=>qr _ _ ⟨hT,_,(hS1.ext hx2).no⟩
  | some n =>
   rw[hw]at hT
   obtain⟨hin,hiw⟩:=ZBW hw
   subst hiw
   refine rv_yes rfl f4 hin hS1 (by rw[zaa];omega) fun F1 G2 hx2=>hQ1 _ _ ⟨done++[n],by simp[hdl],?_,?_⟩
   ·rw[za5,<- zam]
    simpa using (hS1.ext hx2).put2
   ·rw[hT];simp only[zbB];congr 1;funext l;simp
 ·intro G1 hn1 ⟨done,hdl,hS1,hT⟩
  have hT:numsOf ps=some done:=by rw[hT,zaQ Xc];simp[numsOf]
  exact hQ _ _ hT hS1
 ·intro G1 hn1 ⟨hT,o',hS1⟩
  exact hR _ o' hT hS1
def ZCj:List Tx->Option Tx
 | []=>some []
 | w :: r=>match rowP w with
  | none=>none
  | some b=>(ZCj r).map (b++·)
theorem ns_len:∀{l:List Tx} {m:List Int},numsOf l=some m->m.length=l.length
 | [],m,h=>by injection h with h;subst h;rfl
 | w :: r,m,h=>by
  unfold numsOf at h
  split at h
  ·cases h
  ·cases hr:numsOf r with
   | none=>rw[hr]at h;cases h
   | some q =>
    rw[hr]at h
    injection h with h
    subst h
    simp[ns_len hr]
theorem ZFA {w b:Tx} (h:rowP w=some b):b.length<=10 * w.length+18:=by
 unfold rowP at h
 cases hc:(ZyS 61 w).2 with
 | none=>rw[hc]at h;cases h
 | some v =>
  rw[hc]at h
  simp only at h
  have e:=congrArg List.length (ZzW 61 w)
  rw[hc]at e
  simp only[zaa,List.length_cons]at e
  cases ht:ZBm (ZyS 61 w).1 with
  | none=>rw[ht]at h;cases h
  | some names =>
   rw[ht]at h
   simp only at h
   obtain⟨n1,n2⟩:=ZBR ht
   have hws:=ZG3 names
   have hfl:=ZBL ZBC names
   split at h
   ·injection h with h;subst h;omega
   ·cases hn:numsOf (ZyA 44 v)with
    | none=>rw[hn]at h;cases h
    | some ns =>
     rw[hn]at h
     injection h with h
     subst h
     have h1:=ns_len hn
     have h2:=ZBo 44 v
     have hbl:=ZBL (w:=fun _=>9) (f:=ZCF) ZCy ns
     rw[sum9]at hbl
     rw[zaa]
     omega
theorem ZCi {l:List Tx} {k:Nat} (h:k<l.length):ZAr (l.take (k+1))=ZAr (l.take k)+l[k].length/\l[k].length<=ZAr l/\ZAr (l.take k)+l[k].length<=ZAr l:=by
 have e:l=l.take k++l[k] :: l.drop (k+1):=by rw[<- zal h,zaV]
 have e1:=congrArg ZAr e
 have e2:ZAr (l.take k++l[k] :: l.drop (k+1))=ZAr (l.take k)+l[k].length+ZAr (l.drop (k+1)):=by simp only[ZAr,zaD,zao,zbc,List.sum_cons];omega
 rw[e2]at e1
 have e3:ZAr (l.take (k+1))=ZAr (l.take k)+l[k].length:=by rw[zae h];simp only[ZAr,zaD,zao,zbo,zbc,List.sum_cons,List.sum_nil];omega
 exact⟨e3,Xa,Xa⟩
theorem ZGw (a:Tx) (H:Zaa) (hl:a.length<=10000):∃x y,Zay Tryz.prog 108 [eS a] H (Pure H (.tup [.sl .no x,y])):=by
 have h:=ZB2 a H hl
 cases ht:ZBm a with
 | none=>rw[ht]at h;exact⟨[],.b false,h⟩
 | some m=>rw[ht]at h;exact⟨rS m,.b true,h⟩
theorem ZEH (tw:Tok) (l:List Tx) (H:Zaa) (hl:l.length<=2300) (hs:ZAr l<=45000) (hw0:∀w∈l,w.length<=5000):Zay Tryz.prog 56 [.sl tw (rS l)] H (Pure H (eRow ((ZCj l).map (ZA2 l.length++·)))):=by
 have hx0:Zaa.Ext H H:=.refl _
 have hpb:=ZA3 l.length
 have hpn:=fun H=>ZBc l.length Xa H
 generalize hT0:ZCj l=T at *
 refine fnQ cf56 fun Q qr qn=>?_
 refine Bz2 ?_
 refine qcp (hpn _) fun k0=>?_
 refine Bz2 ?_
 have q0:St3 H ((((H.alloc (.cells [eS []] 9)).alloc (.cells [.b false] 4)).bump k0).alloc (.cells [eS (ZA2 l.length)] 9)) H.next (H.next+1) (H.next+1+1+k0) (ZA2 l.length++[]):=by
  refine⟨(hx0.alloc.alloc.bump).alloc,zad _,Xa,Xa,Xa,Xa,Xa,?_,?_,?_⟩
  ·rw[Zaa.Zag Xe,Zaa.ZaB,Zaa.Zag Xe];exact Zaa.Zat rfl
  ·rw[Zaa.Zag Xe,Zaa.ZaB];exact Zaa.Zat rfl
  ·rw[zaw];exact Zaa.Zat rfl
 generalize H.next+1+1+k0=i4 at *
 generalize H.next+1=i3 at *
 generalize H.next=i2 at *
 have hsz:=(ZA7 l.length).2
 rw[<- hpb]at hsz
 generalize ZA2 l.length=hd at *
 refine ZbJ (N:=l.length) (fun k F G=>Fr.get F 22=.i (k:Int)/\Fr.get F 21=.i (l.length:Int)/\Fr.get F 20=.sl tw (rS l)/\Fr.get F 2=.ptr i2 0/\Fr.get F 3=.ptr i3 0/\Fr.get F 4=.ptr i4 0/\∃o,St3 H G i2 i3 i4 (hd++o)/\o.length<=10 * ZAr (l.take k)+18 * k/\T=(ZCj (l.drop k)).map (o++·)) Xd (fun k F G h=>⟨h.1,h.2.1⟩) (GStep.refl _ _) ⟨rfl,rfl,rfl,rfl,rfl,rfl,[],q0,Xc,by rw[zaL,<- hT0];simp⟩ ?_ ?_
 ·rintro k F G hk ⟨f22,f21,f20,f2,f3,f4,o,hS,hol,hT⟩
  have hz:(0:Int)<=(k:Int):=Xa
  have hr:(rS l)[k]?=some [eS l[k]]:=by simp[hk]
  obtain⟨s1,s2,s3⟩:=ZCi hk
  have hwk:=hw0 _ (zah hk)
  rw[zal hk,ZCj]at hT
  generalize hw:l[k]=w at *
  have hcu:=fun H=>ZEp 61 w H Xa
  have hla:(ZyS 61 w).1.length<=w.length:=by
   have e:=congrArg List.length (ZzW 61 w)
   rw[zaa]at e
   omega
  have htx:=fun H=>ZB2 (ZyS 61 w).1 H Xa
  have h23:=hS.n23
  have h32:=h23.symm
  cases hc:(ZyS 61 w).2 with
  | none =>
   have hcu:∀H,Zay Tryz.prog 107 [eS w,eS [61]] H (Pure H (.tup [eS (ZyS 61 w).1,eS [],.b false])):=fun H=>by
    have:=hcu H
    unfold eCut at this
    rw[hc]at this
    exact this
   have hN:rowP w=none:=by unfold rowP;rw[hc]
   rw[hN]at hT
   have hT:T=none:=hT
   generalize (ZyS 61 w).1=a at *
   have htx:=fun H=>ZGw a H Xa
   skip
   refine Bz1 (X8 f22 f21 f20 f2 f3 f4 hz hr) ?_
   refine qcp (hcu _) fun k1=>?_
   refine Bz1 (X6 f22 f21 f20 f2 f3 f4) ?_
   obtain⟨a2,b2,htx2⟩:=htx (G.bump k1)
   refine qcp (htx2) fun k2=>?_
   have g2:=hS.g2
   have g3:=hS.g3
   have lt2:=Zaa.lt g2
   have lt3:=Zaa.lt g3
   have hS:St3 H ((G.bump k1).bump k2) i2 i3 i4 (hd++o):=hS.ext (Zaa.Ext.refl G).bump.bump
   skip
   refine Bz1 (X10 f22 f21 f20 f2 f3 f4 g2 g3 h23 h32) ?_
   rw[hT]
   exact ZaW ((hS.x.set hS.l2).set hS.l3) rfl
  | some b =>
   have hcu:∀H,Zay Tryz.prog 107 [eS w,eS [61]] H (Pure H (.tup [eS (ZyS 61 w).1,eS b,.b true])):=fun H=>by
    have:=hcu H
    unfold eCut at this
    rw[hc]at this
    exact this
   have hlb:b.length<=w.length:=by
    have e:=congrArg List.length (ZzW 61 w)
    rw[hc]at e
    simp only[zaa,List.length_cons]at e
    omega
   have hrw:rowP w=match ZBm (ZyS 61 w).1 with
    | none=>none
    | some names=>if b=[] then some (names.flatMap ZA4) else match numsOf (ZyA 44 b)with
     | none=>none
     | some ns=>some (names.flatMap ZA4++ns.flatMap ZCF):=by unfold rowP;rw[hc];rfl
   have hrl:=fun b=>ZFA (w:=w) (b:=b)
   rw[hrw]at hT hrl
   generalize (ZyS 61 w).1=a at *
   cases ht:ZBm a with
   | none =>
    rw[ht]at htx hT
    have hT:T=none:=hT
    have htx:∀H,Zay Tryz.prog 108 [eS a] H (Pure H (.tup [.sl .no [],.b false])):=htx
    skip
    refine Bz1 (X8 f22 f21 f20 f2 f3 f4 hz hr) ?_
    refine qcp (hcu _) fun k1=>?_
    refine Bz1 (X6 f22 f21 f20 f2 f3 f4) ?_
    refine qcp (htx _) fun k2=>?_
    have g2:=hS.g2
    have g3:=hS.g3
    have lt2:=Zaa.lt g2
    have lt3:=Zaa.lt g3
    have hS:St3 H ((G.bump k1).bump k2) i2 i3 i4 (hd++o):=hS.ext (Zaa.Ext.refl G).bump.bump
    skip
    refine Bz1 (X10 f22 f21 f20 f2 f3 f4 g2 g3 h23 h32) ?_
    rw[hT]
    exact ZaW ((hS.x.set hS.l2).set hS.l3) rfl
   | some names =>
    rw[ht]at htx hT hrl
    have htx:∀H,Zay Tryz.prog 108 [eS a] H (Pure H (.tup [.sl .no (rS names),.b true])):=htx
    simp only at hT hrl
    obtain⟨n1,n2⟩:=ZBR ht
    have hws:=ZG3 names
    have hfl:=ZBL ZBC names
    skip
    refine Bz1 (X8 f22 f21 f20 f2 f3 f4 hz hr) ?_
    refine qcp (hcu _) fun k1=>?_
    refine Bz1 (X6 f22 f21 f20 f2 f3 f4) ?_
    refine qcp (htx _) fun k2=>?_
    have hS:St3 H ((G.bump k1).bump k2) i2 i3 i4 (hd++o):=hS.ext (Zaa.Ext.refl G).bump.bump
    skip
    refine Bz3 (X6 f22 f21 f20 f2 f3 f4) ?_
    refine rb_names (tw:=tw) (ws:=l) (kw:=k) (b:=b) (l:=names) Xa Xa (by rw[zaa];omega) ⟨f2,f3,f4,rfl,f20,f21,f22⟩ rfl rfl rfl hS ?_
    rintro F1 G1 ⟨f2,f3,f4,f8,f20,f21,f22⟩ hS
    by_cases hb:b=[]
    ·have db:decide (b=[])=true:=decide_eq_true hb
     rw[if_pos hb]at hT hrl
     have hb2:=hrl _ rfl
     skip
     refine Bz1 (X8 f22 f21 f20 f2 f3 f4 f8 db) ?_
     exact⟨o++names.flatMap ZA4,by rw[<- zam];exact hS,by rw[zaa];omega,by rw[hT];simp only[zbB];congr 1;funext q;simp⟩
    ·have db:decide (b=[])=false:=decide_eq_false hb
     rw[if_neg hb]at hT hrl
     skip
     refine Bz1 (X8 f22 f21 f20 f2 f3 f4 f8 db) ?_
     refine Zap.use (ZEC 44 b _) ?_
     rintro _ G2 ⟨hxG,is,ip,iz,rfl,l1,l2,l3,gp,gs,gz⟩
     skip
     refine Bz1 (X7 f22 f21 f20 f2 f3 f4 f8) ?_
     refine rv_rf (b:=b) rfl f2 f3 f4 Xa (by rw[zaa,zaa];omega) hS hxG l1 l2 l3 gp gs gz ?_ ?_
     ·intro G3 o' hnn hS
      rw[hnn]at hT
      have hT:T=none:=hT
      have g2:=hS.g2
      have g3:=hS.g3
      skip
      refine Bz1 (X4 f2 f3 g2 g3) ?_
      rw[hT]
      exact ZaW hS.x rfl
     ·intro G3 ns hnn hS
      rw[hnn]at hT hrl
      have hb2:=hrl _ rfl
      skip
      refine Bz1 (X6 f22 f21 f20 f2 f3 f4) ?_
      exact⟨o++(names.flatMap ZA4++ns.flatMap ZCF),by rw[<- zam,<- zam];exact hS,by rw[zaa];omega,by rw[hT];simp only[zbB];congr 1;funext q;simp⟩
 ·rintro F G ⟨f22,f21,f20,f2,f3,f4,o,hS,hol,hT⟩
  have hT:T=some o:=by rw[hT,zaG];simp[ZCj]
  have g2:=hS.g2
  have g3:=hS.g3
  have g4:=hS.g4
  have h23:=hS.n23
  have h32:=h23.symm
  have lt2:=Zaa.lt g2
  have lt3:=Zaa.lt g3
  skip
  ((have hd:=tv;repeat' first|(first|apply Zad|apply Zac|apply Zab)<;>intro hd<;>try simp only[hd]|simp(disch:=first|assumption|omega|simp only[nx]<;>omega|fail)only[hd,qr,qn,Zfd,↓YA,YY,sevalprocAttr,f2,f3,f4,g2,g3,g4,h23,h32,hS.n24,hS.n34])<;>try revert hd;refine ttr ?_)
  rw[hT]
  exact ZaW ((hS.x.set hS.l2).set hS.l3) rfl
end Go.Proofs.YtdfgoekdlmkdfaaGreatDoor
