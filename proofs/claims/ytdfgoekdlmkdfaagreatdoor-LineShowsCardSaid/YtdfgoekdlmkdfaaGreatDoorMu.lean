/- Texts of the walk. -/
import Derived.Test.YtdfgoekdlmkdfaaGreatDoorMt
namespace Go.Proofs.YtdfgoekdlmkdfaaGreatDoor
set_option linter.defProp false
set_option maxHeartbeats 64000000
set_option linter.unusedSimpArgs false
set_option linter.unusedVariables false
open Go.RowKit Go.Lib
theorem ZBn {H:Zaa} {i j:Nat} {cs cs':List AV} {E E':TypeId} (h1:H.get i=some (.cells cs E)) (h2:H.get j=some (.cells cs' E')) (h:E≠E'):i≠j:=fun e=>by
 rw[e,h2]at h1;injection h1 with h1;injection h1 with _ h1;exact h h1.symm
theorem DimA.plus {H G:Zaa} {b n0:Nat} {tm tm':Tok} {aD:AV} {dims:List Dm} (h:DimA H b tm aD dims) (hc:∀i cs E,(E=42\/E=39)->H.get i=some (.cells cs E)->G.get i=some (.cells cs E)) (hK:TkK tm .full H G) (htm:∀i,tm=.own i->H.get i=some (.tok n0 9 1)) (hn:tm'=tm\/∃i,tm'=.own i/\H.next<=i):DimA G b tm' aD dims:=by
 rcases h with h|⟨D,cap,rows,tail,ds,d,a,T,h1,h2,h3,h4,h5,h6,h7,h8⟩
 ·exact .inl h
 ·exact .inr ⟨D,cap,rows,tail,ds,d,a,T,h1,h2,h3,hc _ _ _ (.inr rfl) h4,h5,h6,h7.keep fun i cs _ hg=>hc _ _ _ (.inl rfl) hg,h8.plus (fun cs hg=>hc _ _ _ (.inl rfl) hg) hK htm hn⟩
theorem ZGp (s:Sc) (c:UInt8) (r:Tx) (b is k:Nat) (H:Zaa) (hc:c=43) (hS:SchA H b is s) (hB:Bd k s) (hk:k<=2400) (hr:r.length<=5000) (hbn:b<=H.next):Zay Tryz.prog 103 [.ptr is 0,eS (c :: r)] H (ZEi b is (some { s with meas:=s.meas++[r] }) H):=by
 obtain⟨bis,aD,tok,gs,hT,hD⟩:=hS
 have ls:=Zaa.lt gs
 obtain⟨d1,x2,y3,b1,hb⟩:=ZBG c r
 have q64:(((c.toNat:Nat):Int) == 64)=false:=ZCm (x:=c) (c:=64) (by rw[hc];decide)
 have q43:(((c.toNat:Nat):Int) == 43)=true:=ZDs hc
 have hml:=hB.meas
 have hrl:(rS s.meas).length=s.meas.length:=Xc
 have hal:ZaE 1 (rS s.meas)=true:=ZaU (f:=fun s:Tx=>[eS s]) (sz:=1) (fun _=>rfl) _
 have hm1:s.meas.length+1<=maxLen:=ZAp Xa
 have hm2:(s.meas.length+1) * 16<=140737488355328:=Xa
 have hal2:ZaE 1 [[eS r]]=true:=rfl
 have hsn:rS s.meas++[[eS r]]=rS (s.meas++[r]):=Xc
 rcases hT with rfl|⟨t',ht',rfl,hgt⟩
 ·refine Zak hEd ZIy (zax rfl) fun Q qr qn=>?_
  ((have hd:=tv;repeat' first|(first|apply Zad|apply Zac|apply Zab)<;>intro hd<;>try simp only[hd]|simp(disch:=first|assumption|omega|simp only[nx]<;>omega|fail)only[hd,qr,qn,ZHH,↓YA,YY,sevalprocAttr,d1,Zdi,x2,y3,b1,hb,gs,q64,q43,hrl,hal,hm1,hm2,hal2,hsn])<;>try revert hd;refine ttr ?_)
  refine Zaq ⟨Xe,fun i o hi hg=>?_,rfl,⟨bis,aD,.own H.next,Zaa.Zal Xe,.inr ⟨H.next,hbn,rfl,?_⟩,hD.plus (n0:=0) (fun i cs E hE hg=>?_) ?_ (fun i h=>by cases h) (.inr ⟨_,rfl,zad _⟩)⟩⟩
  ·have:=Zaa.lt hg
   rw[Zaa.Zah Xa,Zaa.Zag Xa];exact hg
  ·rw[Zaa.Zah Xa]
   simp only[zaa,List.length_cons,List.length_nil]
   exact Zaa.Zat rfl
  ·have:=Zaa.lt hg
   rw[Zaa.Zah (ZBn hg gs (by rcases hE with rfl|rfl<;>decide)),Zaa.Zag Xa];exact hg
  ·exact(TkK.refl _ _ H).alloc.ZDn (by rw[Zaa.Zag Xa];exact gs)
 ·have lt':=Zaa.lt hgt
  have hne:t'≠is:=fun e=>by rw[e,gs]at hgt;cases hgt
  refine Zak hEd ZIy (zax rfl) fun Q qr qn=>?_
  ((have hd:=tv;repeat' first|(first|apply Zad|apply Zac|apply Zab)<;>intro hd<;>try simp only[hd]|simp(disch:=first|assumption|omega|simp only[nx]<;>omega|fail)only[hd,qr,qn,ZHH,↓YA,YY,sevalprocAttr,d1,Zdi,x2,y3,b1,hb,gs,q64,q43,hrl,hal,hm1,hm2,hal2,hsn,hgt])<;>try revert hd;refine ttr ?_)
  refine Zaq ⟨Xe,fun i o hi hg=>?_,rfl,⟨bis,aD,.own t',Zaa.Zal Xe,.inr ⟨t',ht',rfl,?_⟩,hD.plus (n0:=s.meas.length) (fun i cs E hE hg=>?_) ?_ (fun i h=>by injection h with h;rw[<- h];exact hgt) (.inl rfl)⟩⟩
  ·rw[Zaa.Zah Xa,Zaa.Zah Xa];exact hg
  ·rw[Zaa.Zah hne]
   simp only[zaa,List.length_cons,List.length_nil]
   exact Zaa.Zal lt'
  ·rw[Zaa.Zah (ZBn hg gs (by rcases hE with rfl|rfl<;>decide)),Zaa.Zah (fun e=>by rw[e,hgt]at hg;cases hg)];exact hg
  ·exact((TkK.refl _ _ H).tok (.inl rfl)).ZDn (by rw[Zaa.Zah hne.symm];exact gs)
theorem ZGv (s:Sc) (c:UInt8) (r:Tx) (b is k:Nat) (H:Zaa) (hc1:c≠64) (hc2:c≠43) (h0:s.dims=[]) (hS:SchA H b is s) (hr:r.length<=5000):Zay Tryz.prog 103 [.ptr is 0,eS (c :: r)] H (ZEi b is none H):=by
 obtain⟨bis,aD,tok,gs,hT,hD⟩:=hS
 obtain⟨d1,x2,y3,b1,hb⟩:=ZBG c r
 have q64:(((c.toNat:Nat):Int) == 64)=false:=ZCm hc1
 have q43:(((c.toNat:Nat):Int) == 43)=false:=ZCm hc2
 have n0:(((0:Nat):Int) == 0)=true:=rfl
 rcases hD with⟨_,rfl⟩|⟨D,cap,rows,tail,ds,d,a,T,hd,_⟩
 ·refine Zak hEd ZIy (zax rfl) fun Q qr qn=>?_
  ((have hd:=tv;repeat' first|(first|apply Zad|apply Zac|apply Zab)<;>intro hd<;>try simp only[hd]|simp(disch:=first|assumption|omega|simp only[nx]<;>omega|fail)only[hd,qr,qn,ZHH,↓YA,YY,sevalprocAttr,d1,Zdi,x2,y3,b1,hb,gs,q64,q43,n0])<;>try revert hd;refine ttr ?_)
  exact Zaq ⟨zad _,fun _ _ _ h=>h,rfl⟩
 ·rw[h0]at hd
  exact absurd hd Xc
theorem ZF8 (hI:InsOk) (s:Sc) (ds:List Dm) (d:Dm) (c:UInt8) (r:Tx) (b is k:Nat) (H:Zaa) (hc:c=94) (hds:s.dims=ds++[d]) (hS:SchA H b is s) (hB:Bd k s) (hk:k<=2400) (hr:r.length<=5000) (hbn:b<=H.next):Zay Tryz.prog 103 [.ptr is 0,eS (c :: r)] H (ZEi b is (some { s with dims:=ds++[{ d with tiers:=⟨r,[],[]⟩ :: d.tiers }] }) H):=by
 obtain⟨bis,aD,tok,gs,hT,hD⟩:=hS
 have ls:=Zaa.lt gs
 obtain⟨d1,x2,y3,b1,hb⟩:=ZBG c r
 have q64:(((c.toNat:Nat):Int) == 64)=false:=ZCm (x:=c) (c:=64) (by rw[hc];decide)
 have q43:(((c.toNat:Nat):Int) == 43)=false:=ZCm (x:=c) (c:=43) (by rw[hc];decide)
 have q94:(((c.toNat:Nat):Int) == 94)=true:=ZDs hc
 rcases hD with⟨h0,_⟩|⟨D,cap,rows,tail,ds',d',a,T,hd,rfl,hbD,gD,hcl,hnc,hcold,hhot⟩
 ·rw[hds]at h0;exact absurd h0 Xc
 ·have hdd:=List.append_inj' (hds.symm.trans hd) rfl
  obtain⟨rfl,hdd⟩:=hdd
  injection hdd with hdd _
  subst hdd
  have lD:=Zaa.lt gD
  have hrt:=hcold.two
  have hrl:=hcold.len
  have hdl:rows.length+1<=k:=by have:=hB.dims;rw[hds]at this;simp at this;omega
  have n0:((((rows.length+1:Nat)):Int) == 0)=false:=by simp only[beq_eq_false_iff_ne];omega
  have w1:IntKind.i64.wrap (((rows.length+1:Nat):Int) - 1)=(rows.length:Int):=by rw[Zaw Xa Xa];omega
  have i1:(0:Int)<=(rows.length:Int):=Xa
  have i2:((rows.length:Nat):Int)<((rows.length+1:Nat):Int):=Xa
  have i3:(((rows.length:Nat):Int)).toNat=rows.length:=Xa
  have ga:=get_at (rows:=rows) (x:=eS d.name) (y:=a) (tail:=tail) hrt
  have sp:=fun z=>ZEq (rows:=rows) (x:=eS d.name) (y:=a) (z:=z) (tail:=tail) hrt
  have gl:rows.length * 2+1+1<=((rows++[[eS d.name,a]]).flatten++tail).length:=Xa
  have nD:=ZBn gD gs Xb
  refine Zak hEd ZIy (zax rfl) fun Q qr qn=>?_
  ((have hd:=tv;repeat' first|(first|apply Zad|apply Zac|apply Zab)<;>intro hd<;>try simp only[hd]|simp(disch:=first|assumption|omega|simp only[nx]<;>omega|fail)only[hd,qr,qn,ZHH,↓YA,YY,sevalprocAttr,d1,Zdi,x2,y3,b1,hb,gs,gD,q64,q43,q94,n0,w1,i1,i2,i3,ga])<;>try revert hd;refine ttr ?_)
  have hnx:∀cs,H.get (H.next+1)≠some (.cells cs 42):=fun cs e=>by have:=Zaa.lt e;omega
  obtain⟨T0,rowsA,hRT,hbT,nT1,nT2,hc0,hA⟩:∃T0 rowsA,ZBQ rowsA d.tiers/\b<=T0/\D≠T0/\is≠T0/\ZBt H b T0 rows ds/\((rowsA=[]/\a=.sl .full [])\/∃tail cap,a=.arr T0 0 rowsA.length cap/\rowsA≠[]/\H.get T0=some (.cells (rowsA.flatten++tail) 42)/\(rowsA.flatten++tail).length=cap * 3/\rowsA.length<=cap):=by
   rcases hhot.cold with⟨h1,h2⟩|⟨capA,rowsA,tailA,h1,h2,h3,h4,h5,h6,h7⟩
   ·exact⟨H.next+1,[],by rw[h1];exact .nil,Xa,Xa,Xa,hcold.other hnx,.inl ⟨rfl,h2⟩⟩
   ·refine⟨T,rowsA,h4,h2,ZBn gD h3 Xb,ZBn gs h3 Xb,hcold,.inr ⟨tailA,capA,by rw[h4.len];exact h1,?_,h3,h6,by rw[h4.len];exact h7⟩⟩
    intro e
    have:=h4.len
    rw[e]at this
    exact h5 (List.length_eq_zero_iff.1 this.symm)
  have hAl:rowsA.length<=k:=by rw[hRT.len];exact hB.tiers d (by rw[hds];simp)
  have gV:(H.alloc (.cells ([[eS r,.sl .full [],.sl .full []]]:List (List AV)).flatten 42)).get H.next=some (.cells [eS r,.sl .full [],.sl .full []] 42):=Zaa.Zat rfl
  have hkA:∀i o,H.get i=some o->(H.alloc (.cells ([[eS r,.sl .full [],.sl .full []]]:List (List AV)).flatten 42)).get i=some o:=fun i o hg=>by have:=Zaa.lt hg;rw[Zaa.Zag Xa];exact hg
  generalize hH1:H.alloc (.cells ([[eS r,.sl .full [],.sl .full []]]:List (List AV)).flatten 42)=H1 at *
  have hH1n:H1.next=H.next+1:=by rw[<- hH1];rfl
  refine Zap.use (hI b T0 H.next rowsA [eS r,.sl .full [],.sl .full []] a H1 rfl hRT.three Xa hbT gV ?_) ?_
  ·rcases hA with hA|⟨tailA,capA,h1,h2,h3,h4,h5⟩
   ·exact .inl hA
   ·exact .inr ⟨tailA,capA,h1,h2,hkA _ _ h3,h4,h5,by have:=Zaa.lt h3;omega⟩
  rintro _ G ⟨hC,hKt,T',capI,tailI,rfl,gT',hlI,hcI,hTT⟩
  have gD':=hC.cells _ _ _ nT1 (hkA _ _ gD)
  have gs':=hC.cells _ _ _ nT2 (hkA _ _ gs)
  have lD':=Zaa.lt gD'
  have hGn:=hC.n
  ((have hd:=tv;repeat' first|(first|apply Zad|apply Zac|apply Zab)<;>intro hd<;>try simp only[hd]|simp(disch:=first|assumption|omega|simp only[nx]<;>omega|fail)only[hd,qr,qn,ZHH,↓YA,YY,sevalprocAttr,gD',gl,sp])<;>try revert hd;refine ttr ?_)
  have nDT:T'≠D:=ZBn gT' gD' Xb
  have hkT:ZES T0 H (G.set D (.cells ((rows++[[eS d.name,.arr T' 0 (rowsA.length+1) capI]]).flatten++tail) 39)):=fun i cs hi hg=>by
   rw[Zaa.Zah (ZBn hg gD Xb)]
   exact hC.cells _ _ _ hi (hkA _ _ hg)
  have hbT':b<=T':=by rcases hTT with rfl|h;exact hbT;omega
  refine Zaq ⟨Xe,fun i o hi hg=>?_,rfl,⟨bis,_,tok,?_,?_,.inr ⟨D,cap,rows,tail,ds,{ d with tiers:=⟨r,[],[]⟩ :: d.tiers },.arr T' 0 (rowsA.length+1) capI,T',rfl,rfl,hbD,Zaa.Zal lD',?_,hnc,?_,.inr ⟨capI,⟨r,[],[]⟩,d.tiers,.full,.full,rowsA,tailI,rfl,by rw[hRT.len];rfl,hbT',?_,hRT,hlI,by rw[List.length_cons,<- hRT.len];exact hcI,.inl rfl,.inl rfl,.inl rfl⟩⟩⟩⟩
  ·rw[Zaa.Zah Xa]
   exact hC.old i o hi (hkA _ _ hg)
  ·rw[Zaa.Zah nD.symm];exact gs'
  ·rcases hT with rfl|⟨t',ht',rfl,hgt⟩
   ·exact .inl rfl
   ·refine .inr ⟨t',ht',rfl,?_⟩
    have:=hKt t' _ _ _ Xc Xc (hkA _ _ hgt)
    rw[Zaa.Zah (fun e=>by rw[e,gD']at this;cases this)];exact this
  ·simp only[zaa,zbq]at hcl ⊢
   exact hcl
  ·rcases hTT with rfl|h
   ·exact hc0.keep hkT
   ·exact hc0.keep2 hkT Xa
  ·rw[Zaa.Zah nDT];exact gT'
theorem ZBQ.head {rows:List (List AV)} {u:Tir} {q:List Tir} (h:ZBQ rows (u :: q)):∃u1 u2 rest,rows=trC u u1 u2 :: rest:=by
 cases h with
 | cons _ u1 u2 rest _ _=>exact⟨u1,u2,rest,rfl⟩
theorem word_mem (s:Sc) (ds:List Dm) (d:Dm) (c:UInt8) (r:Tx) (b is k:Nat) (H:Zaa) (hc:c≠64/\c≠43/\c≠94) (hds:s.dims=ds++[d]) (hS:SchA H b is s) (hB:Bd k s) (hk:k<=2400) (hr:r.length<=5000) (hbn:b<=H.next):Zay Tryz.prog 103 [.ptr is 0,eS (c :: r)] H (ZEi b is ((if c≠46 then none else match d.tiers with
  | []=>none
  | t :: q=>(ZBO t r (ZE9 q)).map fun t'=>{ d with tiers:=t' :: q }).map fun d'=>{ s with dims:=ds++[d'] }) H):=by
 obtain⟨bis,aD,tok,gs,hT,hD⟩:=hS
 have ls:=Zaa.lt gs
 obtain⟨d1,x2,y3,b1,hb⟩:=ZBG c r
 have q64:(((c.toNat:Nat):Int) == 64)=false:=ZCm hc.1
 have q43:(((c.toNat:Nat):Int) == 43)=false:=ZCm hc.2.1
 have q94:(((c.toNat:Nat):Int) == 94)=false:=ZCm hc.2.2
 rcases hD with⟨h0,_⟩|⟨D,cap,rows,tail,ds',d',a,T,hd,rfl,hbD,gD,hcl,hnc,hcold,hhot⟩
 ·rw[hds]at h0;exact absurd h0 Xc
 ·have hdd:=List.append_inj' (hds.symm.trans hd) rfl
  obtain⟨rfl,hdd⟩:=hdd
  injection hdd with hdd _
  subst hdd
  have lD:=Zaa.lt gD
  have hrt:=hcold.two
  have hrl:=hcold.len
  have hdl:rows.length+1<=k:=by have:=hB.dims;rw[hds]at this;simp at this;omega
  have n0:((((rows.length+1:Nat)):Int) == 0)=false:=by simp only[beq_eq_false_iff_ne];omega
  have w1:IntKind.i64.wrap (((rows.length+1:Nat):Int) - 1)=(rows.length:Int):=by rw[Zaw Xa Xa];omega
  have i1:(0:Int)<=(rows.length:Int):=Xa
  have i2:((rows.length:Nat):Int)<((rows.length+1:Nat):Int):=Xa
  have i3:(((rows.length:Nat):Int)).toNat=rows.length:=Xa
  have ga:=get_at (rows:=rows) (x:=eS d.name) (y:=a) (tail:=tail) hrt
  have nD:=ZBn gD gs Xb
  by_cases h46:c≠46
  ·have q46:(((c.toNat:Nat):Int) != 46)=true:=by have e:(((c.toNat:Nat):Int) == 46)=false:=ZCm h46;rw[bne,e];rfl
   rw[if_pos h46]
   refine Zak hEd ZIy (zax rfl) fun Q qr qn=>?_
   ((have hd:=tv;repeat' first|(first|apply Zad|apply Zac|apply Zab)<;>intro hd<;>try simp only[hd]|simp(disch:=first|assumption|omega|simp only[nx]<;>omega|fail)only[hd,qr,qn,ZHH,↓YA,YY,sevalprocAttr,d1,Zdi,x2,y3,b1,hb,gs,gD,q64,q43,q94,q46,n0,w1,i1,i2,i3,ga])<;>try revert hd;refine ttr ?_)
   exact Zaq ⟨zad _,fun _ _ _ h=>h,rfl⟩
  ·have h46':c=46:=by simpa using h46
   have q46:(((c.toNat:Nat):Int) != 46)=false:=by have e:(((c.toNat:Nat):Int) == 46)=true:=ZDs h46';rw[bne,e];rfl
   rw[if_neg h46]
   rcases hhot with⟨ht0,rfl⟩|⟨capT,t,q,t1,t2,rowsT,tailT,ht,rfl,hbT,gT,hRT,hlT,hcT,hT1,hT2,hTM⟩
   ·rw[ht0]
    have n00:(((0:Nat):Int) == 0)=true:=rfl
    refine Zak hEd ZIy (zax rfl) fun Q qr qn=>?_
    ((have hd:=tv;repeat' first|(first|apply Zad|apply Zac|apply Zab)<;>intro hd<;>try simp only[hd]|simp(disch:=first|assumption|omega|simp only[nx]<;>omega|fail)only[hd,qr,qn,ZHH,↓YA,YY,sevalprocAttr,d1,Zdi,x2,y3,b1,hb,gs,gD,q64,q43,q94,q46,n0,w1,i1,i2,i3,ga,n00])<;>try revert hd;refine ttr ?_)
    exact Zaq ⟨zad _,fun _ _ _ h=>h,rfl⟩
   ·have hnl:d.tiers.length=q.length+1:=by rw[ht];rfl
    have hte:=hB.terms d (by rw[hds];simp)
    have htt:=hte t (by rw[ht];simp)
    have gT':H.get T=some (.cells (trC t t1 t2++(rowsT.flatten++tailT)) 42):=by rw[gT,List.flatten_cons,zam]
    have nT1:=ZBn gD gT Xb
    have nT2:=ZBn gs gT Xb
    have n1:((((d.tiers.length:Nat)):Int) == 0)=false:=by simp only[beq_eq_false_iff_ne];omega
    have i4:(0:Int)<((d.tiers.length:Nat):Int):=Xa
    have z0:(0:Int)<=0:=zbv _
    have tmk:∀i,tok=.own i->H.get i=some (.tok s.meas.length 9 1):=fun i e=>by
     rcases hT with rfl|⟨t',ht',rfl,hgt⟩
     ·cases e
     ·injection e with e;rw[<- e];exact hgt
    -- how it ends
    have fin:∀(o:Option Tir) (r':AV) (G:Zaa),MemR b T (rowsT.flatten++tailT) t1 t2 o H r' G->ZEi b is ((o.map fun t'=>{ d with tiers:=t' :: q }).map fun d'=>{ s with dims:=ds++[d'] }) H r' G:=by
     rintro o r' G ⟨hC,hK,ho⟩
     refine⟨hC.n,fun i o hi hg=>hC.old i o hi hg,?_⟩
     cases o with
     | none=>exact ho
     | some t' =>
      obtain⟨rfl,s1,s2,gT2,hS1,hS2,hS3⟩:=ho
      have htk:∀i n,tok=.own i->H.get i=some (.tok n 9 1)->G.get i=some (.tok n 9 1):=fun i n e hg=>by
       refine hK i n _ _ (fun e2=>?_) (fun e2=>?_) hg
       ·rcases hTM with h|h
        ·rw[h]at e2;cases e2
        ·exact h (by rw[<- e2,e])
       ·rcases hT2 with h|⟨i',_,h,hg'⟩
        ·rw[h]at e2;cases e2
        ·rw[h]at e2;injection e2 with e2
         rw[e2,hg']at hg
         injection hg with hg;injection hg with _ hg;exact absurd hg Xb
      refine⟨rfl,⟨bis,_,tok,hC.cells _ _ _ nT2 gs,?_,.inr ⟨D,cap,rows,tail,ds,{ d with tiers:=t' :: q },.arr T 0 d.tiers.length capT,T,rfl,rfl,hbD,hC.cells _ _ _ nT1 gD,hcl,hnc,hcold.keep fun i cs hi hg=>hC.cells _ _ _ hi hg,.inr ⟨capT,t',q,s1,s2,rowsT,tailT,rfl,by rw[hnl];rfl,hbT,by rw[gT2,List.flatten_cons,zam],hRT,?_,by rw[List.length_cons,<- hnl];exact hcT,hS1,hS2,?_⟩⟩⟩⟩
      ·rcases hT with rfl|⟨i,hi,rfl,hg⟩
       ·exact .inl rfl
       ·exact .inr ⟨i,hi,rfl,htk i _ rfl hg⟩
      ·simp only[zaa,List.flatten_cons,List.length_cons]at hlT ⊢
       exact hlT
      ·rcases hS3 with rfl|⟨i,rfl,hi⟩
       ·exact hTM
       ·refine .inr fun e=>?_
        have:=Zaa.lt (tmk i e.symm)
        omega
    rw[ht]
    cases q with
    | nil =>
     have n2:((((d.tiers.length:Nat)):Int) == 1)=true:=by rw[hnl];rfl
     have hmem:=ZCU t r [] .full t1 t2 b T (rowsT.flatten++tailT) H hr Xc Xa Xa hbT hbn gT' hT1 hT2
     refine Zak hEd ZIy (zax rfl) fun Q qr qn=>?_
     ((have hd:=tv;repeat' first|(first|apply Zad|apply Zac|apply Zab)<;>intro hd<;>try simp only[hd]|simp(disch:=first|assumption|omega|simp only[nx]<;>omega|fail)only[hd,qr,qn,ZHH,↓YA,YY,sevalprocAttr,d1,Zdi,x2,y3,b1,hb,gs,gD,q64,q43,q94,q46,n0,w1,i1,i2,i3,ga,n1,n2,i4,z0])<;>try revert hd;refine ttr ?_)
     refine Zap.use hmem ?_
     intro r' G hM
     ((have hd:=tv;repeat' first|(first|apply Zad|apply Zac|apply Zab)<;>intro hd<;>try simp only[hd]|simp(disch:=first|assumption|omega|simp only[nx]<;>omega|fail)only[hd,qr,qn,ZHH,↓YA,YY,sevalprocAttr])<;>try revert hd;refine ttr ?_)
     exact Zaq (fin _ _ _ hM)
    | cons u q =>
     obtain⟨u1,u2,rest,rfl⟩:=hRT.head
     have n2:((((d.tiers.length:Nat)):Int) == 1)=false:=by rw[hnl];simp only[beq_eq_false_iff_ne,List.length_cons];omega
     have i5:(1:Int)<((d.tiers.length:Nat):Int):=by rw[hnl,List.length_cons];omega
     have z1:(0:Int)<=1:=Xb
     have htu:=hte u (by rw[ht];simp)
     have gu:((trC t t1 t2 :: trC u u1 u2 :: rest).flatten++tailT)[3+1]?=some (.sl u1 (rS u.terms)):=rfl
     have hmem:=ZCU t r u.terms u1 t1 t2 b T ((trC u u1 u2 :: rest).flatten++tailT) H hr Xa Xa Xa hbT hbn gT' hT1 hT2
     refine Zak hEd ZIy (zax rfl) fun Q qr qn=>?_
     ((have hd:=tv;repeat' first|(first|apply Zad|apply Zac|apply Zab)<;>intro hd<;>try simp only[hd]|simp(disch:=first|assumption|omega|simp only[nx]<;>omega|fail)only[hd,qr,qn,ZHH,↓YA,YY,sevalprocAttr,d1,Zdi,x2,y3,b1,hb,gs,gD,q64,q43,q94,q46,n0,w1,i1,i2,i3,ga,n1,n2,i4,i5,z0,z1,gT,gu])<;>try revert hd;refine ttr ?_)
     refine Zap.use hmem ?_
     intro r' G hM
     ((have hd:=tv;repeat' first|(first|apply Zad|apply Zac|apply Zab)<;>intro hd<;>try simp only[hd]|simp(disch:=first|assumption|omega|simp only[nx]<;>omega|fail)only[hd,qr,qn,ZHH,↓YA,YY,sevalprocAttr])<;>try revert hd;refine ttr ?_)
     exact Zaq (fin _ _ _ hM)
theorem ZE0 (hI:InsOk) (s:Sc) (w:Tx) (b is k:Nat) (H:Zaa) (hS:SchA H b is s) (hB:Bd k s) (hk:k<=2400) (hw:w.length<=5000) (hbn:b<=H.next):Zay Tryz.prog 103 [.ptr is 0,eS w] H (ZEi b is (ZCr s w) H):=by
 cases w with
 | nil =>
  have d1:decide (([]:Tx)=[])=true:=rfl
  show Zay _ _ _ _ (ZEi b is none H)
  refine Zak hEd ZIy (zax rfl) fun Q qr qn=>?_
  ((have hd:=tv;repeat' first|(first|apply Zad|apply Zac|apply Zab)<;>intro hd<;>try simp only[hd]|simp(disch:=first|assumption|omega|simp only[nx]<;>omega|fail)only[hd,qr,qn,ZHH,↓YA,YY,sevalprocAttr,d1])<;>try revert hd;refine ttr ?_)
  exact Zaq ⟨zad _,fun _ _ _ h=>h,rfl⟩
 | cons c r =>
  have hr:r.length<=5000:=by simp at hw;omega
  simp only[ZCr]
  by_cases c1:c=64
  ·rw[if_pos c1];exact word_at s c r b is k H c1 hS hB hk hr hbn
  rw[if_neg c1]
  by_cases c2:c=43
  ·rw[if_pos c2];exact ZGp s c r b is k H c2 hS hB hk hr hbn
  rw[if_neg c2]
  rcases List.eq_nil_or_concat s.dims with hd|⟨ds,d,hd⟩
  ·rw[hd]
   exact ZGv s c r b is k H c1 c2 hd hS hr
  ·rw[List.concat_eq_append]at hd
   rw[hd,ZnA,ZBH]
   simp only[ZcB]
   by_cases c3:c=94
   ·rw[if_pos c3]
    exact ZF8 hI s ds d c r b is k H c3 hd hS hB hk hr hbn
   ·rw[if_neg c3]
    exact word_mem s ds d c r b is k H ⟨c1,c2,c3⟩ hd hS hB hk hr hbn
open Go.RowKit Go.Lib
structure Gd (k m:Nat) (s:Sc):Prop where
 bd:Bd k s
 w:wC s<=m
 up:∀d∈s.dims,∀t∈d.tiers,∀n∈t.up,n<=100000
theorem atT_le (l:List Tx) (q:Tx):atT l q<=l.length:=by
 unfold atT
 split
 ·rename_i h
  have:=List.idxOf_lt_length_iff.2 h
  omega
 ·omega
theorem upP_le (l:List Tx) (q:Tx):upP l q<=l.length:=by
 unfold upP
 split
 ·exact atT_le _ _
 ·omega
theorem ZFu (q:List Tir) (ps:List Tx):(ZFU q ps).length<=1:=by
 unfold ZFU
 split<;>simp
theorem upsR_le (q:List Tir) (ps:List Tx) {k:Nat} (h:∀u∈q,u.terms.length<=k):∀n∈ZFU q ps,n<=(k:Int):=by
 unfold ZFU
 split
 ·rename_i b u r
  have h1:=upP_le u.terms b
  have h2:=h u Xc
  intro n hn
  rw[zat.1 hn]
  omega
 ·exact fun n hn=>by cases hn
theorem ZGD (w:Tx):((ZyG w).getD []).length<=w.length:=by
 cases h:ZyG w with
 | none=>simp
 | some u=>exact ZzT h
theorem ZFx (c:UInt8) (w:Tx):(ZyS c w).1.length<=w.length:=by
 have e:=congrArg List.length (ZzW c w)
 rw[zaa]at e
 omega
theorem ZJ0 (a b:List Tx):ZAr (a++b)=ZAr a+ZAr b:=by simp[ZAr]
theorem ZGK (t:Tir) (r:Tx) (q:List Tir):wT (ZBZ t r q)<=wT t+r.length+27:=by
 have h1:=ZFu q (ZyA 62 r)
 have h2:=ZGD (ZyS 62 r).1
 have h3:=ZFx 62 r
 unfold wT ZBZ
 simp only[ZJ0,zaa,List.length_cons,List.length_nil]
 have h4:ZAr [(ZyG (ZyS 62 r).1).getD []]=((ZyG (ZyS 62 r).1).getD []).length:=by simp[ZAr]
 rw[h4]
 omega
theorem stepR_ok {w:Tx} {d:Dm} {k:Nat} (h1:d.tiers.length<=k) (h2:∀t∈d.tiers,t.terms.length<=k/\t.up.length<=k) (h3:∀t∈d.tiers,∀n∈t.up,n<=100000) (hk:k<=100000) :
  wD (ZCG w d)<=wD d+w.length+27/\(ZCG w d).tiers.length<=k+1/\(∀t∈(ZCG w d).tiers,t.terms.length<=k+1/\t.up.length<=k+1)/\∀t∈(ZCG w d).tiers,∀n∈t.up,n<=100000:=by
 have same:wD d<=wD d+w.length+27/\d.tiers.length<=k+1/\(∀t∈d.tiers,t.terms.length<=k+1/\t.up.length<=k+1)/\∀t∈d.tiers,∀n∈t.up,n<=100000:=⟨Xa,Xa,fun t ht=>by have:=h2 t ht;omega,h3⟩
 cases w with
 | nil=>exact same
 | cons c r =>
  simp only[ZCG]
  by_cases c3:c=94
  ·rw[if_pos c3]
   refine⟨?_,by simp only[List.length_cons];omega,fun t ht=>?_,fun t ht=>?_⟩
   ·unfold wD
    simp only[zao,List.sum_cons,List.length_cons]
    have:wT ⟨r,[],[]⟩=r.length+18:=by unfold wT;simp[ZAr]
    omega
   ·rcases zak.1 ht with rfl|ht
    ·simp
    ·have:=h2 t ht;omega
   ·rcases zak.1 ht with rfl|ht
    ·intro n hn;cases hn
    ·exact h3 t ht
  rw[if_neg c3]
  by_cases c4:c≠46
  ·rw[if_pos c4];exact same
  rw[if_neg c4]
  cases ht:d.tiers with
  | nil=>simp only;exact same
  | cons t q =>
   simp only
   rw[ht]at h1 h2 h3
   have hw:=ZGK t r q
   have hu:=ZFu q (ZyA 62 r)
   have h0:=h2 t Xc
   refine⟨?_,by simp only[List.length_cons]at h1 ⊢;omega,fun x hx=>?_,fun x hx=>?_⟩
   ·unfold wD
    rw[ht]
    simp only[zao,List.sum_cons,List.length_cons]
    omega
   ·rcases zak.1 hx with rfl|hx
    ·unfold ZBZ
     simp only[zaa,List.length_cons,List.length_nil]
     omega
    ·have:=h2 x (by simp[hx]);omega
   ·rcases zak.1 hx with rfl|hx
    ·intro n hn
     unfold ZBZ at hn
     simp only[zaj]at hn
     rcases hn with hn|hn
     ·exact h3 t Xc n hn
     ·have:=upsR_le q (ZyA 62 r) (k:=k) (fun u hu=>(h2 u (by simp[hu])).1) n hn
      omega
    ·exact h3 x (by simp[hx])
theorem Gd.word {k m:Nat} {s:Sc} {w:Tx} (h:Gd k m s) (hk:k<=100000):Gd (k+1) (m+w.length+27) (ZBE s w):=by
 have up:Gd (k+1) (m+w.length+27) s:=⟨⟨by have:=h.bd.dims;omega,by have:=h.bd.meas;omega,fun d hd=>by have:=h.bd.tiers d hd;omega,fun d hd t ht=>by have:=h.bd.terms d hd t ht;omega⟩,by have:=h.w;omega,h.up⟩
 have hw:=h.w
 unfold wC at hw
 cases w with
 | nil=>exact up
 | cons c r =>
  simp only[ZBE]
  by_cases c1:c=64
  ·rw[if_pos c1]
   refine⟨⟨by simp only[zaa,List.length_cons,List.length_nil];have:=h.bd.dims;omega,up.bd.meas,fun d hd=>?_,fun d hd t ht=>?_⟩,?_,fun d hd t ht=>?_⟩
   ·rcases zaj.1 hd with hd|hd
    ·exact up.bd.tiers d hd
    ·rw[zat.1 hd];simp
   ·rcases zaj.1 hd with hd|hd
    ·exact up.bd.terms d hd t ht
    ·rw[zat.1 hd]at ht;cases ht
   ·unfold wC
    simp only[zaD,zbc,zao,zbo,List.sum_cons,List.sum_nil,List.length_cons]
    have:wD ⟨r,[]⟩=r.length+18:=by unfold wD;simp
    omega
   ·rcases zaj.1 hd with hd|hd
    ·exact up.up d hd t ht
    ·rw[zat.1 hd]at ht;cases ht
  rw[if_neg c1]
  by_cases c2:c=43
  ·rw[if_pos c2]
   refine⟨⟨up.bd.dims,by simp only[zaa,List.length_cons,List.length_nil];have:=h.bd.meas;omega,up.bd.tiers,up.bd.terms⟩,?_,up.up⟩
   unfold wC
   simp only[zaD,zbc,zao,zbo,List.sum_cons,List.sum_nil,List.length_cons]
   have:wX r=r.length+9:=rfl
   omega
  rw[if_neg c2]
  rcases List.eq_nil_or_concat s.dims with hd|⟨ds,d,hd⟩
  ·rw[hd];exact up
  ·rw[List.concat_eq_append]at hd
   rw[hd,ZnA,ZBH]
   simp only
   obtain⟨k1,k2,k3,k4⟩:=stepR_ok (w:=c :: r) (d:=d) (h.bd.tiers d (by rw[hd];simp)) (h.bd.terms d (by rw[hd];simp)) (h.up d (by rw[hd];simp)) hk
   refine⟨⟨by rw[zaa];have:=h.bd.dims;rw[hd,zaa]at this;simp at this ⊢;omega,up.bd.meas,fun x hx=>?_,fun x hx=>?_⟩,?_,fun x hx=>?_⟩
   ·rcases zaj.1 hx with hx|hx
    ·exact up.bd.tiers x (by rw[hd];simp[hx])
    ·rw[zat.1 hx];exact k2
   ·rcases zaj.1 hx with hx|hx
    ·exact up.bd.terms x (by rw[hd];simp[hx])
    ·rw[zat.1 hx];exact k3
   ·unfold wC
    rw[hd]at hw
    simp only[zaD,zbc,zao,zbo,List.sum_cons,List.sum_nil]at hw ⊢
    omega
   ·rcases zaj.1 hx with hx|hx
    ·exact up.up x (by rw[hd];simp[hx])
    ·rw[zat.1 hx];exact k4
theorem seq_eq (t1 t2:Tok) (a l:List Tx) (H:Zaa) (ha:a.length<=100000) (hl:l.length<=100000):Zay Tryz.prog 105 [.sl t1 (rS a),.sl t2 (rS l)] H (Pure H (.b (decide (a=l)))):=by
 have hx0:Zaa.Ext H H:=.refl _
 by_cases hlen:a.length=l.length
 ·have d1:(((a.length:Nat):Int) != ((l.length:Nat):Int))=false:=by rw[hlen];simp
  generalize hR:decide (a=l)=R at *
  refine fnQ cf105 fun Q qr qn=>?_
  refine Bz3 (X1 d1) ?_
  refine ZbJ (N:=a.length) (fun k F G=>Fr.get F 13=.i (k:Int)/\Fr.get F 12=.i (a.length:Int)/\Fr.get F 0=.sl t1 (rS a)/\Fr.get F 1=.sl t2 (rS l)/\Zaa.Ext H G/\a.take k=l.take k) Xd (fun k F G h=>⟨h.1,h.2.1⟩) (GStep.refl _ _) ⟨rfl,rfl,rfl,rfl,hx0,Xc⟩ ?_ ?_
  ·rintro k F G hk ⟨f13,f12,f0,f1,hx,he⟩
   have hz:(0:Int)<=(k:Int):=Xa
   have hk2:k<l.length:=Xa
   have hr1:(rS a)[k]?=some [eS a[k]]:=by simp[hk]
   have hr2:(rS l)[k]?=some [eS l[k]]:=by simp[hk2]
   have ht1:a.take (k+1)=a.take k++[a[k]]:=zae hk
   have ht2:l.take (k+1)=l.take k++[l[k]]:=zae hk2
   by_cases hq:a[k]=l[k]
   ·have d:(!decide (a[k]=l[k]))=false:=by rw[decide_eq_true hq];rfl
    have hs:a.take (k+1)=l.take (k+1):=by rw[ht1,ht2,he,hq]
    rw[hq]at hr1 d
    generalize l[k]=x at *
    have d:decide (x=x)=true:=decide_eq_true rfl
    skip
    refine Bz1 (X8 f13 f12 f0 f1 hz hr1 hr2 d) ?_
    exact⟨hx,hs⟩
   ·have d:decide (a[k]=l[k])=false:=decide_eq_false hq
    have hf:R=false:=by rw[<- hR];exact decide_eq_false fun e=>hq (by subst e;rfl)
    generalize a[k]=x at *
    generalize l[k]=y at *
    skip
    refine Bz1 (X8 f13 f12 f0 f1 hz hr1 hr2 d) ?_
    rw[hf]
    exact ZaW hx rfl
  ·rintro F G ⟨f13,f12,f0,f1,hx,he⟩
   have hf:R=true:=by rw[<- hR,zaq]at *;rw[hlen,zaq]at he;exact decide_eq_true he
   skip
   refine Bz0 ?_
   rw[hf]
   exact ZaW hx rfl
 ·have d1:(((a.length:Nat):Int) != ((l.length:Nat):Int))=true:=by simp only[bne_iff_ne];omega
  have hf:decide (a=l)=false:=decide_eq_false fun e=>hlen (by rw[e])
  rw[hf]
  refine fnQ cf105 fun Q qr qn=>?_
  refine Bz3 (X1 d1) ?_
  exact ZaW hx0 rfl
theorem ZGC (s:Sc) (H:Zaa) (hsm:Zh1 s) (he:scE s≠0):Zay Tryz.prog 104 [.agg (eSc s)] H (Pure H (.tup [eS [],.i (scE s)])):=by
 have hx0:Zaa.Ext H H:=.refl _
 have hck:=fun H=>Zc9 s H hsm
 obtain⟨s0,s1,s2,s3⟩:=ZbB s
 have d1:(scE s != 0)=true:=by simpa using he
 generalize scE s=e at *
 refine fnQ cf104 fun Q qr qn=>?_
 refine Bz1 (X4 s0 s1 s2 s3) ?_
 refine qcp (hck _) fun k1=>?_
 refine Bz1 (X1 d1) ?_
 exact ZaW hx0.alloc.bump rfl
open Go.RowKit Go.Lib
theorem ZCR {H:Zaa} {D:Nat->Bool} (t:Tok) (rows:List (List AV)):Frz H D (.sl t rows) (.sl .no rows) :=
 .sl t rows rows rfl (fun i r r' h h'=>by rw[h]at h';injection h' with h';rw[h']) (fun i r r' j x y h h' hx hy=>by
  rw[h]at h';injection h' with h';subst h';rw[hx]at hy;injection hy with hy;subst hy;exact .refl _)
theorem frz_tr {H:Zaa} {D:Nat->Bool} (t:Tir) (t1 t2:Tok):(trC t t1 t2).length=(eTr t).length/\∀(j:Nat) x y,(trC t t1 t2)[j]?=some x->(eTr t)[j]?=some y->Frz H D x y:=by
 refine⟨rfl,fun j x y hx hy=>?_⟩
 match j with
 | 0=>injection hx with hx;injection hy with hy;subst hx hy;exact .refl _
 | 1=>injection hx with hx;injection hy with hy;subst hx hy;exact ZCR _ _
 | 2=>injection hx with hx;injection hy with hy;subst hx hy;exact ZCR _ _
 | j+3=>simp[trC]at hx
theorem ZDM {H:Zaa} {D:Nat->Bool}:∀{rows ts},ZBQ rows ts->∀(i:Nat) r r',rows[i]?=some r->(rT ts)[i]?=some r'->r.length=r'.length/\∀(j:Nat) x y,r[j]?=some x->r'[j]?=some y->Frz H D x y
 | _,_,.nil,i,r,r',h,_=>by simp at h
 | _,_,.cons t t1 t2 rows ts h0,i,r,r',h,h'=>by
  cases i with
  | zero=>simp at h h';subst h h';exact frz_tr t t1 t2
  | succ i=>simp at h h';exact ZDM h0 i r r' h (by simpa using h')
theorem ZGQ {H:Zaa} {D:Nat->Bool} {b id:Nat} {a:AV} {ts:List Tir} (h:TsA H b a ts id) (hD:∀i cs,b<=i->H.get i=some (.cells cs 42)->D i=true):Frz H D a (.sl .no (rT ts)):=by
 rcases h with⟨rfl,rfl⟩|⟨cap,rows,tail,rfl,hb,hg,hR,_,hl,hc⟩
 ·exact ZCR _ _
 ·have hlen:=hR.len
  have hch:chunk 3 ts.length ((rows.flatten++tail).drop 0)=rows:=by rw[zaL,<- hlen];exact ZBF tail hR.three
  refine .arr id 0 3 ts.length cap _ _ _ (hD _ _ hb hg) hg Xa Xc (fun i r r' h h'=>?_) (fun i r r' j x y h h' hx hy=>?_)
  ·rw[hch]at h;exact(ZDM (H:=H) (D:=D) hR i r r' h h').1
  ·rw[hch]at h;exact(ZDM hR i r r' h h').2 j x y hx hy
theorem frz_dm {H:Zaa} {D:Nat->Bool} {d:Dm} {a:AV} (h:Frz H D a (.sl .no (rT d.tiers))):([eS d.name,a]:List AV).length=(eDm d).length/\∀(j:Nat) x y,([eS d.name,a]:List AV)[j]?=some x->(eDm d)[j]?=some y->Frz H D x y:=by
 refine⟨rfl,fun j x y hx hy=>?_⟩
 match j with
 | 0=>injection hx with hx;injection hy with hy;subst hx hy;exact .refl _
 | 1=>injection hx with hx;injection hy with hy;subst hx hy;exact h
 | j+2=>simp at hx
theorem ZDg {H:Zaa} {D:Nat->Bool} {b T:Nat} (hD:∀i cs,b<=i->H.get i=some (.cells cs 42)->D i=true) {d:Dm} {a:AV} (hl:Frz H D a (.sl .no (rT d.tiers))):∀{rows ds},ZBt H b T rows ds->∀(i:Nat) r r',(rows++[[eS d.name,a]])[i]?=some r->(rD (ds++[d]))[i]?=some r'->r.length=r'.length/\∀(j:Nat) x y,r[j]?=some x->r'[j]?=some y->Frz H D x y
 | _,_,.nil,i,r,r',h,h'=>by
  cases i with
  | zero=>simp at h h';subst h h';exact frz_dm hl
  | succ i=>simp at h
 | _,_,.cons d0 a0 id0 rows ds h1 _ h0,i,r,r',h,h'=>by
  cases i with
  | zero=>simp at h h';subst h h';exact frz_dm (ZGQ h1 hD)
  | succ i=>simp at h h';exact ZDg hD hl h0 i r r' h (by simpa using h')
theorem ZHd {H:Zaa} {D:Nat->Bool} {b:Nat} {tm:Tok} {aD:AV} {dims:List Dm} (h:DimA H b tm aD dims) (hD:∀i cs E,b<=i->E=42\/E=39->H.get i=some (.cells cs E)->D i=true):Frz H D aD (.sl .no (rD dims)):=by
 rcases h with⟨rfl,rfl⟩|⟨Di,cap,rows,tail,ds,d,a,T,rfl,rfl,hb,hg,hcl,hnc,hcold,hhot⟩
 ·exact ZCR _ _
 ·have hl:Frz H D a (.sl .no (rT d.tiers)):=ZGQ hhot.cold fun i cs hi hg=>hD i cs _ hi (.inl rfl) hg
  have hq:∀q∈rows++[[eS d.name,a]],q.length=2:=fun q hq=>by
   rcases zaj.1 hq with hq|hq
   ·exact hcold.two q hq
   ·rw[zat.1 hq];rfl
  have hlen:(rows++[[eS d.name,a]]).length=rows.length+1:=Xc
  have hch:chunk 2 (rows.length+1) (((rows++[[eS d.name,a]]).flatten++tail).drop 0)=rows++[[eS d.name,a]]:=by rw[zaL,<- hlen];exact ZBF tail hq
  have hk:=ZDg (H:=H) (D:=D) (fun i cs hi hg=>hD i cs _ hi (.inl rfl) hg) hl hcold
  refine .arr Di 0 2 (rows.length+1) cap _ _ _ (hD _ _ _ hb (.inr rfl) hg) hg Xa (by simp[hcold.len]) (fun i r r' h h'=>?_) (fun i r r' j x y h h' hx hy=>?_)
  ·rw[hch]at h;exact(hk i r r' h h').1
  ·rw[hch]at h;exact(hk i r r' h h').2 j x y hx hy
theorem ZEz {H:Zaa} {D:Nat->Bool} {a a' b b':AV} (h1:Frz H D a a') (h2:Frz H D b b'):∀(i:Nat) x y,([.agg [a,b]]:List AV)[i]?=some x->([.agg [a',b']]:List AV)[i]?=some y->Frz H D x y:=by
 intro i x y hx hy
 match i with
 | 0 =>
  injection hx with hx;injection hy with hy;subst hx hy
  refine .agg _ _ rfl fun j x y hx hy=>?_
  match j with
  | 0=>injection hx with hx;injection hy with hy;subst hx hy;exact h1
  | 1=>injection hx with hx;injection hy with hy;subst hx hy;exact h2
  | j+2=>simp at hx
 | i+1=>simp at hx
theorem ZFd {H:Zaa} {D:Nat->Bool} {a a' b b':AV} (h1:Frz H D a a') (h2:Frz H D b b'):∀(i:Nat) x y,([a,b]:List AV)[i]?=some x->([a',b']:List AV)[i]?=some y->Frz H D x y:=by
 intro j x y hx hy
 match j with
 | 0=>injection hx with hx;injection hy with hy;subst hx hy;exact h1
 | 1=>injection hx with hx;injection hy with hy;subst hx hy;exact h2
 | j+2=>simp at hx
def schP (l:List Tx):Option Tx:=match ZBh ⟨[],[]⟩ l with
 | none=>none
 | some s=>if scE s=0/\ZBi s=l then some (scB s) else none
theorem Gd.zero:Gd 0 18 ⟨[],[]⟩:=⟨⟨Xc,Xc,fun d h=>(by cases h),fun d h=>(by cases h)⟩,by simp[wC],fun d h=>(by cases h)⟩
theorem Gd.small {k m:Nat} {s:Sc} (h:Gd k m s) (hk:k<=1000000):Zh1 s:=fun d hd t ht=>by
 have:=h.bd.terms d hd t ht
 unfold Zgr;omega
theorem ZFV {s:Sc} (h:scE s=0):(ZBi s).length<=20000:=by
 obtain⟨h1,h2,h3,h4⟩:=ZCV h
 have:=ZCD (l:=s.dims) fun d hd=>ZC4 (h2 d hd)
 unfold ZBi
 rw[zaa,zan]
 omega
theorem ZEJ (tw:Tok) (l:List Tx) (H:Zaa) (hl:l.length<=2300) (hs:ZAr l+27 * l.length<=99000) (hw0:∀w∈l,w.length<=5000):Zay Tryz.prog 55 [.sl tw (rS l)] H (ZF4 (schP l) H):=by
 have hx0:Zaa.Ext H H:=.refl _
 unfold schP
 generalize hT0:ZBh ⟨[],[]⟩ l=T at *
 have q0:SchA (H.alloc (.cells [.sl .full [],.sl .full []] 25)) H.next H.next ⟨[],[]⟩:=⟨zad _,.sl .full [],.full,Zaa.Zat rfl,.inl rfl,.inl ⟨rfl,rfl⟩⟩
 refine fnQ cf55 fun Q qr qn=>?_
 refine Bz2 ?_
 refine ZbJ (N:=l.length) (fun k F G=>Fr.get F 11=.i (k:Int)/\Fr.get F 10=.i (l.length:Int)/\Fr.get F 9=.sl tw (rS l)/\Fr.get F 0=.sl tw (rS l)/\Fr.get F 4=.ptr H.next 0/\Zaa.Ext H G/\∃s,SchA G H.next H.next s/\Gd k (18+ZAr (l.take k)+27 * k) s/\T=ZBh s (l.drop k)) Xd (fun k F G h=>⟨h.1,h.2.1⟩) (GStep.refl _ _) ⟨rfl,rfl,rfl,rfl,rfl,hx0.alloc,⟨[],[]⟩,q0,by simpa [ZAr] using Gd.zero,by rw[zaL];exact hT0.symm⟩ ?_ ?_
 ·rintro k F G hk ⟨f11,f10,f9,f0,f4,hx,s,hS,hG,hT⟩
  have hz:(0:Int)<=(k:Int):=Xa
  have hr:(rS l)[k]?=some [eS l[k]]:=by simp[hk]
  obtain⟨s1,s2,s3⟩:=ZCi hk
  have hwk:=hw0 _ (zah hk)
  rw[zal hk,ZBh]at hT
  have hws:=ZE0 ins_ok s l[k] H.next H.next k G hS hG.bd Xa Xa hx.next
  generalize l[k]=w at *
  skip
  refine Bz1 (X7 f11 f10 f9 f0 f4 hz hr) ?_
  refine Zap.use hws ?_
  rintro r G2 ⟨hn2,hold,hm⟩
  have hx2:Zaa.Ext H G2:=⟨by have:=hx.next;omega,fun i o hg=>hold i o (Zaa.lt hg) (hx.get i o hg)⟩
  cases hwp:ZCr s w with
  | none =>
   rw[hwp]at hm hT
   obtain rfl:r=.b false:=hm
   have hT:T=none:=hT
   skip
   refine Bz0 ?_
   rw[hT]
   exact ZBM hx2
  | some s' =>
   rw[hwp]at hm hT
   obtain⟨rfl,hS2⟩:=hm
   have hG2:=hG.word (w:=w) Xa
   rw[ZEE hwp]at hG2
   skip
   refine Bz1 (X5 f11 f10 f9 f0 f4) ?_
   exact⟨hx2,s',hS2,by rw[s1];exact⟨hG2.bd,by have:=hG2.w;omega,hG2.up⟩,hT⟩
 ·rintro F G ⟨f11,f10,f9,f0,f4,hx,s,hS,hG,hT⟩
  rw[zaG]at hT
  have hT:T=some s:=hT
  subst hT
  rw[zaq]at hG
  obtain⟨bis,aD,tok,gs,hTk,hD⟩:=hS
  have lG:=Zaa.lt gs
  obtain⟨Dd,hDd⟩:∃Dd:Nat->Bool,Dd=fun i=>decide (H.next<=i)&&!decide (i=H.next):=⟨_,rfl⟩
  have hDis:Dd H.next=false:=by rw[hDd];simp
  have hDlo:∀i,i<H.next->Dd i=false:=fun i hi=>by rw[hDd];simp;omega
  have hfz:Frz G Dd aD (.sl .no (rD s.dims)):=ZHd hD fun i cs E hi hE hg=>by
   have hne:i≠H.next:=ZBn hg gs (by rcases hE with rfl|rfl<;>decide)
   rw[hDd];simp only[zaI,decide_eq_true_eq,zbw,decide_eq_false_iff_not]
   exact⟨hi,hne⟩
  have hfm:Frz G Dd (.sl tok (rS s.meas)) (.sl .no (rS s.meas)):=ZCR _ _
  obtain⟨s0,s1,s2,s3⟩:=ZbB s
  have gs2:((G.ZFq Dd).set H.next (.cells (eSc s) 25)).get H.next=some (.cells (eSc s) 25):=Zaa.Zal lG
  have hx3:Zaa.Ext H ((G.ZFq Dd).set H.next (.cells (eSc s) 25)):=⟨hx.next,fun i o h=>by
   have hi:=Zaa.lt h
   rw[Zaa.Zah Xa,ZD7 (hDlo i hi)];exact hx.get i o h⟩
  have hwc:wC s<=100000:=by have:=hG.w;omega
  have hui:∀d∈s.dims,∀t∈d.tiers,UpI t:=fun d hd t ht n hn=>by have:=hG.up d hd t ht n hn;omega
  skip
  refine Bz1 (X2 f4 gs) ?_
  by_cases he:scE s=0
  ·have hput:=fun H=>ZFi s H hwc hui he
   refine Zap.use (Zay.frzC (D:=Dd) (cs':=eSc s) gs hDis rfl (ZFd hfz hfm) (hput _) rfl (ZEz hfz hfm)) ?_
   rintro _ _ ⟨rfl,k1,rfl⟩
   have d0:((0:Int) == 0)=true:=rfl
   have hsl:=ZFV he
   generalize (G.ZFq Dd).set H.next (.cells (eSc s) 25)=G2 at *
   skip
   refine Bz1 (X6 f4 f0 gs2 s0 s3 d0) ?_
   refine qcp (ZiK s _ he) fun k2=>?_
   refine Bz1 (X2 f4 f0) ?_
   refine qcp (seq_eq .no tw (ZBi s) l _ Xa Xa) fun k3=>?_
   refine Bz1 (X2 f4 f0) ?_
   have hfin:(match some s with
    | none=>none
    | some s=>if scE s=0/\ZBi s=l then some (scB s) else none)=if decide (ZBi s=l)=true then some (scB s) else none:=by
    simp[he]
   exact ZDa hfin hx3.bump.bump.bump
  ·have hput:=fun H=>ZGC s H (hG.small Xa) he
   refine Zap.use (Zay.frzC (D:=Dd) (cs':=eSc s) gs hDis rfl (ZFd hfz hfm) (hput _) rfl (ZEz hfz hfm)) ?_
   rintro _ _ ⟨rfl,k1,rfl⟩
   have d0:(scE s == 0)=false:=by simpa using he
   generalize (G.ZFq Dd).set H.next (.cells (eSc s) 25)=G2 at *
   skip
   refine Bz1 (X6 f4 f0 gs2 s0 s3 d0) ?_
   have hfin:(match some s with
    | none=>none
    | some s=>if scE s=0/\ZBi s=l then some (scB s) else none)=if false=true then some ([]:Tx) else none:=by
    simp[he]
   exact ZDa hfin hx3.bump
open Go.RowKit Go.Lib
theorem ZEf {c:UInt8}:∀{p:Tx} (r:Tx),c ∉ p->ZyA c (p++c :: r)=p :: ZyA c r
 | [],r,_=>by simp[ZyA]
 | x :: p,r,h=>by
  have hx:¬x=c:=fun e=>h (by rw[e];exact zaF)
  have ih:=ZEf (p:=p) r (fun e=>h (zav _ e))
  exact ZBv (p++c :: r) hx ih
theorem ZGY {c:UInt8} {p:Tx} (h:c ∉ p):ZyA c p=[p]:=by
 rw[ZyM,ZCw c p h]
theorem ZDB {c:UInt8}:∀{ps:List Tx} {p:Tx},(∀w∈p :: ps,c ∉ w)->ZyA c (p++ps.flatMap fun w=>c :: w)=p :: ps
 | [],p,h=>by simpa using ZGY (h p Xc)
 | q :: qs,p,h=>by
  have e:p++(q :: qs).flatMap (fun w=>c :: w)=p++c :: (q++qs.flatMap fun w=>c :: w):=Xc
  rw[e,ZEf _ (h p Xc),ZDB fun w hw=>h w (zav _ hw)]
theorem ZEn (x:Tx):(32:UInt8) ∉ ZyH x:=fun h=>ZFl (ZCN x _ h) ⟨Xb,Xb⟩ rfl
theorem ZDi {s:Tx} (h:ZbK s=true):(32:UInt8) ∉ s:=fun hm=>by
 unfold ZbK at h
 rw[zaI]at h
 have:=zaA.1 h.2 _ hm
 exact absurd this Xb
theorem ZFG (q:List Tir) (n:Int):(32:UInt8) ∉ ZBs q n:=by
 cases q with
 | nil=>simp[ZBs]
 | cons u r =>
  simp only[ZBs,zak,not_or]
  exact⟨Xb,ZEn _⟩
theorem ZF0 {t:Tir} {a:Int} (h:ZbO t a=0):ZbK t.name=true:=by
 unfold ZbO at h
 split at h
 ·cases h
 ·rename_i h1;simpa using h1
theorem ZDF:∀{l:List Tir} {seen:List Tx},Zkb seen l=0->∀w∈ZA9 l,(32:UInt8) ∉ w
 | [],_,_,w,hw=>by cases hw
 | t :: r,seen,h,w,hw=>by
  unfold Zkb at h
  split at h
  ·exact absurd h (by assumption)
  ·rename_i h1
   have h1:ZbO t (ZbR r)=0:=zbD h1
   split at h
   ·cases h
   ·rw[ZA9]at hw
    rcases zaj.1 hw with hw|hw
    ·exact ZDF h w hw
    ·rcases zak.1 hw with rfl|hw
     ·simp only[zak,not_or]
      exact⟨Xb,ZDi (ZF0 h1)⟩
     ·obtain⟨i,_,rfl⟩:=List.mem_map.1 hw
      simp only[ZCQ,zak,zaj,not_or]
      exact⟨Xb,ZEn _,ZFG _ _⟩
theorem dim_no32 {d:Dm} (h:Zdv d=0):∀w∈ZCM d,(32:UInt8) ∉ w:=by
 unfold Zdv at h
 split at h
 ·cases h
 ·rename_i h1
  split at h
  ·cases h
  ·intro w hw
   rcases zak.1 hw with rfl|hw
   ·simp only[zak,not_or]
    exact⟨Xb,ZDi (by simpa using h1)⟩
   ·exact ZDF h w hw
theorem ZDv:∀{l:List Tx} {seen:List Tx},Zgh seen l=0->∀s∈l,ZbK s=true
 | [],_,_,s,hs=>by cases hs
 | m :: r,seen,h,s,hs=>by
  unfold Zgh at h
  split at h
  ·cases h
  ·rename_i h1
   split at h
   ·cases h
   ·rcases zak.1 hs with rfl|hs
    ·simpa using h1
    ·exact ZDv h s hs
theorem scE_meas {s:Sc} (h:scE s=0):∀m∈s.meas,ZbK m=true:=by
 unfold scE at h
 split at h
 ·cases h
 ·split at h
  ·exact absurd h (by assumption)
  ·unfold Zd8 at h
   split at h
   ·cases h
   ·exact ZDv h
theorem ZFZ {s:Sc} (h:scE s=0):∀w∈ZBi s,(32:UInt8) ∉ w:=by
 intro w hw
 rcases zaj.1 hw with hw|hw
 ·obtain⟨d,hd,hw⟩:=List.mem_flatMap.1 hw
  exact dim_no32 ((ZCV h).2.1 d hd) w hw
 ·obtain⟨m,hm,rfl⟩:=List.mem_map.1 hw
  simp only[zak,not_or]
  exact⟨Xb,ZDi (scE_meas h m hm)⟩
def ZLT:Tx:=[114,97,119]
def ZA8:Tx:=[99,114,101,97,116,101]
def ZBN:Tx:=[108,111,97,100]
def ZBy:Tx:=[109,101,114,103,101]
def ZBk:Tx:=[114,101,98,117,105,108,100]
def ZF3:Tx:=[97,115,107]
def ZCB:Tx:=[115,116,97,116,115]
def ZDA:Tx:=[99,108,111,115,101]
def rawP (r:List Tx):Option (Int×Tx):=match r with
 | [a,b]=>match numOf a,ZyG b with
  | some n,some s=>some (n,s)
  | _,_=>none
 | _=>none
def ZDp (k:Int) (r:List Tx):Option Tx:=if k=1 then schP r else if k=2\/k=3 then (ZCj r).map (ZA2 r.length++·) else if k=5 then ZBI r else if r=[] then some [] else none
def ZBu (h:Tx):Int:=if h=ZA8 then 1 else if h=ZBN then 2 else if h=ZBy then 3 else if h=ZBk then 4 else if h=ZF3 then 5 else if h=ZCB then 6 else if h=ZDA then 7 else 0
def ZDl (line:Tx):Option (Int×Tx):=match ZyA 32 line with
 | []=>none
 | h :: r=>if h=ZLT then rawP r else if ZBu h=0 then none else (ZDp (ZBu h) r).map fun b=>(ZBu h,b)
def eCall (o:Option (Int×Tx)):AV:=match o with
 | some (k,d)=>.agg [.i k,eS d]
 | none=>.agg [.i 0,eS []]
theorem ZFK (t:Tok) (r:List Tx) (H:Zaa) (hl:r.length<=100000):Zay Tryz.prog 58 [.sl t (rS r)] H (ZF4 (if r=[] then some [] else none) H):=by
 have hx0:Zaa.Ext H H:=.refl _
 have hfin:(if r=[] then some [] else none:Option Tx)=if (((r.length:Nat):Int) == 0)=true then some [] else none:=by
  cases r with
  | nil=>rfl
  | cons a r =>
   have:((((a :: r).length:Nat):Int) == 0)=false:=by simp only[beq_eq_false_iff_ne,List.length_cons];omega
   rw[this];rfl
 refine fnQ cf58 fun Q qr qn=>?_
 refine Bz2 ?_
 exact ZDa hfin hx0
theorem ZFb {n:Int} {u:Tx} {H0 H:Zaa} (hx:Zaa.Ext H0 H):∃r2 H2,Zb6 (.tup [.agg [.i n,eS u],.b false]) H r2 H2/\∃a b,Pure H0 (.tup [.agg [.i a,eS b],.b false]) r2 H2:=by
 obtain⟨r2,H2,h1,h2⟩:=ZaW (r:=.tup [.agg [.i n,eS u],.b false]) hx rfl
 exact⟨r2,H2,h1,n,u,h2⟩
theorem ZGM (t:Tok) (r:List Tx) (H:Zaa) (hl:r.length<=100000) (hs:ZAr r<=5000):Zay Tryz.prog 23 [.sl t (rS r)] H (fun v G=>match rawP r with
  | some p=>Pure H (.tup [.agg [.i p.1,eS p.2],.b true]) v G
  | none=>∃a b,Pure H (.tup [.agg [.i a,eS b],.b false]) v G):=by
 have hx0:Zaa.Ext H H:=.refl _
 by_cases h2:r.length=2
 ·match r,h2 with
  | [a,b],_ =>
   have dl:(rS [a,b]).length=2:=rfl
   have d2:((((2:Nat):Int)) != 2)=false:=rfl
   have q0:(rS [a,b])[0]?=some [eS a]:=rfl
   have q1:(rS [a,b])[1]?=some [eS b]:=rfl
   have z0:(0:Int)<=0:=zbv _
   have z1:(0:Int)<=1:=Xb
   have hsl:a.length+b.length<=5000:=by simpa [ZAr] using hs
   obtain⟨u,bu,htu,hul,eu⟩:=ZCx b Xa
   have hg0:(H.alloc (.cells [.i 0,eS []] 27)).get H.next=some (.cells [.i 0,eS []] 27):=Zaa.Zat rfl
   have hrp:rawP [a,b]=match numOf a,(if bu=true then some u else none:Option Tx)with
    | some n,some s=>some (n,s)
    | _,_=>none:=by
     show(match numOf a,ZyG b with
      | some n,some s=>some (n,s)
      | _,_=>none:Option (Int×Tx))=_
     rw[eu]
   rw[hrp]
   generalize hR0:rS [a,b]=R0 at *
   cases hn:numOf a with
   | none =>
    have hno:=fun H=>num_no a (ZCd hn) H Xa
    show Zay _ _ _ _ (fun v G=>∃a b,Pure H (.tup [.agg [.i a,eS b],.b false]) v G)
    refine fnQ cf23 fun Q qr qn=>?_
    refine Bz1 (X6 dl d2 q0 q1 z0 z1) ?_
    refine Zap.use (hno _) ?_
    rintro v G2 ⟨⟨n,rfl⟩,hx2⟩
    have hg2:=hx2.get _ _ hg0
    have lt2:=Zaa.lt hg2
    skip
    refine Bz1 (X6 dl d2 q0 q1 z0 z1) ?_
    refine qcp (htu _) fun k1=>?_
    refine Bz1 (X1 hg2) ?_
    exact ZFb ((hx0.alloc.trans hx2).bump.set (zad _))
   | some n =>
    obtain⟨hin,hiw⟩:=ZBW hn
    subst hiw
    have hys:=fun H=>ZGt n hin H
    cases bu with
    | false =>
     show Zay _ _ _ _ (fun v G=>∃a b,Pure H (.tup [.agg [.i a,eS b],.b false]) v G)
     refine fnQ cf23 fun Q qr qn=>?_
     refine Bz1 (X6 dl d2 q0 q1 z0 z1) ?_
     refine qcp (hys _) fun k1=>?_
     refine Bz1 (X6 dl d2 q0 q1 z0 z1) ?_
     refine qcp (htu _) fun k2=>?_
     refine Bz1 (X1 hg0) ?_
     exact ZFb (hx0.alloc.bump.bump.set (zad _))
    | true =>
     show Zay _ _ _ _ (Pure H (.tup [.agg [.i n,eS u],.b true]))
     refine fnQ cf23 fun Q qr qn=>?_
     refine Bz1 (X6 dl d2 q0 q1 z0 z1) ?_
     refine qcp (hys _) fun k1=>?_
     refine Bz1 (X6 dl d2 q0 q1 z0 z1) ?_
     refine qcp (htu _) fun k2=>?_
     refine Bz1 (X1 hg0) ?_
     exact ZaW (hx0.alloc.bump.bump.set (zad _)) rfl
 ·have hrp:rawP r=none:=by
   match r,h2 with
   | [],_=>rfl
   | [_],_=>rfl
   | _ :: _ :: _ :: _,_=>rfl
  rw[hrp]
  have d2:((((r.length:Nat)):Int) != 2)=true:=by simp only[bne_iff_ne];omega
  show Zay _ _ _ _ (fun v G=>∃a b,Pure H (.tup [.agg [.i a,eS b],.b false]) v G)
  refine fnQ cf23 fun Q qr qn=>?_
  refine Bz3 (X1 d2) ?_
  exact ZFb hx0.alloc
theorem ZEV (c:UInt8) (s:Tx) (H:Zaa) (hl:s.length<=100000):Zay Tryz.prog 22 [eS s,eS [c]] H (Pure H (.sl .no (rS (ZyA c s)))):=by
 have hg:=fun H=>ZEc c s H hl
 have hx0:Zaa.Ext H H:=.refl _
 generalize rS (ZyA c s)=R at *
 refine fnQ cf22 fun Q qr qn=>?_
 refine Bz0 ?_
 refine qcp (hg _) fun k1=>?_
 refine Bz0 ?_
 exact ZaW hx0.bump rfl
def kindM:List (Tx×Int):=[(ZA8,1),(ZBN,2),(ZBy,3),(ZBk,4),(ZF3,5),(ZCB,6),(ZDA,7)]
theorem kind_get (h:Tx):ZdG (kS h) (Zgf kS AV.i kindM)=if ZBu h=0 then none else some (.i (ZBu h)):=by
 rw[ZbV Zev]
 unfold ZBu
 simp only[kindM,Zcz]
 by_cases h1:h=ZA8
 ·subst h1;rfl
 by_cases h2:h=ZBN
 ·subst h2;rfl
 by_cases h3:h=ZBy
 ·subst h3;rfl
 by_cases h4:h=ZBk
 ·subst h4;rfl
 by_cases h5:h=ZF3
 ·subst h5;rfl
 by_cases h6:h=ZCB
 ·subst h6;rfl
 by_cases h7:h=ZDA
 ·subst h7;rfl
 simp[h1,h2,h3,h4,h5,h6,h7]
theorem ZCp (H:Zaa):Zay Tryz.prog 24 [] H (fun r G=>r=.mp H.next/\G=H.alloc (.map (.one .str) (Zgf kS AV.i kindM) false)):=by
 have kof:∀s:ByteArray,(KK.one .str).of (.sc (.string s))=some (.string s):=fun _=>rfl
 have s0:([]:List (Value×AV))=Zgf kS AV.i ([]:List (Tx×Int)):=rfl
 have s1:Ziw (.string ⟨#[99,114,101,97,116,101]⟩) (.sc (.int .i64 1)) (Zgf kS AV.i ([]:List (Tx×Int)))=Zgf kS AV.i ([(ZA8,1)]:List (Tx×Int)):=ZcH (vf:=AV.i) Zev ZA8 1 ([]:List (Tx×Int))
 have s2:Ziw (.string ⟨#[108,111,97,100]⟩) (.sc (.int .i64 2)) (Zgf kS AV.i ([(ZA8,1)]:List (Tx×Int)))=Zgf kS AV.i ([(ZA8,1),(ZBN,2)]:List (Tx×Int)):=ZcH (vf:=AV.i) Zev ZBN 2 ([(ZA8,1)]:List (Tx×Int))
 have s3:Ziw (.string ⟨#[109,101,114,103,101]⟩) (.sc (.int .i64 3)) (Zgf kS AV.i ([(ZA8,1),(ZBN,2)]:List (Tx×Int)))=Zgf kS AV.i ([(ZA8,1),(ZBN,2),(ZBy,3)]:List (Tx×Int)):=ZcH (vf:=AV.i) Zev ZBy 3 ([(ZA8,1),(ZBN,2)]:List (Tx×Int))
 have s4:Ziw (.string ⟨#[114,101,98,117,105,108,100]⟩) (.sc (.int .i64 4)) (Zgf kS AV.i ([(ZA8,1),(ZBN,2),(ZBy,3)]:List (Tx×Int)))=Zgf kS AV.i ([(ZA8,1),(ZBN,2),(ZBy,3),(ZBk,4)]:List (Tx×Int)):=ZcH (vf:=AV.i) Zev ZBk 4 ([(ZA8,1),(ZBN,2),(ZBy,3)]:List (Tx×Int))
 have s5:Ziw (.string ⟨#[97,115,107]⟩) (.sc (.int .i64 5)) (Zgf kS AV.i ([(ZA8,1),(ZBN,2),(ZBy,3),(ZBk,4)]:List (Tx×Int)))=Zgf kS AV.i ([(ZA8,1),(ZBN,2),(ZBy,3),(ZBk,4),(ZF3,5)]:List (Tx×Int)):=ZcH (vf:=AV.i) Zev ZF3 5 ([(ZA8,1),(ZBN,2),(ZBy,3),(ZBk,4)]:List (Tx×Int))
 have s6:Ziw (.string ⟨#[115,116,97,116,115]⟩) (.sc (.int .i64 6)) (Zgf kS AV.i ([(ZA8,1),(ZBN,2),(ZBy,3),(ZBk,4),(ZF3,5)]:List (Tx×Int)))=Zgf kS AV.i ([(ZA8,1),(ZBN,2),(ZBy,3),(ZBk,4),(ZF3,5),(ZCB,6)]:List (Tx×Int)):=ZcH (vf:=AV.i) Zev ZCB 6 ([(ZA8,1),(ZBN,2),(ZBy,3),(ZBk,4),(ZF3,5)]:List (Tx×Int))
 have s7:Ziw (.string ⟨#[99,108,111,115,101]⟩) (.sc (.int .i64 7)) (Zgf kS AV.i ([(ZA8,1),(ZBN,2),(ZBy,3),(ZBk,4),(ZF3,5),(ZCB,6)]:List (Tx×Int)))=Zgf kS AV.i ([(ZA8,1),(ZBN,2),(ZBy,3),(ZBk,4),(ZF3,5),(ZCB,6),(ZDA,7)]:List (Tx×Int)):=ZcH (vf:=AV.i) Zev ZDA 7 ([(ZA8,1),(ZBN,2),(ZBy,3),(ZBk,4),(ZF3,5),(ZCB,6)]:List (Tx×Int))
 have e0:Zgf kS AV.i ([]:List (Tx×Int))=[]:=rfl
 rw[e0]at s1
 refine fnQ cf24 fun Q qr qn=>?_
 refine Bz1 (X8 kof s1 s2 s3 s4 s5 s6 s7) ?_
 exact Zaq ⟨rfl,rfl⟩
end Go.Proofs.YtdfgoekdlmkdfaaGreatDoor
