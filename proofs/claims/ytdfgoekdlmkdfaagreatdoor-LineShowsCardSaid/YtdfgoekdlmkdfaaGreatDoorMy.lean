/- Texts of the walk. -/
import Derived.Test.YtdfgoekdlmkdfaaGreatDoorMx
import Derived.Test.YtdfgoekdlmkdfaaGreatDoorMw
namespace Go.Proofs.YtdfgoekdlmkdfaaGreatDoor
set_option linter.defProp false
set_option maxHeartbeats 64000000
set_option linter.unusedSimpArgs false
set_option linter.unusedVariables false
open Go.RowKit Go.Lib
abbrev rdT (S:Tx) (k:Nat):Zb3:=.cells [eS S,.i (k:Int),.b true] 126
noncomputable abbrev RP (E:Zaa) (id:Nat) (S:Tx) (B:Prop):Prg:=⟨Tryz.prog,rdPan id ⟨S.toArray⟩ fun ev H=>ev≠0/\B/\Zaa.Ext E H⟩
structure RdS (E:Zaa) (id:Nat) (S:Tx) (k:Nat) (b:Tx) (H:Zaa):Prop where
 kl:k<=S.length
 bd:S.drop k=b
 g:H.get id=some (rdT S k)
 l:S.length<=100000
 x:Zaa.Ext E H
 lo:E.next<=id
theorem RdS.len {E:Zaa} {id:Nat} {S:Tx} {k:Nat} {b:Tx} {H:Zaa} (h:RdS E id S k b H):b.length+k=S.length:=by
 rw[<- h.bd,zaB]
 have:=h.kl
 omega
def RdX (E:Zaa) (id:Nat) (S:Tx) (r:Tx) (H H':Zaa):Prop:=(∃k,RdS E id S k r H')/\H.next<=H'.next/\∀i o,i≠id->H.get i=some o->H'.get i=some o
def RdQ {α:Type} (E:Zaa) (id:Nat) (S:Tx) (H:Zaa) (o:Option (α×Tx)) (enc:α->AV) (v:AV) (H':Zaa):Prop:=∃a r,o=some (a,r)/\v=enc a/\RdX E id S r H H'
theorem RdX.trans {E:Zaa} {id:Nat} {S r r':Tx} {H G K:Zaa} (h:RdX E id S r H G) (k:RdX E id S r' G K):RdX E id S r' H K:=⟨k.1,zaM h.2.1 k.2.1,fun i o hi hg=>k.2.2 i o hi (h.2.2 i o hi hg)⟩
theorem ZIj {E:Zaa} {id:Nat} {S:Tx} {k:Nat} {b:Tx} {H:Zaa} (h:RdS E id S k b H):RdX E id S b H H:=⟨⟨k,h⟩,zad _,fun _ _ _ h=>h⟩
theorem ZJh {E:Zaa} {id:Nat} {S:Tx} {k:Nat} {b:Tx} {H:Zaa} {B:Prop} {e:Int} (h:RdS E id S k b H) (he:e≠0) (hB:B):rdPan id ⟨S.toArray⟩ (fun ev H=>ev≠0/\B/\Zaa.Ext E H) (Zwy e) H :=
 ⟨e,(k:Int),rfl,⟨he,hB,h.x⟩,h.g,Xa,by have:=h.kl;show(k:Int)<=((S.toArray.size:Nat):Int);rw[zaP];omega⟩
theorem RdS.bump {E:Zaa} {id:Nat} {S:Tx} {k:Nat} {b:Tx} {H:Zaa} (h:RdS E id S k b H) (n:Nat):RdS E id S k b (H.bump n):=⟨h.kl,h.bd,by rw[Zaa.ZaB];exact h.g,h.l,h.x.bump,h.lo⟩
theorem ZHY {pan:Value->Zaa->Prop} {E:Zaa} {id:Nat} {S:Tx} {k:Nat} {b:Tx} {H:Zaa} (h:RdS E id S k b H):Zay ⟨Tryz.prog,pan⟩ 84 [.ptr id 0] H (Pure H (.b true)):=by
 have hg:=h.g
 refine fnQ cf84 fun Q qr qn=>?_
 refine Bz1 (X1 hg) ?_
 refine ZbC (by rfl)
theorem ZIb {E:Zaa} {id:Nat} {S:Tx} {k:Nat} {b:Tx} {H:Zaa} {B:Prop} (h:RdS E id S k b H) (hB:gAny b=none->B):Zay (RP E id S B) 85 [.ptr id 0] H (RdQ E id S H (gAny b) uN):=by
 have hg:=h.g
 have hl:=h.len
 have hk:=h.kl
 have hS:=h.l
 have hz:(0:Int)<=(k:Int):=Xa
 have hkt:((k:Int)).toNat=k:=Xa
 have hbd:(k<=S.length/\S.length<=S.length)=True:=by rw[eq_iff_iff,iff_true];omega
 have e1:=ZBP S k
 rw[h.bd]at e1
 have ht:∀H,Zay (RP E id S B) 130 [eS b] H (Pure H (eTk b)):=fun H=>(ZJJ b H Xa).up
 unfold eTk at ht
 cases hn:gAny b with
 | none =>
  rw[hn]at ht
  have ht:∀H,Zay (RP E id S B) 130 [eS b] H (Pure H (.tup [uN 0,.i 0,.b false])):=ht
  refine fnQ cf85 fun Q qr qn=>?_
  refine Bz6 (X6 hg hz hkt hk hbd e1) ?_
  refine qcp (ht _) fun k1=>?_
  refine Bz1 (X1 hg) ?_
  exact Zap.use (ZwN _ _ _ (ZJh (h.bump k1) Xb (hB hn))) fun _ _ h=>h.elim
 | some p =>
  obtain⟨n,r⟩:=p
  obtain⟨hn1,hn2⟩:=ZHX hn
  rw[hn]at ht
  have ht:∀H,Zay (RP E id S B) 130 [eS b] H (Pure H (.tup [uN n,.i (ZA5 n:Nat),.b true])):=ht
  have hl2:=congrArg List.length hn2
  rw[zaa,ZA3]at hl2
  have hs9:=ZA7 n
  have hw:IntKind.i64.wrap ((k:Int)+(ZA5 n:Int))=((k+ZA5 n:Nat):Int):=by rw[Zaw Xa Xa];omega
  have hdr:S.drop (k+ZA5 n)=r:=by
   rw[<- zbd,h.bd,hn2,zbu (ZA3 n)]
  have hid:=Zaa.lt hg
  refine fnQ cf85 fun Q qr qn=>?_
  refine Bz6 (X6 hg hz hkt hk hbd e1) ?_
  refine qcp (ht _) fun k1=>?_
  refine Bz1 (X2 hg hw) ?_
  refine Zaq ⟨n,r,rfl,rfl,⟨k+ZA5 n,⟨Xa,hdr,Zaa.Zal Xe,hS,h.x.bump.set h.lo,h.lo⟩⟩,Xe,fun i o hi ho=>?_⟩
  rw[Zaa.Zah hi,Zaa.ZaB];exact ho
open Go.RowKit Go.Lib
theorem RdX.pre {E:Zaa} {id:Nat} {S r:Tx} {H G:Zaa} {n:Nat} (h:RdX E id S r (H.bump n) G):RdX E id S r H G:=⟨h.1,by have:=h.2.1;simp only[nx]at this;omega,fun i o hi hg=>h.2.2 i o hi (by rw[Zaa.ZaB];exact hg)⟩
theorem RdX.post {E:Zaa} {id:Nat} {S r:Tx} {H G:Zaa} {n:Nat} (h:RdX E id S r H G):RdX E id S r H (G.bump n):=by
 obtain⟨⟨k,h1⟩,h2,h3⟩:=h
 exact⟨⟨k,h1.bump n⟩,Xe,fun i o hi hg=>by rw[Zaa.ZaB];exact h3 i o hi hg⟩
theorem ZHq {E:Zaa} {id:Nat} {S:Tx} {k:Nat} {b:Tx} {H:Zaa} {B:Prop} (most:Nat) (hm:most<=1000000) (h:RdS E id S k b H) (hB:gNum most b=none->B):Zay (RP E id S B) 42 [.ptr id 0,.i (most:Int)] H (RdQ E id S H (gNum most b) fun n=>.i (n:Int)):=by
 have d2:decide ((most:Int)<0)=false:=Xc
 have hw:=u64n most Xa
 have hnum:=fun k1=>ZIb (B:=B) (h.bump k1) fun e=>hB (by unfold gNum;rw[e])
 refine fnQ cf42 fun Q qr qn=>?_
 refine Bz0 ?_
 refine qcp (ZHY h) fun k1=>?_
 refine Bz0 ?_
 refine Zap.use (hnum k1) ?_
 rintro _ G ⟨n,r,hn,rfl,hX⟩
 have hX:=hX.pre
 obtain⟨⟨k',h'⟩,hnx,hold⟩:=hX
 have hg:gNum most b=if n<=most then some (n,r) else none:=by unfold gNum;rw[hn]
 by_cases hle:n<=most
 ·have d3:decide ((n:Int) > (most:Int))=false:=by simp;omega
  have hw2:IntKind.i64.wrap (n:Int)=(n:Int):=Zaw Xa Xa
  rw[if_pos hle]at hg
  refine Bz1 (X4 d2 d3 hw hw2) ?_
  exact Zaq ⟨n,r,hg,rfl,⟨k',h'⟩,hnx,hold⟩
 ·have d3:decide ((n:Int) > (most:Int))=true:=by simp;omega
  rw[if_neg hle]at hg
  refine Bz1 (X3 d2 d3 hw) ?_
  exact Zap.use (ZwN _ _ _ (ZJh h' Xb (hB hg))) fun _ _ h=>h.elim
theorem xor_all (m:Nat) (h:m<=9223372036854775807):IntKind.i64.wrap ((BitVec.ofInt IntKind.i64.bits (if IntKind.i64.signed=true then -1 else IntKind.i64.max) ^^^ BitVec.ofInt IntKind.i64.bits (m:Int)).toNat:Int) = -(m:Int) - 1:=by
 have e1:(BitVec.ofInt IntKind.i64.bits (if IntKind.i64.signed=true then -1 else IntKind.i64.max) ^^^ BitVec.ofInt IntKind.i64.bits (m:Int)).toNat=18446744073709551615 - m:=by
  have e0:(if IntKind.i64.signed=true then (-1:Int) else IntKind.i64.max) = -1:=rfl
  rw[e0]
  show(BitVec.ofInt 64 (-1) ^^^ BitVec.ofInt 64 (m:Int)).toNat=_
  have h1:BitVec.ofInt 64 (-1)=BitVec.allOnes 64:=Xb
  rw[h1,BitVec.ofInt_natCast,BitVec.allOnes_xor,BitVec.toNat_not,za8,zaT (by show m<18446744073709551616;omega)]
 rw[e1]
 rw[IntKind.wrap_i64]
 omega
theorem ZLp (n:Nat) (hn:n<18446744073709551616) (H:Zaa):Zay Tryz.prog 131 [uN n] H (Pure H (.i (ZLd n))):=by
 have n1:¬((1:Int)<0):=Xb
 have t1:(1:Int).toNat=1:=rfl
 have hsh:((n:Int)).fdiv (2 ^ min 1 IntKind.u64.bits)=((n / 2:Nat):Int):=by rw[ZEr];exact ZGL n 1 Xa
 have hw:IntKind.i64.wrap ((n / 2:Nat):Int)=((n / 2:Nat):Int):=Zaw Xa Xa
 have ha:IntKind.u64.wrap ((BitVec.ofInt IntKind.u64.bits (n:Int) &&& BitVec.ofInt IntKind.u64.bits 1).toNat:Int)=((n % 2:Nat):Int):=by
  have e:(BitVec.ofInt IntKind.u64.bits (n:Int) &&& BitVec.ofInt IntKind.u64.bits 1).toNat=n % 2:=by
   show(BitVec.ofInt 64 (n:Int) &&& BitVec.ofInt 64 1).toNat=_
   have h2:BitVec.ofInt 64 1=BitVec.ofNat 64 1:=rfl
   rw[BitVec.ofInt_natCast,h2,BitVec.toNat_and,za8,za8,zaT (show n<2 ^ 64 from hn)]
   exact Nat.and_one_is_mod n
  rw[e,ZB9 Xa Xa]
 unfold ZLd
 by_cases h0:n % 2=0
 ·have d:(((n % 2:Nat):Int) == 1)=false:=by rw[h0];rfl
  rw[if_pos h0]
  refine fnQ cf131 fun Q qr qn=>?_
  refine Bz1 (X6 n1 t1 hsh hw ha d) ?_
  refine Zaz (by rfl)
 ·have d:(((n % 2:Nat):Int) == 1)=true:=by rw[show n % 2=1 by omega];rfl
  have hx:=xor_all (n / 2) Xa
  rw[if_neg h0]
  refine fnQ cf131 fun Q qr qn=>?_
  refine Bz1 (X7 n1 t1 hsh hw ha d hx) ?_
  refine Zaz (by rfl)
theorem ZJC {E:Zaa} {id:Nat} {S:Tx} {k:Nat} {b:Tx} {H:Zaa} {B:Prop} (h:RdS E id S k b H) (hB:gInt b=none->B):Zay (RP E id S B) 88 [.ptr id 0] H (RdQ E id S H (gInt b) fun n=>.i n):=by
 have hnum:=fun k1=>ZIb (B:=B) (h.bump k1) fun e=>hB (by unfold gInt;rw[e];rfl)
 refine fnQ cf88 fun Q qr qn=>?_
 refine Bz0 ?_
 refine qcp (ZHY h) fun k1=>?_
 refine Bz0 ?_
 refine Zap.use (hnum k1) ?_
 rintro _ G ⟨n,r,hn,rfl,hX⟩
 have hX:=hX.pre
 have hlt:=(ZHX hn).1
 refine Bz0 ?_
 refine qcp ((ZLp n hlt _).up) fun k2=>?_
 refine Bz0 ?_
 exact Zaq ⟨ZLd n,r,by unfold gInt;rw[hn];rfl,rfl,hX.post⟩
def gFix (n:Nat) (b:Tx):Option (Tx×Tx):=if n<=b.length then some (b.take n,b.drop n) else none
theorem ZJS {E:Zaa} {id:Nat} {S:Tx} {k:Nat} {b:Tx} {H:Zaa} {B:Prop} (n:Nat) (hn:n<=1000000) (h:RdS E id S k b H) (hB:gFix n b=none->B):Zay (RP E id S B) 124 [.ptr id 0,.i (n:Int)] H (RdQ E id S H (gFix n b) eS):=by
 have hg:=h.g
 have hl:=h.len
 have hk:=h.kl
 have hS:=h.l
 have hid:=Zaa.lt hg
 have d2:decide ((n:Int)<0)=false:=Xc
 have w1:IntKind.i64.wrap ((S.length:Int) - (k:Int))=(b.length:Int):=by rw[Zaw Xa Xa];omega
 have hz:(0:Int)<=(k:Int):=Xa
 have hkt:((k:Int)).toNat=k:=Xa
 have hg2:∀m,(H.bump m).get id=some (rdT S k):=fun m=>by rw[Zaa.ZaB];exact hg
 unfold gFix at hB ⊢
 by_cases hle:n<=b.length
 ·have d3:decide ((b.length:Int)<(n:Int))=false:=by simp;omega
  have w2:IntKind.i64.wrap ((k:Int)+(n:Int))=((k+n:Nat):Int):=by rw[Zaw Xa Xa];omega
  have hz2:(0:Int)<=((k+n:Nat):Int):=Xa
  have hkt2:(((k+n:Nat):Int)).toNat=k+n:=Xa
  have hb1:k<=k+n:=Xa
  have hb2:k+n<=S.length:=Xa
  have e1:(⟨S.toArray⟩:ByteArray).extract k (k+n)=⟨(b.take n).toArray⟩:=by
   apply zbi
   simp only[za6,zbC,List.extract_eq_take_drop]
   rw[h.bd,zbM]
  rw[if_pos hle]
  refine fnQ cf124 fun Q qr qn=>?_
  refine Bz0 ?_
  refine qcp (ZHY h) fun k1=>?_
  refine Bz6 (X12 hg hg2 d2 d3 w1 w2 hz hkt hz2 hkt2 hb1 (X2 hb2 e1)) ?_
  refine Zaq ⟨b.take n,b.drop n,rfl,rfl,⟨k+n,⟨hb2,by rw[<- zbd,h.bd],Zaa.Zal Xe,hS,h.x.bump.set h.lo,h.lo⟩⟩,Xe,fun i o hi ho=>?_⟩
  rw[Zaa.Zah hi,Zaa.ZaB];exact ho
 ·have d3:decide ((b.length:Int)<(n:Int))=true:=by simp;omega
  rw[if_neg hle]at hB ⊢
  refine fnQ cf124 fun Q qr qn=>?_
  refine Bz0 ?_
  refine qcp (ZHY h) fun k1=>?_
  refine Bz1 (X5 hg hg2 d2 d3 w1) ?_
  exact Zap.use (ZwN _ _ _ (ZJh (h.bump k1) Xb (hB rfl))) fun _ _ h=>h.elim
theorem gTxt_eq (most:Nat) (b:Tx):gTxt most b=match gNum most b with
  | some (n,r)=>gFix n r
  | none=>none:=by
 unfold gTxt gFix
 rfl
theorem ZHB {E:Zaa} {id:Nat} {S:Tx} {k:Nat} {b:Tx} {H:Zaa} {B:Prop} (most:Nat) (hm:most<=1000000) (h:RdS E id S k b H) (hB:gTxt most b=none->B):Zay (RP E id S B) 77 [.ptr id 0,.i (most:Int)] H (RdQ E id S H (gTxt most b) eS):=by
 rw[gTxt_eq]at hB ⊢
 refine fnQ cf77 fun Q qr qn=>?_
 refine Bz0 ?_
 refine Zap.use (ZHq most hm h fun e=>hB (by rw[e])) ?_
 rintro _ G ⟨n,r,hn,rfl,hX⟩
 have hle:=(ZHr hn).1
 have hXc:=hX
 obtain⟨⟨k',h'⟩,_⟩:=hXc
 rw[hn]at hB
 simp only[hn]at qr qn
 refine Bz0 ?_
 refine Zap.use (ZJS n Xa h' hB) ?_
 rintro _ G2 ⟨t,r2,ht,rfl,hX2⟩
 refine Bz0 ?_
 exact Zaq ⟨t,r2,ht,rfl,hX.trans hX2⟩
theorem ZHM {pan:Value->Zaa->Prop} {E:Zaa} {id:Nat} {S:Tx} {k:Nat} {b:Tx} {H:Zaa} (e:Int) (h:RdS E id S k b H):Zay ⟨Tryz.prog,pan⟩ 74 [.ptr id 0,.b true,.i e] H (Pure H (.tup [])):=by
 refine fnQ cf74 fun Q qr qn=>?_
 refine Bz0 ?_
 refine qcp (ZHY h) fun k1=>?_
 refine Bz0 ?_
 exact Zaq ⟨rfl,_,rfl⟩
theorem ZHV {E:Zaa} {id:Nat} {S:Tx} {k:Nat} {b:Tx} {H:Zaa} {B:Prop} (e:Int) (h:RdS E id S k b H) (hB:B):Zay (RP E id S B) 74 [.ptr id 0,.b false,.i e] H (fun _ _=>False):=by
 by_cases he:e=0
 ·subst he
  have d:((0:Int) == 0)=true:=rfl
  refine fnQ cf74 fun Q qr qn=>?_
  refine Bz0 ?_
  refine qcp (ZHY h) fun k1=>?_
  refine Bz1 (X1 d) ?_
  exact Zap.use (ZwN _ _ _ (ZJh (h.bump k1) Xb hB)) fun _ _ h=>h.elim
 ·have d:(e == 0)=false:=by simpa using he
  refine fnQ cf74 fun Q qr qn=>?_
  refine Bz0 ?_
  refine qcp (ZHY h) fun k1=>?_
  refine Bz1 (X1 d) ?_
  exact Zap.use (ZwN _ _ _ (ZJh (h.bump k1) he hB)) fun _ _ h=>h.elim
open Go.RowKit Go.Lib
theorem ZHE {α:Type} (f:List α->Tx->Option (α×Tx)) (n:Nat) (acc:List α) (b:Tx):ZHu f (n+1) acc b=match f acc b with
  | some (a,r)=>ZHu f n (acc++[a]) r
  | none=>none:=by
 rw[ZHu]
 cases f acc b<;>rfl
theorem ZIp {α:Type} {E:Zaa} {id:Nat} {S:Tx} {H G:Zaa} {o:Option (α×Tx)} {enc:α->AV} {a:α} {r:Tx} {v:AV} (ho:o=some (a,r)) (hw:Wkn v (enc a)) (hX:RdX E id S r H G):∃r2 H2,Zb6 v G r2 H2/\RdQ E id S H o enc r2 H2:=by
 refine⟨_,_,Zb6.wkn hw (Zaa.Ext.refl G),a,r,ho,rfl,?_⟩
 exact hX.post
theorem RdX.alloc {E:Zaa} {id:Nat} {S r:Tx} {H G:Zaa} {o:Zb3} (hid:id<H.next) (h:RdX E id S r H G):RdX E id S r H (G.alloc o):=by
 obtain⟨⟨k,h1,h2,h3,h4,h5,h6⟩,hn,ho⟩:=h
 refine⟨⟨k,h1,h2,by rw[Zaa.Zag Xa];exact h3,h4,h5.alloc,h6⟩,Xe,fun i p hi hg=>?_⟩
 have:=Zaa.lt hg
 rw[Zaa.Zag Xa];exact ho i p hi hg
theorem RdX.set {E:Zaa} {id:Nat} {S r:Tx} {H G:Zaa} {t:Nat} {o:Zb3} (hid:id<H.next) (ht:H.next<=t) (h:RdX E id S r H G):RdX E id S r H (G.set t o):=by
 obtain⟨⟨k,h1,h2,h3,h4,h5,h6⟩,hn,ho⟩:=h
 refine⟨⟨k,h1,h2,by rw[Zaa.Zah Xa];exact h3,h4,h5.set Xa,h6⟩,Xe,fun i p hi hg=>?_⟩
 have:=Zaa.lt hg
 rw[Zaa.Zah Xa];exact ho i p hi hg
theorem ZIE {E:Zaa} {id:Nat} {S:Tx} {k:Nat} {b:Tx} {H:Zaa} {B:Prop} (most:Nat) (hm:most<=10000) (h:RdS E id S k b H) (hB:gRow most b=none->B):Zay (RP E id S B) 91 [.ptr id 0,.i (most:Int)] H (RdQ E id S H (gRow most b) fun l=>.sl .no (rS l)):=by
 have hid:=Zaa.lt h.g
 unfold gRow at hB ⊢
 refine fnQ cf91 fun Q qr qn=>?_
 refine Bz0 ?_
 refine Zap.use (ZHq most Xa h fun e=>hB (by rw[e])) ?_
 rintro _ G ⟨n,r0,hn,rfl,hX⟩
 have hle:=(ZHr hn).1
 rw[hn]at hB
 simp only[hn]at qr qn
 have hB:ZHu gTrm n [] r0=none->B:=hB
 generalize ho:ZHu gTrm n [] r0=o at *
 refine Bz0 ?_
 refine ZbJ (N:=n) (fun i F G=>Fr.get F 12=.i (i:Int)/\Fr.get F 11=.i (n:Int)/\Fr.get F 0=.ptr id 0/\∃acc tok r,acc.length=i/\ZHu gTrm (n - i) acc r=o/\Fr.get F 6=eS (ZGI [] acc)/\(ZGI [] acc).length<=16/\Fr.get F 5=.sl tok (rS acc)/\ZCe H.next G 9 1 i tok/\RdX E id S r H G) Xd (fun k F G h=>⟨h.1,h.2.1⟩) (GStep.refl _ _) ⟨rfl,rfl,rfl,[],.full,r0,rfl,ho,rfl,by simp[ZGI],rfl,.inl rfl,hX⟩ ?_ ?_
 ·rintro i F G hi ⟨f12,f11,f0,acc,tok,r,hal,hro,f6,hwl,f5,hT,hX⟩
  rw[show n - i=(n - (i+1))+1 by omega,ZHE]at hro
  have hsn:∀t,rS acc++[[eS t]]=rS (acc++[t]):=fun t=>by simp
  have hrl:(rS acc).length=i:=by simp[hal]
  have hall:ZaE 1 (rS acc)=true:=ZaU (f:=fun s:Tx=>[eS s]) (sz:=1) (fun _=>rfl) _
  have hls:∀t,ZGI [] (acc++[t])=t:=fun t=>ZEL acc [] t
  unfold gTrm at hro
  generalize hW:ZGI [] acc=w at *
  generalize hR0:rS acc=R0 at *
  have hXc:=hX
  obtain⟨⟨k1,h1⟩,hnx1,hold1⟩:=hXc
  have hw1:=ZCE (s:=i) Xa
  skip
  refine Bz1 (X5 f12 f11 f0 f6 f5) ?_
  refine Zap.use (ZHq w.length Xa h1 fun e=>hB (by rw[<- hro,e])) ?_
  rintro _ G2 ⟨c,r1,hc,rfl,hX2⟩
  have hcw:=(ZHr hc).1
  rw[hc]at hro
  simp only at hro
  have hX2':=hX.trans hX2
  have hXc:=hX2
  obtain⟨⟨k2,h2⟩,hnx2,hold2⟩:=hXc
  have hcz:(0:Int)<=(c:Int):=Xa
  have hctn:((c:Int)).toNat=c:=Xa
  have hc0:0<=c:=zas _
  have e1:=ZCa w c
  refine Bz6 (X10 f12 f11 f0 f6 f5 hcz hctn hc0 hcw e1) ?_
  refine Zap.use (ZHB 16 Xa h2 fun e=>hB (by rw[<- hro,e])) ?_
  rintro _ G3 ⟨s,r2,hs,rfl,hX3⟩
  have hsl:=(ZH4 hs).1
  rw[hs]at hro
  simp only at hro
  have hX3':=hX2'.trans hX3
  have hXc:=hX3
  obtain⟨⟨k3,h3⟩,hnx3,hold3⟩:=hXc
  have hap:=Zz9 (w.take c) s
  have htl:(w.take c).length<=16:=by rw[zau];omega
  have hml:(w.take c).length+s.length<=maxLen:=ZAp Xa
  have hsl2:(w.take c++s).length<=32:=by rw[zaa];omega
  generalize hwc:w.take c=wc at *
  generalize hts:wc++s=t at *
  have hsh:∀H,Zay (RP E id S B) 137 [eS w,eS t] H (Pure H (.i (ZB1 w t:Nat))):=fun H=>(ZEo w t H Xa).up
  have dE:((0:Int) == 0)=true:=rfl
  have d2:((2:Int) == 0)=false:=rfl
  have no:o=none->∀{G k},RdS E id S k r2 G->Zay (RP E id S B) 74 [.ptr id 0,.b false,.i 3] G (fun _ _=>False):=fun hn G k h=>ZHV 3 h (hB hn)
  refine Bz1 (X7 f12 f11 f0 f6 f5 hap hml) ?_
  by_cases hi1:isT t=true
  ·have hck:∀H,Zay (RP E id S B) 87 [eS t] H (Pure H (.i 0)):=fun H=>by
    have:=(Zhs t H).up (pan:=(RP E id S B).pan)
    rw[if_pos hi1]at this
    exact this
   refine qcp (hck _) fun k4=>?_
   refine Bz1 (X6 f12 f11 f0 f6 f5 dE) ?_
   refine qcp (hsh _) fun k5=>?_
   by_cases hi2:ZB1 w t=c
   ·have dc:(((ZB1 w t:Nat):Int) == (c:Int))=true:=by simp[hi2]
    by_cases hi3:w<t
    ·have dn1:decide (t<w)=false:=decide_eq_false fun h=>absurd (zbG h hi3) (zbl _)
     have dn2:decide (t=w)=false:=decide_eq_false fun h=>by rw[h]at hi3;exact zbl _ hi3
     rw[if_pos ⟨hi1,hi3,hi2⟩]at hro
     simp only at hro
     refine Bz1 (X11 f12 f11 f0 f6 f5 dc dn1 dn2 bytesLess_eq Bool.or_self Bool.not_false) ?_
     refine qcp (ZHM 3 ((h3.bump k4).bump k5)) fun k6=>?_
     have hX6:=((hX3'.post (n:=k4)).post (n:=k5)).post (n:=k6)
     have hXg:=(((hX2.trans hX3).post (n:=k4)).post (n:=k5)).post (n:=k6)
     obtain⟨_,hnxg,holdg⟩:=hXg
     generalize ((G3.bump k4).bump k5).bump k6=G6 at *
     have hal2:ZaE 1 [[eS t]]=true:=rfl
     have hm1:i+1<=maxLen:=ZAp Xa
     have hm2:(i+1) * 16<=140737488355328:=Xa
     have hsn:=hsn t
     have hls:=hls t
     obtain⟨⟨k7,h7⟩,hnx7,hold7⟩:=hX6
     have htl2:t.length<=16:=by unfold isT at hi1;simp at hi1;omega
     rcases hT with rfl|⟨t',ht,rfl,hgt⟩
     ·refine Bz1 (X12 f12 f11 f0 f6 f5 hrl hall hal2 hm1 hm2 hsn hw1) ?_
      exact⟨acc++[t],.own G6.next,r2,by simp[hal],hro,by rw[hls],by rw[hls];exact htl2,rfl,.inr ⟨G6.next,Xa,rfl,Zaa.Zae⟩,RdX.alloc hid ⟨⟨k7,h7⟩,hnx7,hold7⟩⟩
     ·have hgt6:=holdg t' _ Xa hgt
      refine Bz1 (X12 f12 f11 f0 f6 f5 hrl hall hal2 hm1 hm2 hsn (X2 hw1 hgt6)) ?_
      exact⟨acc++[t],.own t',r2,by simp[hal],hro,by rw[hls],by rw[hls];exact htl2,rfl,.inr ⟨t',ht,rfl,Zaa.Zal (Zaa.lt hgt6)⟩,RdX.set hid ht ⟨⟨k7,h7⟩,hnx7,hold7⟩⟩
    ·rw[if_neg (fun h=>hi3 h.2.1)]at hro
     have dn:(decide (t<w) || decide (t=w))=true:=by rw[tle];simp[hi3]
     refine Bz1 (X9 f12 f11 f0 f6 f5 dc dn bytesLess_eq zbO) ?_
     exact Zap.use (no hro.symm ((h3.bump k4).bump k5)) fun _ _ h=>h.elim
   ·have dc:(((ZB1 w t:Nat):Int) == (c:Int))=false:=by simp only[beq_eq_false_iff_ne];omega
    rw[if_neg (fun h=>hi2 h.2.2)]at hro
    refine Bz1 (X6 f12 f11 f0 f6 f5 dc) ?_
    exact Zap.use (no hro.symm ((h3.bump k4).bump k5)) fun _ _ h=>h.elim
  ·have hck:∀H,Zay (RP E id S B) 87 [eS t] H (Pure H (.i 2)):=fun H=>by
    have:=(Zhs t H).up (pan:=(RP E id S B).pan)
    rw[if_neg hi1]at this
    exact this
   rw[if_neg (fun h=>hi1 h.1)]at hro
   refine qcp (hck _) fun k4=>?_
   refine Bz1 (X6 f12 f11 f0 f6 f5 d2) ?_
   exact Zap.use (no hro.symm (h3.bump k4)) fun _ _ h=>h.elim
 ·rintro F G ⟨f12,f11,f0,acc,tok,r,hal,hro,f6,hwl,f5,hT,hX⟩
  rw[zaY,ZHu]at hro
  skip
  refine Bz1 (X1 f5) ?_
  exact ZIp hro.symm (Zfm _ _) hX
end Go.Proofs.YtdfgoekdlmkdfaaGreatDoor
