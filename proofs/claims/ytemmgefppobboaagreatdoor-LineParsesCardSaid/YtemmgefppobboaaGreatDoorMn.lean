/- Texts of the walk. -/
import Derived.Test.YtemmgefppobboaaGreatDoorMm
import Derived.Test.YtemmgefppobboaaGreatDoorMk
import Derived.Test.YtemmgefppobboaaGreatDoorMd
namespace Go.Proofs.YtemmgefppobboaaGreatDoor
set_option linter.defProp false
set_option linter.unusedSimpArgs false
set_option linter.unusedVariables false
open Go.RowKit Go.Lib
theorem be_get:∀(j n i:Nat),i<j->(beB j n)[i]?=some (UInt8.ofNat (n / 256 ^ (j - 1 - i)))
 | 0,_,_,h=>by omega
 | j+1,n,0,_=>by simp[beB]
 | j+1,n,i+1,h=>by
  have:=be_get j n i (by omega)
  rw[beB,List.getElem?_cons_succ,this,show j+1 - 1 - (i+1)=j - 1 - i by omega]
theorem ZDh:∀a b:Fin 10,1<=a.val->a.val<=b.val->ZBa a.val<=ZBa b.val/\(b.val<9->ZBa b.val+2 ^ (8 - b.val)=ZBa (b.val+1))/\ZBa b.val<=255:=by decide +kernel
theorem put_head {n:Nat} (hn:n<18446744073709551616):(UInt8.ofNat (ZBa (ZA5 n)+n / 256 ^ (ZA5 n - 1))).toNat=ZBa (ZA5 n)+n / 256 ^ (ZA5 n - 1)/\(ZA5 n<9->ZBa (ZA5 n)+n / 256 ^ (ZA5 n - 1)<ZBa (ZA5 n+1)):=by
 obtain⟨h1,h9⟩:=ZA7 n
 obtain⟨a,b⟩:=ZD2 h1 h9 (ZC3 (n:=n)) hn
 generalize n / 256 ^ (ZA5 n - 1)=q at *
 generalize ZA5 n=s at *
 obtain⟨_,m2,m3⟩:=ZDh ⟨s,by omega⟩ ⟨s,by omega⟩ h1 (zae _)
 simp only at m2 m3
 have:ZBa s+q<256/\(s<9->ZBa s+q<ZBa (s+1)):=by
  by_cases h:s<9
  ·have h2:=a h
   have h3:=m2 h
   have h4:ZBa (s+1)<=256:=Nat.sub_le _ _
   exact⟨by omega,fun _=>by omega⟩
  ·have h2:=b (by omega)
   exact⟨by omega,fun h'=>absurd h' h⟩
 refine⟨?_,this.2⟩
 rw[UInt8.toNat_ofNat']
 omega
set_option maxHeartbeats 4000000 in
theorem take_in {Q:AEx->Fr->Zaa->Prop} {F:Fr} {H G:Zaa} {n:Nat} {rest:Tx} (hn:n<18446744073709551616) (hl:(ZA2 n++rest).length<=1000000)
  (f0:Fr.get F 0=eS (ZA2 n++rest)) (f5:Fr.get F 5=.i (ZA5 n:Int)) (f6:Fr.get F 6=uN (n / 256 ^ (ZA5 n - 1))) (f7:Fr.get F 7=.i 1) (hx0:Zaa.Ext H G)
  (hQ:∀F' G',Zaa.Ext H G'->Fr.get F' 0=eS (ZA2 n++rest)->Fr.get F' 5=.i (ZA5 n:Int)->Fr.get F' 6=uN n->Q .normal F' G'):AW Tryz.prog c160_2 Q F G:=by
 have qr:=trivial
 have qn:=trivial
 obtain⟨h1,h9⟩:=ZA7 n
 have hpl:=ZA3 n
 have hgt:∀i,i+1<ZA5 n->(ZA2 n++rest)[i+1]?=some (UInt8.ofNat (n / 256 ^ (ZA5 n - 1 - 1 - i))):=fun i hi=>by
  rw[zaV (by omega),ZA2,List.getElem?_cons_succ]
  exact be_get _ _ _ (by omega)
 generalize ZA2 n++rest=S at *
 generalize ZA5 n=s at *
 refine ZBA (fun m F G=>∃i,m+i+1=s/\Fr.get F 7=.i ((i+1:Nat):Int)/\Fr.get F 0=eS S/\Fr.get F 5=.i (s:Int)/\Fr.get F 6=uN (n / 256 ^ (s - 1 - i))/\Zaa.Ext H G) (s - 1) (GStep.refl _ _) ⟨0,by omega,f7,f0,f5,f6,hx0⟩ ?_
 rintro m F G ⟨i,hm,f7,f0,f5,f6,hx⟩
 cases m with
 | succ m =>
  have d1:decide (((i+1:Nat):Int)<(s:Int))=true:=by simp;omega
  have hz:(0:Int)<=((i+1:Nat):Int):=by omega
  have hw:=ZCE (s:=i+1) (by omega)
  have hg:=hgt i (by omega)
  have e1:s - 1 - i=(s - 1 - 1 - i)+1:=by omega
  rw[e1,dv]at f6
  have hx2:n / 256 ^ (s - 1 - 1 - i)<=n:=zb1 _ _
  have hnext:n / 256 ^ (s - 1 - (i+1))=n / 256 ^ (s - 1 - 1 - i):=by congr 2;omega
  have hb:=Zy6 S (i+1)
  rw[hg]at hb
  generalize n / 256 ^ (s - 1 - 1 - i)=x at *
  have hc:(UInt8.ofNat x).toNat=x % 256:=by rw[UInt8.toNat_ofNat']
  have w1:IntKind.u64.wrap (((x / 256:Nat):Int) * 256)=((x / 256 * 256:Nat):Int):=by rw[ZB9 (by omega) (by omega)];omega
  have w2:IntKind.u64.wrap ((UInt8.ofNat x).toNat:Int)=((x % 256:Nat):Int):=by rw[hc,ZB9 (by omega) (by omega)]
  have w3:IntKind.u64.wrap (((x / 256 * 256:Nat):Int)+((x % 256:Nat):Int))=(x:Int):=by rw[ZB9 (by omega) (by omega)];omega
  generalize UInt8.ofNat x=c at *
  skip
  have hZ:=an7 f7<|an7 f0<|an7 f5<|an7 f6<|an7 d1<|an7 hz<|an7 hw<|an7 hb<|an7 w1<|an7 w2<|w3;refine Bz1 ?_
  exact⟨m,by omega,i+1,by omega,rfl,by rw[hnext],hx⟩
 | zero =>
  obtain rfl:s=i+1:=by omega
  have d1:decide (((i+1:Nat):Int)<((i+1:Nat):Int))=false:=by simp
  have e1:n / 256 ^ (i+1 - 1 - i)=n:=by rw[show i+1 - 1 - i=0 by omega];simp
  rw[e1]at f6
  skip
  have hZ:=an7 f7<|an7 f5<|d1;refine Bz1 ?_
  exact hQ _ _ hx (by simpa [Fr.get] using f0) (by simpa [Fr.get] using f5) (by simpa [Fr.get] using f6)
set_option maxHeartbeats 8000000 in
theorem ZFF (n:Nat) (rest:Tx) (H:Zaa) (hn:n<18446744073709551616) (hl:(ZA2 n++rest).length<=1000000):Zay Tryz.prog 160 [eS (ZA2 n++rest)] H (Pure H (.tup [uN n,.i (ZA5 n:Int),.b true])):=by
 obtain⟨h1,h9⟩:=ZA7 n
 have hpl:=ZA3 n
 have hh:=put_head hn
 have hlen:ZA5 n<=(ZA2 n++rest).length:=by rw[zab];omega
 have hS0:(ZA2 n++rest)[0]?=some (UInt8.ofNat (ZBa (ZA5 n)+n / 256 ^ (ZA5 n - 1))):=rfl
 have htk:(ZA2 n++rest).take (ZA5 n)=ZA2 n:=zbz hpl
 have hin:=fun(Q:AEx->Fr->Zaa->Prop) F H G=>take_in (Q:=Q) (F:=F) (H:=H) (G:=G) (n:=n) (rest:=rest) hn hl
 obtain⟨hd1,hd2⟩:=hh
 generalize UInt8.ofNat (ZBa (ZA5 n)+n / 256 ^ (ZA5 n - 1))=hb at *
 have hb256:hb.toNat<256:=hb.toNat_lt
 have hb0:=Zy6 (ZA2 n++rest) 0
 rw[hS0]at hb0
 obtain⟨hq1,hq2⟩:=ZD2 h1 h9 (ZC3 (n:=n)) hn
 have hput:=fun H=>ZCg n H hn
 generalize hQ0:n / 256 ^ (ZA5 n - 1)=q at *
 have hqn:q<=n:=by rw[<- hQ0];exact zb1 _ _
 generalize hPB:ZA2 n=PB at *
 generalize PB++rest=S at *
 generalize ZA5 n=s at *
 refine Zak hE cf160 (zaa rfl) fun Q qr qn=>?_
 refine Bz0 ?_
 refine ZBA (fun m F G=>∃k,m+k=s/\1<=k/\Fr.get F 5=.i (k:Int)/\Fr.get F 0=eS S/\Zaa.Ext H G) (s - 1) (GStep.refl _ _) ⟨1,by omega,by omega,rfl,rfl,.refl _⟩ ?_
 rintro m F G ⟨k,hm,hk1,f5,f0,hx⟩
 have hkS:k<=S.length:=by omega
 have d0:decide ((k:Int)<=9)=true:=by simp;omega
 have d1:decide ((S.length:Int)<(k:Int))=false:=by simp;omega
 have hz0:(0:Int)<=0:=za9 _
 have hwb:IntKind.i64.wrap ((hb.toNat:Nat):Int)=((hb.toNat:Nat):Int):=Zaw (by omega) (by omega)
 have hlk:=ZCc k hk1 (by omega)
 obtain⟨m1,_,_⟩:=ZDh ⟨k,by omega⟩ ⟨s,by omega⟩ hk1 (by simp;omega)
 simp only at m1
 have d2:decide (((hb.toNat:Nat):Int)<((ZBa k:Nat):Int))=false:=by simp;omega
 have hw:=ZCE (s:=k) (by omega)
 cases m with
 | succ m =>
  have d3:decide ((k:Int)<9)=true:=by simp;omega
  have hlk2:=ZCc (k+1) (by omega) (by omega)
  obtain⟨m2,_,_⟩:=ZDh ⟨k+1,by omega⟩ ⟨s,by omega⟩ (by simp) (by simp;omega)
  simp only at m2
  have d4:decide (((hb.toNat:Nat):Int)≥((ZBa (k+1):Nat):Int))=true:=by rw[decide_eq_true_iff];omega
  skip
  have hZ:=an7 f5<|an7 f0<|an7 d0<|an7 d1<|an7 hz0<|an7 hb0<|hwb;refine Bz1 ?_
  refine qcp (hlk _) fun k1=>?_
  have hZ:=an7 f5<|an7 f0<|an7 d0<|an7 d1<|an7 d2<|an7 d3<|an7 hz0<|an7 hb0<|an7 hwb<|hw;refine Bz1 ?_
  refine qcp (hlk2 _) fun k2=>?_
  have hZ:=an7 f5<|an7 f0<|an7 d0<|an7 d1<|an7 d2<|an7 d3<|an7 d4<|hw;refine Bz1 ?_
  exact⟨m,by omega,k+1,by omega,by omega,rfl,hx.bump.bump⟩
 | zero =>
  obtain rfl:k=s:=by omega
  have hlk2:=ZCc (k+1) (by omega)
  have hqs:((hb.toNat:Nat):Int) - ((ZBa k:Nat):Int)=(q:Int):=by omega
  have hwq:IntKind.i64.wrap (((hb.toNat:Nat):Int) - ((ZBa k:Nat):Int))=(q:Int):=by rw[hqs];exact Zaw (by omega) (by omega)
  have hwu:IntKind.u64.wrap (q:Int)=(q:Int):=ZB9 (by omega) (by omega)
  have hkz:(0:Int)<=(k:Int):=by omega
  have hkt:((k:Int)).toNat=k:=by omega
  have hk0:0<=k:=zaA _
  have hbd:(0<=k/\k<=S.length)=True:=by rw[eq_iff_iff,iff_true];omega
  have e1:=ZCa S k
  rw[htk]at e1
  have dd:decide (PB=PB)=true:=decide_eq_true rfl
  by_cases hk9:k<9
  ·have d3:decide ((k:Int)<9)=true:=by simp;omega
   have:=hd2 hk9
   have d4:decide (((hb.toNat:Nat):Int)≥((ZBa (k+1):Nat):Int))=false:=by rw[decide_eq_false_iff_not];omega
   skip
   have hZ:=an7 f5<|an7 f0<|an7 d0<|an7 d1<|an7 hz0<|an7 hb0<|hwb;refine Bz1 ?_
   refine qcp (hlk _) fun k1=>?_
   have hZ:=an7 f5<|an7 f0<|an7 d0<|an7 d1<|an7 d2<|an7 d3<|an7 hz0<|an7 hb0<|an7 hwb<|hw;refine Bz1 ?_
   refine qcp (hlk2 (by omega) _) fun k2=>?_
   have hZ:=an7 f5<|an7 f0<|an7 d0<|an7 d1<|an7 d2<|an7 d3<|an7 d4<|an7 hz0<|an7 hb0<|hwb;refine Bz1 ?_
   refine qcp (hlk _) fun k3=>?_
   have hZ:=an7 f5<|an7 f0<|an7 hwq<|hwu;refine Bz1 ?_
   refine hin _ _ H _ f0 f5 rfl rfl hx.bump.bump.bump ?_
   intro F1 G1 hx1 f0 f5 f6
   ((have hd:=tv;repeat' first|(first|apply Zad|apply Zac|apply Zab)<;>intro hd<;>try simp only[hd]|simp(disch:=first|assumption|omega|simp only[nx]<;>omega|fail)only[hd,qr,qn,ZGs,↓YA,YY,sevalprocAttr,f0,f5,f6,Zdi,hkz,hkt,hbd,hk0,hkS,e1])<;>try revert hd;refine ttr ?_)
   refine qcp (hput _) fun k4=>?_
   have hZ:=an7 f0<|an7 f5<|an7 f6<|dd;refine Bz1 ?_
   exact ZaW hx1.bump rfl
  ·have d3:decide ((k:Int)<9)=false:=by simp;omega
   skip
   have hZ:=an7 f5<|an7 f0<|an7 d0<|an7 d1<|an7 hz0<|an7 hb0<|hwb;refine Bz1 ?_
   refine qcp (hlk _) fun k1=>?_
   have hZ:=an7 f5<|an7 f0<|an7 d0<|an7 d1<|an7 d2<|an7 d3<|an7 hz0<|an7 hb0<|an7 hwb<|hw;refine Bz1 ?_
   refine qcp (hlk _) fun k3=>?_
   have hZ:=an7 f5<|an7 f0<|an7 hwq<|hwu;refine Bz1 ?_
   refine hin _ _ H _ f0 f5 rfl rfl hx.bump.bump ?_
   intro F1 G1 hx1 f0 f5 f6
   ((have hd:=tv;repeat' first|(first|apply Zad|apply Zac|apply Zab)<;>intro hd<;>try simp only[hd]|simp(disch:=first|assumption|omega|simp only[nx]<;>omega|fail)only[hd,qr,qn,ZGs,↓YA,YY,sevalprocAttr,f0,f5,f6,Zdi,hkz,hkt,hbd,hk0,hkS,e1])<;>try revert hd;refine ttr ?_)
   refine qcp (hput _) fun k4=>?_
   have hZ:=an7 f0<|an7 f5<|an7 f6<|dd;refine Bz1 ?_
   exact ZaW hx1.bump rfl
open Go.RowKit Go.Lib
abbrev sR (S:Tx) (k:Nat):List AV:=[eS S,.i (k:Int),.i 0]
theorem ZEP {S:Tx} {k:Nat} {P rest:Tx} (h:S.drop k=P++rest):k+P.length<=S.length\/P=[]:=by
 by_cases hk:k<=S.length
 ·left
  have:=congrArg List.length h
  rw[zaC,zab]at this;omega
 ·right
  rw[zbs (by omega)]at h
  exact(List.append_eq_nil_iff.1 h.symm).1
theorem ZGq (n:Nat):ZA2 n≠[]:=by unfold ZA2;simp
theorem ZBg {S P rest:Tx} {k m:Nat} (h:S.drop k=P++rest) (hm:m=P.length):S.drop (k+m)=rest:=by
 rw[<- List.drop_drop,h,hm,List.drop_left]
set_option maxHeartbeats 8000000 in
theorem ZEF (S:Tx) (k n:Nat) (rest:Tx) (H:Zaa) (hS:S.length<=1000000) (hd:S.drop k=ZA2 n++rest) (hn:n<18446744073709551616):Zay Tryz.prog 125 [.agg (sR S k)] H (Pure H (.tup [.agg (sR S (k+ZA5 n)),uN n])):=by
 have hle:=(ZEP hd).resolve_right (ZGq n)
 rw[ZA3]at hle
 have hz:(0:Int)<=(k:Int):=by omega
 have hkt:((k:Int)).toNat=k:=by omega
 have hkS:k<=S.length:=by omega
 have hbd:(k<=S.length/\S.length<=S.length)=True:=by rw[eq_iff_iff,iff_true];omega
 have e1:=ZBP S k
 rw[hd]at e1
 have ht:=fun H=>ZFF n rest H hn (by rw[<- hd,zaC];omega)
 have d0:((0:Int) != 0)=false:=rfl
 have hw:IntKind.i64.wrap ((k:Int)+(ZA5 n:Int))=((k+ZA5 n:Nat):Int):=by rw[Zaw (by omega) (by omega)];omega
 have hx0:Zaa.Ext H H:=.refl _
 generalize ZA2 n++rest=P at *
 refine Zak hE cf125 (zaa rfl) fun Q qr qn=>?_
 ((have hd:=tv;repeat' first|(first|apply Zad|apply Zac|apply Zab)<;>intro hd<;>try simp only[hd]|simp(disch:=first|assumption|omega|simp only[nx]<;>omega|fail)only[hd,qr,qn,ZF6,↓YA,YY,sevalprocAttr,d0,hz,hkt,hkS,hbd,Zdi,e1,YZp])<;>try revert hd;refine ttr ?_)
 refine qcp (ht _) fun k1=>?_
 ((have hd:=tv;repeat' first|(first|apply Zad|apply Zac|apply Zab)<;>intro hd<;>try simp only[hd]|simp(disch:=first|assumption|omega|simp only[nx]<;>omega|fail)only[hd,qr,qn,ZF6,↓YA,YY,sevalprocAttr,d0,hw,YZp])<;>try revert hd;refine ttr ?_)
 exact ZaW (((hx0.alloc.alloc.bump).set (zae _)).set (by omega)) rfl
set_option maxHeartbeats 8000000 in
theorem ZBK (S:Tx) (k n most:Nat) (rest:Tx) (H:Zaa) (hS:S.length<=1000000) (hd:S.drop k=ZA2 n++rest) (hn:n<=most) (hm:most<=1000000):Zay Tryz.prog 91 [.agg (sR S k),.i (most:Int)] H (Pure H (.tup [.agg (sR S (k+ZA5 n)),.i (n:Int)])):=by
 have ht:=fun H=>ZEF S k n rest H hS hd (by omega)
 have d0:((0:Int) != 0)=false:=rfl
 have d1:((0:Int) == 0)=true:=rfl
 have d2:decide ((most:Int)<0)=false:=by simp
 have hw:=u64n most (by omega)
 have hw2:IntKind.i64.wrap (n:Int)=(n:Int):=Zaw (by omega) (by omega)
 have d3:decide ((n:Int) > (most:Int))=false:=by simp;omega
 have hx0:Zaa.Ext H H:=.refl _
 generalize ZA5 n=z at *
 refine Zak hE cf91 (zaa rfl) fun Q qr qn=>?_
 ((have hd:=tv;repeat' first|(first|apply Zad|apply Zac|apply Zab)<;>intro hd<;>try simp only[hd]|simp(disch:=first|assumption|omega|simp only[nx]<;>omega|fail)only[hd,qr,qn,c91_0,↓YA,YY,sevalprocAttr,d0,YZp])<;>try revert hd;refine ttr ?_)
 refine qcp (ht _) fun k1=>?_
 ((have hd:=tv;repeat' first|(first|apply Zad|apply Zac|apply Zab)<;>intro hd<;>try simp only[hd]|simp(disch:=first|assumption|omega|simp only[nx]<;>omega|fail)only[hd,qr,qn,c91_0,↓YA,YY,sevalprocAttr,d0,d1,d2,d3,hw,hw2,YZp])<;>try revert hd;refine ttr ?_)
 exact ZaW (((hx0.alloc.alloc.bump).set (zae _)).set (by omega)) rfl
set_option maxHeartbeats 8000000 in
theorem ZGh (S:Tx) (k:Nat) (s rest:Tx) (H:Zaa) (hS:S.length<=1000000) (hk:k<=S.length) (hd:S.drop k=s++rest):Zay Tryz.prog 127 [.agg (sR S k),.i (s.length:Int)] H (Pure H (.tup [.agg (sR S (k+s.length)),eS s])):=by
 have hle:k+s.length<=S.length:=by
  have:=congrArg List.length hd
  rw[zaC,zab]at this;omega
 have d0:((0:Int) != 0)=false:=rfl
 have d2:decide ((s.length:Int)<0)=false:=by simp
 have w1:IntKind.i64.wrap ((S.length:Int) - (k:Int))=(S.length:Int) - (k:Int):=Zaw (by omega) (by omega)
 have w2:IntKind.i64.wrap ((k:Int)+(s.length:Int))=((k+s.length:Nat):Int):=by rw[Zaw (by omega) (by omega)];omega
 have d3:decide ((s.length:Int) > (S.length:Int) - (k:Int))=false:=by simp;omega
 have hz:(0:Int)<=(k:Int):=by omega
 have hkt:((k:Int)).toNat=k:=by omega
 have hz2:(0:Int)<=((k+s.length:Nat):Int):=by omega
 have hkt2:(((k+s.length:Nat):Int)).toNat=k+s.length:=by omega
 have hb1:k<=k+s.length:=by omega
 have e1:(⟨S.toArray⟩:ByteArray).extract k (k+s.length)=⟨s.toArray⟩:=by
  apply za3
  simp only[zbe,zbD,List.extract_eq_take_drop]
  rw[hd,Nat.add_sub_cancel_left,zb5]
 have hx0:Zaa.Ext H H:=.refl _
 refine Zak hE cf127 (zaa rfl) fun Q qr qn=>?_
 ((have hd:=tv;repeat' first|(first|apply Zad|apply Zac|apply Zab)<;>intro hd<;>try simp only[hd]|simp(disch:=first|assumption|omega|simp only[nx]<;>omega|fail)only[hd,qr,qn,Zsn,↓YA,YY,sevalprocAttr,d0,d2,d3,w1,w2,hz,hkt,hz2,hkt2,hb1,hle,Zdi,e1,YZp])<;>try revert hd;refine ttr ?_)
 exact ZaW (((hx0.alloc.alloc).set (zae _)).set (by omega)) rfl
set_option maxHeartbeats 8000000 in
theorem ZD5 (S:Tx) (k most:Nat) (s rest:Tx) (H:Zaa) (hS:S.length<=1000000) (hd:S.drop k=ZA4 s++rest) (hn:s.length<=most) (hm:most<=1000000):Zay Tryz.prog 93 [.agg (sR S k),.i (most:Int)] H (Pure H (.tup [.agg (sR S (k+(ZA4 s).length)),eS s])):=by
 have hd1:S.drop k=ZA2 s.length++(s++rest):=by rw[hd];unfold ZA4;rw[zak]
 have hle:=(ZEP hd1).resolve_right (ZGq _)
 rw[ZA3]at hle
 have hd2:=ZBg hd1 (ZA3 s.length).symm
 have hn1:=fun H=>ZBK S k s.length most (s++rest) H hS hd1 hn hm
 have hf:=fun H=>ZGh S (k+ZA5 s.length) s rest H hS hle hd2
 have hl:k+(ZA4 s).length=k+ZA5 s.length+s.length:=by unfold ZA4;rw[zab,ZA3];omega
 rw[hl]
 have hx0:Zaa.Ext H H:=.refl _
 generalize ZA5 s.length=z at *
 refine Zak hE cf93 (zaa rfl) fun Q qr qn=>?_
 ((have hd:=tv;repeat' first|(first|apply Zad|apply Zac|apply Zab)<;>intro hd<;>try simp only[hd]|simp(disch:=first|assumption|omega|simp only[nx]<;>omega|fail)only[hd,qr,qn,ZHl,↓YA,YY,sevalprocAttr,YZp])<;>try revert hd;refine ttr ?_)
 refine qcp (hn1 _) fun k1=>?_
 ((have hd:=tv;repeat' first|(first|apply Zad|apply Zac|apply Zab)<;>intro hd<;>try simp only[hd]|simp(disch:=first|assumption|omega|simp only[nx]<;>omega|fail)only[hd,qr,qn,ZHl,↓YA,YY,sevalprocAttr,YZp])<;>try revert hd;refine ttr ?_)
 refine qcp (hf _) fun k2=>?_
 ((have hd:=tv;repeat' first|(first|apply Zad|apply Zac|apply Zab)<;>intro hd<;>try simp only[hd]|simp(disch:=first|assumption|omega|simp only[nx]<;>omega|fail)only[hd,qr,qn,ZHl,↓YA,YY,sevalprocAttr,YZp])<;>try revert hd;refine ttr ?_)
 exact ZaW ((((hx0.alloc.alloc.bump).set (zae _)).bump).set (by omega)) rfl
open Go.RowKit Go.Lib
set_option maxHeartbeats 4000000 in
theorem ZDL (S:Tx) (k:Nat) (e:Int) (H:Zaa):Zay Tryz.prog 94 [.agg (sR S k),.b true,.i e] H (Pure H (.agg (sR S k))):=by
 have d1:((0:Int) == 0)=true:=rfl
 have hx0:Zaa.Ext H H:=.refl _
 refine Zak hE cf94 (zaa rfl) fun Q qr qn=>?_
 ((have hd:=tv;repeat' first|(first|apply Zad|apply Zac|apply Zab)<;>intro hd<;>try simp only[hd]|simp(disch:=first|assumption|omega|simp only[nx]<;>omega|fail)only[hd,qr,qn,ZdX,↓YA,YY,sevalprocAttr,d1,YZp])<;>try revert hd;refine ttr ?_)
 exact ZaW (hx0.alloc.alloc) rfl
set_option maxHeartbeats 4000000 in
theorem ZGV (S:Tx) (H:Zaa):Zay Tryz.prog 57 [.agg (sR S S.length)] H (Pure H (.i 0)):=by
 have d1:(((S.length:Nat):Int) == ((S.length:Nat):Int))=true:=by simp
 have hx0:Zaa.Ext H H:=.refl _
 refine Zak hE cf57 (zaa rfl) fun Q qr qn=>?_
 ((have hd:=tv;repeat' first|(first|apply Zad|apply Zac|apply Zab)<;>intro hd<;>try simp only[hd]|simp(disch:=first|assumption|omega|simp only[nx]<;>omega|fail)only[hd,qr,qn,ZkX,↓YA,YY,sevalprocAttr,d1,YZp])<;>try revert hd;refine ttr ?_)
 refine qcp (ZDL S S.length 3 _) fun k1=>?_
 ((have hd:=tv;repeat' first|(first|apply Zad|apply Zac|apply Zab)<;>intro hd<;>try simp only[hd]|simp(disch:=first|assumption|omega|simp only[nx]<;>omega|fail)only[hd,qr,qn,ZkX,↓YA,YY,sevalprocAttr,YZp])<;>try revert hd;refine ttr ?_)
 exact ZaW (hx0.alloc.bump) rfl
theorem ZEe:∀(a b:List Tx) (w:Tx),ZBl w (a++b)=ZBl w a++ZBl (ZGI w a) b
 | [],b,w=>by simp[ZBl,ZGI]
 | s :: a,b,w=>by simp only[List.cons_append,ZBl,ZGI,ZEe a b s,zak]
theorem ZEG:∀a b:Tx,a.take (ZB1 a b)=b.take (ZB1 a b)
 | [],b=>by simp[ZB1]
 | _ :: _,[]=>by simp[ZB1]
 | x :: a,y :: b=>by
  rw[ZB1]
  split
  ·rename_i h;rw[h,List.take_succ_cons,List.take_succ_cons,ZEG a b]
  ·rfl
theorem ZGH:∀(l:List Tx) (w:Option Tx),Zgt w l=0->∀(i:Nat) (h:i<l.length),isT l[i]=true/\ZGI (w.getD []) (l.take i)<l[i]
 | [],_,_,i,h=>by simp at h
 | s :: r,w,he,i,h=>by
  rw[Zhp]at he
  split at he
  ·cases he
  ·rename_i h1
   split at he
   ·cases he
   ·rename_i h2
    have h1:isT s=true:=by simpa using h1
    cases i with
    | zero =>
     refine⟨h1,?_⟩
     show w.getD []<s
     cases w with
     | none =>
      cases s with
      | nil=>simp[isT]at h1
      | cons x s=>exact List.nil_lt_cons _ _
     | some q=>simpa [geT] using h2
    | succ i=>exact ZGH r (some s) he i (by simpa using h)
theorem ZG0 {l:List Tx} (he:Zgt none l=0) {i:Nat} (h:i<l.length):isT l[i]=true/\lastT l i<l[i]:=by
 have:=ZGH l none he i h
 rw[Option.getD_none,ZDk (by omega)]at this
 exact this
theorem last_len {l:List Tx} (he:Zgt none l=0) {i:Nat} (h:i<=l.length):(lastT l i).length<=16:=by
 cases i with
 | zero=>simp[lastT]
 | succ j =>
  rw[ZBz (by omega)]
  have:=(ZG0 he (i:=j) (by omega)).1
  unfold isT at this
  simp at this
  omega
def posB (k:Nat) (l:List Tx) (i:Nat):Nat:=k+(ZBl [] (l.take i)).length
theorem pos_drop {S rest:Tx} {k:Nat} {l:List Tx} (hd:S.drop k=ZBl [] l++rest) {i:Nat} (h:i<l.length):S.drop (posB k l i)=ZA2 (ZB1 (lastT l i) l[i])++(ZA4 (l[i].drop (ZB1 (lastT l i) l[i]))++(ZBl l[i] (l.drop (i+1))++rest)):=by
 have e:ZBl [] l=ZBl [] (l.take i)++ZBl (lastT l i) (l.drop i):=by
  conv=>lhs;rw[<- za6 i l]
  rw[ZEe,ZDk (by omega)]
 rw[e,zak]at hd
 have:=ZBg hd rfl
 unfold posB
 rw[this,zai h,ZBl]
 simp only[zak]
theorem pos_succ {k:Nat} {l:List Tx} {i:Nat} (h:i<l.length):posB k l (i+1)=posB k l i+ZA5 (ZB1 (lastT l i) l[i])+(ZA4 (l[i].drop (ZB1 (lastT l i) l[i]))).length:=by
 unfold posB
 rw[ZCI h]
 simp only[zab,ZA3]
 omega
set_option maxHeartbeats 8000000 in
theorem ZG6 {Q:AEx->Fr->Zaa->Prop} {F:Fr} {H G:Zaa} {S rest:Tx} {k r0 r1:Nat} {l:List Tx} (hS:S.length<=1000000) (hl:l.length<=1000) (hd:S.drop k=ZBl [] l++rest) (he:Zgt none l=0)
  (h0:r0=H.next) (h1:r1=H.next+1) (hn0:H.next+2<=G.next) (hx0:Zaa.Ext H G) (hg0:G.get r0=some (.cells (sR S k) 94)) (hg1:G.get r1=some (.cells [eS [],.i 0,.i 0] 94))
  (f2:Fr.get F 2=.ptr r0 0) (f4:Fr.get F 4=.ptr r1 0) (f6:Fr.get F 6=.i (l.length:Int)) (f7:Fr.get F 7=.sl .full []) (f8:Fr.get F 8=eS []) (f9:Fr.get F 9=.i 0)
  (hQ:∀F' G' tok,Zaa.Ext H G'->G'.get r0=some (.cells (sR S (k+(ZBl [] l).length)) 94)->G'.get r1=some (.cells [eS [],.i 0,.i 0] 94)->Fr.get F' 2=.ptr r0 0->Fr.get F' 4=.ptr r1 0->Fr.get F' 7=.sl tok (rS l)->Q .normal F' G'):AW Tryz.prog c161_1 Q F G:=by
 have qr:=trivial
 have qn:=trivial
 refine ZBA (fun m F G=>∃i tok,m+i=l.length/\Fr.get F 9=.i (i:Int)/\Fr.get F 6=.i (l.length:Int)/\Fr.get F 2=.ptr r0 0/\Fr.get F 4=.ptr r1 0/\Fr.get F 8=eS (lastT l i)/\Fr.get F 7=.sl tok (rS (l.take i))/\ZCe (H.next+2) G 9 1 i tok/\H.next+2<=G.next/\Zaa.Ext H G/\G.get r0=some (.cells (sR S (posB k l i)) 94)/\G.get r1=some (.cells [eS [],.i 0,.i 0] 94)) l.length (GStep.refl _ _) ⟨0,.full,rfl,f9,f6,f2,f4,f8,f7,.inl rfl,hn0,hx0,hg0,hg1⟩ ?_
 rintro m F G ⟨i,tok,hm,f9,f6,f2,f4,f8,f7,hT,hnx,hx,hg0,hg1⟩
 have dE:((0:Int) == 0)=true:=rfl
 by_cases hi:i<l.length
 ·have d1:decide ((i:Int)<(l.length:Int))=true:=by simp;omega
  have hw:=ZCE (s:=i) (by omega)
  obtain⟨hit,hlt⟩:=ZG0 he hi
  have hpd:=pos_drop hd hi
  have hwl:=last_len he (i:=i) (by omega)
  have hps:=pos_succ (k:=k) hi
  have hls:=ZBz hi
  have hsn:rS (l.take i)++[[eS l[i]]]=rS (l.take (i+1)):=by rw[zah hi];unfold rS;rw[zaG];rfl
  have hrl:(rS (l.take i)).length=i:=by simp;omega
  have hal:ZaE 1 (rS (l.take i))=true:=ZaU (f:=fun s:Tx=>[eS s]) (sz:=1) (fun _=>rfl) _
  have hm1:i+1<=maxLen:=ZAp (by omega)
  have hm2:(i+1) * 16<=140737488355328:=by omega
  generalize hrn:ZBl l[i] (l.drop (i+1))++rest=rn at *
  generalize hR1:rS (l.take (i+1))=R1 at *
  generalize hP1:posB k l (i+1)=p1 at *
  generalize posB k l i=p0 at *
  generalize hW1:lastT l (i+1)=w1 at *
  generalize lastT l i=w at *
  generalize l[i]=s at *
  generalize rS (l.take i)=R0 at *
  obtain⟨hc1,hc2⟩:=ZD1 w s
  have hct:=ZEG w s
  have hsl:s.length<=16:=by unfold isT at hit;simp at hit;omega
  have hra:=Zlh s
  rw[hit]at hra
  have hple:=(ZEP hpd).resolve_right (ZGq _)
  rw[ZA3]at hple
  have hpd2:=ZBg hpd (ZA3 _).symm
  have hnt:¬(s<w):=fun h=>absurd (List.lt_trans h hlt) (List.lt_irrefl _)
  have dn1:decide (s<w)=false:=decide_eq_false hnt
  have dn2:decide (s=w)=false:=decide_eq_false fun h=>by rw[h]at hlt;exact List.lt_irrefl _ hlt
  have hak:=fun H=>Zpz w s H (by omega) (by omega)
  have hrp:((w.take (ZB1 w s)).length+(s.drop (ZB1 w s)).length=s.length):=by rw[zaM,zaC];omega
  have hap:(⟨(w.take (ZB1 w s)).toArray⟩:ByteArray)++⟨(s.drop (ZB1 w s)).toArray⟩=⟨s.toArray⟩:=by rw[Zz9,hct,za6]
  have hdl:(s.drop (ZB1 w s)).length<=16:=by rw[zaC];omega
  generalize ZB1 w s=c at *
  have hnum:=fun H=>ZBK S p0 c w.length _ H hS hpd hc1 (by omega)
  have htx:=fun H=>ZD5 S (p0+ZA5 c) 16 (s.drop c) rn H hS hpd2 hdl (by omega)
  rw[<- hps]at htx
  have hcz:(0:Int)<=(c:Int):=by omega
  have hctn:((c:Int)).toNat=c:=by omega
  have hc0:0<=c:=zaA _
  have e1:=ZCa w c
  have hml:(w.take c).length+(s.drop c).length<=maxLen:=ZAp (by omega)
  have dcc:((c:Int) == (c:Int))=true:=by simp
  have hwt:=ZDL S p1 3
  have hcl:=hc1
  generalize s.drop c=sd at *
  generalize w.take c=wc at *
  skip
  have hZ:=an7 f9<|an7 f6<|an7 f2<|an7 f4<|an7 f8<|an7 f7<|an7 hg0<|an7 d1<|dE;refine Bz1 ?_
  refine qcp (hnum _) fun k1=>?_
  ((have hd:=tv;repeat' first|(first|apply Zad|apply Zac|apply Zab)<;>intro hd<;>try simp only[hd]|simp(disch:=first|assumption|omega|simp only[nx]<;>omega|fail)only[hd,qr,qn,ZDG,↓YA,YY,sevalprocAttr,f9,f6,f2,f4,f8,f7,YZp])<;>try revert hd;refine ttr ?_)
  refine qcp (htx _) fun k2=>?_
  ((have hd:=tv;repeat' first|(first|apply Zad|apply Zac|apply Zab)<;>intro hd<;>try simp only[hd]|simp(disch:=first|assumption|omega|simp only[nx]<;>omega|fail)only[hd,qr,qn,ZDG,↓YA,YY,sevalprocAttr,f9,f6,f2,f4,f8,f7,hcz,hctn,hc0,hcl,Zdi,e1,hap,hml])<;>try revert hd;refine ttr ?_)
  refine qcp (hra _) fun k3=>?_
  ((have hd:=tv;repeat' first|(first|apply Zad|apply Zac|apply Zab)<;>intro hd<;>try simp only[hd]|simp(disch:=first|assumption|omega|simp only[nx]<;>omega|fail)only[hd,qr,qn,ZDG,↓YA,YY,sevalprocAttr,f9,f6,f2,f4,f8,f7,dn1,dn2,bytesLess_eq,Bool.or_self,Bool.not_false])<;>try revert hd;refine ttr ?_)
  refine qcp (hak _) fun k4=>?_
  have hZ:=an7 f9<|an7 f6<|an7 f2<|an7 f4<|an7 f8<|an7 f7<|dcc;refine Bz1 ?_
  refine qcp (hwt _) fun k5=>?_
  have hx5:Zaa.Ext H (((((((G.bump k1).alloc (.cells (sR S (p0+ZA5 c)) 94)).bump k2).set (G.next+k1) (.cells (sR S p1) 94)).bump k3).bump k4).bump k5):=(((((hx.bump.alloc).bump).set (by omega)).bump).bump).bump
  have g0:(((((((G.bump k1).alloc (.cells (sR S (p0+ZA5 c)) 94)).bump k2).set (G.next+k1) (.cells (sR S p1) 94)).bump k3).bump k4).bump k5).get r0=G.get r0:=by
   rw[Zaa.ZaB,Zaa.ZaB,Zaa.ZaB,Zaa.Zah (by omega),Zaa.ZaB,Zaa.Zag (by show r0≠G.next+k1;omega),Zaa.ZaB]
  have g1:(((((((G.bump k1).alloc (.cells (sR S (p0+ZA5 c)) 94)).bump k2).set (G.next+k1) (.cells (sR S p1) 94)).bump k3).bump k4).bump k5).get r1=G.get r1:=by
   rw[Zaa.ZaB,Zaa.ZaB,Zaa.ZaB,Zaa.Zah (by omega),Zaa.ZaB,Zaa.Zag (by show r1≠G.next+k1;omega),Zaa.ZaB]
  have gT:∀t,t<G.next->(((((((G.bump k1).alloc (.cells (sR S (p0+ZA5 c)) 94)).bump k2).set (G.next+k1) (.cells (sR S p1) 94)).bump k3).bump k4).bump k5).get t=G.get t:=fun t ht=>by
   rw[Zaa.ZaB,Zaa.ZaB,Zaa.ZaB,Zaa.Zah (by omega),Zaa.ZaB,Zaa.Zag (by show t≠G.next+k1;omega),Zaa.ZaB]
  have gn:G.next<=(((((((G.bump k1).alloc (.cells (sR S (p0+ZA5 c)) 94)).bump k2).set (G.next+k1) (.cells (sR S p1) 94)).bump k3).bump k4).bump k5).next:=by simp only[nx];omega
  rw[hg0]at g0
  rw[hg1]at g1
  generalize (((((((G.bump k1).alloc (.cells (sR S (p0+ZA5 c)) 94)).bump k2).set (G.next+k1) (.cells (sR S p1) 94)).bump k3).bump k4).bump k5)=G5 at *
  have hal2:ZaE 1 [[eS s]]=true:=rfl
  have hr05:=Zaa.lt g0
  rcases hT with rfl|⟨t',ht,rfl,hgt⟩
  ·have hZ:=an7 f9<|an7 f6<|an7 f2<|an7 f4<|an7 f8<|an7 f7<|an7 g0<|an7 hrl<|an7 hal<|an7 hal2<|an7 hm1<|an7 hm2<|an7 hsn<|hw;refine Bz1 ?_
   exact⟨m - 1,by omega,i+1,.own G5.next,by omega,rfl,by rw[hW1,hls],by rw[hR1],.inr ⟨G5.next,by omega,rfl,Zaa.Zae⟩,by omega,(hx5.set (by omega)).alloc,by rw[hP1],g1⟩
  ·have hgt2:=(gT t' (Zaa.lt hgt)).trans hgt
   have hgt3:(G5.set r0 (.cells (sR S p1) 94)).get t'=some (.tok i 9 1):=by rw[Zaa.Zah (by omega)];exact hgt2
   have hZ:=an7 f9<|an7 f6<|an7 f2<|an7 f4<|an7 f8<|an7 f7<|an7 g0<|an7 hrl<|an7 hal<|an7 hal2<|an7 hm1<|an7 hm2<|an7 hsn<|an7 hgt2<|an7 hgt3<|hw;refine Bz1 ?_
   have hlt5:=Zaa.lt hgt2
   exact⟨m - 1,by omega,i+1,.own t',by omega,rfl,by rw[hW1,hls],by rw[hR1],.inr ⟨t',ht,rfl,Zaa.Zal (by simp only[nx];omega)⟩,by omega,(hx5.set (by omega)).set (by omega),by rw[hP1],g1⟩
 ·obtain rfl:i=l.length:=by omega
  have d1:decide (((l.length:Nat):Int)<(l.length:Int))=false:=by simp
  rw[zas]at f7
  have hp:posB k l l.length=k+(ZBl [] l).length:=by unfold posB;rw[zas]
  rw[hp]at hg0
  skip
  have hZ:=an7 f9<|an7 f6<|an7 f7<|d1;refine Bz1 ?_
  exact hQ _ _ tok hx hg0 hg1 (by simpa [Fr.get] using f2) (by simpa [Fr.get] using f4) (by simpa [Fr.get] using f7)
theorem Zfm (t:Tok) (rows:List (List AV)):Wkn (.sl t rows) (.sl .no rows):=.sl t rows rows rfl (fun i r r' h h'=>by rw[h]at h';injection h' with h';rw[h']) (fun i r r' j x y h h' hx hy=>by
 rw[h]at h';injection h' with h';subst h';rw[hx]at hy;injection hy with hy;rw[hy];exact .refl _)
theorem ZC5 {a b b':AV} (h:Wkn b b'):Wkn (.tup [a,b]) (.tup [a,b']):=.tup _ _ rfl fun i x y hx hy=>by
 match i with
 | 0=>simp at hx hy;subst hx hy;exact .refl _
 | 1=>simp at hx hy;subst hx hy;exact h
 | i+2=>simp at hx
set_option maxHeartbeats 8000000 in
theorem ZER (S:Tx) (k most:Nat) (l:List Tx) (rest:Tx) (H:Zaa) (hS:S.length<=1000000) (hd:S.drop k=ZB5 l++rest) (hn:l.length<=most) (hm:most<=1000) (he:Zgt none l=0):Zay Tryz.prog 161 [.agg (sR S k),.i (most:Int)] H (Pure H (.tup [.agg (sR S (k+(ZB5 l).length)),.sl .no (rS l)])):=by
 have hd1:S.drop k=ZA2 l.length++(ZBl [] l++rest):=by rw[hd];unfold ZB5;rw[zak]
 have hd2:=ZBg hd1 (ZA3 l.length).symm
 have hnum:=fun H=>ZBK S k l.length most _ H hS hd1 hn (by omega)
 have hl:k+(ZB5 l).length=k+ZA5 l.length+(ZBl [] l).length:=by unfold ZB5;rw[zab,ZA3];omega
 rw[hl]
 have hx0:Zaa.Ext H H:=.refl _
 generalize ZA5 l.length=z at *
 refine Zak hE cf161 (zaa rfl) fun Q qr qn=>?_
 ((have hd:=tv;repeat' first|(first|apply Zad|apply Zac|apply Zab)<;>intro hd<;>try simp only[hd]|simp(disch:=first|assumption|omega|simp only[nx]<;>omega|fail)only[hd,qr,qn,ZDG,↓YA,YY,sevalprocAttr,YZp])<;>try revert hd;refine ttr ?_)
 refine qcp (hnum _) fun k1=>?_
 ((have hd:=tv;repeat' first|(first|apply Zad|apply Zac|apply Zab)<;>intro hd<;>try simp only[hd]|simp(disch:=first|assumption|omega|simp only[nx]<;>omega|fail)only[hd,qr,qn,ZDG,↓YA,YY,sevalprocAttr,YZp])<;>try revert hd;refine ttr ?_)
 refine ZG6 (H:=H) (k:=k+z) (r0:=H.next) (r1:=H.next+1) (l:=l) hS (by omega) hd2 he rfl rfl (by simp only[nx];omega) (((hx0.alloc.alloc.bump)).set (zae _)) (Zaa.Zal (by simp only[nx];omega)) ?_ rfl rfl rfl rfl rfl rfl ?_
 ·rw[Zaa.Zah (by omega),Zaa.ZaB];exact Zaa.Zat rfl
 ·intro F G tok hx g0 g1 f2 f4 f7
  have hlt1:=Zaa.lt g1
  have hZ:=an7 f2<|an7 f4<|an7 f7<|an7 g0<|g1;refine Bz1 ?_
  exact Zc1 (ZC5 (Zfm _ _)) (hx.set (Nat.le_succ _))
open Go.RowKit
theorem Zay.wknA {P:Program} {f:FuncId} {xs bs:List AV} {H:Zaa} {R:AV->Zaa->Prop} (h:Zay P f bs H R) (hl:xs.length=bs.length) (hw:∀(i:Nat) x y,xs[i]?=some x->bs[i]?=some y->Wkn x y):Zay P f xs H R :=
 ⟨h.1,fun g w vs hW hV hEn=>h.2 g w vs hW ⟨by rw[<- hl];exact hV.1,fun i y u hy hu=>by
  obtain⟨x,hx⟩:=ZaN hl hy
  exact(hV.2 i x u hx hu).wkn (hw i x y hx hy)⟩ hEn⟩
open Go.RowKit Go.Lib
theorem ZD0 {up:List Int} {m above:Int} (h:ZdD up m above=true):(above<=0->up=[])/\(0<above->(up.length:Int)=m/\∀n∈up,0<=n/\n<above):=by
 unfold ZdD at h
 constructor
 ·intro ha
  rw[if_pos ha]at h
  simpa using h
 ·intro ha
  rw[if_neg (by omega)]at h
  split at h
  ·cases h
  ·rename_i h1
   rw[zay,zaF]at h
   refine⟨by omega,fun n hn=>?_⟩
   have:=h.1 n hn
   unfold inU at this
   simp at this
   omega
theorem ZBT {t:Tir} {above:Int} (h:ZbO t above=0):ZdD t.up t.terms.length above=true/\t.terms.length<=200/\t.name.length<=12:=by
 unfold ZbO at h
 split at h
 ·cases h
 ·rename_i hn
  split at h
  ·cases h
  ·split at h
   ·exact absurd h (by assumption)
   ·split at h
    ·cases h
    ·rename_i h1 _ h3
     refine⟨by simpa using h3,by omega,?_⟩
     have:ZbK t.name=true:=by simpa using hn
     unfold ZbK at this
     simp at this
     omega
def posU (k:Nat) (l:List Int) (i:Nat):Nat:=k+((l.take i).flatMap ZBX).length
theorem ZGc {S rest:Tx} {k:Nat} {l:List Int} (hd:S.drop k=l.flatMap ZBX++rest) {i:Nat} (h:i<l.length):S.drop (posU k l i)=ZA2 l[i].toNat++((l.drop (i+1)).flatMap ZBX++rest):=by
 have e:l.flatMap ZBX=(l.take i).flatMap ZBX++(l.drop i).flatMap ZBX:=by
  conv=>lhs;rw[<- za6 i l]
  rw[za4]
 rw[e,zak]at hd
 have:=ZBg hd rfl
 unfold posU
 rw[this,zai h,za7,zak]
 rfl
theorem ZGW {k:Nat} {l:List Int} {i:Nat} (h:i<l.length):posU k l (i+1)=posU k l i+ZA5 l[i].toNat:=by
 unfold posU
 rw[ZBJ h,zab]
 unfold ZBX
 rw[ZA3];omega
abbrev zT:List AV:=[eS [],.sl .full [],.sl .full []]
abbrev zR:List AV:=[eS [],.i 0,.i 0]
set_option maxHeartbeats 8000000 in
theorem read_ups {Q:AEx->Fr->Zaa->Prop} {F:Fr} {H G:Zaa} {S rest name:Tx} {terms:List Tx} {k a r0 r1 r2 r3:Nat} {l:List Int} (hS:S.length<=1000000) (ha:a<=1000) (hd:S.drop k=l.flatMap ZBX++rest)
  (hz:a=0->l=[]) (hp:0<a->l.length=terms.length/\∀n∈l,0<=n/\n<(a:Int)) (ht:terms.length<=1000)
  (h0:r0=H.next) (h1:r1=H.next+1) (h2:r2=H.next+2) (h3:r3=H.next+3) (hn0:H.next+4<=G.next) (hx0:Zaa.Ext H G) (hg0:G.get r0=some (.cells (sR S k) 94)) (hg1:G.get r1=some (.cells zR 94)) (hg2:G.get r2=some (.cells zT 102))
  (hg3:G.get r3=some (.cells [eS name,.sl .no (rS terms),.sl .full []] 102))
  (f1:Fr.get F 1=.i (a:Int)) (f2:Fr.get F 2=.ptr r0 0) (f4:Fr.get F 4=.ptr r1 0) (f5:Fr.get F 5=.ptr r2 0) (f6:Fr.get F 6=.ptr r3 0) (f7:Fr.get F 7=.i 0)
  (hQ:∀F' G' tok,Zaa.Ext H G'->G'.get r0=some (.cells (sR S (k+(l.flatMap ZBX).length)) 94)->G'.get r1=some (.cells zR 94)->G'.get r2=some (.cells zT 102)->G'.get r3=some (.cells [eS name,.sl .no (rS terms),.sl tok (rI l)] 102) ->
   Fr.get F' 1=.i (a:Int)->Fr.get F' 2=.ptr r0 0->Fr.get F' 4=.ptr r1 0->Fr.get F' 5=.ptr r2 0->Fr.get F' 6=.ptr r3 0->Q .normal F' G'):AW Tryz.prog c126_1 Q F G:=by
 have qr:=trivial
 have qn:=trivial
 refine ZBA (fun m F G=>∃i tok,m+i=l.length/\Fr.get F 7=.i (i:Int)/\Fr.get F 1=.i (a:Int)/\Fr.get F 2=.ptr r0 0/\Fr.get F 4=.ptr r1 0/\Fr.get F 5=.ptr r2 0/\Fr.get F 6=.ptr r3 0/\ZCe (H.next+4) G 3 1 i tok/\H.next+4<=G.next/\Zaa.Ext H G/\G.get r0=some (.cells (sR S (posU k l i)) 94)/\G.get r1=some (.cells zR 94)/\G.get r2=some (.cells zT 102)/\G.get r3=some (.cells [eS name,.sl .no (rS terms),.sl tok (rI (l.take i))] 102)) l.length (GStep.refl _ _) ⟨0,.full,rfl,f7,f1,f2,f4,f5,f6,.inl rfl,hn0,hx0,hg0,hg1,hg2,hg3⟩ ?_
 rintro m F G ⟨i,tok,hm,f7,f1,f2,f4,f5,f6,hT,hnx,hx,hg0,hg1,hg2,hg3⟩
 have dE:((0:Int) == 0)=true:=rfl
 by_cases hi:i<l.length
 ·have hapos:0<a:=by
   rcases zb6 a with h|h
   ·rw[hz h]at hi;simp at hi
   ·exact h
  obtain⟨hlt,hin⟩:=hp hapos
  have d0:decide ((a:Int) > 0)=true:=by simp;omega
  have d1:decide ((i:Int)<(terms.length:Int))=true:=by simp;omega
  have hw:=ZCE (s:=i) (by omega)
  have hwa:IntKind.i64.wrap ((a:Int) - 1)=((a - 1:Nat):Int):=by rw[Zaw (by omega) (by omega)];omega
  have hni:=hin _ (zan hi)
  have hpd:=ZGc hd hi
  have hps:=ZGW (k:=k) hi
  have hsn:rI (l.take i)++[[.i l[i]]]=rI (l.take (i+1)):=by rw[zah hi];unfold rI;rw[zaG];rfl
  have hrl:(rI (l.take i)).length=i:=by simp;omega
  have hal:ZaE 1 (rI (l.take i))=true:=ZaU (f:=fun n:Int=>[AV.i n]) (sz:=1) (fun _=>rfl) _
  have hm1:i+1<=maxLen:=ZAp (by omega)
  have hm2:(i+1) * 8<=140737488355328:=by omega
  generalize hrn:(l.drop (i+1)).flatMap ZBX++rest=rn at *
  generalize hR1:rI (l.take (i+1))=R1 at *
  generalize hP1:posU k l (i+1)=p1 at *
  generalize posU k l i=p0 at *
  generalize l[i]=n at *
  generalize rI (l.take i)=R0 at *
  have hnum:=fun H=>ZBK S p0 n.toNat (a - 1) _ H hS hpd (by omega) (by omega)
  have hnn:((n.toNat:Nat):Int)=n:=by omega
  rw[<- hps,hnn]at hnum
  have hal2:ZaE 1 [[AV.i n]]=true:=rfl
  skip
  have hZ:=an7 f7<|an7 f1<|an7 f2<|an7 f4<|an7 f5<|an7 f6<|an7 hg0<|an7 hg3<|an7 d0<|an7 d1<|an7 dE<|hwa;refine Bz3 ?_
  refine qcp (hnum _) fun k1=>?_
  have l0:=Zaa.lt hg0
  have l3:=Zaa.lt hg3
  have n30:r3≠r0:=by omega
  rcases hT with rfl|⟨t',ht',rfl,hgt⟩
  ·((have hd:=tv;repeat' first|(first|apply Zad|apply Zac|apply Zab)<;>intro hd<;>try simp only[hd]|simp(disch:=first|assumption|omega|simp only[nx]<;>omega|fail)only[hd,qr,qn,Zre,↓YA,YY,sevalprocAttr,f7,f1,f2,f4,f5,f6,hg0,hg3,hrl,hal,hal2,hm1,hm2,hsn,hw,YZp])<;>try revert hd;refine ttr ?_)
   exact⟨m - 1,by omega,i+1,.own (G.next+k1+1),by omega,rfl,.inr ⟨_,by omega,rfl,by rw[Zaa.Zah (by omega)];exact Zaa.Zat rfl⟩,by omega,((((hx.bump.alloc).set (by omega)).alloc).set (by omega)),by rw[hP1],hg1,hg2,by rw[hR1]⟩
  ·have lt':=Zaa.lt hgt
   ((have hd:=tv;repeat' first|(first|apply Zad|apply Zac|apply Zab)<;>intro hd<;>try simp only[hd]|simp(disch:=first|assumption|omega|simp only[nx]<;>omega|fail)only[hd,qr,qn,Zre,↓YA,YY,sevalprocAttr,f7,f1,f2,f4,f5,f6,hg0,hg3,hgt,hrl,hal,hal2,hm1,hm2,hsn,hw,YZp])<;>try revert hd;refine ttr ?_)
   exact⟨m - 1,by omega,i+1,.own t',by omega,rfl,.inr ⟨t',ht',rfl,by rw[Zaa.Zah (by omega)];exact Zaa.Zal (by simp only[nx];omega)⟩,by omega,((((hx.bump.alloc).set (by omega)).set (by omega)).set (by omega)),by rw[hP1],hg1,hg2,by rw[hR1]⟩
 ·obtain rfl:i=l.length:=by omega
  rw[zas]at hg3
  have hp':posU k l l.length=k+(l.flatMap ZBX).length:=by unfold posU;rw[zas]
  rw[hp']at hg0
  by_cases ha0:a=0
  ·have d0:decide ((a:Int) > 0)=false:=by simp;omega
   skip
   have hZ:=an7 f7<|an7 f1<|d0;refine Bz1 ?_
   exact hQ _ _ tok hx hg0 hg1 hg2 hg3 (by simpa [Fr.get] using f1) (by simpa [Fr.get] using f2) (by simpa [Fr.get] using f4) (by simpa [Fr.get] using f5) (by simpa [Fr.get] using f6)
  ·have d0:decide ((a:Int) > 0)=true:=by simp;omega
   obtain⟨hlt,hin⟩:=hp (by omega)
   have d1:decide (((l.length:Nat):Int)<(terms.length:Int))=false:=by simp;omega
   skip
   have hZ:=an7 f7<|an7 f1<|an7 f6<|an7 hg3<|an7 d0<|d1;refine Bz3 ?_
   exact hQ _ _ tok hx hg0 hg1 hg2 hg3 (by simpa [Fr.get] using f1) (by simpa [Fr.get] using f2) (by simpa [Fr.get] using f4) (by simpa [Fr.get] using f5) (by simpa [Fr.get] using f6)
theorem wkn_tr (t:Tir) (tok:Tok):Wkn (.agg [eS t.name,.sl .no (rS t.terms),.sl tok (rI t.up)]) (.agg (eTr t)):=.agg _ _ rfl fun i x y hx hy=>by
 unfold eTr at hy
 match i with
 | 0=>simp at hx hy;subst hx hy;exact .refl _
 | 1=>simp at hx hy;subst hx hy;exact .refl _
 | 2=>simp at hx hy;subst hx hy;exact Zfm _ _
 | i+3=>simp at hx
theorem ZHa {P:Program} {f:FuncId} {a b c:AV} {H:Zaa} {R:AV->Zaa->Prop} (hw:Wkn a b) (h:Zay P f [b,c] H R):Zay P f [a,c] H R:=h.wknA rfl fun i x y hx hy=>by
 match i with
 | 0=>simp at hx hy;subst hx hy;exact hw
 | 1=>simp at hx hy;subst hx hy;exact .refl _
 | i+2=>simp at hx
theorem ZEI {P:Program} {f:FuncId} {a b:AV} {H:Zaa} {R:AV->Zaa->Prop} (hw:Wkn a b) (h:Zay P f [b] H R):Zay P f [a] H R:=h.wknA rfl fun i x y hx hy=>by
 match i with
 | 0=>simp at hx hy;subst hx hy;exact hw
 | i+1=>simp at hx
set_option maxHeartbeats 8000000 in
theorem ZEw (S:Tx) (k a:Nat) (t:Tir) (rest:Tx) (H:Zaa) (hS:S.length<=1000000) (ha:a<=1000) (hd:S.drop k=ZB0 t++rest) (he:ZbO t (a:Int)=0):Zay Tryz.prog 126 [.agg (sR S k),.i (a:Int)] H (Pure H (.tup [.agg (sR S (k+(ZB0 t).length)),.agg (eTr t)])):=by
 obtain⟨ht,hl,hnm⟩:=ZBT he
 obtain⟨hz,hp⟩:=ZD0 ht
 have hrow:=ZCu he
 have hd1:S.drop k=ZA4 t.name++(ZB5 t.terms++(t.up.flatMap ZBX++rest)):=by rw[hd];unfold ZB0;simp only[zak]
 have hd2:=ZBg hd1 rfl
 have hd3:=ZBg hd2 rfl
 have hul:t.up.length<=1000:=by
  rcases zb6 a with h|h
  ·rw[hz (by omega)];simp
  ·have:=(hp (by omega)).1;omega
 have htx:=fun H=>ZD5 S k 12 t.name _ H hS hd1 hnm (by omega)
 have hrd:=fun H=>ZER S (k+(ZA4 t.name).length) 200 t.terms _ H hS hd2 hl (by omega) hrow
 have hwr:=fun H=>Zjl t (a:Int) H (by omega)
 rw[he]at hwr
 have hlen:k+(ZB0 t).length=k+(ZA4 t.name).length+(ZB5 t.terms).length+(t.up.flatMap ZBX).length:=by unfold ZB0;simp only[zab];omega
 rw[hlen]
 generalize k+(ZA4 t.name).length=ka at *
 generalize ka+(ZB5 t.terms).length=kb at *
 have hx0:Zaa.Ext H H:=.refl _
 have dE:((0:Int) == 0)=true:=rfl
 refine Zak hE cf126 (zaa rfl) fun Q qr qn=>?_
 ((have hd:=tv;repeat' first|(first|apply Zad|apply Zac|apply Zab)<;>intro hd<;>try simp only[hd]|simp(disch:=first|assumption|omega|simp only[nx]<;>omega|fail)only[hd,qr,qn,Zre,↓YA,YY,sevalprocAttr,YZp])<;>try revert hd;refine ttr ?_)
 refine qcp (htx _) fun k1=>?_
 ((have hd:=tv;repeat' first|(first|apply Zad|apply Zac|apply Zab)<;>intro hd<;>try simp only[hd]|simp(disch:=first|assumption|omega|simp only[nx]<;>omega|fail)only[hd,qr,qn,Zre,↓YA,YY,sevalprocAttr,YZp])<;>try revert hd;refine ttr ?_)
 refine qcp (hrd _) fun k2=>?_
 ((have hd:=tv;repeat' first|(first|apply Zad|apply Zac|apply Zab)<;>intro hd<;>try simp only[hd]|simp(disch:=first|assumption|omega|simp only[nx]<;>omega|fail)only[hd,qr,qn,Zre,↓YA,YY,sevalprocAttr,YZp])<;>try revert hd;refine ttr ?_)
 refine read_ups (H:=H) (k:=kb) (a:=a) (name:=t.name) (terms:=t.terms) (r0:=H.next) (r1:=H.next+1) (r2:=H.next+1+1) (r3:=H.next+1+1+1) (l:=t.up) (rest:=rest) hS ha hd3 (fun h=>hz (by omega)) (fun h=>⟨by have:=(hp (by omega)).1;omega,(hp (by omega)).2⟩) (by omega) rfl rfl rfl rfl (by simp only[nx];omega) ?_ (by repeat (first|rw[Zaa.ZaB]|rw[Zaa.Zah (by omega)]|exact Zaa.Zal (by simp only[nx];omega)|exact Zaa.Zat (by first|rfl|(simp only[nx];omega))|rw[Zaa.Zag (by simp only[nx];omega)])) (by repeat (first|rw[Zaa.ZaB]|rw[Zaa.Zah (by omega)]|exact Zaa.Zal (by simp only[nx];omega)|exact Zaa.Zat (by first|rfl|(simp only[nx];omega))|rw[Zaa.Zag (by simp only[nx];omega)])) (by repeat (first|rw[Zaa.ZaB]|rw[Zaa.Zah (by omega)]|exact Zaa.Zal (by simp only[nx];omega)|exact Zaa.Zat (by first|rfl|(simp only[nx];omega))|rw[Zaa.Zag (by simp only[nx];omega)])) (by repeat (first|rw[Zaa.ZaB]|rw[Zaa.Zah (by omega)]|exact Zaa.Zal (by simp only[nx];omega)|exact Zaa.Zat (by first|rfl|(simp only[nx];omega))|rw[Zaa.Zag (by simp only[nx];omega)])) rfl rfl rfl rfl rfl rfl ?_
 ·exact((((((hx0.alloc.alloc.alloc.alloc.bump).set (by omega)).set (by omega)).bump).set (by omega)).set (by omega))
 ·intro F G tok hx g0 g1 g2 g3 f1 f2 f4 f5 f6
  have l0:=Zaa.lt g0
  have l1:=Zaa.lt g1
  have l2:=Zaa.lt g2
  have l3:=Zaa.lt g3
  have hZ:=an7 f1<|an7 f2<|an7 f4<|an7 f5<|an7 f6<|an7 g0<|an7 g3<|dE;refine Bz1 ?_
  refine qcp (ZHa (wkn_tr t tok) (hwr _)) fun k3=>?_
  have hZ:=an7 f1<|an7 f2<|an7 f4<|an7 f5<|an7 f6<|an7 g0<|an7 g1<|an7 g2<|g3;refine Bz1 ?_
  exact Zc1 (ZC5 (wkn_tr t tok)) (((hx.bump.set (zae _)).set (by omega)).set (by omega))
open Go.RowKit Go.Lib
def ZGo (k:Nat) (l:List Tir) (m:Nat):Nat:=k+((l.drop m).reverse.flatMap ZB0).length
theorem ZGk {S rest:Tx} {k:Nat} {l:List Tir} (hd:S.drop k=l.reverse.flatMap ZB0++rest) {m:Nat} (h:m<l.length):S.drop (ZGo k l (m+1))=ZB0 l[m]++((l.take m).reverse.flatMap ZB0++rest):=by
 have e:l.reverse.flatMap ZB0=(l.drop (m+1)).reverse.flatMap ZB0++(ZB0 l[m]++(l.take m).reverse.flatMap ZB0):=by
  conv=>lhs;rw[<- za6 (m+1) l]
  rw[List.reverse_append,za4,zah h,List.reverse_append]
  simp
 rw[e,zak]at hd
 have:=ZBg hd rfl
 unfold ZGo
 rw[this,zak]
theorem ZG2 {k:Nat} {l:List Tir} {m:Nat} (h:m<l.length):ZGo k l m=ZGo k l (m+1)+(ZB0 l[m]).length:=by
 unfold ZGo
 rw[ZDN h,zab];omega
abbrev zD:List AV:=[eS [],.sl .full []]
theorem ZC9 {l:List Tir} {m:Nat} (h:m<l.length):ZbR (l.drop m)=(l[m].terms.length:Int):=by rw[zai h];rfl
set_option maxHeartbeats 8000000 in
theorem ZFW {Q:AEx->Fr->Zaa->Prop} {F:Fr} {H G:Zaa} {S rest name:Tx} {k r0 r1 r2 r3:Nat} {l:List Tir} (hS:S.length<=1000000) (hl:l.length<=4) (hd:S.drop k=l.reverse.flatMap ZB0++rest) (he:Zkb [] l=0)
  (h0:r0=H.next) (h1:r1=H.next+1) (h2:r2=H.next+2) (h3:r3=H.next+3) (hn0:H.next+4<=G.next) (hx0:Zaa.Ext H G) (hg0:G.get r0=some (.cells (sR S k) 94)) (hg1:G.get r1=some (.cells zR 94)) (hg2:G.get r2=some (.cells zD 100))
  (hg3:G.get r3=some (.cells [eS name,.sl .full []] 100))
  (f1:Fr.get F 1=.ptr r0 0) (f2:Fr.get F 2=.ptr r1 0) (f3:Fr.get F 3=.ptr r2 0) (f4:Fr.get F 4=.ptr r3 0) (f5:Fr.get F 5=.i (l.length:Int)) (f6:Fr.get F 6=.i 0) (f7:Fr.get F 7=.i 0)
  (hQ:∀F' G' tok,Zaa.Ext H G'->G'.get r0=some (.cells (sR S (k+(l.reverse.flatMap ZB0).length)) 94)->G'.get r1=some (.cells zR 94)->G'.get r2=some (.cells zD 100)->G'.get r3=some (.cells [eS name,.sl tok (rT l)] 100) ->
   Fr.get F' 1=.ptr r0 0->Fr.get F' 2=.ptr r1 0->Fr.get F' 3=.ptr r2 0->Fr.get F' 4=.ptr r3 0->Q .normal F' G'):AW Tryz.prog c92_1 Q F G:=by
 have qr:=trivial
 have qn:=trivial
 refine ZBA (fun m F G=>∃i tok,m+i=l.length/\Fr.get F 7=.i (i:Int)/\Fr.get F 6=.i (ZbR (l.drop m))/\Fr.get F 5=.i (l.length:Int)/\Fr.get F 1=.ptr r0 0/\Fr.get F 2=.ptr r1 0/\Fr.get F 3=.ptr r2 0/\Fr.get F 4=.ptr r3 0/\H.next+4<=G.next/\Zaa.Ext H G/\G.get r0=some (.cells (sR S (ZGo k l m)) 94)/\G.get r1=some (.cells zR 94)/\G.get r2=some (.cells zD 100)/\G.get r3=some (.cells [eS name,.sl tok (rT (l.drop m))] 100)) l.length (GStep.refl _ _) ⟨0,.full,rfl,f7,by rw[f6,zaw];rfl,f5,f1,f2,f3,f4,hn0,hx0,by rw[hg0];unfold ZGo;rw[zaw];rfl,hg1,hg2,by rw[zaw];exact hg3⟩ ?_
 rintro m F G ⟨i,tok,hm,f7,f6,f5,f1,f2,f3,f4,hnx,hx,hg0,hg1,hg2,hg3⟩
 have dE:((0:Int) == 0)=true:=rfl
 cases m with
 | succ m =>
  have hmi:m<l.length:=by omega
  have d1:decide ((i:Int)<(l.length:Int))=true:=by simp;omega
  have hw:=ZCE (s:=i) (by omega)
  have hte:=ZDO he hmi
  obtain⟨a,haE,ha⟩:∃a:Nat,ZbR (l.drop (m+1))=(a:Int)/\a<=200:=by
   by_cases h:m+1<l.length
   ·exact⟨_,ZC9 h,(ZBT (ZDO he h)).2.1⟩
   ·exact⟨0,by rw[zbs (by omega)];rfl,by omega⟩
  rw[haE]at hte f6
  have hpd:=ZGk hd hmi
  have hps:=ZG2 (k:=k) hmi
  have hab:=ZC9 hmi
  have hdr:rT (l.drop m)=eTr l[m] :: rT (l.drop (m+1)):=by rw[zai hmi];rfl
  have hrl:(rT (l.drop (m+1))).length=i:=by simp;omega
  have hal:ZaE 3 (rT (l.drop (m+1)))=true:=ZaU (f:=eTr) (sz:=3) (fun _=>rfl) _
  generalize hrn:(l.take m).reverse.flatMap ZB0++rest=rn at *
  generalize hP1:ZGo k l m=p1 at *
  generalize ZGo k l (m+1)=p0 at *
  generalize hR1:rT (l.drop m)=R1 at *
  generalize hA1:ZbR (l.drop m)=av at *
  generalize l[m]=t at *
  generalize rT (l.drop (m+1))=R0 at *
  have hrd:=fun H=>ZEw S p0 a t rn H hS (by omega) hpd hte
  rw[<- hps]at hrd
  obtain⟨e0,e1,e2,e3,e4⟩:=Zba t
  have hm1:1+i<=maxLen:=ZAp (by omega)
  have hm2:(1+i) * 64<=140737488355328:=by omega
  have l0:=Zaa.lt hg0
  have l3:=Zaa.lt hg3
  have n30:r3≠r0:=by omega
  skip
  have hZ:=an7 f7<|an7 f6<|an7 f5<|an7 f1<|an7 f2<|an7 f3<|an7 f4<|an7 hg0<|an7 d1<|dE;refine Bz1 ?_
  refine qcp (hrd _) fun k1=>?_
  have hal2:ZaE 3 [eTr t]=true:=rfl
  have hxE:Zaa.Ext H ((((((G.bump k1).alloc (.cells zR 94)).alloc (.cells zT 102)).set (G.next+k1) (.cells (sR S p1) 94)).set (G.next+k1+1) (.cells (eTr t) 102)).set r0 (.cells (sR S p1) 94)):=((((hx.bump.alloc).alloc).set (by omega)).set (by omega)).set (by omega)
  cases R0 with
  | nil =>
   have hq1:1+([]:List (List AV)).length<=maxLen:=ZAp (by simp)
   have hq3:1<=maxLen:=ZAp (by simp)
   have hq2:(1+([]:List (List AV)).length) * 64<=140737488355328:=by simp
   ((have hd:=tv;repeat' first|(first|apply Zad|apply Zac|apply Zab)<;>intro hd<;>try simp only[hd]|simp(disch:=first|assumption|omega|simp only[nx]<;>omega|fail)only[hd,qr,qn,ZfU,↓YA,YY,sevalprocAttr,f7,f6,f5,f1,f2,f3,f4,hg0,hg3,e0,e1,e2,e3,e4,hal,hal2,hq1,hq2,hq3,hw,YZp,zar])<;>try revert hd;refine ttr ?_)
   exact⟨m,by omega,i+1,_,by omega,rfl,by rw[hA1,hab],by omega,hxE.set (by omega),by rw[hP1],hg1,hg2,by rw[hR1,hdr]⟩
  | cons y R0 =>
   rw[List.length_cons]at hrl
   have hq1:1+(R0.length+1)<=maxLen:=ZAp (by omega)
   have hq2:(1+(R0.length+1)) * 64<=140737488355328:=by omega
   ((have hd:=tv;repeat' first|(first|apply Zad|apply Zac|apply Zab)<;>intro hd<;>try simp only[hd]|simp(disch:=first|assumption|omega|simp only[nx]<;>omega|fail)only[hd,qr,qn,ZfU,↓YA,YY,sevalprocAttr,f7,f6,f5,f1,f2,f3,f4,hg0,hg3,e0,e1,e2,e3,e4,hal,hal2,hq1,hq2,hw,YZp,zar,List.length_cons])<;>try revert hd;refine ttr ?_)
   exact⟨m,by omega,i+1,_,by omega,rfl,by rw[hA1,hab],by omega,hxE.alloc.set (by omega),by rw[hP1],hg1,hg2,by rw[hR1,hdr]⟩
 | zero =>
  obtain rfl:i=l.length:=by omega
  have d1:decide (((l.length:Nat):Int)<(l.length:Int))=false:=by simp
  rw[zax]at hg3
  have hp:ZGo k l 0=k+(l.reverse.flatMap ZB0).length:=by unfold ZGo;rw[zax]
  rw[hp]at hg0
  skip
  have hZ:=an7 f7<|an7 f5<|d1;refine Bz1 ?_
  exact hQ _ _ tok hx hg0 hg1 hg2 hg3 (by simpa [Fr.get] using f1) (by simpa [Fr.get] using f2) (by simpa [Fr.get] using f3) (by simpa [Fr.get] using f4)
theorem wkn_dm (d:Dm) (tok:Tok):Wkn (.agg [eS d.name,.sl tok (rT d.tiers)]) (.agg (eDm d)):=.agg _ _ rfl fun i x y hx hy=>by
 unfold eDm at hy
 match i with
 | 0=>simp at hx hy;subst hx hy;exact .refl _
 | 1=>simp at hx hy;subst hx hy;exact Zfm _ _
 | i+2=>simp at hx
set_option maxHeartbeats 8000000 in
theorem ZEY (S:Tx) (k:Nat) (d:Dm) (rest:Tx) (H:Zaa) (hS:S.length<=1000000) (hsm:∀t∈d.tiers,Zgr t) (hd:S.drop k=dmB d++rest) (he:Zdv d=0):Zay Tryz.prog 92 [.agg (sR S k)] H (Pure H (.tup [.agg (sR S (k+(dmB d).length)),.agg (eDm d)])):=by
 have hF:Zkb [] d.tiers=0/\d.tiers.length<=4/\d.name.length<=12:=by
  have he':=he
  unfold Zdv at he'
  split at he'
  ·cases he'
  ·rename_i hn
   split at he'
   ·cases he'
   ·refine⟨he',by omega,?_⟩
    have:ZbK d.name=true:=by simpa using hn
    unfold ZbK at this
    simp at this
    omega
 obtain⟨hF,hl4,hnm⟩:=hF
 have hd1:S.drop k=ZA4 d.name++(ZA2 d.tiers.length++(d.tiers.reverse.flatMap ZB0++rest)):=by rw[hd];unfold dmB;simp only[zak]
 have hd2:=ZBg hd1 rfl
 have hd3:=ZBg hd2 (ZA3 _).symm
 have htx:=fun H=>ZD5 S k 12 d.name _ H hS hd1 hnm (by omega)
 have hnum:=fun H=>ZBK S (k+(ZA4 d.name).length) d.tiers.length 4 _ H hS hd2 hl4 (by omega)
 have hwr:=fun H=>ZkC d H hsm
 rw[he]at hwr
 have hlen:k+(dmB d).length=k+(ZA4 d.name).length+ZA5 d.tiers.length+(d.tiers.reverse.flatMap ZB0).length:=by unfold dmB;simp only[zab,ZA3];omega
 rw[hlen]
 generalize k+(ZA4 d.name).length=ka at *
 generalize ka+ZA5 d.tiers.length=kb at *
 have hx0:Zaa.Ext H H:=.refl _
 have dE:((0:Int) == 0)=true:=rfl
 refine Zak hE cf92 (zaa rfl) fun Q qr qn=>?_
 ((have hd:=tv;repeat' first|(first|apply Zad|apply Zac|apply Zab)<;>intro hd<;>try simp only[hd]|simp(disch:=first|assumption|omega|simp only[nx]<;>omega|fail)only[hd,qr,qn,ZfU,↓YA,YY,sevalprocAttr,YZp])<;>try revert hd;refine ttr ?_)
 refine qcp (htx _) fun k1=>?_
 ((have hd:=tv;repeat' first|(first|apply Zad|apply Zac|apply Zab)<;>intro hd<;>try simp only[hd]|simp(disch:=first|assumption|omega|simp only[nx]<;>omega|fail)only[hd,qr,qn,ZfU,↓YA,YY,sevalprocAttr,YZp])<;>try revert hd;refine ttr ?_)
 refine qcp (hnum _) fun k2=>?_
 ((have hd:=tv;repeat' first|(first|apply Zad|apply Zac|apply Zab)<;>intro hd<;>try simp only[hd]|simp(disch:=first|assumption|omega|simp only[nx]<;>omega|fail)only[hd,qr,qn,ZfU,↓YA,YY,sevalprocAttr,YZp])<;>try revert hd;refine ttr ?_)
 refine ZFW (H:=H) (k:=kb) (name:=d.name) (r0:=H.next) (r1:=H.next+1) (r2:=H.next+1+1) (r3:=H.next+1+1+1) (l:=d.tiers) (rest:=rest) hS hl4 hd3 hF rfl rfl rfl rfl (by simp only[nx];omega) ?_ (by repeat (first|rw[Zaa.ZaB]|rw[Zaa.Zah (by omega)]|exact Zaa.Zal (by simp only[nx];omega)|exact Zaa.Zat (by first|rfl|(simp only[nx];omega))|rw[Zaa.Zag (by simp only[nx];omega)])) (by repeat (first|rw[Zaa.ZaB]|rw[Zaa.Zah (by omega)]|exact Zaa.Zal (by simp only[nx];omega)|exact Zaa.Zat (by first|rfl|(simp only[nx];omega))|rw[Zaa.Zag (by simp only[nx];omega)])) (by repeat (first|rw[Zaa.ZaB]|rw[Zaa.Zah (by omega)]|exact Zaa.Zal (by simp only[nx];omega)|exact Zaa.Zat (by first|rfl|(simp only[nx];omega))|rw[Zaa.Zag (by simp only[nx];omega)])) (by repeat (first|rw[Zaa.ZaB]|rw[Zaa.Zah (by omega)]|exact Zaa.Zal (by simp only[nx];omega)|exact Zaa.Zat (by first|rfl|(simp only[nx];omega))|rw[Zaa.Zag (by simp only[nx];omega)])) rfl rfl rfl rfl rfl rfl rfl ?_
 ·exact((((((hx0.alloc.alloc.alloc.alloc.bump).set (by omega)).set (by omega)).bump).set (by omega)))
 ·intro F G tok hx g0 g1 g2 g3 f1 f2 f3 f4
  have l0:=Zaa.lt g0
  have l1:=Zaa.lt g1
  have l2:=Zaa.lt g2
  have l3:=Zaa.lt g3
  have hZ:=an7 f1<|an7 f2<|an7 f3<|an7 f4<|an7 g0<|an7 g3<|dE;refine Bz1 ?_
  refine qcp (ZEI (wkn_dm d tok) (hwr _)) fun k3=>?_
  have hZ:=an7 f1<|an7 f2<|an7 f3<|an7 f4<|an7 g0<|an7 g1<|an7 g2<|g3;refine Bz1 ?_
  exact Zc1 (ZC5 (wkn_dm d tok)) (((hx.bump.set (zae _)).set (by omega)).set (by omega))
open Go.RowKit Go.Lib
abbrev zS:List AV:=[.sl .full [],.sl .full []]
def ZoG {α:Type} (f:α->Tx) (k:Nat) (l:List α) (i:Nat):Nat:=k+((l.take i).flatMap f).length
theorem ZEB {α:Type} {f:α->Tx} {S rest:Tx} {k:Nat} {l:List α} (hd:S.drop k=l.flatMap f++rest) {i:Nat} (h:i<l.length):S.drop (ZoG f k l i)=f l[i]++((l.drop (i+1)).flatMap f++rest):=by
 have e:l.flatMap f=(l.take i).flatMap f++(l.drop i).flatMap f:=by
  conv=>lhs;rw[<- za6 i l]
  rw[za4]
 rw[e,zak]at hd
 have:=ZBg hd rfl
 unfold ZoG
 rw[this,zai h,za7,zak]
theorem Zot {α:Type} {f:α->Tx} {k:Nat} {l:List α} {i:Nat} (h:i<l.length):ZoG f k l (i+1)=ZoG f k l i+(f l[i]).length:=by
 unfold ZoG
 rw[ZBJ h,zab];omega
set_option maxHeartbeats 8000000 in
theorem ZG7 {Q:AEx->Fr->Zaa->Prop} {F:Fr} {H G:Zaa} {S rest:Tx} {k r0 r1 r2 r3:Nat} {l:List Dm} (hS:S.length<=1000000) (hl:l.length<=16) (hd:S.drop k=l.flatMap dmB++rest) (hsm:∀d∈l,∀t∈d.tiers,Zgr t) (he:∀d∈l,Zdv d=0) 
  (h0:r0=H.next) (h1:r1=H.next+1) (h2:r2=H.next+2) (h3:r3=H.next+3) (hn0:H.next+4<=G.next) (hx0:Zaa.Ext H G) (hg0:G.get r0=some (.cells (sR S k) 94)) (hg1:G.get r1=some (.cells zR 94)) (hg2:G.get r2=some (.cells zS 76))
  (hg3:G.get r3=some (.cells [.sl .full ([]),.sl .full []] 76))
  (f1:Fr.get F 1=.ptr r0 0) (f2:Fr.get F 2=.ptr r1 0) (f3:Fr.get F 3=.ptr r2 0) (f4:Fr.get F 4=.ptr r3 0) (f5:Fr.get F 5=.i (l.length:Int)) (f6:Fr.get F 6=.i 0)
  (hQ:∀F' G' tok,Zaa.Ext H G'->H.next+4<=G'.next->G'.get r0=some (.cells (sR S (k+(l.flatMap dmB).length)) 94)->G'.get r1=some (.cells zR 94)->G'.get r2=some (.cells zS 76)->G'.get r3=some (.cells [.sl tok (rD l),.sl .full []] 76) ->
   Fr.get F' 1=.ptr r0 0->Fr.get F' 2=.ptr r1 0->Fr.get F' 3=.ptr r2 0->Fr.get F' 4=.ptr r3 0->Q .normal F' G'):AW Tryz.prog c56_1 Q F G:=by
 have qr:=trivial
 have qn:=trivial
 refine ZBA (fun m F G=>∃i tok,m+i=l.length/\Fr.get F 6=.i (i:Int)/\Fr.get F 5=.i (l.length:Int)/\Fr.get F 1=.ptr r0 0/\Fr.get F 2=.ptr r1 0/\Fr.get F 3=.ptr r2 0/\Fr.get F 4=.ptr r3 0/\ZCe (H.next+4) G 100 2 i tok/\H.next+4<=G.next/\Zaa.Ext H G/\G.get r0=some (.cells (sR S (ZoG dmB k l i)) 94)/\G.get r1=some (.cells zR 94)/\G.get r2=some (.cells zS 76)/\G.get r3=some (.cells [.sl tok (rD (l.take i)),.sl .full []] 76)) l.length (GStep.refl _ _) ⟨0,.full,rfl,f6,f5,f1,f2,f3,f4,.inl rfl,hn0,hx0,hg0,hg1,hg2,hg3⟩ ?_
 rintro m F G ⟨i,tok,hm,f6,f5,f1,f2,f3,f4,hT,hnx,hx,hg0,hg1,hg2,hg3⟩
 have dE:((0:Int) == 0)=true:=rfl
 by_cases hi:i<l.length
 ·have d1:decide ((i:Int)<(l.length:Int))=true:=by simp;omega
  have hw:=ZCE (s:=i) (by omega)
  have hpd:=ZEB hd hi
  have hps:=Zot (f:=dmB) (k:=k) hi
  have hsn:rD (l.take i)++[eDm l[i]]=rD (l.take (i+1)):=by rw[zah hi];unfold rD;rw[zaG];rfl
  have hrl:(rD (l.take i)).length=i:=by simp;omega
  have hal:ZaE 2 (rD (l.take i))=true:=ZaU (f:=eDm) (sz:=2) (fun _=>rfl) _
  have hm1:i+1<=maxLen:=ZAp (by omega)
  have hm2:(i+1) * 40<=140737488355328:=by omega
  have hsx:=hsm _ (zan hi)
  have hex:=he _ (zan hi)
  generalize hrn:(l.drop (i+1)).flatMap dmB++rest=rn at *
  generalize hR1:rD (l.take (i+1))=R1 at *
  generalize hP1:ZoG dmB k l (i+1)=p1 at *
  generalize ZoG dmB k l i=p0 at *
  generalize l[i]=x at *
  generalize rD (l.take i)=R0 at *
  have hrd:=fun H=>ZEY S p0 x rn H hS hsx hpd hex
  rw[<- hps]at hrd
  have hal2:ZaE 2 [eDm x]=true:=rfl
  obtain⟨e0,e1,e2,e3⟩:=Za7 x
  have l0:=Zaa.lt hg0
  have l3:=Zaa.lt hg3
  have n30:r3≠r0:=by omega
  skip
  have hZ:=an7 f6<|an7 f5<|an7 f1<|an7 f2<|an7 f3<|an7 f4<|an7 hg0<|an7 d1<|dE;refine Bz1 ?_
  refine qcp (hrd _) fun k1=>?_
  rcases hT with rfl|⟨t',ht',rfl,hgt⟩
  ·((have hd:=tv;repeat' first|(first|apply Zad|apply Zac|apply Zab)<;>intro hd<;>try simp only[hd]|simp(disch:=first|assumption|omega|simp only[nx]<;>omega|fail)only[hd,qr,qn,Zfd,↓YA,YY,sevalprocAttr,f6,f5,f1,f2,f3,f4,hg0,hg3,e0,e1,e2,e3,hrl,hal,hal2,hm1,hm2,hsn,hw,YZp])<;>try revert hd;refine ttr ?_)
   exact⟨m - 1,by omega,i+1,.own (G.next+k1+1+1),by omega,rfl,.inr ⟨_,by omega,rfl,by rw[Zaa.Zah (by omega)];exact Zaa.Zat rfl⟩,by omega,(((((((hx.bump.alloc).alloc).set (by omega)).set (by omega)).set (by omega)).alloc).set (by omega)),by rw[hP1],hg1,hg2,by rw[hR1]⟩
  ·have lt':=Zaa.lt hgt
   ((have hd:=tv;repeat' first|(first|apply Zad|apply Zac|apply Zab)<;>intro hd<;>try simp only[hd]|simp(disch:=first|assumption|omega|simp only[nx]<;>omega|fail)only[hd,qr,qn,Zfd,↓YA,YY,sevalprocAttr,f6,f5,f1,f2,f3,f4,hg0,hg3,hgt,e0,e1,e2,e3,hrl,hal,hal2,hm1,hm2,hsn,hw,YZp])<;>try revert hd;refine ttr ?_)
   exact⟨m - 1,by omega,i+1,_,by omega,rfl,.inr ⟨t',ht',rfl,by rw[Zaa.Zah (by omega)];exact Zaa.Zal (by simp only[nx];omega)⟩,by omega,(((((((hx.bump.alloc).alloc).set (by omega)).set (by omega)).set (by omega)).set (by omega)).set (by omega)),by rw[hP1],hg1,hg2,by rw[hR1]⟩
 ·obtain rfl:i=l.length:=by omega
  rw[zas]at hg3
  have hp':ZoG dmB k l l.length=k+(l.flatMap dmB).length:=by unfold ZoG;rw[zas]
  rw[hp']at hg0
  have d1:decide (((l.length:Nat):Int)<(l.length:Int))=false:=by simp
  skip
  have hZ:=an7 f6<|an7 f5<|d1;refine Bz1 ?_
  exact hQ _ _ tok hx hnx hg0 hg1 hg2 hg3 (by simpa [Fr.get] using f1) (by simpa [Fr.get] using f2) (by simpa [Fr.get] using f3) (by simpa [Fr.get] using f4)
set_option maxHeartbeats 8000000 in
theorem ZGZ {Q:AEx->Fr->Zaa->Prop} {F:Fr} {H G:Zaa} {S rest:Tx} {tk:Tok} {ds:List Dm} {k r0 r1 r2 r3:Nat} {l:List Tx} (hS:S.length<=1000000) (hl:l.length<=3) (hd:S.drop k=l.flatMap ZA4++rest) (hnm:∀s∈l,s.length<=12) 
  (h0:r0=H.next) (h1:r1=H.next+1) (h2:r2=H.next+2) (h3:r3=H.next+3) (hn0:H.next+4<=G.next) (hx0:Zaa.Ext H G) (hg0:G.get r0=some (.cells (sR S k) 94)) (hg1:G.get r1=some (.cells zR 94)) (hg2:G.get r2=some (.cells zS 76))
  (hg3:G.get r3=some (.cells [.sl tk (rD ds),.sl .full ([])] 76))
  (f1:Fr.get F 1=.ptr r0 0) (f2:Fr.get F 2=.ptr r1 0) (f3:Fr.get F 3=.ptr r2 0) (f4:Fr.get F 4=.ptr r3 0) (f5:Fr.get F 5=.i (l.length:Int)) (f9:Fr.get F 9=.i 0)
  (hQ:∀F' G' tok,Zaa.Ext H G'->H.next+4<=G'.next->G'.get r0=some (.cells (sR S (k+(l.flatMap ZA4).length)) 94)->G'.get r1=some (.cells zR 94)->G'.get r2=some (.cells zS 76)->G'.get r3=some (.cells [.sl tk (rD ds),.sl tok (rS l)] 76) ->
   Fr.get F' 1=.ptr r0 0->Fr.get F' 2=.ptr r1 0->Fr.get F' 3=.ptr r2 0->Fr.get F' 4=.ptr r3 0->Q .normal F' G'):AW Tryz.prog c56_2 Q F G:=by
 have qr:=trivial
 have qn:=trivial
 refine ZBA (fun m F G=>∃i tok,m+i=l.length/\Fr.get F 9=.i (i:Int)/\Fr.get F 5=.i (l.length:Int)/\Fr.get F 1=.ptr r0 0/\Fr.get F 2=.ptr r1 0/\Fr.get F 3=.ptr r2 0/\Fr.get F 4=.ptr r3 0/\ZCe (H.next+4) G 9 1 i tok/\H.next+4<=G.next/\Zaa.Ext H G/\G.get r0=some (.cells (sR S (ZoG ZA4 k l i)) 94)/\G.get r1=some (.cells zR 94)/\G.get r2=some (.cells zS 76)/\G.get r3=some (.cells [.sl tk (rD ds),.sl tok (rS (l.take i))] 76)) l.length (GStep.refl _ _) ⟨0,.full,rfl,f9,f5,f1,f2,f3,f4,.inl rfl,hn0,hx0,hg0,hg1,hg2,hg3⟩ ?_
 rintro m F G ⟨i,tok,hm,f9,f5,f1,f2,f3,f4,hT,hnx,hx,hg0,hg1,hg2,hg3⟩
 have dE:((0:Int) == 0)=true:=rfl
 by_cases hi:i<l.length
 ·have d1:decide ((i:Int)<(l.length:Int))=true:=by simp;omega
  have hw:=ZCE (s:=i) (by omega)
  have hpd:=ZEB hd hi
  have hps:=Zot (f:=ZA4) (k:=k) hi
  have hsn:rS (l.take i)++[(fun s=>[eS s]) l[i]]=rS (l.take (i+1)):=by rw[zah hi];unfold rS;rw[zaG];rfl
  have hrl:(rS (l.take i)).length=i:=by simp;omega
  have hal:ZaE 1 (rS (l.take i))=true:=ZaU (f:=(fun s=>[eS s])) (sz:=1) (fun _=>rfl) _
  have hm1:i+1<=maxLen:=ZAp (by omega)
  have hm2:(i+1) * 16<=140737488355328:=by omega
  have hnx2:=hnm _ (zan hi)
  generalize hrn:(l.drop (i+1)).flatMap ZA4++rest=rn at *
  generalize hR1:rS (l.take (i+1))=R1 at *
  generalize hP1:ZoG ZA4 k l (i+1)=p1 at *
  generalize ZoG ZA4 k l i=p0 at *
  generalize l[i]=x at *
  generalize rS (l.take i)=R0 at *
  have hrd:=fun H=>ZD5 S p0 12 x rn H hS hpd hnx2 (by omega)
  rw[<- hps]at hrd
  have hal2:ZaE 1 [(fun s=>[eS s]) x]=true:=rfl
  have l0:=Zaa.lt hg0
  have l3:=Zaa.lt hg3
  have n30:r3≠r0:=by omega
  skip
  have hZ:=an7 f9<|an7 f5<|an7 f1<|an7 f2<|an7 f3<|an7 f4<|an7 hg0<|an7 d1<|dE;refine Bz1 ?_
  refine qcp (hrd _) fun k1=>?_
  rcases hT with rfl|⟨t',ht',rfl,hgt⟩
  ·((have hd:=tv;repeat' first|(first|apply Zad|apply Zac|apply Zab)<;>intro hd<;>try simp only[hd]|simp(disch:=first|assumption|omega|simp only[nx]<;>omega|fail)only[hd,qr,qn,Zfd,↓YA,YY,sevalprocAttr,f9,f5,f1,f2,f3,f4,hg0,hg3,hrl,hal,hal2,hm1,hm2,hsn,hw,YZp])<;>try revert hd;refine ttr ?_)
   exact⟨m - 1,by omega,i+1,.own (G.next+k1+1),by omega,rfl,.inr ⟨_,by omega,rfl,by rw[Zaa.Zah (by omega)];exact Zaa.Zat rfl⟩,by omega,((((hx.bump.alloc).set (by omega)).alloc).set (by omega)),by rw[hP1],hg1,hg2,by rw[hR1]⟩
  ·have lt':=Zaa.lt hgt
   ((have hd:=tv;repeat' first|(first|apply Zad|apply Zac|apply Zab)<;>intro hd<;>try simp only[hd]|simp(disch:=first|assumption|omega|simp only[nx]<;>omega|fail)only[hd,qr,qn,Zfd,↓YA,YY,sevalprocAttr,f9,f5,f1,f2,f3,f4,hg0,hg3,hgt,hrl,hal,hal2,hm1,hm2,hsn,hw,YZp])<;>try revert hd;refine ttr ?_)
   exact⟨m - 1,by omega,i+1,_,by omega,rfl,.inr ⟨t',ht',rfl,by rw[Zaa.Zah (by omega)];exact Zaa.Zal (by simp only[nx];omega)⟩,by omega,((((hx.bump.alloc).set (by omega)).set (by omega)).set (by omega)),by rw[hP1],hg1,hg2,by rw[hR1]⟩
 ·obtain rfl:i=l.length:=by omega
  rw[zas]at hg3
  have hp':ZoG ZA4 k l l.length=k+(l.flatMap ZA4).length:=by unfold ZoG;rw[zas]
  rw[hp']at hg0
  have d1:decide (((l.length:Nat):Int)<(l.length:Int))=false:=by simp
  skip
  have hZ:=an7 f9<|an7 f5<|d1;refine Bz1 ?_
  exact hQ _ _ tok hx hnx hg0 hg1 hg2 hg3 (by simpa [Fr.get] using f1) (by simpa [Fr.get] using f2) (by simpa [Fr.get] using f3) (by simpa [Fr.get] using f4)
theorem ZDt:∀{l:List Tx} {seen:List Tx},Zgh seen l=0->∀s∈l,s.length<=12
 | [],_,_,s,h=>by cases h
 | t :: r,seen,hd,s,h=>by
  unfold Zgh at hd
  split at hd
  ·cases hd
  ·rename_i hn
   split at hd
   ·cases hd
   ·rcases zaq.1 h with rfl|h
    ·have:ZbK s=true:=by simpa using hn
     unfold ZbK at this
     simp at this
     omega
    ·exact ZDt hd s h
theorem wkn_sc (s:Sc) (t1 t2:Tok):Wkn (.agg [.sl t1 (rD s.dims),.sl t2 (rS s.meas)]) (.agg (eSc s)):=.agg _ _ rfl fun i x y hx hy=>by
 unfold eSc at hy
 match i with
 | 0=>simp at hx hy;subst hx hy;exact Zfm _ _
 | 1=>simp at hx hy;subst hx hy;exact Zfm _ _
 | i+2=>simp at hx
theorem ZCV {s:Sc} (he:scE s=0):s.dims.length<=16/\(∀d∈s.dims,Zdv d=0)/\s.meas.length<=3/\∀m∈s.meas,m.length<=12:=by
 unfold scE at he
 split at he
 ·cases he
 ·split at he
  ·exact absurd he (by assumption)
  ·rename_i h1 h2
   unfold Zd8 at he
   split at he
   ·cases he
   ·exact⟨by omega,ZDX (by simpa using h2),by omega,ZDt he⟩
set_option maxHeartbeats 8000000 in
theorem ZFR (S:Tx) (k:Nat) (s:Sc) (rest:Tx) (H:Zaa) (hS:S.length<=1000000) (hsm:Zh1 s) (hd:S.drop k=scB s++rest) (he:scE s=0):Zay Tryz.prog 56 [.agg (sR S k)] H (Pure H (.tup [.agg (sR S (k+(scB s).length)),.agg (eSc s)])):=by
 obtain⟨hl1,hdE,hl2,hnm⟩:=ZCV he
 have hd1:S.drop k=ZA2 s.dims.length++(s.dims.flatMap dmB++(ZA2 s.meas.length++(s.meas.flatMap ZA4++rest))):=by rw[hd];unfold scB;simp only[zak]
 have hd2:=ZBg hd1 (ZA3 _).symm
 have hd3:=ZBg hd2 rfl
 have hd4:=ZBg hd3 (ZA3 _).symm
 have hn1:=fun H=>ZBK S k s.dims.length 16 _ H hS hd1 hl1 (by omega)
 have hn2:=fun H=>ZBK S (k+ZA5 s.dims.length+(s.dims.flatMap dmB).length) s.meas.length 3 _ H hS hd3 hl2 (by omega)
 have hwr:=fun H=>ZeE s H hsm
 rw[he]at hwr
 have hlen:k+(scB s).length=k+ZA5 s.dims.length+(s.dims.flatMap dmB).length+ZA5 s.meas.length+(s.meas.flatMap ZA4).length:=by unfold scB;simp only[zab,ZA3];omega
 rw[hlen]
 generalize k+ZA5 s.dims.length=ka at *
 generalize hkb:ka+(s.dims.flatMap dmB).length=kb at *
 generalize kb+ZA5 s.meas.length=kc at *
 have hx0:Zaa.Ext H H:=.refl _
 have dE:((0:Int) == 0)=true:=rfl
 refine Zak hE cf56 (zaa rfl) fun Q qr qn=>?_
 ((have hd:=tv;repeat' first|(first|apply Zad|apply Zac|apply Zab)<;>intro hd<;>try simp only[hd]|simp(disch:=first|assumption|omega|simp only[nx]<;>omega|fail)only[hd,qr,qn,Zfd,↓YA,YY,sevalprocAttr,YZp])<;>try revert hd;refine ttr ?_)
 refine qcp (hn1 _) fun k1=>?_
 ((have hd:=tv;repeat' first|(first|apply Zad|apply Zac|apply Zab)<;>intro hd<;>try simp only[hd]|simp(disch:=first|assumption|omega|simp only[nx]<;>omega|fail)only[hd,qr,qn,Zfd,↓YA,YY,sevalprocAttr,YZp])<;>try revert hd;refine ttr ?_)
 refine ZG7 (H:=H) (k:=ka) (r0:=H.next) (r1:=H.next+1) (r2:=H.next+1+1) (r3:=H.next+1+1+1) (l:=s.dims) (rest:=ZA2 s.meas.length++(s.meas.flatMap ZA4++rest)) hS hl1 hd2 hsm hdE rfl rfl rfl rfl (by simp only[nx];omega) ?_ (by repeat (first|rw[Zaa.ZaB]|rw[Zaa.Zah (by omega)]|exact Zaa.Zal (by simp only[nx];omega)|exact Zaa.Zat (by first|rfl|(simp only[nx];omega))|rw[Zaa.Zag (by simp only[nx];omega)])) (by repeat (first|rw[Zaa.ZaB]|rw[Zaa.Zah (by omega)]|exact Zaa.Zal (by simp only[nx];omega)|exact Zaa.Zat (by first|rfl|(simp only[nx];omega))|rw[Zaa.Zag (by simp only[nx];omega)])) (by repeat (first|rw[Zaa.ZaB]|rw[Zaa.Zah (by omega)]|exact Zaa.Zal (by simp only[nx];omega)|exact Zaa.Zat (by first|rfl|(simp only[nx];omega))|rw[Zaa.Zag (by simp only[nx];omega)])) (by repeat (first|rw[Zaa.ZaB]|rw[Zaa.Zah (by omega)]|exact Zaa.Zal (by simp only[nx];omega)|exact Zaa.Zat (by first|rfl|(simp only[nx];omega))|rw[Zaa.Zag (by simp only[nx];omega)])) rfl rfl rfl rfl rfl rfl ?_
 ·exact((hx0.alloc.alloc.alloc.alloc.bump).set (by omega))
 ·intro F G tok hx hnx g0 g1 g2 g3 f1 f2 f3 f4
  rw[hkb]at g0
  have l0:=Zaa.lt g0
  have l1:=Zaa.lt g1
  have l2:=Zaa.lt g2
  have l3:=Zaa.lt g3
  have hZ:=an7 f1<|an7 f2<|an7 f3<|an7 f4<|an7 g0<|g3;refine Bz1 ?_
  refine qcp (hn2 _) fun k2=>?_
  have hZ:=an7 f1<|an7 f2<|an7 f3<|an7 f4<|an7 g0<|g3;refine Bz1 ?_
  refine ZGZ (H:=H) (k:=kc) (tk:=tok) (ds:=s.dims) (r0:=H.next) (r1:=H.next+1) (r2:=H.next+1+1) (r3:=H.next+1+1+1) (l:=s.meas) (rest:=rest) hS hl2 hd4 hnm rfl rfl rfl rfl (by simp only[nx];omega) ?_ (Zaa.Zal (by simp only[nx];omega)) ?_ ?_ ?_ f1 f2 f3 f4 rfl rfl ?_
  ·exact(hx.bump.set (by omega))
  ·rw[Zaa.Zah (by omega),Zaa.ZaB];exact g1
  ·rw[Zaa.Zah (by omega),Zaa.ZaB];exact g2
  ·rw[Zaa.Zah (by omega),Zaa.ZaB];exact g3
  ·intro F G tok2 hx hnx g0 g1 g2 g3 f1 f2 f3 f4
   have l0:=Zaa.lt g0
   have l1:=Zaa.lt g1
   have l2:=Zaa.lt g2
   have l3:=Zaa.lt g3
   have hZ:=an7 f1<|an7 f2<|an7 f3<|an7 f4<|an7 g0<|an7 g3<|dE;refine Bz1 ?_
   refine qcp (ZEI (wkn_sc s tok tok2) (hwr _)) fun k3=>?_
   have hZ:=an7 f1<|an7 f2<|an7 f3<|an7 f4<|an7 g0<|an7 g1<|an7 g2<|g3;refine Bz1 ?_
   exact Zc1 (ZC5 (wkn_sc s tok tok2)) (((hx.bump.set (zae _)).set (by omega)).set (by omega))
set_option maxHeartbeats 8000000 in
theorem ZD8 (s:Sc) (H:Zaa) (hw:(scB s).length<=1000000) (hsm:Zh1 s) (he:scE s=0):Zay Tryz.prog 31 [eS (scB s)] H (Pure H (.tup [.agg (eSc s),.b true])):=by
 have hr:=fun H=>ZFR (scB s) 0 s [] H hw hsm (by simp) he
 rw[zaR]at hr
 have hend:=ZGV (scB s)
 obtain⟨e0,e1,e2,e3⟩:=ZbB s
 have d0:((0:Int) != 0)=false:=rfl
 have hx0:Zaa.Ext H H:=.refl _
 generalize scB s=B at *
 refine Zak hE cf31 (zaa rfl) fun Q qr qn=>?_
 ((have hd:=tv;repeat' first|(first|apply Zad|apply Zac|apply Zab)<;>intro hd<;>try simp only[hd]|simp(disch:=first|assumption|omega|simp only[nx]<;>omega|fail)only[hd,qr,qn,ZoW,↓YA,YY,sevalprocAttr,YZp])<;>try revert hd;refine ttr ?_)
 refine qcp (hr _) fun k1=>?_
 ((have hd:=tv;repeat' first|(first|apply Zad|apply Zac|apply Zab)<;>intro hd<;>try simp only[hd]|simp(disch:=first|assumption|omega|simp only[nx]<;>omega|fail)only[hd,qr,qn,ZoW,↓YA,YY,sevalprocAttr,YZp,e0])<;>try revert hd;refine ttr ?_)
 refine qcp (hend _) fun k2=>?_
 have hZ:=an7 d0<|an7 e0<|an7 e1<|an7 e2<|e3;refine Bz1 ?_
 exact ZaW ((((((hx0.alloc.bump.alloc).alloc).set (by omega)).set (by omega)).bump).set (zae _)) rfl
end Go.Proofs.YtemmgefppobboaaGreatDoor
