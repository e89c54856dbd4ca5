/- Texts of the walk. -/
import Derived.Test.YtfjjpndoeppbhaaGreatDoorMm
import Derived.Test.YtfjjpndoeppbhaaGreatDoorMo
namespace Go.Proofs.YtfjjpndoeppbhaaGreatDoor
set_option linter.defProp false
set_option maxHeartbeats 64000000
set_option linter.unusedSimpArgs false
set_option linter.unusedVariables false
open Go.RowKit Go.Lib
theorem ZLg:∀(j n m:Nat),beB j n=beB j m->n % 256 ^ j=m % 256 ^ j
 | 0,n,m,_=>by simp[Nat.mod_one]
 | j+1,n,m,h=>by
  rw[beB,beB]at h
  injection h with h1 h2
  have ih:=ZLg j n m h2
  have h1:(n / 256 ^ j) % 256=(m / 256 ^ j) % 256:=by
   have:=congrArg UInt8.toNat h1
   simpa using this
  rw[Nat.pow_succ,Nat.mod_mul,Nat.mod_mul,ih,h1]
theorem ZLN {n m:Nat} {r q:Tx} (hn:n<18446744073709551616) (hm:m<18446744073709551616) (h:ZA2 n++r=ZA2 m++q):ZA5 n=ZA5 m:=by
 obtain⟨a1,a2⟩:=ZIg hn
 obtain⟨b1,b2⟩:=ZIg hm
 unfold ZA2 at h
 rw[List.cons_append,List.cons_append]at h
 injection h with h1 h2
 have h1:=congrArg UInt8.toNat h1
 rw[a1,b1]at h1
 have sn:=ZA7 n
 have sm:=ZA7 m
 generalize n / 256 ^ (ZA5 n - 1)=x at *
 generalize m / 256 ^ (ZA5 m - 1)=y at *
 rcases Nat.lt_trichotomy (ZA5 n) (ZA5 m)with hl|hl|hl
 ·have:=a2 Xa
  have l:=(ZDh ⟨ZA5 n+1,Xa⟩ ⟨ZA5 m,Xa⟩ Xc Xf).1
  simp only at l
  omega
 ·exact hl
 ·have:=b2 Xa
  have l:=(ZDh ⟨ZA5 m+1,Xa⟩ ⟨ZA5 n,Xa⟩ Xc Xf).1
  simp only at l
  omega
theorem putB_inj {n m:Nat} {r q:Tx} (hn:n<18446744073709551616) (hm:m<18446744073709551616) (h:ZA2 n++r=ZA2 m++q):n=m/\r=q:=by
 have hs:=ZLN hn hm h
 obtain⟨h1,h2⟩:=List.append_inj h (by rw[ZA3,ZA3,hs])
 refine⟨?_,h2⟩
 have a1:=(ZIg hn).1
 have b1:=(ZIg hm).1
 unfold ZA2 at h1
 injection h1 with h3 h4
 have h3:=congrArg UInt8.toNat h3
 rw[a1,b1,hs]at h3
 rw[hs]at h4
 have h5:=ZLg _ _ _ h4
 have h6:n / 256 ^ (ZA5 m - 1)=m / 256 ^ (ZA5 m - 1):=Xa
 have e1:=zb0 n (256 ^ (ZA5 m - 1))
 have e2:=zb0 m (256 ^ (ZA5 m - 1))
 rw[h6,h5]at e1
 omega
def IsNum (b:Tx) (p:Nat×Tx):Prop:=p.1<18446744073709551616/\b=ZA2 p.1++p.2
open Classical in
noncomputable def gAny (b:Tx):Option (Nat×Tx):=if h:∃p,IsNum b p then some (Classical.choose h) else none
theorem ZKQ {n:Nat} {r:Tx} (hn:n<18446744073709551616):gAny (ZA2 n++r)=some (n,r):=by
 have h:∃p,IsNum (ZA2 n++r) p:=⟨(n,r),hn,rfl⟩
 unfold gAny
 rw[dif_pos h]
 obtain⟨h1,h2⟩:=zbV h
 obtain⟨h3,h4⟩:=putB_inj hn h1 h2
 congr 1
 exact Prod.ext h3.symm h4.symm
theorem ZHX {b:Tx} {n:Nat} {r:Tx} (h:gAny b=some (n,r)):n<18446744073709551616/\b=ZA2 n++r:=by
 unfold gAny at h
 split at h
 ·rename_i hh
  injection h with h
  have:=zbV hh
  rw[h]at this
  exact this
 ·cases h
noncomputable def gNum (most:Nat) (b:Tx):Option (Nat×Tx):=match gAny b with
 | some (n,r)=>if n<=most then some (n,r) else none
 | none=>none
theorem ZHr {most:Nat} {b:Tx} {n:Nat} {r:Tx} (h:gNum most b=some (n,r)):n<=most/\n<18446744073709551616/\b=ZA2 n++r:=by
 unfold gNum at h
 split at h
 ·rename_i n' r' e
  split at h
  ·rename_i hl
   injection h with h
   injection h with h1 h2
   subst h1 h2
   exact⟨hl,ZHX e⟩
  ·cases h
 ·cases h
noncomputable def gTxt (most:Nat) (b:Tx):Option (Tx×Tx):=match gNum most b with
 | some (n,r)=>if n<=r.length then some (r.take n,r.drop n) else none
 | none=>none
def ZHu {α:Type} (f:List α->Tx->Option (α×Tx)):Nat->List α->Tx->Option (List α×Tx)
 | 0,acc,b=>some (acc,b)
 | n+1,acc,b=>match f acc b with
  | some (a,r)=>ZHu f n (acc++[a]) r
  | none=>none
open Go.RowKit Go.Lib
def beV (l:Tx):Nat:=l.foldl (fun n c=>n * 256+c.toNat) 0
theorem beV_snoc (l:Tx) (c:UInt8):beV (l++[c])=beV l * 256+c.toNat:=by simp[beV]
theorem ZIV:∀(l:Tx) (a:Nat),l.foldl (fun n c=>n * 256+c.toNat) a=a * 256 ^ l.length+beV l
 | [],a=>by simp[beV]
 | c :: l,a=>by
  have h1:=ZIV l (a * 256+c.toNat)
  have h2:=ZIV l (0 * 256+c.toNat)
  unfold beV
  rw[List.foldl_cons,List.foldl_cons,h1,h2,List.length_cons,Nat.pow_succ]
  simp only[zbf,zax,zaX]
  have:a * 256 * 256 ^ l.length=a * (256 ^ l.length * 256):=by rw[zcD,za7 256]
  omega
theorem ZI2 (c:UInt8) (l:Tx):beV (c :: l)=c.toNat * 256 ^ l.length+beV l:=by
 have:=ZIV l (0 * 256+c.toNat)
 simp only[zbf,zax]at this
 rw[<- this]
 simp[beV]
theorem ZJf:∀l:Tx,beV l<256 ^ l.length
 | []=>by simp[beV]
 | c :: l=>by
  have ih:=ZJf l
  have hc:=c.toNat_lt
  rw[ZI2,List.length_cons,Nat.pow_succ]
  have:c.toNat * 256 ^ l.length<=255 * 256 ^ l.length:=zbe _ Xa
  omega
theorem ZRD:∀(l:Tx) (q:Nat),beB l.length (q * 256 ^ l.length+beV l)=l
 | [],_=>rfl
 | c :: l,q=>by
  have ih:=ZRD l (q * 256+c.toNat)
  have hl:=ZJf l
  have hp:0<256 ^ l.length:=Nat.pow_pos Xb
  have e:q * 256 ^ (l.length+1)+beV (c :: l)=(q * 256+c.toNat) * 256 ^ l.length+beV l:=by
   rw[ZI2,Nat.pow_succ,zaX,zcD,za7 256 (256 ^ l.length)]
   omega
  rw[List.length_cons,e,beB,ih,zbN,Nat.add_mul_div_right _ _ hp,zbM hl,zax]
  congr 1
  apply UInt8.toNat_inj.1
  simp
theorem ZM9:∀(j n:Nat),beV (beB j n)=n % 256 ^ j
 | 0,n=>by simp[beB,beV,Nat.mod_one]
 | j+1,n=>by
  rw[beB,ZI2,ZM9 j n,ZB7,Nat.pow_succ,Nat.mod_mul]
  have:(UInt8.ofNat (n / 256 ^ j)).toNat=n / 256 ^ j % 256:=Xc
  rw[this,za7]
  omega
structure HdN (c:UInt8) (z h:Nat):Prop where
 z1:1<=z
 z9:z<=9
 c:c.toNat=ZBa z+h
 h:(z<9->h<2 ^ (8 - z))/\(z=9->h=0)
theorem ledN9:∀z:Fin 10,1<=z.val->(z.val<9->ZBa z.val+2 ^ (8 - z.val)=ZBa (z.val+1)):=by decide +kernel
theorem put_hd {n:Nat} (hn:n<18446744073709551616):∃c,ZA2 n=c :: beB (ZA5 n - 1) n/\HdN c (ZA5 n) (n / 256 ^ (ZA5 n - 1)):=by
 obtain⟨h1,h9⟩:=ZA7 n
 exact⟨_,rfl,h1,h9,(ZIg hn).1,ZD2 h1 h9 ZC3 hn⟩
theorem HdN.uniq {c:UInt8} {z h z' h':Nat} (a:HdN c z h) (b:HdN c z' h'):z=z'/\h=h':=by
 obtain⟨a1,a9,ac,ah⟩:=a
 obtain⟨b1,b9,bc,bh⟩:=b
 have key:∀{z h z' h':Nat},1<=z->z<=9->z'<=9->c.toNat=ZBa z+h->c.toNat=ZBa z'+h'->(z<9->h<2 ^ (8 - z))->¬z<z':=by
  intro z h z' h' k1 k9 k9' e e' kh hl
  have l1:=(ledN9 ⟨z,Xa⟩ k1) (by simp only;omega)
  simp only at l1
  have l2:=(ZDh ⟨z+1,Xa⟩ ⟨z',Xa⟩ Xc (by simp only;omega)).1
  simp only at l2
  have:=kh Xa
  omega
 have h1:=key a1 a9 b9 ac bc ah.1
 have h2:=key b1 b9 a9 bc ac bh.1
 have:z=z':=Xa
 subst this
 exact⟨rfl,Xa⟩
theorem ZKO {z h:Nat} {l:Tx} (h1:1<=z) (h9:z<=9) (hh:(z<9->h<2 ^ (8 - z))/\(z=9->h=0)) (hl:l.length=z - 1):h * 256 ^ (z - 1)+beV l<18446744073709551616:=by
 have hv:=ZJf l
 rw[hl]at hv
 have hp:2 ^ (8 - z)<=256:=by
  have:(2:Nat) ^ (8 - z)<=2 ^ 8:=zbt Xb Xa
  simpa using this
 by_cases hz:z=9
 ·rw[hh.2 hz,hz]
  rw[hz]at hv
  simp at hv ⊢
  omega
 ·have h2:=hh.1 Xa
  obtain rfl|rfl|rfl|rfl|rfl|rfl|rfl|rfl|rfl:=nine h1 h9
  all_goals simp at hv h2 ⊢
  all_goals omega
theorem ZI3 {c:UInt8} {r:Tx} {z h:Nat} (hd:HdN c z h):gAny (c :: r)=if z - 1<=r.length then (if ZA5 (h * 256 ^ (z - 1)+beV (r.take (z - 1)))=z then some (h * 256 ^ (z - 1)+beV (r.take (z - 1)),r.drop (z - 1)) else none) else none:=by
 have z1:=hd.z1
 have none_of:(∀n q,n<18446744073709551616->c :: r≠ZA2 n++q)->gAny (c :: r)=none:=by
  intro hno
  cases e:gAny (c :: r)with
  | none=>rfl
  | some p =>
   obtain⟨n,q⟩:=p
   obtain⟨k1,k2⟩:=ZHX e
   exact absurd k2 (hno n q k1)
 by_cases hl:z - 1<=r.length
 ·rw[if_pos hl]
  have hlen:(r.take (z - 1)).length=z - 1:=by rw[zaj];omega
  have hlt:=ZKO z1 hd.z9 hd.h hlen
  have hb:=ZRD (r.take (z - 1)) h
  have hv:=ZJf (r.take (z - 1))
  rw[hlen]at hb hv
  have hp:0<256 ^ (z - 1):=Nat.pow_pos Xb
  have hq:(h * 256 ^ (z - 1)+beV (r.take (z - 1))) / 256 ^ (z - 1)=h:=by
   rw[zbN,Nat.add_mul_div_right _ _ hp,zbM hv,zax]
  by_cases hs:ZA5 (h * 256 ^ (z - 1)+beV (r.take (z - 1)))=z
  ·rw[if_pos hs]
   have e:c :: r=ZA2 (h * 256 ^ (z - 1)+beV (r.take (z - 1)))++r.drop (z - 1):=by
    unfold ZA2
    rw[hs,hq,hb,List.cons_append,zaS]
    congr 1
    apply UInt8.toNat_inj.1
    rw[<- hd.c]
    simp
   rw[e]
   exact ZKQ hlt
  ·rw[if_neg hs]
   refine none_of fun n q hn e=>hs ?_
   obtain⟨c',p1,p2⟩:=put_hd hn
   rw[p1,List.cons_append]at e
   injection e with e1 e2
   subst e1
   obtain⟨u1,u2⟩:=hd.uniq p2
   have h3:r.take (z - 1)=beB (z - 1) n:=by
    rw[e2,u1,za1 (by rw[ZB7])]
   have h4:h * 256 ^ (z - 1)+beV (r.take (z - 1))=n:=by
    rw[h3,ZM9,u2,u1,za7]
    exact zb0 n _
   rw[h4];exact u1.symm
 ·rw[if_neg hl]
  refine none_of fun n q hn e=>hl ?_
  obtain⟨c',p1,p2⟩:=put_hd hn
  rw[p1,List.cons_append]at e
  injection e with e1 e2
  subst e1
  obtain⟨u1,u2⟩:=hd.uniq p2
  rw[e2,zac,ZB7,u1]
  omega
theorem any_nil:gAny []=none:=by
 cases e:gAny []with
 | none=>rfl
 | some p =>
  obtain⟨n,q⟩:=p
  obtain⟨_,k2⟩:=ZHX e
  have:=congrArg List.length k2
  rw[zac,ZA3]at this
  have:=(ZA7 n).1
  simp at *
  omega
def ZHA (c:UInt8):Nat:=if c.toNat<128 then 0 else if c.toNat<192 then 1 else if c.toNat<224 then 2 else if c.toNat<240 then 3 else if c.toNat<248 then 4 else if c.toNat<252 then 5 else if c.toNat<254 then 6 else if c.toNat<255 then 7 else 8
theorem ZIv (c:UInt8):ZHA c<=8:=by
 unfold ZHA
 repeat' split
 all_goals omega
theorem hd_of (c:UInt8):HdN c (ZHA c+1) (c.toNat - ZBa (ZHA c+1)):=by
 have hc:=c.toNat_lt
 refine⟨Xa,by have:=ZIv c;omega,?_,?_⟩
 ·unfold ZHA ZBa
  repeat' split
  all_goals simp
  all_goals omega
 ·unfold ZHA ZBa
  constructor
  ·repeat' split
   all_goals simp
   all_goals omega
  ·repeat' split
   all_goals simp
   all_goals omega
open Go.RowKit Go.Lib
theorem ones_bit:∀c:Fin 256,∀k:Fin 9,k.val<=ZHA (UInt8.ofNat c.val)->(IntKind.u8.wrap ((BitVec.ofInt IntKind.u8.bits (((c.val * 2 ^ k.val % 256:Nat)):Int) &&& BitVec.ofInt IntKind.u8.bits 128).toNat:Int)=0 ↔ k.val=ZHA (UInt8.ofNat c.val)):=by decide +kernel
theorem shl_bit (m:Nat):IntKind.u8.wrap ((((m % 256:Nat)):Int) * 2 ^ min 1 8)=((m * 2 % 256:Nat):Int):=by
 rw[IntKind.wrap_u8]
 simp
 omega
theorem ZKG (c:UInt8) (H:Zaa):Zay Tryz.prog 219 [u8 c] H (Pure H (.i (ZHA c:Nat))):=by
 have hc:=c.toNat_lt
 have hle:=ZIv c
 have bit:∀k,k<=ZHA c->(IntKind.u8.wrap ((BitVec.ofInt IntKind.u8.bits (((c.toNat * 2 ^ k % 256:Nat)):Int) &&& BitVec.ofInt IntKind.u8.bits 128).toNat:Int)=0 ↔ k=ZHA c):=by
  intro k hk
  have:=ones_bit ⟨c.toNat,hc⟩ ⟨k,Xa⟩ (by simpa using hk)
  simpa using this
 refine fnQ cf219 fun Q qr qn=>?_
 refine Bz0 ?_
 refine ZBA (fun m F G=>∃k,k<=ZHA c/\m=ZHA c - k/\Fr.get F 3=.i (k:Int)/\Fr.get F 0=.sc (.int .u8 ((c.toNat * 2 ^ k % 256:Nat):Int))/\G=H) (ZHA c) (GStep.refl _ _) ⟨0,Xa,Xa,rfl,by simp[zaF hc];rfl,rfl⟩ ?_
 rintro m F G ⟨k,hk,rfl,f3,f0,rfl⟩
 have hb:=bit k hk
 have hw1:IntKind.i64.wrap ((k:Int)+1)=((k+1:Nat):Int):=by rw[Zaw Xa Xa];omega
 have hsh:IntKind.u8.wrap ((((c.toNat * 2 ^ k % 256:Nat)):Int) * 2 ^ min 1 IntKind.u8.bits)=((c.toNat * 2 ^ (k+1) % 256:Nat):Int):=by
  rw[bits8,shl_bit,Nat.pow_succ,zcD]
 by_cases h:k=ZHA c
 ·have d:(IntKind.u8.wrap ((BitVec.ofInt IntKind.u8.bits (((c.toNat * 2 ^ k % 256:Nat)):Int) &&& BitVec.ofInt IntKind.u8.bits 128).toNat:Int) != 0)=false:=by simpa using hb.2 h
  generalize c.toNat * 2 ^ k % 256=q at *
  skip
  refine Bz1 (X3 f3 f0 d) ?_
  refine Zaz (by rw[h])
 ·have d:(IntKind.u8.wrap ((BitVec.ofInt IntKind.u8.bits (((c.toNat * 2 ^ k % 256:Nat)):Int) &&& BitVec.ofInt IntKind.u8.bits 128).toNat:Int) != 0)=true:=by simpa using fun e=>h (hb.1 e)
  generalize hq:c.toNat * 2 ^ k % 256=q at *
  have z1:¬((1:Int)<0):=Xb
  have t1:(1:Int).toNat=1:=rfl
  skip
  refine Bz1 (X7 f3 f0 d hw1 hsh z1 t1) ?_
  exact⟨ZHA c - (k+1),Xa,k+1,Xa,rfl,rfl,rfl⟩
open Go.RowKit Go.Lib
def xNn (h:Nat) (l:Tx) (k:Nat):Nat:=h * 256 ^ k+beV (l.take k)
theorem ZLx (h:Nat) (l:Tx):xNn h l 0=h:=by simp[xNn,beV]
theorem ZLF {h k:Nat} {l:Tx} (hk:k<l.length):xNn h l (k+1)=xNn h l k * 256+l[k].toNat:=by
 unfold xNn
 rw[zas hk,beV_snoc,Nat.pow_succ,zaX,zcD,zbs]
theorem pow_top {z h:Nat} (h1:1<=z) (h9:z<=9) (hh:(z<9->h<2 ^ (8 - z))/\(z=9->h=0)):(h+1) * 256 ^ (z - 1)<=18446744073709551616:=by
 by_cases hz:z=9
 ·rw[hh.2 hz,hz];simp
 ·have h2:=hh.1 Xa
  obtain rfl|rfl|rfl|rfl|rfl|rfl|rfl|rfl|rfl:=nine h1 h9
  all_goals simp at h2 ⊢
  all_goals omega
theorem xN_lt {c:UInt8} {z h k:Nat} {l:Tx} (hd:HdN c z h) (hk:k<=z - 1) (hl:k<=l.length):xNn h l k<18446744073709551616:=by
 have h1:=pow_top hd.z1 hd.z9 hd.h
 have h2:=ZJf (l.take k)
 rw[zaj,zaP hl]at h2
 have h3:(h+1) * 256 ^ k<=(h+1) * 256 ^ (z - 1):=zcw _ (zbt Xb hk)
 unfold xNn
 rw[zaX]at h3
 omega
theorem or_low (x b:Nat) (hb:b<256) (h:x * 256+b<18446744073709551616):IntKind.u64.wrap ((BitVec.ofInt IntKind.u64.bits ((x * 256:Nat):Int) ||| BitVec.ofInt IntKind.u64.bits (b:Int)).toNat:Int)=((x * 256+b:Nat):Int):=by
 have e:(BitVec.ofInt IntKind.u64.bits ((x * 256:Nat):Int) ||| BitVec.ofInt IntKind.u64.bits (b:Int)).toNat=x * 256+b:=by
  show(BitVec.ofInt 64 ((x * 256:Nat):Int) ||| BitVec.ofInt 64 (b:Int)).toNat=_
  have l1:x * 256<18446744073709551616:=zbj (zbW _ _) h
  have l2:b<18446744073709551616:=zbj (Nat.le_add_left _ _) h
  have m1:x * 256 % 2 ^ 64=x * 256:=zaF l1
  have m2:b % 2 ^ 64=b:=zaF l2
  rw[BitVec.ofInt_natCast,BitVec.ofInt_natCast,BitVec.toNat_or,za4,za4,m1,m2]
  have:=Nat.two_pow_add_eq_or_of_lt (b:=b) (i:=8) (by simpa using hb) x
  rw[za7 x 256]
  simpa using this.symm
 rw[e,ZB9 Xa Xa]
def hdT (c:Fin 256):Bool:=decide (IntKind.u8.wrap (((BitVec.ofInt 8 (c.val:Int) &&& (BitVec.not (BitVec.ofInt 8 ((ZBa (ZHA (UInt8.ofNat c.val)+1):Nat):Int)))).toNat:Nat):Int)=((c.val - ZBa (ZHA (UInt8.ofNat c.val)+1):Nat):Int))
theorem hdT_all:∀c:Fin 256,hdT c=true:=by decide +kernel
theorem head_not (c:Fin 256):IntKind.u8.wrap ((BitVec.ofInt IntKind.u8.bits (c.val:Int) &&& ~~~ (BitVec.ofInt IntKind.u8.bits ((ZBa (ZHA (UInt8.ofNat c.val)+1):Nat):Int))).toNat:Int)=((c.val - ZBa (ZHA (UInt8.ofNat c.val)+1):Nat):Int):=of_decide_eq_true (hdT_all c)
noncomputable def eTk (s:Tx):AV:=match gAny s with
 | some (n,_)=>.tup [uN n,.i (ZA5 n:Nat),.b true]
 | none=>.tup [uN 0,.i 0,.b false]
theorem ZJJ (s:Tx) (H:Zaa) (hl:s.length<=1000000):Zay Tryz.prog 184 [eS s] H (Pure H (eTk s)):=by
 cases s with
 | nil =>
  have e:eTk []=.tup [uN 0,.i 0,.b false]:=by unfold eTk;rw[any_nil]
  have d:decide (([]:Tx)=[])=true:=rfl
  rw[e]
  refine fnQ ZQ8 fun Q qr qn=>?_
  refine Bz1 (X1 d) ?_
  refine Zcm (by rfl)
 | cons c r =>
  have hd:=hd_of c
  have hol:=ZIv c
  have hno:=head_not ⟨c.toNat,c.toNat_lt⟩
  simp only[UInt8.ofNat_toNat]at hno
  have hlaw:=ZI3 hd (r:=r)
  have h1:=hd.z1
  have h9:=hd.z9
  have hone:=fun H=>ZKG c H
  have hwz:IntKind.i64.wrap ((ZHA c:Nat)+1)=((ZHA c+1:Nat):Int):=by rw[Zaw Xa Xa];omega
  have d0:decide ((c :: r:Tx)=[])=false:=rfl
  have g0:(⟨(c :: r).toArray⟩:ByteArray)[0]?=some c:=by rw[Zy6];rfl
  have hfs:=fun H=>ZET (ZHA c+1) h1 h9 H
  generalize ZHA c+1=z at *
  generalize hh:c.toNat - ZBa z=h at *
  generalize ZBa z=lz at *
  by_cases hlen:z - 1<=r.length
  ·rw[if_pos hlen]at hlaw
   have d1:decide (((r.length+1:Nat):Int)<(z:Int))=false:=by simp;omega
   have hhl:h<256:=by have:=c.toNat_lt;omega
   have hcu:IntKind.u64.wrap (h:Int)=(h:Int):=ZB9 Xa Xa
   have hloop:∀{Q:AEx->Fr->Zaa->Prop} {F:Fr} {G:Zaa},Zaa.Ext H G->Fr.get F 0=eS (c :: r)->Fr.get F 5=.i (z:Int)->Fr.get F 6=uN h->Fr.get F 7=.i 1 ->
     (∀F' G',Zaa.Ext H G'->Fr.get F' 0=eS (c :: r)->Fr.get F' 5=.i (z:Int)->Fr.get F' 6=uN (xNn h r (z - 1))->Q .normal F' G')->AW Tryz.prog c184_1 Q F G:=by
    intro Q F G hx f0 f5 f6 f7 hQ
    have qr:=trivial
    have qn:=trivial
    refine ZBA (fun m F G=>∃k,m+k+1=z/\Fr.get F 7=.i ((k+1:Nat):Int)/\Fr.get F 0=eS (c :: r)/\Fr.get F 5=.i (z:Int)/\Fr.get F 6=uN (xNn h r k)/\Zaa.Ext H G) (z - 1) (GStep.refl _ _) ⟨0,Xa,f7,f0,f5,by rw[ZLx];exact f6,hx⟩ ?_
    rintro m F G ⟨k,hm,f7,f0,f5,f6,hx⟩
    cases m with
    | succ m =>
     have e1:decide (((k+1:Nat):Int)<(z:Int))=true:=by simp;omega
     have hz:(0:Int)<=((k+1:Nat):Int):=Xa
     have hw:=ZCE (s:=k+1) Xa
     have hk:k<r.length:=Xa
     have hb:=Zy6 (c :: r) (k+1)
     rw[List.getElem?_cons_succ,zab hk]at hb
     have hxs:=ZLF (h:=h) hk
     have hlt:=xN_lt hd (k:=k+1) (l:=r) Xa Xa
     have hc:=r[k].toNat_lt
     rw[hxs]at hlt
     generalize r[k]=y at *
     generalize xNn h r k=x at *
     have w1:IntKind.u64.wrap ((x:Int) * 2 ^ min 8 IntKind.u64.bits)=((x * 256:Nat):Int):=by
      rw[show((x:Int) * 2 ^ min 8 IntKind.u64.bits)=((x * 256:Nat):Int) by rw[ZEr];simp,ZB9 Xa Xa]
     have w2:IntKind.u64.wrap ((y.toNat:Nat):Int)=((y.toNat:Nat):Int):=ZB9 Xa Xa
     have w3:=or_low x y.toNat hc hlt
     have n8:¬((8:Int)<0):=Xb
     have t8:(8:Int).toNat=8:=rfl
     skip
     refine Bz1 (X12 f7 f0 f5 f6 e1 hz hw hb w1 w2 w3 (X2 n8 t8)) ?_
     exact⟨m,Xa,k+1,Xa,rfl,by rw[hxs],hx⟩
    | zero =>
     obtain rfl:z=k+1:=Xa
     have e1:decide (((k+1:Nat):Int)<((k+1:Nat):Int))=false:=Xc
     skip
     refine Bz1 (X3 f7 f5 e1) ?_
     exact hQ _ _ hx (by simpa [Fr.get] using f0) (by simpa [Fr.get] using f5) (by simpa [Fr.get] using f6)
   have hzx:xNn h r (z - 1)=h * 256 ^ (z - 1)+beV (r.take (z - 1)):=rfl
   have hlt:=xN_lt hd (k:=z - 1) (l:=r) (zad _) hlen
   have hsz:=fun H=>ZFH (xNn h r (z - 1)) H
   rw[<- hzx]at hlaw
   generalize xNn h r (z - 1)=x at *
   have hres:eTk (c :: r)=if ZA5 x=z then .tup [uN x,.i (z:Int),.b true] else .tup [uN 0,.i 0,.b false]:=by
    unfold eTk
    rw[hlaw]
    by_cases hs:ZA5 x=z
    ·rw[if_pos hs,if_pos hs];simp only;rw[hs]
    ·rw[if_neg hs,if_neg hs]
   have hx0:Zaa.Ext H H:=.refl _
   rw[hres]
   by_cases hs:ZA5 x=z
   ·have ds:(((ZA5 x:Nat):Int) != (z:Int))=false:=by rw[hs];simp
    rw[if_pos hs]
    by_cases h9z:z=9
    ·subst h9z
     obtain rfl:h=0:=hd.h.2 rfl
     have dz:(((9:Nat):Int) == 9)=true:=rfl
     have d9:decide (((r.length+1:Nat):Int)<9)=false:=d1
     have s9:(((ZA5 x:Nat):Int) != 9)=false:=ds
     refine fnQ ZQ8 fun Q qr qn=>?_
     refine Bz5 (X2 d0 g0) ?_
     refine qcp (hone _) fun k1=>?_
     ((have hd:=tv;repeat' first|(first|apply Zad|apply Zac|apply Zab)<;>intro hd<;>try simp only[hd]|simp(disch:=first|assumption|omega|simp only[nx]<;>omega|fail)only[hd,qr,qn,ZKV,↓YA,YY,↓reduceIte,Nat.reduceEqDiff,Nat.reduceAdd,Nat.reduceMul,Nat.reduceLeDiff,Int.reduceToNat,Int.reduceLE,Int.reduceLT,Int.reduceGT,Int.reduceGE,Int.reduceAdd,Int.reduceSub,Int.reduceNeg,Int.reduceBEq,Int.reduceBNe,d0,g0,hwz,d1,d9,List.length_cons])<;>try revert hd;refine ttr ?_)
     refine qcp (hfs _) fun k2=>?_
     ((have hd:=tv;repeat' first|(first|apply Zad|apply Zac|apply Zab)<;>intro hd<;>try simp only[hd]|simp(disch:=first|assumption|omega|simp only[nx]<;>omega|fail)only[hd,qr,qn,ZKV,↓YA,YY,↓reduceIte,Nat.reduceEqDiff,Nat.reduceAdd,Nat.reduceMul,Nat.reduceLeDiff,Int.reduceToNat,Int.reduceLE,Int.reduceLT,Int.reduceGT,Int.reduceGE,Int.reduceAdd,Int.reduceSub,Int.reduceNeg,Int.reduceBEq,Int.reduceBNe,d0,g0,hwz,d1,d9,dz,hno,hcu,List.length_cons])<;>try revert hd;refine ttr ?_)
     refine hloop hx0.bump.bump rfl rfl rfl rfl fun F' G' hx' f0 f5 f6=>?_
     skip
     refine Bz1 (X3 f0 f5 f6) ?_
     refine qcp (hsz _) fun k3=>?_
     refine Bz1 (X5 f0 f5 f6 ds s9) ?_
     exact ZaW hx'.bump rfl
    ·have dz:((z:Int) == 9)=false:=by simp only[beq_eq_false_iff_ne];omega
     refine fnQ ZQ8 fun Q qr qn=>?_
     refine Bz5 (X2 d0 g0) ?_
     refine qcp (hone _) fun k1=>?_
     ((have hd:=tv;repeat' first|(first|apply Zad|apply Zac|apply Zab)<;>intro hd<;>try simp only[hd]|simp(disch:=first|assumption|omega|simp only[nx]<;>omega|fail)only[hd,qr,qn,ZKV,↓YA,YY,↓reduceIte,Nat.reduceEqDiff,Nat.reduceAdd,Nat.reduceMul,Nat.reduceLeDiff,Int.reduceToNat,Int.reduceLE,Int.reduceLT,Int.reduceGT,Int.reduceGE,Int.reduceAdd,Int.reduceSub,Int.reduceNeg,Int.reduceBEq,Int.reduceBNe,d0,g0,hwz,d1,List.length_cons])<;>try revert hd;refine ttr ?_)
     refine qcp (hfs _) fun k2=>?_
     ((have hd:=tv;repeat' first|(first|apply Zad|apply Zac|apply Zab)<;>intro hd<;>try simp only[hd]|simp(disch:=first|assumption|omega|simp only[nx]<;>omega|fail)only[hd,qr,qn,ZKV,↓YA,YY,↓reduceIte,Nat.reduceEqDiff,Nat.reduceAdd,Nat.reduceMul,Nat.reduceLeDiff,Int.reduceToNat,Int.reduceLE,Int.reduceLT,Int.reduceGT,Int.reduceGE,Int.reduceAdd,Int.reduceSub,Int.reduceNeg,Int.reduceBEq,Int.reduceBNe,d0,g0,hwz,d1,dz,hno,hcu,List.length_cons])<;>try revert hd;refine ttr ?_)
     refine hloop hx0.bump.bump rfl rfl rfl rfl fun F' G' hx' f0 f5 f6=>?_
     skip
     refine Bz1 (X3 f0 f5 f6) ?_
     refine qcp (hsz _) fun k3=>?_
     refine Bz1 (X4 f0 f5 f6 ds) ?_
     exact ZaW hx'.bump rfl
   ·have ds:(((ZA5 x:Nat):Int) != (z:Int))=true:=by simp only[bne_iff_ne];omega
    rw[if_neg hs]
    by_cases h9z:z=9
    ·subst h9z
     obtain rfl:h=0:=hd.h.2 rfl
     have dz:(((9:Nat):Int) == 9)=true:=rfl
     have d9:decide (((r.length+1:Nat):Int)<9)=false:=d1
     have s9:(((ZA5 x:Nat):Int) != 9)=true:=ds
     refine fnQ ZQ8 fun Q qr qn=>?_
     refine Bz5 (X2 d0 g0) ?_
     refine qcp (hone _) fun k1=>?_
     ((have hd:=tv;repeat' first|(first|apply Zad|apply Zac|apply Zab)<;>intro hd<;>try simp only[hd]|simp(disch:=first|assumption|omega|simp only[nx]<;>omega|fail)only[hd,qr,qn,ZKV,↓YA,YY,↓reduceIte,Nat.reduceEqDiff,Nat.reduceAdd,Nat.reduceMul,Nat.reduceLeDiff,Int.reduceToNat,Int.reduceLE,Int.reduceLT,Int.reduceGT,Int.reduceGE,Int.reduceAdd,Int.reduceSub,Int.reduceNeg,Int.reduceBEq,Int.reduceBNe,d0,g0,hwz,d1,d9,List.length_cons])<;>try revert hd;refine ttr ?_)
     refine qcp (hfs _) fun k2=>?_
     ((have hd:=tv;repeat' first|(first|apply Zad|apply Zac|apply Zab)<;>intro hd<;>try simp only[hd]|simp(disch:=first|assumption|omega|simp only[nx]<;>omega|fail)only[hd,qr,qn,ZKV,↓YA,YY,↓reduceIte,Nat.reduceEqDiff,Nat.reduceAdd,Nat.reduceMul,Nat.reduceLeDiff,Int.reduceToNat,Int.reduceLE,Int.reduceLT,Int.reduceGT,Int.reduceGE,Int.reduceAdd,Int.reduceSub,Int.reduceNeg,Int.reduceBEq,Int.reduceBNe,d0,g0,hwz,d1,d9,dz,hno,hcu,List.length_cons])<;>try revert hd;refine ttr ?_)
     refine hloop hx0.bump.bump rfl rfl rfl rfl fun F' G' hx' f0 f5 f6=>?_
     skip
     refine Bz1 (X3 f0 f5 f6) ?_
     refine qcp (hsz _) fun k3=>?_
     refine Bz1 (X5 f0 f5 f6 ds s9) ?_
     exact ZaW hx'.bump rfl
    ·have dz:((z:Int) == 9)=false:=by simp only[beq_eq_false_iff_ne];omega
     refine fnQ ZQ8 fun Q qr qn=>?_
     refine Bz5 (X2 d0 g0) ?_
     refine qcp (hone _) fun k1=>?_
     ((have hd:=tv;repeat' first|(first|apply Zad|apply Zac|apply Zab)<;>intro hd<;>try simp only[hd]|simp(disch:=first|assumption|omega|simp only[nx]<;>omega|fail)only[hd,qr,qn,ZKV,↓YA,YY,↓reduceIte,Nat.reduceEqDiff,Nat.reduceAdd,Nat.reduceMul,Nat.reduceLeDiff,Int.reduceToNat,Int.reduceLE,Int.reduceLT,Int.reduceGT,Int.reduceGE,Int.reduceAdd,Int.reduceSub,Int.reduceNeg,Int.reduceBEq,Int.reduceBNe,d0,g0,hwz,d1,List.length_cons])<;>try revert hd;refine ttr ?_)
     refine qcp (hfs _) fun k2=>?_
     ((have hd:=tv;repeat' first|(first|apply Zad|apply Zac|apply Zab)<;>intro hd<;>try simp only[hd]|simp(disch:=first|assumption|omega|simp only[nx]<;>omega|fail)only[hd,qr,qn,ZKV,↓YA,YY,↓reduceIte,Nat.reduceEqDiff,Nat.reduceAdd,Nat.reduceMul,Nat.reduceLeDiff,Int.reduceToNat,Int.reduceLE,Int.reduceLT,Int.reduceGT,Int.reduceGE,Int.reduceAdd,Int.reduceSub,Int.reduceNeg,Int.reduceBEq,Int.reduceBNe,d0,g0,hwz,d1,dz,hno,hcu,List.length_cons])<;>try revert hd;refine ttr ?_)
     refine hloop hx0.bump.bump rfl rfl rfl rfl fun F' G' hx' f0 f5 f6=>?_
     skip
     refine Bz1 (X3 f0 f5 f6) ?_
     refine qcp (hsz _) fun k3=>?_
     refine Bz1 (X4 f0 f5 f6 ds) ?_
     exact ZaW hx'.bump rfl
  ·rw[if_neg hlen]at hlaw
   have d1:decide (((r.length+1:Nat):Int)<(z:Int))=true:=by simp;omega
   have e:eTk (c :: r)=.tup [uN 0,.i 0,.b false]:=by unfold eTk;rw[hlaw]
   rw[e]
   refine fnQ ZQ8 fun Q qr qn=>?_
   refine Bz5 (X2 d0 g0) ?_
   refine qcp (hone _) fun k1=>?_
   ((have hd:=tv;repeat' first|(first|apply Zad|apply Zac|apply Zab)<;>intro hd<;>try simp only[hd]|simp(disch:=first|assumption|omega|simp only[nx]<;>omega|fail)only[hd,qr,qn,ZKV,↓YA,YY,↓reduceIte,Nat.reduceEqDiff,Nat.reduceAdd,Nat.reduceMul,Nat.reduceLeDiff,Int.reduceToNat,Int.reduceLE,Int.reduceLT,Int.reduceGT,Int.reduceGE,Int.reduceAdd,Int.reduceSub,Int.reduceNeg,Int.reduceBEq,Int.reduceBNe,hwz,d1,List.length_cons])<;>try revert hd;refine ttr ?_)
   refine Zcm (by rfl)
open Go.RowKit Go.Lib
abbrev rdT (S:Tx) (k:Nat):Zb3:=.cells [eS S,.i (k:Int),.b true] 282
noncomputable abbrev RP (E:Zaa) (id:Nat) (S:Tx) (B:Prop):Prg:=⟨Tryz.prog,rdPan id ⟨S.toArray⟩ fun ev H=>ev≠0/\B/\Zaa.Ext E H⟩
structure RdS (E:Zaa) (id:Nat) (S:Tx) (k:Nat) (b:Tx) (H:Zaa):Prop where
 kl:k<=S.length
 bd:S.drop k=b
 g:H.get id=some (rdT S k)
 l:S.length<=100000
 x:Zaa.Ext E H
 lo:E.next<=id
theorem RdS.len {E:Zaa} {id:Nat} {S:Tx} {k:Nat} {b:Tx} {H:Zaa} (h:RdS E id S k b H):b.length+k=S.length:=by
 rw[<- h.bd,zaq]
 have:=h.kl
 omega
def RdX (E:Zaa) (id:Nat) (S:Tx) (r:Tx) (H H':Zaa):Prop:=(∃k,RdS E id S k r H')/\H.next<=H'.next/\∀i o,i≠id->H.get i=some o->H'.get i=some o
def RdQ {α:Type} (E:Zaa) (id:Nat) (S:Tx) (H:Zaa) (o:Option (α×Tx)) (enc:α->AV) (v:AV) (H':Zaa):Prop:=∃a r,o=some (a,r)/\v=enc a/\RdX E id S r H H'
theorem ZJh {E:Zaa} {id:Nat} {S:Tx} {k:Nat} {b:Tx} {H:Zaa} {B:Prop} {e:Int} (h:RdS E id S k b H) (he:e≠0) (hB:B):rdPan id ⟨S.toArray⟩ (fun ev H=>ev≠0/\B/\Zaa.Ext E H) (Zwy e) H :=
 ⟨e,(k:Int),rfl,⟨he,hB,h.x⟩,h.g,Xa,by have:=h.kl;show(k:Int)<=((S.toArray.size:Nat):Int);rw[zbA];omega⟩
theorem RdS.bump {E:Zaa} {id:Nat} {S:Tx} {k:Nat} {b:Tx} {H:Zaa} (h:RdS E id S k b H) (n:Nat):RdS E id S k b (H.bump n):=⟨h.kl,h.bd,by rw[Zaa.ZaB];exact h.g,h.l,h.x.bump,h.lo⟩
theorem ZHY {pan:Value->Zaa->Prop} {E:Zaa} {id:Nat} {S:Tx} {k:Nat} {b:Tx} {H:Zaa} (h:RdS E id S k b H):Zay ⟨Tryz.prog,pan⟩ 231 [.ptr id 0] H (Pure H (.b true)):=by
 have hg:=h.g
 refine fnQ cf231 fun Q qr qn=>?_
 refine Bz1 (X1 hg) ?_
 refine ZbC (by rfl)
theorem ZIb {E:Zaa} {id:Nat} {S:Tx} {k:Nat} {b:Tx} {H:Zaa} {B:Prop} (h:RdS E id S k b H) (hB:gAny b=none->B):Zay (RP E id S B) 232 [.ptr id 0] H (RdQ E id S H (gAny b) uN):=by
 have hg:=h.g
 have hl:=h.len
 have hk:=h.kl
 have hS:=h.l
 have hz:(0:Int)<=(k:Int):=Xa
 have hkt:((k:Int)).toNat=k:=Xa
 have hbd:(k<=S.length/\S.length<=S.length)=True:=by rw[eq_iff_iff,iff_true];omega
 have e1:=ZBP S k
 rw[h.bd]at e1
 have ht:∀H,Zay (RP E id S B) 184 [eS b] H (Pure H (eTk b)):=fun H=>(ZJJ b H Xa).up
 unfold eTk at ht
 cases hn:gAny b with
 | none =>
  rw[hn]at ht
  have ht:∀H,Zay (RP E id S B) 184 [eS b] H (Pure H (.tup [uN 0,.i 0,.b false])):=ht
  refine fnQ cf232 fun Q qr qn=>?_
  refine Bz6 (X6 hg hz hkt hk hbd e1) ?_
  refine qcp (ht _) fun k1=>?_
  refine Bz1 (X1 hg) ?_
  exact Zap.use (ZwN _ _ _ (ZJh (h.bump k1) Xb (hB hn))) fun _ _ h=>h.elim
 | some p =>
  obtain⟨n,r⟩:=p
  obtain⟨hn1,hn2⟩:=ZHX hn
  rw[hn]at ht
  have ht:∀H,Zay (RP E id S B) 184 [eS b] H (Pure H (.tup [uN n,.i (ZA5 n:Nat),.b true])):=ht
  have hl2:=congrArg List.length hn2
  rw[zac,ZA3]at hl2
  have hs9:=ZA7 n
  have hw:IntKind.i64.wrap ((k:Int)+(ZA5 n:Int))=((k+ZA5 n:Nat):Int):=by rw[Zaw Xa Xa];omega
  have hdr:S.drop (k+ZA5 n)=r:=by
   rw[<- za5,h.bd,hn2,zbi (ZA3 n)]
  have hid:=Zaa.lt hg
  refine fnQ cf232 fun Q qr qn=>?_
  refine Bz6 (X6 hg hz hkt hk hbd e1) ?_
  refine qcp (ht _) fun k1=>?_
  refine Bz1 (X2 hg hw) ?_
  refine Zaq ⟨n,r,rfl,rfl,⟨k+ZA5 n,⟨Xa,hdr,Zaa.Zal Xe,hS,h.x.bump.set h.lo,h.lo⟩⟩,Xe,fun i o hi ho=>?_⟩
  rw[Zaa.Zah hi,Zaa.ZaB];exact ho
open Go.RowKit Go.Lib
noncomputable def gTrm (acc:List Tx) (b:Tx):Option (Tx×Tx):=match gNum (ZGI [] acc).length b with
 | some (k,r)=>match gTxt 16 r with
  | some (s,r2)=>if isT ((ZGI [] acc).take k++s)=true/\ZGI [] acc<(ZGI [] acc).take k++s/\ZB1 (ZGI [] acc) ((ZGI [] acc).take k++s)=k then some ((ZGI [] acc).take k++s,r2) else none
  | none=>none
 | none=>none
noncomputable def gRow (most:Nat) (b:Tx):Option (List Tx×Tx):=match gNum most b with
 | some (n,r)=>ZHu gTrm n [] r
 | none=>none
noncomputable def gNumI (most:Nat) (b:Tx):Option (Int×Tx):=(gNum most b).map fun p=>((p.1:Int),p.2)
noncomputable def gUps (above n:Nat) (b:Tx):Option (List Int×Tx):=if above=0 then some ([],b) else ZHu (fun _=>gNumI (above - 1)) n [] b
noncomputable def gTir (above:Nat) (b:Tx):Option (Tir×Tx):=match gTxt 12 b with
 | some (nm,r)=>match gRow 200 r with
  | some (l,r2)=>match gUps above l.length r2 with
   | some (u,r3)=>if ZbO ⟨nm,l,u⟩ (above:Int)=0 then some (⟨nm,l,u⟩,r3) else none
   | none=>none
  | none=>none
 | none=>none
def ZHF (acc:List Tir):Nat:=match acc.getLast? with
 | some t=>t.terms.length
 | none=>0
noncomputable def gDim (b:Tx):Option (Dm×Tx):=match gTxt 12 b with
 | some (nm,r)=>match gNum 4 r with
  | some (n,r2)=>match ZHu (fun acc=>gTir (ZHF acc)) n [] r2 with
   | some (l,r3)=>if Zdv ⟨nm,l.reverse⟩=0 then some (⟨nm,l.reverse⟩,r3) else none
   | none=>none
  | none=>none
 | none=>none
noncomputable def gSc (b:Tx):Option (Sc×Tx):=match gNum 16 b with
 | some (n,r)=>match ZHu (fun _=>gDim) n [] r with
  | some (ds,r2)=>match gNum 3 r2 with
   | some (m,r3)=>match ZHu (fun _=>gTxt 12) m [] r3 with
    | some (ms,r4)=>if scE ⟨ds,ms⟩=0 then some (⟨ds,ms⟩,r4) else none
    | none=>none
   | none=>none
  | none=>none
 | none=>none
noncomputable def wholeSc (b:Tx):Option Sc:=match gSc b with
 | some (s,[])=>some s
 | _=>none
open Go.RowKit Go.Lib
def ZLd (n:Nat):Int:=if n % 2=0 then ((n / 2:Nat):Int) else -((n / 2:Nat):Int) - 1
noncomputable def gInt (b:Tx):Option (Int×Tx):=(gAny b).map fun p=>(ZLd p.1,p.2)
noncomputable def gMem (b:Tx):Option (Tx×Tx):=match gTxt 16 b with
 | some (s,r)=>if isT s=true then some (s,r) else none
 | none=>none
structure Rw where
 terms:List Tx
 vals:List Int
noncomputable def gRw (nd nm:Nat) (b:Tx):Option (Rw×Tx):=match ZHu (fun _=>gMem) nd [] b with
 | some (ts,r)=>match ZHu (fun _=>gInt) nm [] r with
  | some (vs,r2)=>some (⟨ts,vs⟩,r2)
  | none=>none
 | none=>none
noncomputable def gRws (nd nm:Nat) (b:Tx):Option (List Rw×Tx):=match gNum 300 b with
 | some (n,r)=>ZHu (fun _=>gRw nd nm) n [] r
 | none=>none
structure Pk where
 filt:Nat
 tier:Nat
 lo:Tx
 hi:Tx
 set:List Tx
 by':Nat
noncomputable def gFil (f:Nat) (b:Tx):Option (Pk×Tx):=if f=1 then (match gNum 3 b with
  | some (t,r)=>match gTxt 16 r with
   | some (lo,r2)=>match gTxt 16 r2 with
    | some (hi,r3)=>some (⟨1,t,lo,hi,[],0⟩,r3)
    | none=>none
   | none=>none
  | none=>none)
 else if f=2 then (match gNum 3 b with
  | some (t,r)=>match gRow 200 r with
   | some (l,r2)=>some (⟨2,t,[],[],l,0⟩,r2)
   | none=>none
  | none=>none)
 else some (⟨0,0,[],[],[],0⟩,b)
noncomputable def gPk (b:Tx):Option (Pk×Tx):=match gNum 2 b with
 | some (f,r)=>match gFil f r with
  | some (p,r2)=>(gNum 4 r2).map fun q=>({ p with by':=q.1 },q.2)
  | none=>none
 | none=>none
open Go.RowKit Go.Lib
theorem RdX.pre {E:Zaa} {id:Nat} {S r:Tx} {H G:Zaa} {n:Nat} (h:RdX E id S r (H.bump n) G):RdX E id S r H G:=⟨h.1,by have:=h.2.1;simp only[nx]at this;omega,fun i o hi hg=>h.2.2 i o hi (by rw[Zaa.ZaB];exact hg)⟩
theorem ZHq {E:Zaa} {id:Nat} {S:Tx} {k:Nat} {b:Tx} {H:Zaa} {B:Prop} (most:Nat) (hm:most<=2000000) (h:RdS E id S k b H) (hB:gNum most b=none->B):Zay (RP E id S B) 198 [.ptr id 0,.i (most:Int)] H (RdQ E id S H (gNum most b) fun n=>.i (n:Int)):=by
 have d2:decide ((most:Int)<0)=false:=Xc
 have hw:=u64n most Xa
 have hnum:=fun k1=>ZIb (B:=B) (h.bump k1) fun e=>hB (by unfold gNum;rw[e])
 refine fnQ cf198 fun Q qr qn=>?_
 refine Bz0 ?_
 refine qcp (ZHY h) fun k1=>?_
 refine Bz0 ?_
 refine Zap.use (hnum k1) ?_
 rintro _ G ⟨n,r,hn,rfl,hX⟩
 have hX:=hX.pre
 obtain⟨⟨k',h'⟩,hnx,hold⟩:=hX
 have hg:gNum most b=if n<=most then some (n,r) else none:=by unfold gNum;rw[hn]
 by_cases hle:n<=most
 ·have d3:decide ((n:Int) > (most:Int))=false:=by simp;omega
  have hw2:IntKind.i64.wrap (n:Int)=(n:Int):=Zaw Xa Xa
  rw[if_pos hle]at hg
  ((have hd:=tv;repeat' first|(first|apply Zad|apply Zac|apply Zab)<;>intro hd<;>try simp only[hd]|simp(disch:=first|assumption|omega|simp only[nx]<;>omega|fail)only[hd,qr,qn,ZLt,↓YA,YY,↓reduceIte,Nat.reduceEqDiff,Nat.reduceAdd,Nat.reduceMul,Nat.reduceLeDiff,Int.reduceToNat,Int.reduceLE,Int.reduceLT,Int.reduceGT,Int.reduceGE,Int.reduceAdd,Int.reduceSub,Int.reduceNeg,Int.reduceBEq,Int.reduceBNe,d2,d3,hw,hw2])<;>try revert hd;refine ttr ?_)
  exact Zaq ⟨n,r,hg,rfl,⟨k',h'⟩,hnx,hold⟩
 ·have d3:decide ((n:Int) > (most:Int))=true:=by simp;omega
  rw[if_neg hle]at hg
  ((have hd:=tv;repeat' first|(first|apply Zad|apply Zac|apply Zab)<;>intro hd<;>try simp only[hd]|simp(disch:=first|assumption|omega|simp only[nx]<;>omega|fail)only[hd,qr,qn,ZLt,↓YA,YY,↓reduceIte,Nat.reduceEqDiff,Nat.reduceAdd,Nat.reduceMul,Nat.reduceLeDiff,Int.reduceToNat,Int.reduceLE,Int.reduceLT,Int.reduceGT,Int.reduceGE,Int.reduceAdd,Int.reduceSub,Int.reduceNeg,Int.reduceBEq,Int.reduceBNe,d2,d3,hw])<;>try revert hd;refine ttr ?_)
  exact Zap.use (ZwN _ _ _ (ZJh h' Xb (hB hg))) fun _ _ h=>h.elim
def gFix (n:Nat) (b:Tx):Option (Tx×Tx):=if n<=b.length then some (b.take n,b.drop n) else none
theorem ZJS {E:Zaa} {id:Nat} {S:Tx} {k:Nat} {b:Tx} {H:Zaa} {B:Prop} (n:Nat) (hn:n<=1000000) (h:RdS E id S k b H) (hB:gFix n b=none->B):Zay (RP E id S B) 201 [.ptr id 0,.i (n:Int)] H (RdQ E id S H (gFix n b) eS):=by
 have hg:=h.g
 have hl:=h.len
 have hk:=h.kl
 have hS:=h.l
 have hid:=Zaa.lt hg
 have d2:decide ((n:Int)<0)=false:=Xc
 have w1:IntKind.i64.wrap ((S.length:Int) - (k:Int))=(b.length:Int):=by rw[Zaw Xa Xa];omega
 have hz:(0:Int)<=(k:Int):=Xa
 have hkt:((k:Int)).toNat=k:=Xa
 have hg2:∀m,(H.bump m).get id=some (rdT S k):=fun m=>by rw[Zaa.ZaB];exact hg
 unfold gFix at hB ⊢
 by_cases hle:n<=b.length
 ·have d3:decide ((b.length:Int)<(n:Int))=false:=by simp;omega
  have w2:IntKind.i64.wrap ((k:Int)+(n:Int))=((k+n:Nat):Int):=by rw[Zaw Xa Xa];omega
  have hz2:(0:Int)<=((k+n:Nat):Int):=Xa
  have hkt2:(((k+n:Nat):Int)).toNat=k+n:=Xa
  have hb1:k<=k+n:=Xa
  have hb2:k+n<=S.length:=Xa
  have e1:(⟨S.toArray⟩:ByteArray).extract k (k+n)=⟨(b.take n).toArray⟩:=by
   apply zcm
   simp only[zch,List.extract_toArray,List.extract_eq_take_drop]
   rw[h.bd,zca]
  rw[if_pos hle]
  refine fnQ cf201 fun Q qr qn=>?_
  refine Bz0 ?_
  refine qcp (ZHY h) fun k1=>?_
  ((have hd:=tv;repeat' first|(first|apply Zad|apply Zac|apply Zab)<;>intro hd<;>try simp only[hd]|simp(disch:=first|assumption|omega|simp only[nx]<;>omega|fail)only[hd,qr,qn,ZLq,↓YA,YY,↓reduceIte,Nat.reduceEqDiff,Nat.reduceAdd,Nat.reduceMul,Nat.reduceLeDiff,Int.reduceToNat,Int.reduceLE,Int.reduceLT,Int.reduceGT,Int.reduceGE,Int.reduceAdd,Int.reduceSub,Int.reduceNeg,Int.reduceBEq,Int.reduceBNe,hg,hg2,d2,d3,w1,w2,hz,hkt,hz2,hkt2,hb1,hb2,Zdi,e1])<;>try revert hd;refine ttr ?_)
  refine Zaq ⟨b.take n,b.drop n,rfl,rfl,⟨k+n,⟨hb2,by rw[<- za5,h.bd],Zaa.Zal Xe,hS,h.x.bump.set h.lo,h.lo⟩⟩,Xe,fun i o hi ho=>?_⟩
  rw[Zaa.Zah hi,Zaa.ZaB];exact ho
 ·have d3:decide ((b.length:Int)<(n:Int))=true:=by simp;omega
  rw[if_neg hle]at hB ⊢
  refine fnQ cf201 fun Q qr qn=>?_
  refine Bz0 ?_
  refine qcp (ZHY h) fun k1=>?_
  ((have hd:=tv;repeat' first|(first|apply Zad|apply Zac|apply Zab)<;>intro hd<;>try simp only[hd]|simp(disch:=first|assumption|omega|simp only[nx]<;>omega|fail)only[hd,qr,qn,ZLq,↓YA,YY,↓reduceIte,Nat.reduceEqDiff,Nat.reduceAdd,Nat.reduceMul,Nat.reduceLeDiff,Int.reduceToNat,Int.reduceLE,Int.reduceLT,Int.reduceGT,Int.reduceGE,Int.reduceAdd,Int.reduceSub,Int.reduceNeg,Int.reduceBEq,Int.reduceBNe,hg,hg2,d2,d3,w1])<;>try revert hd;refine ttr ?_)
  exact Zap.use (ZwN _ _ _ (ZJh (h.bump k1) Xb (hB rfl))) fun _ _ h=>h.elim
theorem ZHM {pan:Value->Zaa->Prop} {E:Zaa} {id:Nat} {S:Tx} {k:Nat} {b:Tx} {H:Zaa} (e:Int) (h:RdS E id S k b H):Zay ⟨Tryz.prog,pan⟩ 199 [.ptr id 0,.b true,.i e] H (Pure H (.tup [])):=by
 refine fnQ cf199 fun Q qr qn=>?_
 refine Bz0 ?_
 refine qcp (ZHY h) fun k1=>?_
 refine Bz0 ?_
 exact Zaq ⟨rfl,_,rfl⟩
theorem ZHV {E:Zaa} {id:Nat} {S:Tx} {k:Nat} {b:Tx} {H:Zaa} {B:Prop} (e:Int) (h:RdS E id S k b H) (hB:B):Zay (RP E id S B) 199 [.ptr id 0,.b false,.i e] H (fun _ _=>False):=by
 by_cases he:e=0
 ·subst he
  have d:((0:Int) == 0)=true:=rfl
  refine fnQ cf199 fun Q qr qn=>?_
  refine Bz0 ?_
  refine qcp (ZHY h) fun k1=>?_
  refine Bz1 (X1 d) ?_
  exact Zap.use (ZwN _ _ _ (ZJh (h.bump k1) Xb hB)) fun _ _ h=>h.elim
 ·have d:(e == 0)=false:=by simpa using he
  refine fnQ cf199 fun Q qr qn=>?_
  refine Bz0 ?_
  refine qcp (ZHY h) fun k1=>?_
  refine Bz1 (X1 d) ?_
  exact Zap.use (ZwN _ _ _ (ZJh (h.bump k1) he hB)) fun _ _ h=>h.elim
end Go.Proofs.YtfjjpndoeppbhaaGreatDoor
