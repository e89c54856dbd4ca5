/- Texts of the walk. -/
import Derived.Test.YtfjjpndoeppbhaaGreatDoorMs
namespace Go.Proofs.YtfjjpndoeppbhaaGreatDoor
set_option linter.defProp false
set_option maxHeartbeats 64000000
set_option linter.unusedSimpArgs false
set_option linter.unusedVariables false
open Go.RowKit Go.Lib
theorem ZOo (k : UInt8) (H : Zaa) : Zay Tryz.prog 161 [u8 k] H (Pure H (.b (ZBu k))) := by
  have hx0 : Zaa.Ext H H := .refl _
  have q : ∀ c : UInt8, ((k.toNat : Int) == (c.toNat : Int)) = (k == c) := fun c => by
    by_cases h : k = c
    · subst h; simp
    · have : k.toNat ≠ c.toNat := fun e => h (UInt8.toNat_inj.1 e)
      rw [beq_eq_false_iff_ne.2 h]
      simp only [beq_eq_false_iff_ne, ne_eq]
      omega
  have q1 : ((k.toNat : Int) == 67) = (k == 67) := q 67
  have q2 : ((k.toNat : Int) == 78) = (k == 78) := q 78
  have q3 : ((k.toNat : Int) == 77) = (k == 77) := q 77
  unfold ZBu
  generalize (k == 67) = b1 at *
  generalize (k == 78) = b2 at *
  generalize (k == 77) = b3 at *
  cases b1 <;> cases b2 <;> cases b3 <;>
  (refine fnQ cf161 fun Q qr qn => ?_
   refine Bz1 (X3 q1 q2 q3) ?_
   exact Zcm rfl)
theorem ZLZ (n:Int) (H:Zaa) (h1 : -9223372036854775808<=n) (h2:n<=9223372036854775807):Zay Tryz.prog 61 [.i n] H (Pure H (.i (ZLU n))):=by
 have hx0:Zaa.Ext H H:=.refl _
 have n2:((246:Int)=0)=False:=Xc
 unfold ZLU
 by_cases h:n<=0
 ·have d1:decide (n<=0)=true:=decide_eq_true h
  rw[if_pos h]
  refine fnQ cf61 fun Q qr qn=>?_
  ((have hd:=tv;repeat' first|(first|apply Zad|apply Zac|apply Zab)<;>intro hd<;>try simp only[hd]|simp(disch:=first|assumption|omega|simp only[nx]<;>omega|fail)only[hd,qr,qn,ZiF,↓YA,YY,↓reduceIte,Nat.reduceEqDiff,Nat.reduceAdd,Nat.reduceMul,Nat.reduceLeDiff,Int.reduceToNat,Int.reduceLE,Int.reduceLT,Int.reduceGT,Int.reduceGE,Int.reduceAdd,Int.reduceSub,Int.reduceNeg,Int.reduceBEq,Int.reduceBNe,d1])<;>try revert hd;refine ttr ?_)
  exact Zcm rfl
 ·have d1:decide (n<=0)=false:=decide_eq_false h
  rw[if_neg h]
  have w1:IntKind.i64.wrap (n - 1)=n - 1:=Zaw Xa Xa
  have w2:IntKind.i64.wrap (Int.tdiv (n - 1) 246)=(n - 1) / 246:=by
   rw[za3 Xa,Zaw Xa Xa]
  have w3:IntKind.i64.wrap ((n - 1) / 246+1)=(n - 1) / 246+1:=Zaw Xa Xa
  refine fnQ cf61 fun Q qr qn=>?_
  ((have hd:=tv;repeat' first|(first|apply Zad|apply Zac|apply Zab)<;>intro hd<;>try simp only[hd]|simp(disch:=first|assumption|omega|simp only[nx]<;>omega|fail)only[hd,qr,qn,ZiF,↓YA,YY,↓reduceIte,Nat.reduceEqDiff,Nat.reduceAdd,Nat.reduceMul,Nat.reduceLeDiff,Int.reduceToNat,Int.reduceLE,Int.reduceLT,Int.reduceGT,Int.reduceGE,Int.reduceAdd,Int.reduceSub,Int.reduceNeg,Int.reduceBEq,Int.reduceBNe,d1,w1,w2,w3,n2])<;>try revert hd;refine ttr ?_)
  exact Zcm rfl
theorem ZNa (n:Nat) (H:Zaa) (h:n<=2047):Zay Tryz.prog 157 [.i (n:Int)] H (Pure H (.i (2+2 * (n:Int)))):=by
 have hx0:Zaa.Ext H H:=.refl _
 have d1:decide ((n:Int)<0)=false:=decide_eq_false Xa
 have d2:decide ((n:Int) > 2047)=false:=decide_eq_false Xa
 have w1:IntKind.i64.wrap (2 * (n:Int))=2 * (n:Int):=Zaw Xa Xa
 have w2:IntKind.i64.wrap (2+2 * (n:Int))=2+2 * (n:Int):=Zaw Xa Xa
 refine fnQ cf157 fun Q qr qn=>?_
 ((have hd:=tv;repeat' first|(first|apply Zad|apply Zac|apply Zab)<;>intro hd<;>try simp only[hd]|simp(disch:=first|assumption|omega|simp only[nx]<;>omega|fail)only[hd,qr,qn,ZdN,↓YA,YY,↓reduceIte,Nat.reduceEqDiff,Nat.reduceAdd,Nat.reduceMul,Nat.reduceLeDiff,Int.reduceToNat,Int.reduceLE,Int.reduceLT,Int.reduceGT,Int.reduceGE,Int.reduceAdd,Int.reduceSub,Int.reduceNeg,Int.reduceBEq,Int.reduceBNe,d1,d2,w1,w2])<;>try revert hd;refine ttr ?_)
 exact Zcm rfl
theorem ZPt (n:Nat) (H:Zaa) (h:n<=1000000):Zay Tryz.prog 53 [.i (n:Int)] H (Pure H (.i ((ofP n:Nat):Int))):=by
 have hx0:Zaa.Ext H H:=.refl _
 have n2:((2:Int)=0)=False:=Xc
 unfold ofP
 by_cases h1:n<16
 ·rw[if_pos (.inl h1)]
  have d1:decide ((n:Int)<16)=true:=decide_eq_true Xa
  refine fnQ cf53 fun Q qr qn=>?_
  ((have hd:=tv;repeat' first|(first|apply Zad|apply Zac|apply Zab)<;>intro hd<;>try simp only[hd]|simp(disch:=first|assumption|omega|simp only[nx]<;>omega|fail)only[hd,qr,qn,Zdx,↓YA,YY,↓reduceIte,Nat.reduceEqDiff,Nat.reduceAdd,Nat.reduceMul,Nat.reduceLeDiff,Int.reduceToNat,Int.reduceLE,Int.reduceLT,Int.reduceGT,Int.reduceGE,Int.reduceAdd,Int.reduceSub,Int.reduceNeg,Int.reduceBEq,Int.reduceBNe,d1])<;>try revert hd;refine ttr ?_)
  exact Zcm rfl
 ·have d1:decide ((n:Int)<16)=false:=decide_eq_false Xa
  by_cases h2:4096<n
  ·rw[if_pos (.inr h2)]
   have d2:decide ((n:Int) > 4096)=true:=decide_eq_true Xa
   refine fnQ cf53 fun Q qr qn=>?_
   ((have hd:=tv;repeat' first|(first|apply Zad|apply Zac|apply Zab)<;>intro hd<;>try simp only[hd]|simp(disch:=first|assumption|omega|simp only[nx]<;>omega|fail)only[hd,qr,qn,Zdx,↓YA,YY,↓reduceIte,Nat.reduceEqDiff,Nat.reduceAdd,Nat.reduceMul,Nat.reduceLeDiff,Int.reduceToNat,Int.reduceLE,Int.reduceLT,Int.reduceGT,Int.reduceGE,Int.reduceAdd,Int.reduceSub,Int.reduceNeg,Int.reduceBEq,Int.reduceBNe,d1,d2])<;>try revert hd;refine ttr ?_)
   exact Zcm rfl
  ·rw[if_neg Xa]
   have d2:decide ((n:Int) > 4096)=false:=decide_eq_false Xa
   have w1:IntKind.i64.wrap ((n:Int) - 2)=((n - 2:Nat):Int):=by rw[Zaw Xa Xa];omega
   have w2:IntKind.i64.wrap (Int.tdiv ((n - 2:Nat):Int) 2)=(((n - 2) / 2:Nat):Int):=by
    rw[za3 Xa,Zaw Xa Xa];omega
   refine fnQ cf53 fun Q qr qn=>?_
   ((have hd:=tv;repeat' first|(first|apply Zad|apply Zac|apply Zab)<;>intro hd<;>try simp only[hd]|simp(disch:=first|assumption|omega|simp only[nx]<;>omega|fail)only[hd,qr,qn,Zdx,↓YA,YY,↓reduceIte,Nat.reduceEqDiff,Nat.reduceAdd,Nat.reduceMul,Nat.reduceLeDiff,Int.reduceToNat,Int.reduceLE,Int.reduceLT,Int.reduceGT,Int.reduceGE,Int.reduceAdd,Int.reduceSub,Int.reduceNeg,Int.reduceBEq,Int.reduceBNe,d1,d2,w1,w2,n2])<;>try revert hd;refine ttr ?_)
   exact Zcm rfl
theorem ZOC (p:Tx) (H:Zaa) (h:p.length=256):Zay Tryz.prog 165 [eS p] H (Pure H (.agg [eS (p.take 128),eS (p.drop 128)])):=by
 have hx0:Zaa.Ext H H:=.refl _
 have d1:(((p.length:Nat):Int) != 256)=false:=by rw[h];rfl
 have e1:(⟨p.toArray⟩:ByteArray).extract 0 128=⟨(p.take 128).toArray⟩:=ZMW p 128
 have e2:(⟨p.toArray⟩:ByteArray).extract 128 256=⟨(p.drop 128).toArray⟩:=by
  have:=ZMS p 128
  rw[h]at this
  exact this
 have d2:(((256:Nat):Int) != 256)=false:=rfl
 have t1:(128:Int).toNat=128:=rfl
 have b1:128<=p.length:=Xa
 have b2:128<=256:=Xa
 refine fnQ cf165 fun Q qr qn=>?_
 ((have hd:=tv;repeat' first|(first|apply Zad|apply Zac|apply Zab)<;>intro hd<;>try simp only[hd]|simp(disch:=first|assumption|omega|simp only[nx]<;>omega|fail)only[hd,qr,qn,Zeo,↓YA,YY,↓reduceIte,Nat.reduceEqDiff,Nat.reduceAdd,Nat.reduceMul,Nat.reduceLeDiff,Int.reduceToNat,Int.reduceLE,Int.reduceLT,Int.reduceGT,Int.reduceGE,Int.reduceAdd,Int.reduceSub,Int.reduceNeg,Int.reduceBEq,Int.reduceBNe,d1,d2,e1,e2,t1,b2,Zdi,h,zat,zad])<;>try revert hd;refine ttr ?_)
 exact Zcm rfl
theorem rep0:∀m:Nat,(⟨⟨repeatL (ByteArray.data ⟨#[0]⟩).toList m⟩⟩:ByteArray)=⟨(List.replicate m 0).toArray⟩:=by
 intro m
 have:repeatL (ByteArray.data ⟨#[0]⟩).toList m=List.replicate m 0:=by
  induction m with
  | zero=>rfl
  | succ m ih =>
   rw[List.replicate_succ,<- ih]
   rfl
 rw[this]
theorem ZO2 (m:Nat) (H:Zaa) (h:m<=1000000):Zay Tryz.prog 99 [.sc (.string ⟨#[0]⟩),.i (m:Int)] H (Pure H (eS (List.replicate m 0))):=by
 have h1:(⟨#[0]⟩:ByteArray).size=1:=rfl
 have:=Same.pure (Zwn ⟨#[0]⟩ m H Xa (by rw[h1];omega))
 rw[rep0]at this
 exact this
def pgH (k:UInt8) (ix n:Nat):Tx:=[k,UInt8.ofNat (ix / 65536),UInt8.ofNat (ix / 256),UInt8.ofNat ix,UInt8.ofNat (n / 256),UInt8.ofNat n]
theorem ZOq (k:UInt8) (ix:Nat) (s:Tx) (H:Zaa) (hk:ZBu k=true) (hi:ix<=16777215) (hs:s.length<=246):Zay Tryz.prog 114 [u8 k,.i (ix:Int),eS s] H (Pure H (.tup [eS (pgP k ix s),.i 0])):=by
 have hx0:Zaa.Ext H H:=.refl _
 have hkd:=fun K=>ZOo k K
 rw[hk]at hkd
 have d1:decide ((ix:Int)<0)=false:=decide_eq_false Xa
 have d2:decide ((ix:Int) > 16777215)=false:=decide_eq_false Xa
 have d3:decide (((s.length:Nat):Int) > 246)=false:=decide_eq_false Xa
 have b64:IntKind.i64.bits=64:=rfl
 have s1:Int.fdiv (ix:Int) (2 ^ min 16 IntKind.i64.bits)=((ix / 65536:Nat):Int):=ZGL ix 16 Xa
 have s2:Int.fdiv (ix:Int) (2 ^ min 8 IntKind.i64.bits)=((ix / 256:Nat):Int):=ZGL ix 8 Xa
 have s3:Int.fdiv ((s.length:Nat):Int) (2 ^ min 8 IntKind.i64.bits)=((s.length / 256:Nat):Int):=ZGL s.length 8 Xa
 have z1:¬((16:Int)<0):=Xb
 have z2:¬((8:Int)<0):=Xb
 have t1:(16:Int).toNat=16:=rfl
 have t2:(8:Int).toNat=8:=rfl
 have c1:=ZRd (ix / 65536)
 have c2:=ZRd (ix / 256)
 have c3:=ZRd ix
 have c4:=ZRd (s.length / 256)
 have c5:=ZRd s.length
 have q4:Zef [[u8 k],[u8 (UInt8.ofNat (ix / 65536))],[u8 (UInt8.ofNat (ix / 256))],[u8 (UInt8.ofNat ix)],[u8 (UInt8.ofNat (s.length / 256))],[u8 (UInt8.ofNat s.length)]]=some ((pgH k ix s.length).map fun c=>(c.toNat:Int)):=ZyX (pgH k ix s.length)
 have q5:strOf ((pgH k ix s.length).map fun c=>(c.toNat:Int))=⟨(pgH k ix s.length).toArray⟩:=Zza _
 have q6:(⟨(pgH k ix s.length).toArray⟩:ByteArray)++⟨s.toArray⟩=⟨(pgB k ix s).toArray⟩:=Zz9 _ _
 have q7:(pgH k ix s.length).length=6:=rfl
 have l1:6+s.length<=maxLen:=ZAp Xa
 have l2:=ZR3 k ix s
 have w1:IntKind.i64.wrap (252 - (((pgB k ix s).length:Nat):Int))=((252 - (pgB k ix s).length:Nat):Int):=by
  rw[Zaw Xa Xa];omega
 have hn:=fun K=>ZO2 (252 - (pgB k ix s).length) K Xa
 have q8:(⟨(pgB k ix s).toArray⟩:ByteArray)++⟨(List.replicate (252 - (pgB k ix s).length) 0).toArray⟩=⟨(ZMD 252 (pgB k ix s)).toArray⟩:=Zz9 _ _
 have l3:(List.replicate (252 - (pgB k ix s).length) (0:UInt8)).length=252 - (pgB k ix s).length:=zaZ
 have l4:(pgB k ix s).length+(252 - (pgB k ix s).length)<=maxLen:=ZAp Xa
 have hpl:(ZMD 252 (pgB k ix s)).length=252:=ZNr Xa
 have hcl:=fun K=>ZNJ (ZMD 252 (pgB k ix s)) K Xa
 unfold pgP
 generalize clC (ZMD 252 (pgB k ix s))=pg at *
 generalize ZMD 252 (pgB k ix s)=pd at *
 generalize (pgH k ix s.length).map (fun c=>(c.toNat:Int))=lz at *
 generalize pgH k ix s.length=hd0 at *
 generalize pgB k ix s=pb at *
 generalize List.replicate (252 - pb.length) (0:UInt8)=nu at *
 generalize 252 - pb.length=mm at *
 refine fnQ cf114 fun Q qr qn=>?_
 refine Bz0 ?_
 refine qcp (hkd _) fun k1=>?_
 ((have hd:=tv;repeat' first|(first|apply Zad|apply Zac|apply Zab)<;>intro hd<;>try simp only[hd]|simp(disch:=first|assumption|omega|simp only[nx]<;>omega|fail)only[hd,qr,qn,ZpQ,↓YA,YY,↓reduceIte,Nat.reduceEqDiff,Nat.reduceAdd,Nat.reduceMul,Nat.reduceLeDiff,Int.reduceToNat,Int.reduceLE,Int.reduceLT,Int.reduceGT,Int.reduceGE,Int.reduceAdd,Int.reduceSub,Int.reduceNeg,Int.reduceBEq,Int.reduceBNe,d1,d2,d3,s1,s2,s3,z1,z2,t1,t2,c1,c2,c3,c4,c5,q4,q5,q6,q7,l1,w1])<;>try revert hd;refine ttr ?_)
 refine qcp (hn _) fun k2=>?_
 refine Bz1 (X3 q8 l3 l4) ?_
 refine qcp (hcl _) fun k3=>?_
 refine Bz0 ?_
 exact Zcm rfl
open Go.RowKit Go.Lib
theorem clC_inj {a b:Tx} (h:clC a=clC b):a=b:=by
 have:=congrArg opC h
 rw[ZQf,ZQf]at this
 injection this
theorem six_of {b:Tx} (h:6<=b.length):∃k i2 i1 i0 l1 l0 r,b=k :: i2 :: i1 :: i0 :: l1 :: l0 :: r:=by
 match b,h with
 | k :: i2 :: i1 :: i0 :: l1 :: l0 :: r,_=>exact⟨k,i2,i1,i0,l1,l0,r,rfl⟩
theorem byte3 (a b c:UInt8):UInt8.ofNat ((a.toNat * 65536+b.toNat * 256+c.toNat) / 65536)=a/\UInt8.ofNat ((a.toNat * 65536+b.toNat * 256+c.toNat) / 256)=b/\UInt8.ofNat (a.toNat * 65536+b.toNat * 256+c.toNat)=c:=by
 have h1:=a.toNat_lt
 have h2:=b.toNat_lt
 have h3:=c.toNat_lt
 refine⟨UInt8.toNat_inj.1 ?_,UInt8.toNat_inj.1 ?_,UInt8.toNat_inj.1 ?_⟩<;>rw[UInt8.toNat_ofNat']<;>omega
theorem byte2 (a b:UInt8):UInt8.ofNat ((a.toNat * 256+b.toNat) / 256)=a/\UInt8.ofNat (a.toNat * 256+b.toNat)=b:=by
 have h1:=a.toNat_lt
 have h2:=b.toNat_lt
 refine⟨UInt8.toNat_inj.1 ?_,UInt8.toNat_inj.1 ?_⟩<;>rw[UInt8.toNat_ofNat']<;>omega
theorem ZQt {r:Tx} (h:∀x∈r,x=0):r=List.replicate r.length 0:=List.eq_replicate_of_mem h
set_option maxRecDepth 100000 in
open Classical in
theorem pgT_law {p b:Tx} (h:opC p=some b) (hl:p.length=256):pgT p=if ZBu (hdK b)=true/\hdL b<=246/\(∀x∈b.drop (6+hdL b),x=0) then some (hdK b,hdG b,(b.drop 6).take (hdL b)) else none:=by
 obtain⟨e,hbl⟩:=ZQi h
 have hb:b.length=252:=Xa
 obtain⟨k,i2,i1,i0,l1,l0,r,rfl⟩:=six_of (b:=b) Xa
 have hr:r.length=246:=by simpa using hb
 have hK:hdK p=k:=by rw[e];rfl
 have hI:hdG p=i2.toNat * 65536+i1.toNat * 256+i0.toNat:=by rw[e];rfl
 have hL:hdL p=l1.toNat * 256+l0.toNat:=by rw[e];rfl
 have hL':hdL (k :: i2 :: i1 :: i0 :: l1 :: l0 :: r)=l1.toNat * 256+l0.toNat:=rfl
 have hK':hdK (k :: i2 :: i1 :: i0 :: l1 :: l0 :: r)=k:=rfl
 have hI':hdG (k :: i2 :: i1 :: i0 :: l1 :: l0 :: r)=i2.toNat * 65536+i1.toNat * 256+i0.toNat:=rfl
 obtain⟨c1,c2,c3⟩:=byte3 i2 i1 i0
 obtain⟨c4,c5⟩:=byte2 l1 l0
 rw[hK',hI',hL']
 have hd6:(k :: i2 :: i1 :: i0 :: l1 :: l0 :: r).drop 6=r:=rfl
 have hd6':(k :: i2 :: i1 :: i0 :: l1 :: l0 :: r).drop (6+(l1.toNat * 256+l0.toNat))=r.drop (l1.toNat * 256+l0.toNat):=by rw[<- za5];rfl
 rw[hd6,hd6']
 unfold pgT
 rw[hK,hI,hL]
 generalize hn:l1.toNat * 256+l0.toNat=n at *
 generalize hi:i2.toNat * 65536+i1.toNat * 256+i0.toNat=ix at *
 by_cases hk:ZBu k=true
 ·by_cases hn2:n<=246
  ·have hS:hdS p=r.take n:=by
    unfold hdS
    rw[hL,e]
    show List.take n (r++taC _)=_
    rw[zbp Xa]
   have hpb:pgB k ix (r.take n)=k :: i2 :: i1 :: i0 :: l1 :: l0 :: r.take n:=by
    unfold pgB
    rw[c1,c2,c3,zaj,show min n r.length=n by omega,c4,c5]
   have hiff:pgP k ix (r.take n)=p ↔ ∀x∈r.drop n,x=0:=by
    unfold pgP
    rw[hpb,e]
    constructor
    ·intro h2
     have h3:=clC_inj h2
     unfold ZMD at h3
     have h4:r.take n++List.replicate (252 - (k :: i2 :: i1 :: i0 :: l1 :: l0 :: r.take n).length) 0=r:=by simpa using h3
     intro x hx
     rw[<- h4,zbi (by rw[zaj];omega)]at hx
     exact(zaY.1 hx).2
    ·intro h2
     congr 1
     unfold ZMD
     have h3:=ZQt h2
     have h4:252 - (k :: i2 :: i1 :: i0 :: l1 :: l0 :: r.take n).length=(r.drop n).length:=by
      rw[zaq]
      simp
      omega
     rw[h4,<- h3]
     simp
   rw[hS]
   by_cases hz:∀x∈r.drop n,x=0
   ·rw[if_pos ⟨hl,hk,hn2,hiff.2 hz⟩,if_pos ⟨hk,hn2,hz⟩]
   ·rw[if_neg fun h2=>hz (hiff.1 h2.2.2.2),if_neg fun h2=>hz h2.2.2]
  ·rw[if_neg fun h2=>hn2 h2.2.2.1,if_neg fun h2=>hn2 h2.2.1]
 ·rw[if_neg fun h2=>hk h2.2.1,if_neg fun h2=>hk h2.1]
theorem ZSJ {p:Tx} (h:opC p=none\/p.length≠256):pgT p=none:=by
 unfold pgT
 rw[if_neg]
 rintro⟨h1,h2,h3,h4⟩
 rcases h with h|h
 ·rw[<- h4]at h
  unfold pgP at h
  rw[ZQf]at h
  cases h
 ·exact h h1
theorem or_i (i x b:Nat) (hb:b<2 ^ i) (h:x * 2 ^ i+b<9223372036854775808):IntKind.i64.wrap ((BitVec.ofInt IntKind.i64.bits ((x * 2 ^ i:Nat):Int) ||| BitVec.ofInt IntKind.i64.bits (b:Int)).toNat:Int)=((x * 2 ^ i+b:Nat):Int):=by
 have e:(BitVec.ofInt IntKind.i64.bits ((x * 2 ^ i:Nat):Int) ||| BitVec.ofInt IntKind.i64.bits (b:Int)).toNat=x * 2 ^ i+b:=by
  show(BitVec.ofInt 64 ((x * 2 ^ i:Nat):Int) ||| BitVec.ofInt 64 (b:Int)).toNat=_
  rw[BitVec.ofInt_natCast,BitVec.ofInt_natCast,BitVec.toNat_or,za4,za4,zaF Xa,zaF Xa]
  have:=Nat.two_pow_add_eq_or_of_lt hb x
  rw[za7 x]
  exact this.symm
 rw[e,Zaw Xa Xa]
def takeV (p:Tx):AV:=match pgT p with
 | some (k,ix,s)=>.tup [u8 k,.i (ix:Int),eS s,.i 0]
 | none=>.tup [u8 0,.i 0,eS [],.i 15]
set_option maxRecDepth 100000 in
theorem ZP0 (p:Tx) (H:Zaa) (hl:p.length<=1000000):Zay Tryz.prog 158 [eS p] H (Pure H (takeV p)):=by
 have hx0:Zaa.Ext H H:=.refl _
 have ho:=fun K=>ZOg p K hl
 unfold takeV
 cases hop:opC p with
 | none =>
  rw[hop]at ho
  rw[ZSJ (.inl hop)]
  have ho:∀K,Zay Tryz.prog 196 [eS p] K (Pure K (.tup [eS [],.b false])):=ho
  refine fnQ ZKA fun Q qr qn=>?_
  refine Bz0 ?_
  refine qcp (ho _) fun k1=>?_
  refine Bz0 ?_
  exact Zcm rfl
 | some b =>
  rw[hop]at ho
  have ho:∀K,Zay Tryz.prog 196 [eS p] K (Pure K (.tup [eS b,.b true])):=ho
  by_cases h256:p.length=256
  ·have d1:(((p.length:Nat):Int) != 256)=false:=by rw[h256];rfl
   rw[pgT_law hop h256]
   obtain⟨_,hbl⟩:=ZQi hop
   have hb:b.length=252:=Xa
   clear hop
   obtain⟨k,i2,i1,i0,l1,l0,r,rfl⟩:=six_of (b:=b) Xa
   have hr:r.length=246:=by simpa using hb
   have hd6:(k :: i2 :: i1 :: i0 :: l1 :: l0 :: r).drop 6=r:=rfl
   have hL':hdL (k :: i2 :: i1 :: i0 :: l1 :: l0 :: r)=l1.toNat * 256+l0.toNat:=rfl
   have hK':hdK (k :: i2 :: i1 :: i0 :: l1 :: l0 :: r)=k:=rfl
   have hI':hdG (k :: i2 :: i1 :: i0 :: l1 :: l0 :: r)=i2.toNat * 65536+i1.toNat * 256+i0.toNat:=rfl
   have hd6':(k :: i2 :: i1 :: i0 :: l1 :: l0 :: r).drop (6+(l1.toNat * 256+l0.toNat))=r.drop (l1.toNat * 256+l0.toNat):=by rw[<- za5];rfl
   rw[hd6,hK',hI',hL',hd6']
   have g0:(⟨(k :: i2 :: i1 :: i0 :: l1 :: l0 :: r).toArray⟩:ByteArray)[0]?=some k:=by rw[Zy6];rfl
   have g1:(⟨(k :: i2 :: i1 :: i0 :: l1 :: l0 :: r).toArray⟩:ByteArray)[1]?=some i2:=by rw[Zy6];rfl
   have g2:(⟨(k :: i2 :: i1 :: i0 :: l1 :: l0 :: r).toArray⟩:ByteArray)[2]?=some i1:=by rw[Zy6];rfl
   have g3:(⟨(k :: i2 :: i1 :: i0 :: l1 :: l0 :: r).toArray⟩:ByteArray)[3]?=some i0:=by rw[Zy6];rfl
   have g4:(⟨(k :: i2 :: i1 :: i0 :: l1 :: l0 :: r).toArray⟩:ByteArray)[4]?=some l1:=by rw[Zy6];rfl
   have g5:(⟨(k :: i2 :: i1 :: i0 :: l1 :: l0 :: r).toArray⟩:ByteArray)[5]?=some l0:=by rw[Zy6];rfl
   have x6:∀n,n<=246->(⟨(k :: i2 :: i1 :: i0 :: l1 :: l0 :: r).toArray⟩:ByteArray).extract (6+n) 252=⟨(r.drop n).toArray⟩:=fun n hn=>by
    rw[ZM8,<- za5]
    show(⟨((r.drop n).take _).toArray⟩:ByteArray)=_
    rw[zav (by rw[zaq];omega)]
   have x7:∀n,n<=246->(⟨(k :: i2 :: i1 :: i0 :: l1 :: l0 :: r).toArray⟩:ByteArray).extract 6 (6+n)=⟨(r.take n).toArray⟩:=fun n hn=>by
    rw[ZM8]
    show(⟨(r.take _).toArray⟩:ByteArray)=_
    rw[zca]
   have hkd:=fun K=>ZOo k K
   have v1:=i2.toNat_lt
   have v2:=i1.toNat_lt
   have v3:=i0.toNat_lt
   have v4:=l1.toNat_lt
   have v5:=l0.toNat_lt
   clear hd6 hd6' hL' hK' hI'
   generalize k :: i2 :: i1 :: i0 :: l1 :: l0 :: r=b at *
   have cw:∀c:UInt8,IntKind.i64.wrap ((c.toNat:Nat):Int)=((c.toNat:Nat):Int):=fun c=>Zaw Xa (by have:=c.toNat_lt;omega)
   have b64:IntKind.i64.bits=64:=rfl
   have sh8:∀m:Nat,m<256->IntKind.i64.wrap ((m:Int) * 2 ^ min 8 IntKind.i64.bits)=((m * 2 ^ 8:Nat):Int):=fun m hm=>by
    rw[b64,show min 8 64=8 from rfl,Zaw Xa Xa]
    omega
   have sh16:IntKind.i64.wrap ((i2.toNat:Int) * 2 ^ min 16 IntKind.i64.bits)=((i2.toNat * 2 ^ 16:Nat):Int):=by
    rw[b64,show min 16 64=16 from rfl,Zaw Xa Xa]
    omega
   have s1:=sh8 l1.toNat v4
   have s2:=sh8 i1.toNat v2
   have o1:=or_i 8 l1.toNat l0.toNat Xa Xa
   have o2:=or_i 16 i2.toNat (i1.toNat * 2 ^ 8) Xa Xa
   have o3:=or_i 8 (i2.toNat * 2 ^ 8+i1.toNat) i0.toNat Xa Xa
   have e2:i2.toNat * 2 ^ 16+i1.toNat * 2 ^ 8=(i2.toNat * 2 ^ 8+i1.toNat) * 2 ^ 8:=Xa
   rw[e2]at o2
   have e3:(i2.toNat * 2 ^ 8+i1.toNat) * 2 ^ 8+i0.toNat=i2.toNat * 65536+i1.toNat * 256+i0.toNat:=Xa
   rw[e3]at o3
   have e1:l1.toNat * 2 ^ 8+l0.toNat=l1.toNat * 256+l0.toNat:=Xa
   rw[e1]at o1
   have z8:¬((8:Int)<0):=Xb
   have z16:¬((16:Int)<0):=Xb
   have t8:(8:Int).toNat=8:=rfl
   have t16:(16:Int).toNat=16:=rfl
   have c1:=cw l1
   have c2:=cw l0
   have c3:=cw i2
   have c4:=cw i1
   have c5:=cw i0
   obtain⟨ix,hix⟩:∃ix,ix=i2.toNat * 65536+i1.toNat * 256+i0.toNat:=⟨_,rfl⟩
   obtain⟨iy,hiy⟩:∃iy,iy=(i2.toNat * 2 ^ 8+i1.toNat) * 2 ^ 8:=⟨_,rfl⟩
   obtain⟨iz,hiz⟩:∃iz,iz=i2.toNat * 2 ^ 16:=⟨_,rfl⟩
   obtain⟨iw,hiw⟩:∃iw,iw=i1.toNat * 2 ^ 8:=⟨_,rfl⟩
   obtain⟨n,hnn⟩:∃n,n=l1.toNat * 256+l0.toNat:=⟨_,rfl⟩
   obtain⟨nw,hnw⟩:∃nw,nw=l1.toNat * 2 ^ 8:=⟨_,rfl⟩
   rw[<- hix]at o3 ⊢
   rw[<- hiy]at o2 o3
   rw[<- hiz]at o2 sh16
   rw[<- hiw]at o2 s2
   rw[<- hnn]at o1 ⊢
   rw[<- hnw]at o1 s1
   clear hix hiy hiz hiw hnn hnw e1 e2 e3
   rcases bfb (ZBu k)with hk|hk
   ·rw[hk]at hkd
    rw[if_neg fun h=>by rw[hk]at h;cases h.1]
    refine fnQ ZKA fun Q qr qn=>?_
    refine Bz0 ?_
    refine qcp (ho _) fun k1=>?_
    ((have hd:=tv;repeat' first|(first|apply Zad|apply Zac|apply Zab)<;>intro hd<;>try simp only[hd]|simp(disch:=first|assumption|omega|simp only[nx]<;>omega|fail)only[hd,qr,qn,ZeY,↓YA,YY,↓reduceIte,Nat.reduceEqDiff,Nat.reduceAdd,Nat.reduceMul,Nat.reduceLeDiff,Int.reduceToNat,Int.reduceLE,Int.reduceLT,Int.reduceGT,Int.reduceGE,Int.reduceAdd,Int.reduceSub,Int.reduceNeg,Int.reduceBEq,Int.reduceBNe,d1,g0])<;>try revert hd;refine ttr ?_)
    refine qcp (hkd _) fun k2=>?_
    refine Bz0 ?_
    exact Zcm rfl
   ·rw[hk]at hkd
    by_cases hn:n<=246
    ·have d2:decide ((n:Int) > 246)=false:=decide_eq_false Xa
     have x6:=x6 n hn
     have x7:=x7 n hn
     have w6:IntKind.i64.wrap (6+(n:Int))=((6+n:Nat):Int):=by rw[Zaw Xa Xa];omega
     have y1:(0:Int)<=((6+n:Nat):Int):=Xa
     have y2:6+n<=252:=Xa
     have y3:6<=6+n:=Xa
     have htr:=fun K=>ZOe (r.drop n) K (by rw[zaq];omega)
     have ttn:((6+n:Nat):Int).toNat=6+n:=Xa
     have y4:(6:Int).toNat=6:=rfl
     have hzi:=ZOP (q:=r.drop n)
     by_cases hz:∀x∈r.drop n,x=0
     ·have d3:(!decide (tlZ (trZ (r.drop n))=[]))=false:=by rw[decide_eq_true (hzi.2 hz)];rfl
      rw[if_pos ⟨hk,hn,hz⟩]
      clear hzi hz
      generalize tlZ (trZ (r.drop n))=tz at *
      generalize r.drop n=rd at *
      generalize r.take n=rt at *
      refine fnQ ZKA fun Q qr qn=>?_
      refine Bz0 ?_
      refine qcp (ho _) fun k1=>?_
      ((have hd:=tv;repeat' first|(first|apply Zad|apply Zac|apply Zab)<;>intro hd<;>try simp only[hd]|simp(disch:=first|assumption|omega|simp only[nx]<;>omega|fail)only[hd,qr,qn,ZeY,↓YA,YY,↓reduceIte,Nat.reduceEqDiff,Nat.reduceAdd,Nat.reduceMul,Nat.reduceLeDiff,Int.reduceToNat,Int.reduceLE,Int.reduceLT,Int.reduceGT,Int.reduceGE,Int.reduceAdd,Int.reduceSub,Int.reduceNeg,Int.reduceBEq,Int.reduceBNe,d1,g0])<;>try revert hd;refine ttr ?_)
      refine qcp (hkd _) fun k2=>?_
      ((have hd:=tv;repeat' first|(first|apply Zad|apply Zac|apply Zab)<;>intro hd<;>try simp only[hd]|simp(disch:=first|assumption|omega|simp only[nx]<;>omega|fail)only[hd,qr,qn,ZeY,↓YA,YY,↓reduceIte,Nat.reduceEqDiff,Nat.reduceAdd,Nat.reduceMul,Nat.reduceLeDiff,Int.reduceToNat,Int.reduceLE,Int.reduceLT,Int.reduceGT,Int.reduceGE,Int.reduceAdd,Int.reduceSub,Int.reduceNeg,Int.reduceBEq,Int.reduceBNe,g4,g5,c1,c2,s1,o1,z8,t8,d2,w6,y1,y2,y3,ttn,hb,Zdi,x6])<;>try revert hd;refine ttr ?_)
      refine qcp (htr _) fun k3=>?_
      ((have hd:=tv;repeat' first|(first|apply Zad|apply Zac|apply Zab)<;>intro hd<;>try simp only[hd]|simp(disch:=first|assumption|omega|simp only[nx]<;>omega|fail)only[hd,qr,qn,ZeY,↓YA,YY,↓reduceIte,Nat.reduceEqDiff,Nat.reduceAdd,Nat.reduceMul,Nat.reduceLeDiff,Int.reduceToNat,Int.reduceLE,Int.reduceLT,Int.reduceGT,Int.reduceGE,Int.reduceAdd,Int.reduceSub,Int.reduceNeg,Int.reduceBEq,Int.reduceBNe,d3,g0,g1,g2,g3,c3,c4,c5,sh16,s2,o2,o3,z8,t8,z16,t16,w6,y1,y2,y3,y4,ttn,hb,Zdi,x7])<;>try revert hd;refine ttr ?_)
      exact Zcm rfl
     ·have d3:(!decide (tlZ (trZ (r.drop n))=[]))=true:=by rw[decide_eq_false fun h=>hz (hzi.1 h)];rfl
      rw[if_neg fun h=>hz h.2.2]
      clear hzi hz
      generalize tlZ (trZ (r.drop n))=tz at *
      generalize r.drop n=rd at *
      refine fnQ ZKA fun Q qr qn=>?_
      refine Bz0 ?_
      refine qcp (ho _) fun k1=>?_
      ((have hd:=tv;repeat' first|(first|apply Zad|apply Zac|apply Zab)<;>intro hd<;>try simp only[hd]|simp(disch:=first|assumption|omega|simp only[nx]<;>omega|fail)only[hd,qr,qn,ZeY,↓YA,YY,↓reduceIte,Nat.reduceEqDiff,Nat.reduceAdd,Nat.reduceMul,Nat.reduceLeDiff,Int.reduceToNat,Int.reduceLE,Int.reduceLT,Int.reduceGT,Int.reduceGE,Int.reduceAdd,Int.reduceSub,Int.reduceNeg,Int.reduceBEq,Int.reduceBNe,d1,g0])<;>try revert hd;refine ttr ?_)
      refine qcp (hkd _) fun k2=>?_
      ((have hd:=tv;repeat' first|(first|apply Zad|apply Zac|apply Zab)<;>intro hd<;>try simp only[hd]|simp(disch:=first|assumption|omega|simp only[nx]<;>omega|fail)only[hd,qr,qn,ZeY,↓YA,YY,↓reduceIte,Nat.reduceEqDiff,Nat.reduceAdd,Nat.reduceMul,Nat.reduceLeDiff,Int.reduceToNat,Int.reduceLE,Int.reduceLT,Int.reduceGT,Int.reduceGE,Int.reduceAdd,Int.reduceSub,Int.reduceNeg,Int.reduceBEq,Int.reduceBNe,g4,g5,c1,c2,s1,o1,z8,t8,d2,w6,y1,y2,y3,ttn,hb,Zdi,x6])<;>try revert hd;refine ttr ?_)
      refine qcp (htr _) fun k3=>?_
      ((have hd:=tv;repeat' first|(first|apply Zad|apply Zac|apply Zab)<;>intro hd<;>try simp only[hd]|simp(disch:=first|assumption|omega|simp only[nx]<;>omega|fail)only[hd,qr,qn,ZeY,↓YA,YY,↓reduceIte,Nat.reduceEqDiff,Nat.reduceAdd,Nat.reduceMul,Nat.reduceLeDiff,Int.reduceToNat,Int.reduceLE,Int.reduceLT,Int.reduceGT,Int.reduceGE,Int.reduceAdd,Int.reduceSub,Int.reduceNeg,Int.reduceBEq,Int.reduceBNe,d3])<;>try revert hd;refine ttr ?_)
      exact Zcm rfl
    ·have d2:decide ((n:Int) > 246)=true:=decide_eq_true Xa
     rw[if_neg fun h=>hn h.2.1]
     refine fnQ ZKA fun Q qr qn=>?_
     refine Bz0 ?_
     refine qcp (ho _) fun k1=>?_
     ((have hd:=tv;repeat' first|(first|apply Zad|apply Zac|apply Zab)<;>intro hd<;>try simp only[hd]|simp(disch:=first|assumption|omega|simp only[nx]<;>omega|fail)only[hd,qr,qn,ZeY,↓YA,YY,↓reduceIte,Nat.reduceEqDiff,Nat.reduceAdd,Nat.reduceMul,Nat.reduceLeDiff,Int.reduceToNat,Int.reduceLE,Int.reduceLT,Int.reduceGT,Int.reduceGE,Int.reduceAdd,Int.reduceSub,Int.reduceNeg,Int.reduceBEq,Int.reduceBNe,d1,g0])<;>try revert hd;refine ttr ?_)
     refine qcp (hkd _) fun k2=>?_
     ((have hd:=tv;repeat' first|(first|apply Zad|apply Zac|apply Zab)<;>intro hd<;>try simp only[hd]|simp(disch:=first|assumption|omega|simp only[nx]<;>omega|fail)only[hd,qr,qn,ZeY,↓YA,YY,↓reduceIte,Nat.reduceEqDiff,Nat.reduceAdd,Nat.reduceMul,Nat.reduceLeDiff,Int.reduceToNat,Int.reduceLE,Int.reduceLT,Int.reduceGT,Int.reduceGE,Int.reduceAdd,Int.reduceSub,Int.reduceNeg,Int.reduceBEq,Int.reduceBNe,g4,g5,c1,c2,s1,o1,z8,t8,d2])<;>try revert hd;refine ttr ?_)
     exact Zcm rfl
  ·have d1:(((p.length:Nat):Int) != 256)=true:=by simp only[bne_iff_ne,ne_eq];omega
   rw[ZSJ (.inr h256)]
   refine fnQ ZKA fun Q qr qn=>?_
   refine Bz0 ?_
   refine qcp (ho _) fun k1=>?_
   ((have hd:=tv;repeat' first|(first|apply Zad|apply Zac|apply Zab)<;>intro hd<;>try simp only[hd]|simp(disch:=first|assumption|omega|simp only[nx]<;>omega|fail)only[hd,qr,qn,ZeY,↓YA,YY,↓reduceIte,Nat.reduceEqDiff,Nat.reduceAdd,Nat.reduceMul,Nat.reduceLeDiff,Int.reduceToNat,Int.reduceLE,Int.reduceLT,Int.reduceGT,Int.reduceGE,Int.reduceAdd,Int.reduceSub,Int.reduceNeg,Int.reduceBEq,Int.reduceBNe,d1])<;>try revert hd;refine ttr ?_)
   exact Zcm rfl
open Go.RowKit Go.Lib
def isV (o:Option Tx):AV:=match o with
 | some s=>.tup [eS s,.i 0]
 | none=>.tup [eS [],.i 15]
theorem ZCm (a b:UInt8):((a.toNat:Int) != (b.toNat:Int))=!decide (a=b):=by
 by_cases h:a=b
 ·subst h;simp
 ·have:a.toNat≠b.toNat:=fun e=>h (UInt8.toNat_inj.1 e)
  simp[h]
  omega
theorem ZNC (p:Tx) (k:UInt8) (ix:Nat) (H:Zaa) (hl:p.length<=1000000):Zay Tryz.prog 105 [eS p,u8 k,.i (ix:Int)] H (Pure H (isV (pgI p k ix))):=by
 have hx0:Zaa.Ext H H:=.refl _
 have ht:=fun K=>ZP0 p K hl
 unfold takeV at ht
 unfold pgI
 cases hp:pgT p with
 | none =>
  rw[hp]at ht
  have ht:∀K,Zay Tryz.prog 158 [eS p] K (Pure K (.tup [u8 0,.i 0,eS [],.i 15])):=ht
  have d1:((15:Int) != 0)=true:=rfl
  refine fnQ cf105 fun Q qr qn=>?_
  refine Bz0 ?_
  refine qcp (ht _) fun k1=>?_
  ((have hd:=tv;repeat' first|(first|apply Zad|apply Zac|apply Zab)<;>intro hd<;>try simp only[hd]|simp(disch:=first|assumption|omega|simp only[nx]<;>omega|fail)only[hd,qr,qn,ZtP,↓YA,YY,↓reduceIte,Nat.reduceEqDiff,Nat.reduceAdd,Nat.reduceMul,Nat.reduceLeDiff,Int.reduceToNat,Int.reduceLE,Int.reduceLT,Int.reduceGT,Int.reduceGE,Int.reduceAdd,Int.reduceSub,Int.reduceNeg,Int.reduceBEq,Int.reduceBNe,d1])<;>try revert hd;refine ttr ?_)
  exact Zcm rfl
 | some x =>
  obtain⟨k',ix',s⟩:=x
  rw[hp]at ht
  have ht:∀K,Zay Tryz.prog 158 [eS p] K (Pure K (.tup [u8 k',.i (ix':Int),eS s,.i 0])):=ht
  have q1:=ZCm k' k
  simp only
  by_cases h1:k'=k
  ·rw[decide_eq_true h1]at q1
   by_cases h2:ix'=ix
   ·have q2:((ix':Int) != (ix:Int))=false:=by subst h2;simp
    rw[if_pos ⟨h1,h2⟩]
    refine fnQ cf105 fun Q qr qn=>?_
    refine Bz0 ?_
    refine qcp (ht _) fun k1=>?_
    refine Bz1 (X2 q1 q2) ?_
    exact Zcm rfl
   ·have q2:((ix':Int) != (ix:Int))=true:=by simp only[bne_iff_ne,ne_eq];omega
    rw[if_neg fun h=>h2 h.2]
    refine fnQ cf105 fun Q qr qn=>?_
    refine Bz0 ?_
    refine qcp (ht _) fun k1=>?_
    refine Bz1 (X2 q1 q2) ?_
    exact Zcm rfl
  ·rw[decide_eq_false h1]at q1
   rw[if_neg fun h=>h1 h.1]
   refine fnQ cf105 fun Q qr qn=>?_
   refine Bz0 ?_
   refine qcp (ht _) fun k1=>?_
   refine Bz1 (X1 q1) ?_
   exact Zcm rfl
def SplQ (l:List Tx) (H:Zaa) (r:AV) (G:Zaa):Prop:=Zaa.Ext H G/\∃tok,r=.tup [.sl tok (rS l),.i 0]/\ZCe H.next G 9 1 l.length tok
theorem ZQO (l:List Tx) (x:Tx):rS l++[[eS x]]=rS (l++[x]):=Xc
theorem ZEV (k:UInt8) (first:Nat) (q:Tx) (H:Zaa) (hk:ZBu k=true) (hl:first+q.length<=16000000):Zay Tryz.prog 112 [u8 k,.i (first:Int),eS q] H (SplQ (ZNE k first q.length q) H):=by
 refine fnQ ZIH fun Q qr qn=>?_
 refine Bz0 ?_
 refine ZBA (fun m F G=>∃acc tok s ix,s.length<=m/\ix+s.length<=16000000/\acc.length+s.length<=16000000/\acc++ZNE k ix m s=ZNE k first q.length q/\Fr.get F 0=u8 k/\Fr.get F 1=.i (ix:Int)/\Fr.get F 2=eS s/\Fr.get F 8=.sl tok (rS acc)/\Zaa.Ext H G/\ZCe H.next G 9 1 acc.length tok) q.length (GStep.refl _ _) ⟨[],.full,q,first,zad _,hl,Xf,rfl,rfl,rfl,rfl,rfl,.refl _,.inl rfl⟩ ?_
 rintro m F G ⟨acc,tok,s,ix,hm,hi,ha,he,f0,f1,f2,f8,hx,hT⟩
 by_cases hs:s=[]
 ·subst hs
  have d1:(!decide (([]:Tx)=[]))=false:=rfl
  have he:acc=ZNE k first q.length q:=by
   rw[<- he]
   cases m<;>simp[ZNE]
  subst he
  skip
  ((have hd:=tv;repeat' first|(first|apply Zad|apply Zac|apply Zab)<;>intro hd<;>try simp only[hd]|simp(disch:=first|assumption|omega|simp only[nx]<;>omega|fail)only[hd,qr,qn,Zpf,↓YA,YY,↓reduceIte,Nat.reduceEqDiff,Nat.reduceAdd,Nat.reduceMul,Nat.reduceLeDiff,Int.reduceToNat,Int.reduceLE,Int.reduceLT,Int.reduceGT,Int.reduceGE,Int.reduceAdd,Int.reduceSub,Int.reduceNeg,Int.reduceBEq,Int.reduceBNe,f0,f1,f2,f8,d1])<;>try revert hd;refine ttr ?_)
  exact Zaq ⟨hx,tok,rfl,hT⟩
 ·have d1:(!decide (s=[]))=true:=by simp[hs]
  have hs1:1<=s.length:=by cases s with
   | nil=>exact absurd rfl hs
   | cons a r=>simp
  obtain⟨m',rfl⟩:∃m',m=m'+1:=⟨m - 1,Xa⟩
  rw[ZNE,if_neg hs]at he
  have hmm:(if ((246:Int))<((s.length:Nat):Int) then 246 else ((s.length:Nat):Int))=((min s.length 246:Nat):Int):=by split<;>omega
  have hmm':(if (((s.length:Nat):Int))<246 then ((s.length:Nat):Int) else 246)=((min s.length 246:Nat):Int):=by split<;>omega
  have z0:(0:Int)<=((min s.length 246:Nat):Int):=Xa
  have b1:min s.length 246<=s.length:=Xa
  have htk:s.take 246=s.take (min s.length 246):=by
   by_cases h:s.length<=246
   ·rw[zaP h,zaz,zav h]
   ·rw[zbC Xa]
  have hdr:s.drop 246=s.drop (min s.length 246):=by
   by_cases h:s.length<=246
   ·rw[zaP h,List.drop_length,zbg h]
   ·rw[zbC Xa]
  rw[htk,hdr]at he
  have e1:=ZMW s (min s.length 246)
  have e2:=ZMS s (min s.length 246)
  have hput:=fun K=>ZOq k ix (s.take (min s.length 246)) K hk Xa (by rw[zaj];omega)
  have hw:=ZCE (s:=ix) Xa
  have hdl:(s.drop (min s.length 246)).length=s.length - min s.length 246:=zaq
  have hrl:(rS acc).length=acc.length:=Xc
  have hal:ZaE 1 (rS acc)=true:=ZaU (f:=fun s:Tx=>[eS s]) (sz:=1) (fun _=>rfl) _
  have hm1:acc.length+1<=maxLen:=by unfold maxLen;omega
  have hm2:(acc.length+1) * 16<=140737488355328:=Xa
  have hsn:=ZQO acc (pgP k ix (s.take (min s.length 246)))
  have hal2:ZaE 1 [[eS (pgP k ix (s.take (min s.length 246)))]]=true:=rfl
  have he2:(acc++[pgP k ix (s.take (min s.length 246))])++ZNE k (ix+1) m' (s.drop (min s.length 246))=ZNE k first q.length q:=by
   rw[<- he,zan];rfl
  have hb2:(s.drop (min s.length 246)).length<=m':=Xa
  have hb3:ix+1+(s.drop (min s.length 246)).length<=16000000:=Xa
  have hb4:(acc++[pgP k ix (s.take (min s.length 246))]).length+(s.drop (min s.length 246)).length<=16000000:=by
   rw[zac,List.length_singleton];omega
  have hacl:(acc++[pgP k ix (s.take (min s.length 246))]).length=acc.length+1:=Xc
  generalize hR1:rS (acc++[pgP k ix (s.take (min s.length 246))])=R1 at hsn
  generalize hR0:rS acc=R0 at *
  clear htk hdr he
  generalize pgP k ix (s.take (min s.length 246))=pg at *
  generalize s.drop (min s.length 246)=sd at *
  generalize s.take (min s.length 246)=st at *
  generalize min s.length 246=mn at *
  rcases hT with rfl|⟨t',ht,rfl,hgt⟩
  ·skip
   ((have hd:=tv;repeat' first|(first|apply Zad|apply Zac|apply Zab)<;>intro hd<;>try simp only[hd]|simp(disch:=first|assumption|omega|simp only[nx]<;>omega|fail)only[hd,qr,qn,Zpf,↓YA,YY,↓reduceIte,Nat.reduceEqDiff,Nat.reduceAdd,Nat.reduceMul,Nat.reduceLeDiff,Int.reduceToNat,Int.reduceLE,Int.reduceLT,Int.reduceGT,Int.reduceGE,Int.reduceAdd,Int.reduceSub,Int.reduceNeg,Int.reduceBEq,Int.reduceBNe,f0,f1,f2,f8,d1,hmm,hmm',z0,b1,e1,Zdi,zat])<;>try revert hd;refine ttr ?_)
   refine qcp (hput _) fun k1=>?_
   ((have hd:=tv;repeat' first|(first|apply Zad|apply Zac|apply Zab)<;>intro hd<;>try simp only[hd]|simp(disch:=first|assumption|omega|simp only[nx]<;>omega|fail)only[hd,qr,qn,Zpf,↓YA,YY,↓reduceIte,Nat.reduceEqDiff,Nat.reduceAdd,Nat.reduceMul,Nat.reduceLeDiff,Int.reduceToNat,Int.reduceLE,Int.reduceLT,Int.reduceGT,Int.reduceGE,Int.reduceAdd,Int.reduceSub,Int.reduceNeg,Int.reduceBEq,Int.reduceBNe,f0,f1,f2,f8,z0,b1,e2,Zdi,hrl,hal,hal2,hm1,hm2,hsn,hw,zad])<;>try revert hd;refine ttr ?_)
   exact⟨m',Xa,acc++[pg],.own (G.next+k1),sd,ix+1,hb2,hb3,hb4,he2,rfl,rfl,by rw[hR1],hx.bump.alloc,by rw[hacl];exact .inr ⟨_,by have:=hx.next;omega,rfl,Zaa.Zat xN⟩⟩
  ·skip
   ((have hd:=tv;repeat' first|(first|apply Zad|apply Zac|apply Zab)<;>intro hd<;>try simp only[hd]|simp(disch:=first|assumption|omega|simp only[nx]<;>omega|fail)only[hd,qr,qn,Zpf,↓YA,YY,↓reduceIte,Nat.reduceEqDiff,Nat.reduceAdd,Nat.reduceMul,Nat.reduceLeDiff,Int.reduceToNat,Int.reduceLE,Int.reduceLT,Int.reduceGT,Int.reduceGE,Int.reduceAdd,Int.reduceSub,Int.reduceNeg,Int.reduceBEq,Int.reduceBNe,f0,f1,f2,f8,d1,hmm,hmm',z0,b1,e1,Zdi,zat])<;>try revert hd;refine ttr ?_)
   refine qcp (hput _) fun k1=>?_
   ((have hd:=tv;repeat' first|(first|apply Zad|apply Zac|apply Zab)<;>intro hd<;>try simp only[hd]|simp(disch:=first|assumption|omega|simp only[nx]<;>omega|fail)only[hd,qr,qn,Zpf,↓YA,YY,↓reduceIte,Nat.reduceEqDiff,Nat.reduceAdd,Nat.reduceMul,Nat.reduceLeDiff,Int.reduceToNat,Int.reduceLE,Int.reduceLT,Int.reduceGT,Int.reduceGE,Int.reduceAdd,Int.reduceSub,Int.reduceNeg,Int.reduceBEq,Int.reduceBNe,f0,f1,f2,f8,z0,b1,e2,Zdi,hrl,hal,hal2,hm1,hm2,hsn,hw,hgt,zad])<;>try revert hd;refine ttr ?_)
   have hlt:=Zaa.lt hgt
   exact⟨m',Xa,acc++[pg],.own t',sd,ix+1,hb2,hb3,hb4,he2,rfl,rfl,by rw[hR1],hx.bump.set ht,by rw[hacl];exact .inr ⟨_,ht,rfl,Zaa.Zal Xe⟩⟩
open Go.RowKit Go.Lib
def eRt (r:Rt):List AV:=[.i r.gen,.i r.pages,.i r.map,.i r.cat,.i r.nodes,.i r.top]
def RtI (r:Rt):Prop:=InI r.gen/\InI r.pages/\InI r.map/\InI r.cat/\InI r.nodes/\InI r.top
theorem ZOL {n:Int} (h:n<=1048576):0<=ZLU n/\ZLU n<=4263:=by
 unfold ZLU
 split<;>omega
theorem ok_iff (r:Rt):r.ok=true ↔ 1<=r.gen/\r.gen<=1099511627776/\1<=r.cat/\r.cat<=1048576/\0<=r.nodes/\r.nodes<=1048576/\0<=r.top/\r.top<max r.nodes 1/\r.pages=ZLU r.cat+ZLU r.nodes/\r.pages<=2047/\0<=r.map/\r.map<=2046:=by
 unfold Rt.ok
 rw[decide_eq_true_iff]
theorem ZMy (r:Rt) (H:Zaa) (hr:RtI r):Zay Tryz.prog 63 [.agg (eRt r)] H (Pure H (.i (if r.ok=true then 0 else 2))):=by
 have hx0:Zaa.Ext H H:=.refl _
 have hok:=ok_iff r
 obtain⟨gen,pages,map,cat,nodes,top⟩:=r
 simp only at hok
 obtain⟨h1,h2,h3,h4,h5,h6⟩:=hr
 simp only[InI]at h1 h2 h3 h4 h5 h6
 unfold eRt
 simp only
 have hmx:(if (1:Int) > nodes then 1 else nodes)=max nodes 1:=by split<;>omega
 have hmx':(if nodes<1 then (1:Int) else nodes)=max nodes 1:=by split<;>omega
 have hc1:=fun K=>ZLZ cat K h4.1 h4.2
 have hc2:=fun K=>ZLZ nodes K h5.1 h5.2
 generalize hO:(⟨gen,pages,map,cat,nodes,top⟩:Rt).ok=ok at *
 have w:(1<=cat/\cat<=1048576/\0<=nodes/\nodes<=1048576)->IntKind.i64.wrap (ZLU cat+ZLU nodes)=ZLU cat+ZLU nodes:=fun h=>by
  have q1:=ZOL (n:=cat) Xa
  have q2:=ZOL (n:=nodes) Xa
  exact Zaw Xa Xa
 generalize ZLU cat=cc at *
 generalize ZLU nodes=cn at *
 generalize max nodes 1=mx at *
 by_cases hA:1<=cat/\cat<=1048576/\0<=nodes/\nodes<=1048576
 ·have w:=w hA
  refine fnQ cf63 fun Q qr qn=>?_
  ((have hd:=tv;repeat' first|(first|apply Zad|apply Zac|apply Zab)<;>intro hd<;>try simp only[hd]|simp(disch:=first|assumption|omega|simp only[nx]<;>omega|fail)only[hd,qr,qn,Zi8,↓YA,YY,↓reduceIte,Nat.reduceEqDiff,Nat.reduceAdd,Nat.reduceMul,Nat.reduceLeDiff,Int.reduceToNat,Int.reduceLE,Int.reduceLT,Int.reduceGT,Int.reduceGE,Int.reduceAdd,Int.reduceSub,Int.reduceNeg,Int.reduceBEq,Int.reduceBNe,hmx,hmx'])<;>try revert hd;refine ttr ?_)
  all_goals first
   | (refine Zaz ?_;simp only[decide_eq_true_eq,decide_eq_false_iff_not]at *;rw[if_neg (fun h=>by have:=hok.1 h;omega)])
   | skip
  refine qcp (hc1 _) fun k1=>?_
  refine Bz0 ?_
  refine qcp (hc2 _) fun k2=>?_
  ((have hd:=tv;repeat' first|(first|apply Zad|apply Zac|apply Zab)<;>intro hd<;>try simp only[hd]|simp(disch:=first|assumption|omega|simp only[nx]<;>omega|fail)only[hd,qr,qn,Zi8,↓YA,YY,↓reduceIte,Nat.reduceEqDiff,Nat.reduceAdd,Nat.reduceMul,Nat.reduceLeDiff,Int.reduceToNat,Int.reduceLE,Int.reduceLT,Int.reduceGT,Int.reduceGE,Int.reduceAdd,Int.reduceSub,Int.reduceNeg,Int.reduceBEq,Int.reduceBNe,w])<;>try revert hd;refine ttr ?_)
  all_goals first
   | (refine Zaz ?_;simp only[decide_eq_true_eq,decide_eq_false_iff_not,bne_iff_ne,bne_eq_false_iff_eq,ne_eq]at *;rw[if_neg (fun h=>by have:=hok.1 h;omega)])
   | (refine Zaz ?_;simp only[decide_eq_true_eq,decide_eq_false_iff_not,bne_iff_ne,bne_eq_false_iff_eq,ne_eq]at *;rw[if_pos (hok.2 Xa)])
 ·have hf:ok=false:=by
   cases ok with
   | false=>rfl
   | true=>exact absurd (hok.1 rfl) Xa
  subst hf
  refine fnQ cf63 fun Q qr qn=>?_
  ((have hd:=tv;repeat' first|(first|apply Zad|apply Zac|apply Zab)<;>intro hd<;>try simp only[hd]|simp(disch:=first|assumption|omega|simp only[nx]<;>omega|fail)only[hd,qr,qn,Zi8,↓YA,YY,↓reduceIte,Nat.reduceEqDiff,Nat.reduceAdd,Nat.reduceMul,Nat.reduceLeDiff,Int.reduceToNat,Int.reduceLE,Int.reduceLT,Int.reduceGT,Int.reduceGE,Int.reduceAdd,Int.reduceSub,Int.reduceNeg,Int.reduceBEq,Int.reduceBNe,hmx,hmx'])<;>try revert hd;refine ttr ?_)
  all_goals first
   | exact Zaz rfl
   | (exfalso;simp only[decide_eq_true_eq,decide_eq_false_iff_not]at *;omega)
open Go.RowKit Go.Lib
def ZRn (n k:Nat):List AV:=z8 (6 - k)++c8 (beB k n)
theorem ZQk {n k:Nat} (h:k<=6):(ZRn n k).length=6:=by simp[ZRn,ZB7];omega
theorem ZSA {n k:Nat} (h:k<6):splice (ZRn n k) (5 - k) [.sc (.int .u8 ((UInt8.ofNat (n / 256 ^ k)).toNat:Int))]=ZRn n (k+1):=by
 unfold ZRn splice
 have e:z8 (6 - k)=z8 (5 - k)++[.sc (.int .u8 0)]:=by
  unfold z8
  rw[show 6 - k=(5 - k)+1 by omega,List.replicate_succ']
 have hd:List.drop (5 - k+1) (z8 (5 - k)++[.sc (.int .u8 0)]++c8 (beB k n))=c8 (beB k n):=zbi Xc
 have ht:List.take (5 - k) (z8 (5 - k)++[.sc (.int .u8 0)]++c8 (beB k n))=z8 (5 - k):=by
  rw[zan]
  exact za1 Xc
 rw[e,List.length_singleton,hd,ht,show 6 - (k+1)=5 - k by omega,zan]
 rfl
theorem ZRf (n:Nat) (H:Zaa) (hn:n<=1099511627776):Zay Tryz.prog 163 [.i (n:Int)] H (Pure H (eS (beB 6 n))):=by
 have hx0:Zaa.Ext H H:=.refl _
 refine fnQ cf163 fun Q qr qn=>?_
 refine Bz0 ?_
 refine Zbs (N:=6) [3] (σ:=Unit) (fun(k:Nat) s=>True) (fun k s=>[(0,.i ((n / 256 ^ k:Nat):Int))]) (fun k s=>[(H.next,.cells (ZRn n k) 270)]) () (GStep.refl _ _) xV xW xW (by rfl) Xd ?_ xT ?_ ?_ ?_
 ·trivial
 ·rw[ZaP,ZaJ,and_true]
  exact Zaa.Zat rfl
 ·(rintro k u G hk _ hG hn1;try simp only[nx]at hn1)
  have hg:G.get H.next=some (.cells (ZRn n k) 270):=hG.o (H.next,_) Xc
  have hst:=ZSA (n:=n) hk
  have hl:=ZQk (n:=n) (k:=k) Xa
  have hid:=Zaa.lt hg
  have hle:n / 256 ^ k<=n:=Nat.div_le_self ..
  have hdv:n / 256 ^ (k+1)=n / 256 ^ k / 256:=by rw[Nat.pow_succ,Nat.div_div_eq_div_mul]
  have w1:IntKind.i64.wrap (5 - (k:Int))=((5 - k:Nat):Int):=by rw[Zaw Xa Xa];omega
  have c1:=ZRd (n / 256 ^ k)
  have s1:Int.fdiv ((n / 256 ^ k:Nat):Int) (2 ^ min 8 IntKind.i64.bits)=((n / 256 ^ k / 256:Nat):Int):=ZGL (n / 256 ^ k) 8 Xa
  have z8':¬((8:Int)<0):=Xb
  have t8:(8:Int).toNat=8:=rfl
  have q1:((5 - k:Nat):Int)<((6:Nat):Int):=Xa
  have q2:(0:Int)<=((5 - k:Nat):Int):=Xa
  have q3:(5 - k)+1<=6:=Xa
  rw[<- hdv]at s1
  generalize hcs:ZRn n k=cs at *
  generalize hcs1:ZRn n (k+1)=cs1 at *
  generalize hm1:n / 256 ^ (k+1)=m1 at *
  generalize n / 256 ^ k=m at *
  generalize 5 - k=j at *
  have hst':List.take j cs++[AV.sc (.int .u8 ((UInt8.ofNat m).toNat:Int))]++List.drop (j+1) cs=cs1:=hst
  ((have hd:=tv;repeat' first|(first|apply Zad|apply Zac|apply Zab)<;>intro hd<;>try simp only[hd]|simp(disch:=first|assumption|omega|simp only[nx]<;>omega|fail)only[hd,qr,qn,ZvQ,↓YA,YY,↓reduceIte,Nat.reduceEqDiff,Nat.reduceAdd,Nat.reduceMul,Nat.reduceLeDiff,Int.reduceToNat,Int.reduceLE,Int.reduceLT,Int.reduceGT,Int.reduceGE,Int.reduceAdd,Int.reduceSub,Int.reduceNeg,Int.reduceBEq,Int.reduceBNe,hg,hl,w1,c1,s1,z8',t8,q1,q2,q3,hst'])<;>try revert hd;refine ttr ?_)
  exact⟨(),by rw[hm1],by rw[hcs1];exact hG.put⟩
 ·(rintro u G _ hG hn1;try simp only[nx]at hn1)
  have hg:G.get H.next=some (.cells (ZRn n 6) 270):=hG.o (H.next,_) Xc
  have hl:=ZQk (n:=n) (k:=6) (zad _)
  have hch:chunk 1 6 (ZRn n 6)=rB (beB 6 n):=by
   have:=ZFD (beB 6 n) []
   rw[ZB7,zaI]at this
   exact this
  have hby:=ZyX (beB 6 n)
  have hst:=Zza (beB 6 n)
  have m6:6<=maxLen:=ZAp Xa
  generalize ZRn n 6=cs at *
  generalize (beB 6 n).map (fun c=>(c.toNat:Int))=lz at *
  generalize rB (beB 6 n)=rb at *
  ((have hd:=tv;repeat' first|(first|apply Zad|apply Zac|apply Zab)<;>intro hd<;>try simp only[hd]|simp(disch:=first|assumption|omega|simp only[nx]<;>omega|fail)only[hd,qr,qn,ZvQ,↓YA,YY,↓reduceIte,Nat.reduceEqDiff,Nat.reduceAdd,Nat.reduceMul,Nat.reduceLeDiff,Int.reduceToNat,Int.reduceLE,Int.reduceLT,Int.reduceGT,Int.reduceGE,Int.reduceAdd,Int.reduceSub,Int.reduceNeg,Int.reduceBEq,Int.reduceBNe,hg,hl,hch,hby,hst,m6,Zdi,Nat.sub_zero,zat,zad])<;>try revert hd;refine ttr ?_)
  exact Zcm rfl (hG.ZdB (by exact AXT) Xc)
@[simp] theorem beV_nil:beV []=0:=rfl
theorem ZQA {l:Tx} {k:Nat} (h:k<l.length):beV (l.take (k+1))=beV (l.take k) * 256+l[k].toNat:=by
 unfold beV
 exact ZPi (fun n c=>n * 256+c.toNat) 0 h
theorem beV_up:∀(l:Tx),beV l<256 ^ l.length:=by
 intro l
 have:∀k,k<=l.length->beV (l.take k)<256 ^ k:=by
  intro k
  induction k with
  | zero=>intro _;simp[beV]
  | succ k ih =>
   intro hk
   have h1:=ih Xa
   rw[ZQA Xa,Nat.pow_succ]
   have:=(l[k]'Xa).toNat_lt
   omega
 have:=this l.length (zad _)
 rwa [zaz]at this
theorem ZOZ (q:Tx) (H:Zaa) (hl:q.length<=6):Zay Tryz.prog 203 [eS q] H (Pure H (.i ((beV q:Nat):Int))):=by
 have hx0:Zaa.Ext H H:=.refl _
 have hend:beV (q.take q.length)=beV q:=by rw[zaz]
 have h0:beV (q.take 0)=0:=rfl
 refine fnQ cf203 fun Q qr qn=>?_
 refine Bz0 ?_
 refine Zbs [0,6] (σ:=Unit) (fun(k:Nat) s=>True) (fun k s=>[(3,.i ((beV (q.take k):Nat):Int))]) (fun k s=>[]) () (GStep.refl _ _) xV xW xW (by rfl) Xd ?_ xT xU ?_ ?_
 ·trivial
 ·(rintro k u G hk _ hG hn1;try simp only[nx]at hn1)
  have hb:=byte_at hk
  have hf:=ZQA hk
  have hlt:=beV_up (q.take k)
  rw[zaj,zaP Xa]at hlt
  have hlt2:beV (q.take k)<256 ^ 5:=zaM hlt (zbt Xb Xa)
  have hlt3:beV (q.take k)<1099511627776:=hlt2
  have z0:(0:Int)<=(k:Int):=Xa
  generalize beV (q.take k)=x at *
  generalize q[k]=c at *
  have hc:=c.toNat_lt
  have w1:IntKind.i64.wrap ((x:Int) * 2 ^ min 8 IntKind.i64.bits)=((x * 2 ^ 8:Nat):Int):=by
   rw[show IntKind.i64.bits=64 from rfl,show min 8 64=8 from rfl,Zaw Xa Xa]
   omega
  have w2:IntKind.i64.wrap ((c.toNat:Nat):Int)=((c.toNat:Nat):Int):=Zaw Xa Xa
  have o1:=or_i 8 x c.toNat Xa Xa
  have z8':¬((8:Int)<0):=Xb
  have t8:(8:Int).toNat=8:=rfl
  ((have hd:=tv;repeat' first|(first|apply Zad|apply Zac|apply Zab)<;>intro hd<;>try simp only[hd]|simp(disch:=first|assumption|omega|simp only[nx]<;>omega|fail)only[hd,qr,qn,ZLa,↓YA,YY,↓reduceIte,Nat.reduceEqDiff,Nat.reduceAdd,Nat.reduceMul,Nat.reduceLeDiff,Int.reduceToNat,Int.reduceLE,Int.reduceLT,Int.reduceGT,Int.reduceGE,Int.reduceAdd,Int.reduceSub,Int.reduceNeg,Int.reduceBEq,Int.reduceBNe,hb,z0,w1,w2,o1,z8',t8])<;>try revert hd;refine ttr ?_)
  exact⟨(),by rw[hf],by exact HXT⟩
 ·(rintro u G _ hG hn1;try simp only[nx]at hn1)
  rw[hend]
  refine Bz0 ?_
  exact Zcm rfl hG.ext
theorem ZNV (n:Nat) (H:Zaa) (hn:n<=9223372036854775807):Zay Tryz.prog 117 [.i (n:Int)] H (Pure H (.i ((n % 2:Nat):Int))):=by
 have hx0:Zaa.Ext H H:=.refl _
 have e:IntKind.i64.wrap ((BitVec.ofInt IntKind.i64.bits (n:Int) &&& BitVec.ofInt IntKind.i64.bits 1).toNat:Int)=((n % 2:Nat):Int):=by
  have e1:(BitVec.ofInt IntKind.i64.bits (n:Int) &&& BitVec.ofInt IntKind.i64.bits 1).toNat=n % 2:=by
   show(BitVec.ofInt 64 (n:Int) &&& BitVec.ofInt 64 ((1:Nat):Int)).toNat=_
   rw[BitVec.ofInt_natCast,BitVec.ofInt_natCast,BitVec.toNat_and,za4,za4,zaF Xa]
   exact zcB _
  rw[e1,Zaw Xa Xa]
 refine fnQ cf117 fun Q qr qn=>?_
 refine Bz1 (X1 e) ?_
 exact Zcm rfl
open Go.RowKit Go.Lib
def ZOz (g p m c n t:Nat):Rt:=⟨g,p,m,c,n,t⟩
theorem Rt.ok.nat {r:Rt} (h:r.ok=true):∃g p m c n t:Nat,r=ZOz g p m c n t/\1<=g/\g<=1099511627776/\1<=c/\c<=1048576/\n<=1048576/\t<max n 1/\(p:Int)=ZLU c+ZLU n/\p<=2047/\m<=2046:=by
 obtain⟨h1,h2,h3,h4,h5,h6,h7,h8,h9,h10,h11,h12⟩:=(ok_iff r).1 h
 obtain⟨gen,pages,map,cat,nodes,top⟩:=r
 simp only at *
 have q1:=ZOL (n:=cat) Xa
 have q2:=ZOL (n:=nodes) Xa
 refine⟨gen.toNat,pages.toNat,map.toNat,cat.toNat,nodes.toNat,top.toNat,?_,Xa,Xa,Xa,Xa,Xa,Xa,?_,Xa,Xa⟩
 ·unfold ZOz
  rw[zba Xa,zba Xa,zba Xa,zba Xa,zba Xa,zba Xa]
 ·rw[zba Xa,zba Xa,zba Xa];exact h9
theorem slB_nat (g p m c n t:Nat):slB (ZOz g p m c n t)=(86 :: beB 6 g)++([p,m,c,n,t]:List Nat).flatMap ZA2:=by
 simp[slB,ZOz]
theorem ZBf (n:Nat):(ZA2 n).length<=9:=by
 have:=(ZA7 n).2
 have h1:=(ZA7 n).1
 rw[ZA2,List.length_cons,ZB7]
 omega
theorem ZiA:∀l:List Nat,(l.flatMap ZA2).length<=9 * l.length
 | []=>by simp
 | a :: l=>by
  have:=ZiA l
  have:=ZBf a
  rw[zbu,zac,List.length_cons]
  omega
theorem ZRZ {l:List Nat} {k:Nat} (h:k<l.length):(l.take (k+1)).flatMap ZA2=(l.take k).flatMap ZA2++ZA2 l[k]:=by
 rw[zas h,zbZ]
 simp
abbrev aN (l:List Nat):List AV:=l.map fun(n:Nat)=>AV.i (n:Int)
theorem ZQX (r:Rt) (H:Zaa) (hr:r.ok=true):Zay Tryz.prog 115 [.agg (eRt r)] H (Pure H (.tup [eS (slP r),.i 0])):=by
 have hx0:Zaa.Ext H H:=.refl _
 obtain⟨g,p,m,c,n,t,rfl,h1,h2,h3,h4,h5,h6,h7,h8,h9⟩:=Rt.ok.nat hr
 have hI:RtI (ZOz g p m c n t):=by
  refine⟨?_,?_,?_,?_,?_,?_⟩<;>simp only[InI,ZOz]<;>omega
 have hck:=fun K=>ZMy (ZOz g p m c n t) K hI
 rw[if_pos hr]at hck
 have hen:=fun K=>ZRf g K h2
 have he:eRt (ZOz g p m c n t)=[.i (g:Int),.i (p:Int),.i (m:Int),.i (c:Int),.i (n:Int),.i (t:Int)]:=rfl
 have hsl:slP (ZOz g p m c n t)=clC (ZMD 118 (slB (ZOz g p m c n t)))++beB 6 g:=rfl
 rw[hsl]
 have hbl:=slB_nat g p m c n t
 rw[he]at hck ⊢
 obtain⟨L,hL⟩:∃L:List Nat,L=[p,m,c,n,t]:=⟨_,rfl⟩
 have hL5:L.length=5:=by rw[hL];rfl
 have haL:[AV.i (p:Int),.i (m:Int),.i (c:Int),.i (n:Int),.i (t:Int)]=aN L:=by rw[hL];rfl
 rw[<- hL]at hbl
 have hLm:∀x∈L,x<=9223372036854775807:=by
  rw[hL]
  intro x hx
  simp only[zay,zbO,or_false]at hx
  omega
 have hlen:(slB (ZOz g p m c n t)).length<=52:=by
  rw[hbl,zac,List.length_cons,ZB7]
  have:=ZiA L
  omega
 have q4:Zef [[.sc (.int .u8 86)]]=some (([86]:Tx).map fun c=>(c.toNat:Int)):=ZyX ([86]:Tx)
 have q5:strOf (([86]:Tx).map fun c=>(c.toNat:Int))=⟨([86]:Tx).toArray⟩:=Zza _
 have q6:=Zz9 ([86]:Tx) (beB 6 g)
 have q7:([86]:Tx).length=1:=rfl
 have q8:(beB 6 g).length=6:=ZB7 6 g
 have q9:1+6<=maxLen:=ZAp Xa
 have hd0:([86]:Tx)++beB 6 g=86 :: beB 6 g:=rfl
 rw[hd0]at q6
 have hd7:(86 :: beB 6 g).length=7:=by rw[List.length_cons,q8]
 have hfin:∀{b:Tx},b=slB (ZOz g p m c n t)->b.length<=52/\(∀K,Zay Tryz.prog 99 [.sc (.string ⟨#[0]⟩),.i ((118 - b.length:Nat):Int)] K (Pure K (eS (List.replicate (118 - b.length) 0))))/\IntKind.i64.wrap (118 - (b.length:Int))=((118 - b.length:Nat):Int)/\(⟨b.toArray⟩:ByteArray)++⟨(List.replicate (118 - b.length) 0).toArray⟩=⟨(ZMD 118 b).toArray⟩/\(∀K,Zay Tryz.prog 162 [eS (ZMD 118 b)] K (Pure K (eS (clC (ZMD 118 b)))))/\(⟨(clC (ZMD 118 b)).toArray⟩:ByteArray)++⟨(beB 6 g).toArray⟩=⟨(clC (ZMD 118 b)++beB 6 g).toArray⟩/\(clC (ZMD 118 b)).length=122:=by
  rintro b rfl
  have hp:(ZMD 118 (slB (ZOz g p m c n t))).length=118:=ZNr Xa
  exact⟨hlen,fun K=>ZO2 _ K Xa,by rw[Zaw Xa Xa];omega,Zz9 _ _,fun K=>ZNJ _ K Xa,Zz9 _ _,by rw[ZMN,hp]⟩
 have hpn:∀x∈L,∀K,Zay Tryz.prog 164 [.i (x:Int)] K (Pure K (eS (ZA2 x))):=fun x hx K=>ZBc x (hLm x hx) K
 have haLl:(aN L).length=5:=by simp[hL5]
 have hLt:(L.take L.length).flatMap ZA2=L.flatMap ZA2:=by rw[zaz]
 rw[hL5]at hLt
 have hapl:∀k,((86 :: beB 6 g)++(L.take k).flatMap ZA2).length<=52:=fun k=>by
  rw[zac,hd7]
  have:=ZiA (L.take k)
  rw[zaj]at this
  omega
 generalize slB (ZOz g p m c n t)=SB at *
 generalize 86 :: beB 6 g=B7 at *
 generalize beB 6 g=B6 at *
 have q6':(⟨([86]:Tx).toArray⟩:ByteArray)++⟨B6.toArray⟩=⟨B7.toArray⟩:=q6
 generalize (([86]:Tx).map fun c=>(c.toNat:Int))=z86 at *
 generalize hx86:([86]:Tx)=x86 at *
 refine fnQ cf115 fun Q qr qn=>?_
 refine Bz0 ?_
 refine qcp (hck _) fun k1=>?_
 refine Bz0 ?_
 refine qcp (hen _) fun k2=>?_
 refine Bz1 (X6 q4 q5 q6' q7 q8 q9) ?_
 refine ZbJ (N:=5) (fun k F G=>Fr.get F 32=.i (k:Int)/\Fr.get F 31=.agg (aN L)/\Fr.get F 5=eS B6/\Fr.get F 6=eS (B7++(L.take k).flatMap ZA2)/\Zaa.Ext H G) Xd (fun k F G h=>⟨h.1,rfl⟩) (GStep.refl _ _) ⟨rfl,by rw[<- haL];rfl,rfl,by simp[Fr.get],by exact AXT⟩ ?_ ?_
 ·rintro k F G hk ⟨f32,f31,f5,f6,hx⟩
  have hkL:k<L.length:=Xa
  have hge:(aN L)[k]?=some (.i ((L[k]:Nat):Int)):=by simp[hkL]
  have z0:(0:Int)<=(k:Int):=Xa
  have z1:(k:Int)<((5:Nat):Int):=Xa
  have z2:(k:Int)<5:=Xa
  have hpu:=hpn L[k] (zau hkL)
  have hft:=ZRZ hkL
  have ha:=Zz9 (B7++(L.take k).flatMap ZA2) (ZA2 L[k])
  rw[zan,<- hft]at ha
  have hl1:=hapl k
  have hl2:=ZBf L[k]
  have hm:(B7++(L.take k).flatMap ZA2).length+(ZA2 L[k]).length<=maxLen:=ZAp Xa
  generalize hnx:B7++(L.take (k+1)).flatMap ZA2=nx1 at *
  generalize B7++(L.take k).flatMap ZA2=cur at *
  generalize ZA2 L[k]=pb at *
  generalize L[k]=lk at *
  generalize aN L=aL at *
  skip
  refine Bz1 (X9 f32 f31 f5 f6 hge z0 z1 z2 haLl) ?_
  refine qcp (hpu _) fun k3=>?_
  refine Bz1 (X6 f32 f31 f5 f6 ha hm) ?_
  exact⟨by rw[hnx],hx.bump⟩
 ·rintro F G ⟨f32,f31,f5,f6,hx⟩
  rw[hLt,<- hbl]at f6
  obtain⟨e1,e2,e3,e4,e5,e6,e7⟩:=hfin rfl
  have g1:(List.replicate (118 - SB.length) (0:UInt8)).length=118 - SB.length:=zaZ
  have g2:SB.length+(118 - SB.length)<=maxLen:=ZAp Xa
  have g3:122+6<=maxLen:=ZAp Xa
  generalize clC (ZMD 118 SB)=cl at *
  generalize ZMD 118 SB=pd at *
  generalize List.replicate (118 - SB.length) (0:UInt8)=nu at *
  generalize 118 - SB.length=mm at *
  skip
  refine Bz1 (X3 f6 f5 e3) ?_
  refine qcp (e2 _) fun k4=>?_
  refine Bz1 (X5 e4 g1 g2 f6 f5) ?_
  refine qcp (e5 _) fun k5=>?_
  refine Bz1 (X6 e6 e7 q8 g3 f6 f5) ?_
  exact Zcm rfl hx.bump.bump
end Go.Proofs.YtfjjpndoeppbhaaGreatDoor
