/- Texts of the walk. -/
import Derived.Test.YtfjjpndoeppbhaaGreatDoorMk
namespace Go.Proofs.YtfjjpndoeppbhaaGreatDoor
set_option linter.defProp false
set_option maxHeartbeats 64000000
set_option linter.unusedSimpArgs false
set_option linter.unusedVariables false
open Go.RowKit Go.Lib
abbrev uN (n:Nat):AV:=.sc (.int .u64 (n:Int))
def ZA5 (n:Nat):Nat:=if n<128 then 1 else if n<16384 then 2 else if n<2097152 then 3 else if n<268435456 then 4 else if n<34359738368 then 5 else if n<4398046511104 then 6 else if n<562949953421312 then 7 else if n<72057594037927936 then 8 else 9
def beB:Nat->Nat->Tx
 | 0,_=>[]
 | j+1,n=>UInt8.ofNat (n / 256 ^ j) :: beB j n
def ZBa (s:Nat):Nat:=256 - 2 ^ (9 - s)
def ZA2 (n:Nat):Tx:=UInt8.ofNat (ZBa (ZA5 n)+n / 256 ^ (ZA5 n - 1)) :: beB (ZA5 n - 1) n
theorem ZA7 (n:Nat):1<=ZA5 n/\ZA5 n<=9:=by
 unfold ZA5
 repeat' split
 all_goals omega
theorem nine {s:Nat} (h1:1<=s) (h8:s<=9):s=1\/s=2\/s=3\/s=4\/s=5\/s=6\/s=7\/s=8\/s=9:=Xa
theorem ZC2 {s n:Nat} (h1:1<=s) (h8:s<=9) (hl:s=1\/2 ^ (7 * (s - 1))<=n) (hu:s=9\/n<2 ^ (7 * s)):ZA5 n=s:=by
 unfold ZA5
 obtain rfl|rfl|rfl|rfl|rfl|rfl|rfl|rfl|rfl:=nine h1 h8
 all_goals simp at hl hu
 all_goals (repeat' split)<;>omega
theorem ZC3 {n:Nat}:ZA5 n=9\/n<2 ^ (7 * ZA5 n):=by
 unfold ZA5
 repeat' split
 all_goals simp
 all_goals omega
theorem ZB7:∀j n,(beB j n).length=j
 | 0,_=>rfl
 | j+1,n=>by rw[beB,List.length_cons,ZB7 j n]
theorem ZA3 (n:Nat):(ZA2 n).length=ZA5 n:=by
 have:=(ZA7 n).1
 rw[ZA2,List.length_cons,ZB7];omega
theorem ZB9 {n:Int} (h1:0<=n) (h2:n<18446744073709551616):IntKind.u64.wrap n=n:=by rw[IntKind.wrap_u64];omega
theorem ZEr:IntKind.u64.bits=64:=rfl
theorem bits8:IntKind.u8.bits=8:=rfl
theorem ZGL (n k:Nat) (h:k<=64):(n:Int).fdiv (2 ^ min k 64)=((n / 2 ^ k:Nat):Int):=by
 rw[zaP h,zbY _ (Int.le_of_lt (Int.pow_pos Xb))]
 simp
theorem beq0 {q:Nat} (h:q≠0):((q:Int) == 0)=false:=by rw[beq_eq_false_iff_ne];omega
theorem ZFH (n:Nat) (H:Zaa):Zay Tryz.prog 221 [uN n] H (Pure H (.i (ZA5 n:Int))):=by
 refine fnQ cf221 fun Q qr qn=>?_
 refine Bz0 ?_
 refine ZBA (fun m F G=>∃s,1<=s/\s<=9/\m=9 - s/\Fr.get F 3=.i (s:Int)/\Fr.get F 0=uN n/\(s=1\/2 ^ (7 * (s - 1))<=n)/\G=H) 8 (GStep.refl _ _) ⟨1,Xa,Xa,rfl,rfl,rfl,.inl rfl,rfl⟩ ?_
 rintro m F G ⟨s,h1,h9,rfl,f3,f0,hl,rfl⟩
 by_cases h:s<9
 ·have d:decide ((s:Int)<9)=true:=by simp;omega
  have hw7:IntKind.i64.wrap (7 * (s:Int))=((7 * s:Nat):Int):=by rw[Zaw Xa Xa];omega
  have hw1:IntKind.i64.wrap ((s:Int)+1)=((s+1:Nat):Int):=by rw[Zaw Xa Xa];omega
  have hn0:¬(((7 * s:Nat):Int)<0):=Xa
  have hsh:=ZGL n (7 * s) Xa
  have htn:(((7 * s:Nat):Int)).toNat=7 * s:=Xa
  by_cases hz:n / 2 ^ (7 * s)=0
  ·have hlt:n<2 ^ (7 * s):=by
    rcases Nat.div_eq_zero_iff.1 hz with h|h
    ·exact absurd h (by have:=Nat.pow_pos (n:=7 * s) (a:=2) Xb;omega)
    ·exact h
   have he:=ZC2 h1 h9 hl (.inr hlt)
   have dz:((((n / 2 ^ (7 * s):Nat):Int)) == 0)=true:=by rw[hz];rfl
   generalize n / 2 ^ (7 * s)=q at *
   skip
   refine Bz1 (X10 f3 f0 d hw7 hw1 hn0 ZEr hsh htn dz) ?_
   refine Zaz (by rw[he])
  ·have hle:2 ^ (7 * (s+1 - 1))<=n:=by
    rw[zb5]
    rcases zbK n (2 ^ (7 * s))with h|h
    ·exact absurd (zbM h) hz
    ·exact h
   have dz:((((n / 2 ^ (7 * s):Nat):Int)) == 0)=false:=beq0 hz
   generalize n / 2 ^ (7 * s)=q at *
   skip
   refine Bz1 (X10 f3 f0 d hw7 hw1 hn0 ZEr hsh htn dz) ?_
   exact⟨_,Xa,s+1,Xa,Xa,rfl,rfl,.inr hle⟩
 ·have d:decide ((s:Int)<9)=false:=by simp;omega
  have he:=ZC2 h1 h9 hl (.inl Xa)
  skip
  refine Bz1 (X3 f3 f0 d) ?_
  refine Zaz (by rw[he];omega)
theorem first9:∀s:Fin 10,1<=s.val->IntKind.u8.wrap ((255:Int) * 2 ^ min (9 - s.val) 8)=((ZBa s.val:Nat):Int):=by decide +kernel
theorem ZET (s:Nat) (h1:1<=s) (h9:s<=9) (H:Zaa):Zay Tryz.prog 220 [.i (s:Int)] H (Pure H (.sc (.int .u8 (ZBa s:Nat)))):=by
 have hw:IntKind.i64.wrap (9 - (s:Int))=((9 - s:Nat):Int):=by rw[Zaw Xa Xa];omega
 have hn0:¬(((9 - s:Nat):Int)<0):=Xa
 have htn:(((9 - s:Nat):Int)).toNat=9 - s:=Xa
 have hf:=first9 ⟨s,Xa⟩ h1
 simp only at hf
 refine fnQ cf220 fun Q qr qn=>?_
 refine Bz1 (X5 hw hn0 htn bits8 hf) ?_
 refine Zcm (by rfl)
theorem dv {n j:Nat}:n / 256 ^ (j+1)=n / 256 ^ j / 256:=by rw[Nat.pow_succ,Nat.div_div_eq_div_mul]
theorem ZRd (m:Nat):IntKind.u8.wrap (m:Int)=((UInt8.ofNat m).toNat:Int):=by
 rw[IntKind.wrap_u8,UInt8.toNat_ofNat']
 omega
theorem shr8 (m:Nat):(m:Int).fdiv (2 ^ min 8 64)=((m / 256:Nat):Int):=ZGL m 8 Xa
abbrev z8 (k:Nat):List AV:=List.replicate k (.sc (.int .u8 0))
abbrev c8 (l:Tx):List AV:=l.map fun c=>.sc (.int .u8 (c.toNat:Int))
theorem ZGR {i s j:Nat} {n:Nat} (h:i+1+j=s) (h9:s<=9):List.take i (z8 (i+1)++(c8 (beB j n)++z8 (9 - s)))++[AV.sc (.int .u8 ((UInt8.ofNat (n / 256 ^ j)).toNat:Int))]++List.drop (i+1) (z8 (i+1)++(c8 (beB j n)++z8 (9 - s)))=z8 i++(c8 (beB (j+1) n)++z8 (9 - s)):=by
 have e:z8 (i+1)=z8 i++[.sc (.int .u8 0)]:=by unfold z8;rw[List.replicate_succ']
 have t1:List.take i (z8 (i+1)++(c8 (beB j n)++z8 (9 - s)))=z8 i:=by rw[e,zan];exact za1 zaZ
 have t2:List.drop (i+1) (z8 (i+1)++(c8 (beB j n)++z8 (9 - s)))=c8 (beB j n)++z8 (9 - s):=zbi zaZ
 rw[t1,t2,beB]
 simp
theorem put_loop {Q:AEx->Fr->Zaa->Prop} {F:Fr} {B:Zaa} {id n s:Nat} (hid:id=B.next) (h1:1<=s) (h9:s<=9) (f4:Fr.get F 4=.ptr id 0) (f3:Fr.get F 3=.i (s:Int)) (f5:Fr.get F 5=.i ((s:Int) - 1)) (f0:Fr.get F 0=uN n)
  (hQ:∀F',Fr.get F' 4=.ptr id 0->Fr.get F' 3=.i (s:Int)->Q .normal F' (B.alloc (.cells (c8 (beB s n)++z8 (9 - s)) 303))):AW Tryz.prog c207_1 Q F (B.alloc (.cells (z8 9) 303)):=by
 have qr:=trivial
 have qn:=trivial
 refine ZBA (fun m F G=>∃j,m+j=s/\Fr.get F 5=.i ((m:Int) - 1)/\Fr.get F 0=uN (n / 256 ^ j)/\Fr.get F 4=.ptr id 0/\Fr.get F 3=.i (s:Int)/\G=B.alloc (.cells (z8 m++(c8 (beB j n)++z8 (9 - s))) 303)) s (GStep.refl _ _) ⟨0,rfl,f5,by rw[f0];simp,f4,f3,by
  have:z8 s++(c8 (beB 0 n)++z8 (9 - s))=z8 9:=by
   show List.replicate s _++([]++List.replicate (9 - s) _)=List.replicate 9 _
   rw[List.nil_append,zcr];congr 1;omega
  rw[this]⟩ ?_
 rintro m F G ⟨j,hj,f5,f0,f4,f3,rfl⟩
 cases m with
 | succ i =>
  have e5:(((i+1:Nat):Int) - 1)=(i:Int):=Xa
  rw[e5]at f5
  have d:decide ((i:Int)≥0)=true:=Xc
  have hz:(0:Int)<=(i:Int):=Xa
  have hlt:(i:Int)<((9:Nat):Int):=Xa
  have hl2:(i:Int)<9:=Xa
  have hl3:i<=8:=Xa
  have hl4:i<9:=Xa
  have hw:IntKind.i64.wrap ((i:Int) - 1)=(i:Int) - 1:=Zaw Xa Xa
  have hc:=ZRd (n / 256 ^ j)
  have hs:=shr8 (n / 256 ^ j)
  rw[<- dv]at hs
  have hpc:=ZGR (i:=i) (s:=s) (j:=j) (n:=n) Xa h9
  have hlen:(z8 (i+1)++(c8 (beB j n)++z8 (9 - s))).length=9:=by simp[ZB7];omega
  have g0:(B.alloc (.cells (z8 (i+1)++(c8 (beB j n)++z8 (9 - s))) 303)).get id=some (.cells (z8 (i+1)++(c8 (beB j n)++z8 (9 - s))) 303):=by rw[hid];exact Zaa.Zae
  generalize z8 (i+1)++(c8 (beB j n)++z8 (9 - s))=cs at *
  generalize n / 256 ^ j=q at *
  skip
  refine Bz1 (X12 f5 f0 f4 f3 d hz hlt hl2 hw hc ZEr (X5 hs g0 hlen hl3 hl4)) ?_
  exact⟨i,Xa,j+1,Xa,rfl,rfl,by rw[<- hpc]⟩
 | zero =>
  have d:decide ((((0:Nat):Int) - 1)≥0)=false:=Xb
  skip
  refine Bz1 (X5 f5 f0 f4 f3 d) ?_
  obtain rfl:j=s:=Xa
  exact hQ _ (by simpa [Fr.get] using f4) (by simpa [Fr.get] using f3)
theorem ZFD:∀(l:Tx) (R:List AV),chunk 1 l.length (c8 l++R)=rB l
 | [],R=>rfl
 | c :: l,R=>by
  have ih:=ZFD l R
  show([AV.sc (.int .u8 (c.toNat:Int))] :: chunk 1 l.length (c8 l++R))=_
  rw[ih];rfl
theorem or8:∀s:Fin 9,1<=s.val->∀q:Fin 128,q.val<2 ^ (8 - s.val)->IntKind.u8.wrap ((BitVec.ofInt IntKind.u8.bits ((UInt8.ofNat q.val).toNat:Int) ||| BitVec.ofInt IntKind.u8.bits ((ZBa s.val:Nat):Int)).toNat:Int)=((UInt8.ofNat (ZBa s.val+q.val)).toNat:Int):=by decide +kernel
theorem ZD2 {n s:Nat} (h1:1<=s) (h9:s<=9) (hu:s=9\/n<2 ^ (7 * s)) (hn:n<18446744073709551616):(s<9->n / 256 ^ (s - 1)<2 ^ (8 - s))/\(s=9->n / 256 ^ (s - 1)=0):=by
 obtain rfl|rfl|rfl|rfl|rfl|rfl|rfl|rfl|rfl:=nine h1 h9
 all_goals simp at hu
 all_goals simp
 all_goals omega
theorem ZDe (n:Nat) (H:Zaa) (hn:n<18446744073709551616):Zay Tryz.prog 207 [uN n] H (Pure H (eS (ZA2 n))):=by
 obtain⟨h1,h9⟩:=ZA7 n
 have hz:=ZFH n
 obtain⟨hq1,hq2⟩:=ZD2 h1 h9 (ZC3 (n:=n)) hn
 unfold ZA2
 generalize ZA5 n=s at *
 obtain⟨s',rfl⟩:∃s',s=s'+1:=⟨s - 1,Xa⟩
 rw[zb5]at hq1 hq2 ⊢
 have hfs:=ZET (s'+1) h1 h9
 have hw:IntKind.i64.wrap (((s'+1:Nat):Int) - 1)=((s'+1:Nat):Int) - 1:=Zaw Xa Xa
 have hbe:beB (s'+1) n=UInt8.ofNat (n / 256 ^ s') :: beB s' n:=rfl
 refine fnQ cf207 fun Q qr qn=>?_
 refine Bz0 ?_
 refine qcp (hz _) fun k1=>?_
 refine Bz1 (X1 hw) ?_
 refine put_loop (B:=H.bump k1) (n:=n) (s:=s'+1) rfl h1 h9 rfl rfl rfl rfl ?_
 intro F f4 f3
 rw[hbe]
 have hor:=or8
 generalize n / 256 ^ s'=q at *
 have hcs:(AV.sc (.int .u8 ((UInt8.ofNat q).toNat:Int)) :: (c8 (beB s' n)++z8 (9 - (s'+1)))).length=9:=by simp[ZB7];omega
 have hc0:c8 (UInt8.ofNat q :: beB s' n)++z8 (9 - (s'+1))=AV.sc (.int .u8 ((UInt8.ofNat q).toNat:Int)) :: (c8 (beB s' n)++z8 (9 - (s'+1))):=rfl
 rw[hc0]
 have hx:Zaa.Ext H (H.bump k1):=(Zaa.Ext.refl H).bump
 have hnx:(H.bump k1).next=H.next+k1:=rfl
 have h09:(0:Int)<((9:Nat):Int):=Xb
 have hz0:(0:Int)<=((s'+1:Nat):Int):=Xa
 have htn:(((s'+1:Nat):Int)).toNat=s'+1:=Xa
 have hs9':s'+1<=9:=h9
 have hle:(s'+1<=9/\9<=maxLen)=True:=by rw[eq_iff_iff,iff_true];exact⟨h9,ZAp Xa⟩
 generalize hR:c8 (beB s' n)++z8 (9 - (s'+1))=R at *
 have htk:∀x,List.take (s'+1) (x :: R)=x :: c8 (beB s' n):=fun x=>by rw[List.take_succ_cons,<- hR];exact congrArg _ (za1 (by simp[ZB7]))
 rw[List.length_cons]at hcs
 have hR8:R.length=8:=Xa
 have hby:∀c:UInt8,Zef (chunk 1 (s'+1) (AV.sc (.int .u8 (c.toNat:Int)) :: R))=some ((c :: beB s' n).map fun c=>(c.toNat:Int)):=fun c=>by
  have h:=ZFD (c :: beB s' n) (z8 (9 - (s'+1)))
  have e:c8 (c :: beB s' n)++z8 (9 - (s'+1))=AV.sc (.int .u8 (c.toNat:Int)) :: R:=by rw[<- hR];rfl
  rw[e,List.length_cons,ZB7]at h
  rw[h]
  exact ZyX _
 have hso:∀c:UInt8,strOf ((c :: beB s' n).map fun c=>(c.toNat:Int))=⟨(c :: beB s' n).toArray⟩:=fun c=>Zza _
 have hm9:9<=maxLen:=ZAp Xa
 by_cases hs9:s'+1<9
 ·have d:decide (((s'+1:Nat):Int)<9)=true:=by simp;omega
  have ho:=hor ⟨s'+1,Xa⟩ Xc ⟨q,by have:=hq1 hs9;have:(2:Nat) ^ (8 - (s'+1))<=2 ^ 7:=zbt Xb Xa;omega⟩ (hq1 hs9)
  simp only at ho
  have g0:((H.bump k1).alloc (.cells (AV.sc (.int .u8 ((UInt8.ofNat q).toNat:Int)) :: R) 303)).get (H.next+k1)=some (.cells (AV.sc (.int .u8 ((UInt8.ofNat q).toNat:Int)) :: R) 303):=by rw[<- hnx];exact Zaa.Zae
  refine Bz1 (X7 f4 f3 d h09 g0 hcs hR8) ?_
  refine qcp (hfs _) fun k2=>?_
  generalize UInt8.ofNat (ZBa (s'+1)+q)=c at *
  have hb1:=hby c
  have hs1:=hso c
  refine Bz6 (X12 f4 f3 d h09 g0 hcs hR8 ho hz0 htn hs9' (X5 hle hm9 hb1 hs1 Nat.sub_zero)) ?_
  exact ZaW ((hx.alloc.bump).set Xa) (congrArg (fun b=>AV.sc (.string b)) hs1)
 ·have d:decide (((s'+1:Nat):Int)<9)=false:=by simp;omega
  have g0:((H.bump k1).alloc (.cells (AV.sc (.int .u8 ((UInt8.ofNat q).toNat:Int)) :: R) 303)).get (H.next+k1)=some (.cells (AV.sc (.int .u8 ((UInt8.ofNat q).toNat:Int)) :: R) 303):=by rw[<- hnx];exact Zaa.Zae
  refine Bz1 (X7 f4 f3 d h09 g0 hcs hR8) ?_
  have hq0:=hq2 Xa
  have e9:ZBa (s'+1)=255:=by
   obtain rfl:s'=8:=Xa
   rfl
  have ec:UInt8.ofNat (255+q)=255:=by rw[hq0];rfl
  have eC:UInt8.ofNat (ZBa (s'+1)+q)=255:=by rw[e9,ec]
  have hfs2:∀G,Zay Tryz.prog 220 [.i ((s'+1:Nat):Int)] G (Pure G (.sc (.int .u8 ((255:Nat):Int)))):=fun G=>by
   have:=hfs G
   rw[e9]at this
   exact this
  refine qcp (hfs2 _) fun k2=>?_
  have hb1:Zef (chunk 1 (s'+1) (AV.sc (.int .u8 ((255:Nat):Int)) :: R))=_:=hby 255
  have hb2:Zef (chunk 1 (s'+1) (AV.sc (.int .u8 (255:Int)) :: R))=_:=hb1
  have hs1:=hso 255
  refine Bz6 (X12 f4 f3 d h09 g0 hcs hR8 hz0 htn hs9' hle (X5 hm9 hb1 hb2 hs1 Nat.sub_zero)) ?_
  rw[eC]
  exact ZaW ((hx.alloc.bump).set Xa) (congrArg (fun b=>AV.sc (.string b)) hs1)
open Go.RowKit Go.Lib
theorem ZCE {s:Nat} (h:s<=1000000000):IntKind.i64.wrap ((s:Int)+1)=((s+1:Nat):Int):=by rw[Zaw Xa Xa];omega
open Go.RowKit Go.Lib
theorem u64n (n:Nat) (h:n<18446744073709551616):IntKind.u64.wrap (n:Int)=(n:Int):=ZB9 Xa Xa
theorem ZBc (n:Nat) (h:n<=9223372036854775807) (H:Zaa):Zay Tryz.prog 164 [.i (n:Int)] H (Pure H (eS (ZA2 n))):=by
 have hw:=u64n n Xa
 have hm:(if (0:Int) > (n:Int) then (0:Int) else (n:Int))=(n:Int):=if_neg Xa
 refine fnQ cf164 fun Q qr qn=>?_
 refine Bz1 (X2 hm hw) ?_
 refine qcp (ZDe n _ Xa) fun k1=>?_
 refine Bz0 ?_
 refine Zcm (by rfl)
open Go.RowKit Go.Lib
def ZB1:Tx->Tx->Nat
 | x :: a,y :: b=>if x=y then ZB1 a b+1 else 0
 | _,_=>0
theorem ZBP (a:Tx) (n:Nat):(⟨a.toArray⟩:ByteArray).extract n a.length=⟨(a.drop n).toArray⟩:=by
 apply zcm
 simp only[zch,List.extract_toArray,List.extract_eq_take_drop]
 rw[zav Xc]
def ZGI:Tx->List Tx->Tx
 | w,[]=>w
 | _,s :: r=>ZGI s r
end Go.Proofs.YtfjjpndoeppbhaaGreatDoor
