/- Texts of the walk. -/
import Derived.Test.YtdfgoekdlmkdfaaGreatDoorMk
namespace Go.Proofs.YtdfgoekdlmkdfaaGreatDoor
set_option linter.defProp false
set_option maxHeartbeats 64000000
set_option linter.unusedSimpArgs false
set_option linter.unusedVariables false
open Go.RowKit Go.Lib
abbrev uN (n:Nat):AV:=.sc (.int .u64 (n:Int))
def ZA5 (n:Nat):Nat:=if n<128 then 1 else if n<16384 then 2 else if n<2097152 then 3 else if n<268435456 then 4 else if n<34359738368 then 5 else if n<4398046511104 then 6 else if n<562949953421312 then 7 else if n<72057594037927936 then 8 else 9
def beB:Nat->Nat->Tx
 | 0,_=>[]
 | j+1,n=>UInt8.ofNat (n / 256 ^ j) :: beB j n
def ZBa (s:Nat):Nat:=256 - 2 ^ (9 - s)
def ZA2 (n:Nat):Tx:=UInt8.ofNat (ZBa (ZA5 n)+n / 256 ^ (ZA5 n - 1)) :: beB (ZA5 n - 1) n
theorem ZA7 (n:Nat):1<=ZA5 n/\ZA5 n<=9:=by
 unfold ZA5
 repeat' split
 all_goals omega
theorem nine {s:Nat} (h1:1<=s) (h8:s<=9):s=1\/s=2\/s=3\/s=4\/s=5\/s=6\/s=7\/s=8\/s=9:=Xa
theorem ZC2 {s n:Nat} (h1:1<=s) (h8:s<=9) (hl:s=1\/2 ^ (7 * (s - 1))<=n) (hu:s=9\/n<2 ^ (7 * s)):ZA5 n=s:=by
 unfold ZA5
 obtain rfl|rfl|rfl|rfl|rfl|rfl|rfl|rfl|rfl:=nine h1 h8
 all_goals simp at hl hu
 all_goals (repeat' split)<;>omega
theorem ZC3 {n:Nat}:ZA5 n=9\/n<2 ^ (7 * ZA5 n):=by
 unfold ZA5
 repeat' split
 all_goals simp
 all_goals omega
theorem ZB7:∀j n,(beB j n).length=j
 | 0,_=>rfl
 | j+1,n=>by rw[beB,List.length_cons,ZB7 j n]
theorem ZA3 (n:Nat):(ZA2 n).length=ZA5 n:=by
 have:=(ZA7 n).1
 rw[ZA2,List.length_cons,ZB7];omega
theorem ZB9 {n:Int} (h1:0<=n) (h2:n<18446744073709551616):IntKind.u64.wrap n=n:=by rw[IntKind.wrap_u64];omega
theorem ZEr:IntKind.u64.bits=64:=rfl
theorem bits8:IntKind.u8.bits=8:=rfl
theorem ZGL (n k:Nat) (h:k<=64):(n:Int).fdiv (2 ^ min k 64)=((n / 2 ^ k:Nat):Int):=by
 rw[zbg h,zbE _ (Int.le_of_lt (Int.pow_pos Xb))]
 simp
theorem beq0 {q:Nat} (h:q≠0):((q:Int) == 0)=false:=by rw[beq_eq_false_iff_ne];omega
theorem ZFH (n:Nat) (H:Zaa):Zay Tryz.prog 169 [uN n] H (Pure H (.i (ZA5 n:Int))):=by
 refine fnQ cf169 fun Q qr qn=>?_
 refine Bz0 ?_
 refine ZBA (fun m F G=>∃s,1<=s/\s<=9/\m=9 - s/\Fr.get F 3=.i (s:Int)/\Fr.get F 0=uN n/\(s=1\/2 ^ (7 * (s - 1))<=n)/\G=H) 8 (GStep.refl _ _) ⟨1,Xa,Xa,rfl,rfl,rfl,.inl rfl,rfl⟩ ?_
 rintro m F G ⟨s,h1,h9,rfl,f3,f0,hl,rfl⟩
 by_cases h:s<9
 ·have d:decide ((s:Int)<9)=true:=by simp;omega
  have hw7:IntKind.i64.wrap (7 * (s:Int))=((7 * s:Nat):Int):=by rw[Zaw Xa Xa];omega
  have hw1:IntKind.i64.wrap ((s:Int)+1)=((s+1:Nat):Int):=by rw[Zaw Xa Xa];omega
  have hn0:¬(((7 * s:Nat):Int)<0):=Xa
  have hsh:=ZGL n (7 * s) Xa
  have htn:(((7 * s:Nat):Int)).toNat=7 * s:=Xa
  by_cases hz:n / 2 ^ (7 * s)=0
  ·have hlt:n<2 ^ (7 * s):=by
    rcases Nat.div_eq_zero_iff.1 hz with h|h
    ·exact absurd h (by have:=Nat.pow_pos (n:=7 * s) (a:=2) Xb;omega)
    ·exact h
   have he:=ZC2 h1 h9 hl (.inr hlt)
   have dz:((((n / 2 ^ (7 * s):Nat):Int)) == 0)=true:=by rw[hz];rfl
   generalize n / 2 ^ (7 * s)=q at *
   skip
   refine Bz1 (X10 f3 f0 d hw7 hw1 hn0 ZEr hsh htn dz) ?_
   refine Zaz (by rw[he])
  ·have hle:2 ^ (7 * (s+1 - 1))<=n:=by
    rw[zaX]
    rcases za9 n (2 ^ (7 * s))with h|h
    ·exact absurd (zbm h) hz
    ·exact h
   have dz:((((n / 2 ^ (7 * s):Nat):Int)) == 0)=false:=beq0 hz
   generalize n / 2 ^ (7 * s)=q at *
   skip
   refine Bz1 (X10 f3 f0 d hw7 hw1 hn0 ZEr hsh htn dz) ?_
   exact⟨_,Xa,s+1,Xa,Xa,rfl,rfl,.inr hle⟩
 ·have d:decide ((s:Int)<9)=false:=by simp;omega
  have he:=ZC2 h1 h9 hl (.inl Xa)
  skip
  refine Bz1 (X3 f3 f0 d) ?_
  refine Zaz (by rw[he];omega)
theorem first9:∀s:Fin 10,1<=s.val->IntKind.u8.wrap ((255:Int) * 2 ^ min (9 - s.val) 8)=((ZBa s.val:Nat):Int):=by decide +kernel
theorem ZET (s:Nat) (h1:1<=s) (h9:s<=9) (H:Zaa):Zay Tryz.prog 168 [.i (s:Int)] H (Pure H (.sc (.int .u8 (ZBa s:Nat)))):=by
 have hw:IntKind.i64.wrap (9 - (s:Int))=((9 - s:Nat):Int):=by rw[Zaw Xa Xa];omega
 have hn0:¬(((9 - s:Nat):Int)<0):=Xa
 have htn:(((9 - s:Nat):Int)).toNat=9 - s:=Xa
 have hf:=first9 ⟨s,Xa⟩ h1
 simp only at hf
 refine fnQ cf168 fun Q qr qn=>?_
 refine Bz1 (X5 hw hn0 htn bits8 hf) ?_
 refine Zcm (by rfl)
theorem dv {n j:Nat}:n / 256 ^ (j+1)=n / 256 ^ j / 256:=by rw[Nat.pow_succ,Nat.div_div_eq_div_mul]
theorem cnv8 (m:Nat):IntKind.u8.wrap (m:Int)=((UInt8.ofNat m).toNat:Int):=by
 rw[IntKind.wrap_u8,UInt8.toNat_ofNat']
 omega
theorem shr8 (m:Nat):(m:Int).fdiv (2 ^ min 8 64)=((m / 256:Nat):Int):=ZGL m 8 Xa
abbrev z8 (k:Nat):List AV:=List.replicate k (.sc (.int .u8 0))
abbrev c8 (l:Tx):List AV:=l.map fun c=>.sc (.int .u8 (c.toNat:Int))
theorem ZGR {i s j:Nat} {n:Nat} (h:i+1+j=s) (h9:s<=9):List.take i (z8 (i+1)++(c8 (beB j n)++z8 (9 - s)))++[AV.sc (.int .u8 ((UInt8.ofNat (n / 256 ^ j)).toNat:Int))]++List.drop (i+1) (z8 (i+1)++(c8 (beB j n)++z8 (9 - s)))=z8 i++(c8 (beB (j+1) n)++z8 (9 - s)):=by
 have e:z8 (i+1)=z8 i++[.sc (.int .u8 0)]:=by unfold z8;rw[List.replicate_succ']
 have t1:List.take i (z8 (i+1)++(c8 (beB j n)++z8 (9 - s)))=z8 i:=by rw[e,zam];exact zbh zaW
 have t2:List.drop (i+1) (z8 (i+1)++(c8 (beB j n)++z8 (9 - s)))=c8 (beB j n)++z8 (9 - s):=zbu zaW
 rw[t1,t2,beB]
 simp
theorem put_loop {Q:AEx->Fr->Zaa->Prop} {F:Fr} {B:Zaa} {id n s:Nat} (hid:id=B.next) (h1:1<=s) (h9:s<=9) (f4:Fr.get F 4=.ptr id 0) (f3:Fr.get F 3=.i (s:Int)) (f5:Fr.get F 5=.i ((s:Int) - 1)) (f0:Fr.get F 0=uN n)
  (hQ:∀F',Fr.get F' 4=.ptr id 0->Fr.get F' 3=.i (s:Int)->Q .normal F' (B.alloc (.cells (c8 (beB s n)++z8 (9 - s)) 238))):AW Tryz.prog c152_1 Q F (B.alloc (.cells (z8 9) 238)):=by
 have qr:=trivial
 have qn:=trivial
 refine ZBA (fun m F G=>∃j,m+j=s/\Fr.get F 5=.i ((m:Int) - 1)/\Fr.get F 0=uN (n / 256 ^ j)/\Fr.get F 4=.ptr id 0/\Fr.get F 3=.i (s:Int)/\G=B.alloc (.cells (z8 m++(c8 (beB j n)++z8 (9 - s))) 238)) s (GStep.refl _ _) ⟨0,rfl,f5,by rw[f0];simp,f4,f3,by
  have:z8 s++(c8 (beB 0 n)++z8 (9 - s))=z8 9:=by
   show List.replicate s _++([]++List.replicate (9 - s) _)=List.replicate 9 _
   rw[List.nil_append,List.replicate_append_replicate];congr 1;omega
  rw[this]⟩ ?_
 rintro m F G ⟨j,hj,f5,f0,f4,f3,rfl⟩
 cases m with
 | succ i =>
  have e5:(((i+1:Nat):Int) - 1)=(i:Int):=Xa
  rw[e5]at f5
  have d:decide ((i:Int)≥0)=true:=Xc
  have hz:(0:Int)<=(i:Int):=Xa
  have hlt:(i:Int)<((9:Nat):Int):=Xa
  have hl2:(i:Int)<9:=Xa
  have hl3:i<=8:=Xa
  have hl4:i<9:=Xa
  have hw:IntKind.i64.wrap ((i:Int) - 1)=(i:Int) - 1:=Zaw Xa Xa
  have hc:=cnv8 (n / 256 ^ j)
  have hs:=shr8 (n / 256 ^ j)
  rw[<- dv]at hs
  have hpc:=ZGR (i:=i) (s:=s) (j:=j) (n:=n) Xa h9
  have hlen:(z8 (i+1)++(c8 (beB j n)++z8 (9 - s))).length=9:=by simp[ZB7];omega
  have g0:(B.alloc (.cells (z8 (i+1)++(c8 (beB j n)++z8 (9 - s))) 238)).get id=some (.cells (z8 (i+1)++(c8 (beB j n)++z8 (9 - s))) 238):=by rw[hid];exact Zaa.Zae
  generalize z8 (i+1)++(c8 (beB j n)++z8 (9 - s))=cs at *
  generalize n / 256 ^ j=q at *
  skip
  refine Bz1 (X12 f5 f0 f4 f3 d hz hlt hl2 hw hc ZEr (X5 hs g0 hlen hl3 hl4)) ?_
  exact⟨i,Xa,j+1,Xa,rfl,rfl,by rw[<- hpc]⟩
 | zero =>
  have d:decide ((((0:Nat):Int) - 1)≥0)=false:=Xb
  skip
  refine Bz1 (X5 f5 f0 f4 f3 d) ?_
  obtain rfl:j=s:=Xa
  exact hQ _ (by simpa [Fr.get] using f4) (by simpa [Fr.get] using f3)
theorem ZFD:∀(l:Tx) (R:List AV),chunk 1 l.length (c8 l++R)=rB l
 | [],R=>rfl
 | c :: l,R=>by
  have ih:=ZFD l R
  show([AV.sc (.int .u8 (c.toNat:Int))] :: chunk 1 l.length (c8 l++R))=_
  rw[ih];rfl
theorem or8:∀s:Fin 9,1<=s.val->∀q:Fin 128,q.val<2 ^ (8 - s.val)->IntKind.u8.wrap ((BitVec.ofInt IntKind.u8.bits ((UInt8.ofNat q.val).toNat:Int) ||| BitVec.ofInt IntKind.u8.bits ((ZBa s.val:Nat):Int)).toNat:Int)=((UInt8.ofNat (ZBa s.val+q.val)).toNat:Int):=by decide +kernel
theorem ZD2 {n s:Nat} (h1:1<=s) (h9:s<=9) (hu:s=9\/n<2 ^ (7 * s)) (hn:n<18446744073709551616):(s<9->n / 256 ^ (s - 1)<2 ^ (8 - s))/\(s=9->n / 256 ^ (s - 1)=0):=by
 obtain rfl|rfl|rfl|rfl|rfl|rfl|rfl|rfl|rfl:=nine h1 h9
 all_goals simp at hu
 all_goals simp
 all_goals omega
theorem ZDe (n:Nat) (H:Zaa) (hn:n<18446744073709551616):Zay Tryz.prog 152 [uN n] H (Pure H (eS (ZA2 n))):=by
 obtain⟨h1,h9⟩:=ZA7 n
 have hz:=ZFH n
 obtain⟨hq1,hq2⟩:=ZD2 h1 h9 (ZC3 (n:=n)) hn
 unfold ZA2
 generalize ZA5 n=s at *
 obtain⟨s',rfl⟩:∃s',s=s'+1:=⟨s - 1,Xa⟩
 rw[zaX]at hq1 hq2 ⊢
 have hfs:=ZET (s'+1) h1 h9
 have hw:IntKind.i64.wrap (((s'+1:Nat):Int) - 1)=((s'+1:Nat):Int) - 1:=Zaw Xa Xa
 have hbe:beB (s'+1) n=UInt8.ofNat (n / 256 ^ s') :: beB s' n:=rfl
 refine fnQ cf152 fun Q qr qn=>?_
 refine Bz0 ?_
 refine qcp (hz _) fun k1=>?_
 refine Bz1 (X1 hw) ?_
 refine put_loop (B:=H.bump k1) (n:=n) (s:=s'+1) rfl h1 h9 rfl rfl rfl rfl ?_
 intro F f4 f3
 rw[hbe]
 have hor:=or8
 generalize n / 256 ^ s'=q at *
 have hcs:(AV.sc (.int .u8 ((UInt8.ofNat q).toNat:Int)) :: (c8 (beB s' n)++z8 (9 - (s'+1)))).length=9:=by simp[ZB7];omega
 have hc0:c8 (UInt8.ofNat q :: beB s' n)++z8 (9 - (s'+1))=AV.sc (.int .u8 ((UInt8.ofNat q).toNat:Int)) :: (c8 (beB s' n)++z8 (9 - (s'+1))):=rfl
 rw[hc0]
 have hx:Zaa.Ext H (H.bump k1):=(Zaa.Ext.refl H).bump
 have hnx:(H.bump k1).next=H.next+k1:=rfl
 have h09:(0:Int)<((9:Nat):Int):=Xb
 have hz0:(0:Int)<=((s'+1:Nat):Int):=Xa
 have htn:(((s'+1:Nat):Int)).toNat=s'+1:=Xa
 have hs9':s'+1<=9:=h9
 have hle:(s'+1<=9/\9<=maxLen)=True:=by rw[eq_iff_iff,iff_true];exact⟨h9,ZAp Xa⟩
 generalize hR:c8 (beB s' n)++z8 (9 - (s'+1))=R at *
 have htk:∀x,List.take (s'+1) (x :: R)=x :: c8 (beB s' n):=fun x=>by rw[List.take_succ_cons,<- hR];exact congrArg _ (zbh (by simp[ZB7]))
 rw[List.length_cons]at hcs
 have hR8:R.length=8:=Xa
 have hby:∀c:UInt8,Zef (chunk 1 (s'+1) (AV.sc (.int .u8 (c.toNat:Int)) :: R))=some ((c :: beB s' n).map fun c=>(c.toNat:Int)):=fun c=>by
  have h:=ZFD (c :: beB s' n) (z8 (9 - (s'+1)))
  have e:c8 (c :: beB s' n)++z8 (9 - (s'+1))=AV.sc (.int .u8 (c.toNat:Int)) :: R:=by rw[<- hR];rfl
  rw[e,List.length_cons,ZB7]at h
  rw[h]
  exact ZyX _
 have hso:∀c:UInt8,strOf ((c :: beB s' n).map fun c=>(c.toNat:Int))=⟨(c :: beB s' n).toArray⟩:=fun c=>Zza _
 have hm9:9<=maxLen:=ZAp Xa
 by_cases hs9:s'+1<9
 ·have d:decide (((s'+1:Nat):Int)<9)=true:=by simp;omega
  have ho:=hor ⟨s'+1,Xa⟩ Xc ⟨q,by have:=hq1 hs9;have:(2:Nat) ^ (8 - (s'+1))<=2 ^ 7:=zbb Xb Xa;omega⟩ (hq1 hs9)
  simp only at ho
  have g0:((H.bump k1).alloc (.cells (AV.sc (.int .u8 ((UInt8.ofNat q).toNat:Int)) :: R) 238)).get (H.next+k1)=some (.cells (AV.sc (.int .u8 ((UInt8.ofNat q).toNat:Int)) :: R) 238):=by rw[<- hnx];exact Zaa.Zae
  refine Bz1 (X7 f4 f3 d h09 g0 hcs hR8) ?_
  refine qcp (hfs _) fun k2=>?_
  generalize UInt8.ofNat (ZBa (s'+1)+q)=c at *
  have hb1:=hby c
  have hs1:=hso c
  refine Bz6 (X12 f4 f3 d h09 g0 hcs hR8 ho hz0 htn hs9' (X5 hle hm9 hb1 hs1 Nat.sub_zero)) ?_
  exact ZaW ((hx.alloc.bump).set Xa) (congrArg (fun b=>AV.sc (.string b)) hs1)
 ·have d:decide (((s'+1:Nat):Int)<9)=false:=by simp;omega
  have g0:((H.bump k1).alloc (.cells (AV.sc (.int .u8 ((UInt8.ofNat q).toNat:Int)) :: R) 238)).get (H.next+k1)=some (.cells (AV.sc (.int .u8 ((UInt8.ofNat q).toNat:Int)) :: R) 238):=by rw[<- hnx];exact Zaa.Zae
  refine Bz1 (X7 f4 f3 d h09 g0 hcs hR8) ?_
  have hq0:=hq2 Xa
  have e9:ZBa (s'+1)=255:=by
   obtain rfl:s'=8:=Xa
   rfl
  have ec:UInt8.ofNat (255+q)=255:=by rw[hq0];rfl
  have eC:UInt8.ofNat (ZBa (s'+1)+q)=255:=by rw[e9,ec]
  have hfs2:∀G,Zay Tryz.prog 168 [.i ((s'+1:Nat):Int)] G (Pure G (.sc (.int .u8 ((255:Nat):Int)))):=fun G=>by
   have:=hfs G
   rw[e9]at this
   exact this
  refine qcp (hfs2 _) fun k2=>?_
  have hb1:Zef (chunk 1 (s'+1) (AV.sc (.int .u8 ((255:Nat):Int)) :: R))=_:=hby 255
  have hb2:Zef (chunk 1 (s'+1) (AV.sc (.int .u8 (255:Int)) :: R))=_:=hb1
  have hs1:=hso 255
  refine Bz6 (X12 f4 f3 d h09 g0 hcs hR8 hz0 htn hs9' hle (X5 hm9 hb1 hb2 hs1 Nat.sub_zero)) ?_
  rw[eC]
  exact ZaW ((hx.alloc.bump).set Xa) (congrArg (fun b=>AV.sc (.string b)) hs1)
open Go.RowKit Go.Lib
theorem ZCE {s:Nat} (h:s<=1000000000):IntKind.i64.wrap ((s:Int)+1)=((s+1:Nat):Int):=by rw[Zaw Xa Xa];omega
theorem ZFc (s:Nat) (h1:1<=s) (h8:s<=8) (H:Zaa):Zay Tryz.prog 210 [.i (s:Int)] H (Pure H (uN (2 ^ (7 * s)))):=by
 have hw7:IntKind.i64.wrap (7 * (s:Int))=((7 * s:Nat):Int):=by rw[Zaw Xa Xa];omega
 refine fnQ cf210 fun Q qr qn=>?_
 refine Bz0 ?_
 refine ZBA (fun m F G=>∃i,m+i=7 * s/\Fr.get F 4=.i (i:Int)/\Fr.get F 3=uN (2 ^ i)/\Fr.get F 0=.i (s:Int)/\G=H) (7 * s) (GStep.refl _ _) ⟨0,rfl,rfl,rfl,rfl,rfl⟩ ?_
 rintro m F G ⟨i,hi,f4,f3,f0,rfl⟩
 cases m with
 | succ m =>
  have d:decide ((i:Int)<((7 * s:Nat):Int))=true:=by simp;omega
  have hw1:=ZCE (s:=i) Xa
  have hp:2 ^ (i+1)<=2 ^ 63:=zbb Xb Xa
  have hw2:IntKind.u64.wrap (((2 ^ i:Nat):Int) * 2)=((2 ^ (i+1):Nat):Int):=by
   rw[Nat.pow_succ]at *
   rw[ZB9 Xa Xa];omega
  generalize 2 ^ i=x at *
  generalize hy:2 ^ (i+1)=y at *
  skip
  refine Bz1 (X7 f4 f3 f0 hw7 d hw1 hw2) ?_
  exact⟨m,Xa,i+1,Xa,rfl,by rw[hy]⟩
 | zero =>
  obtain rfl:i=7 * s:=Xa
  have d:decide (((7 * s:Nat):Int)<((7 * s:Nat):Int))=false:=Xc
  skip
  refine Bz1 (X5 f4 f3 f0 hw7 d) ?_
  refine Zcm (by rfl)
theorem ZEZ (n:Nat) (H:Zaa):Zay Tryz.prog 207 [uN n] H (Pure H (.i (ZA5 n:Int))):=by
 refine fnQ cf207 fun Q qr qn=>?_
 refine Bz0 ?_
 refine ZBA (fun m F G=>∃s,1<=s/\s<=9/\m=9 - s/\Fr.get F 3=.i (s:Int)/\Fr.get F 0=uN n/\(s=1\/2 ^ (7 * (s - 1))<=n)/\Zaa.Ext H G) 8 (GStep.refl _ _) ⟨1,Xa,Xa,rfl,rfl,rfl,.inl rfl,.refl _⟩ ?_
 rintro m F G ⟨s,h1,h9,rfl,f3,f0,hl,hx⟩
 by_cases h:s<9
 ·have d:decide ((s:Int)<9)=true:=by simp;omega
  have hw1:=ZCE (s:=s) Xa
  have hb:=ZFc s h1 Xa
  by_cases hz:n<2 ^ (7 * s)
  ·have he:=ZC2 h1 h9 hl (.inr hz)
   have dz:decide ((n:Int)≥((2 ^ (7 * s):Nat):Int))=false:=by rw[decide_eq_false_iff_not];omega
   generalize 2 ^ (7 * s)=q at *
   skip
   refine Bz1 (X3 f3 f0 d) ?_
   refine qcp (hb _) fun k1=>?_
   refine Bz1 (X4 f3 f0 d dz) ?_
   rw[he]
   exact ZaW hx.bump rfl
  ·have hle:2 ^ (7 * (s+1 - 1))<=n:=by
    rw[zaX];omega
   have dz:decide ((n:Int)≥((2 ^ (7 * s):Nat):Int))=true:=by rw[decide_eq_true_iff];omega
   generalize 2 ^ (7 * s)=q at *
   skip
   refine Bz1 (X3 f3 f0 d) ?_
   refine qcp (hb _) fun k1=>?_
   refine Bz1 (X5 f3 f0 d dz hw1) ?_
   exact⟨_,Xa,s+1,Xa,Xa,rfl,rfl,.inr hle,hx.bump⟩
 ·have d:decide ((s:Int)<9)=false:=by simp;omega
  have he:=ZC2 h1 h9 hl (.inl Xa)
  skip
  refine Bz1 (X3 f3 f0 d) ?_
  rw[he]
  exact ZaW hx rfl
def ZGU (k:Nat):Nat:=if k<=7 then 2 ^ (7 - k) else 0
theorem lead9:∀s:Fin 8,((ZBa (s.val+1)+ZGU s.val:Nat))=ZBa (s.val+2)/\((ZGU s.val:Nat):Int).tdiv 2=(ZGU (s.val+1):Nat)/\ZBa (s.val+1)<=256/\ZGU s.val<=256:=by decide +kernel
theorem ZCc (s:Nat) (h1:1<=s) (h9:s<=9) (H:Zaa):Zay Tryz.prog 194 [.i (s:Int)] H (Pure H (.i (ZBa s:Nat))):=by
 refine fnQ cf194 fun Q qr qn=>?_
 refine Bz0 ?_
 refine ZBA (fun m F G=>∃k,m+k+1=s/\Fr.get F 5=.i ((k+1:Nat):Int)/\Fr.get F 3=.i (ZBa (k+1):Nat)/\Fr.get F 4=.i (ZGU k:Nat)/\Fr.get F 0=.i (s:Int)/\G=H) (s - 1) (GStep.refl _ _) ⟨0,Xa,rfl,rfl,rfl,rfl,rfl⟩ ?_
 rintro m F G ⟨k,hk,f5,f3,f4,f0,rfl⟩
 cases m with
 | succ m =>
  have d:decide (((k+1:Nat):Int)<(s:Int))=true:=by simp;omega
  have hw1:=ZCE (s:=k+1) Xa
  obtain⟨l1,l2,l3,l4⟩:=lead9 ⟨k,Xa⟩
  simp only at l1 l2 l3 l4
  have hw2:IntKind.i64.wrap (((ZBa (k+1):Nat):Int)+((ZGU k:Nat):Int))=((ZBa (k+2):Nat):Int):=by rw[Zaw Xa Xa];omega
  have l5:((ZGU (k+1):Nat):Int)<=256:=by
   have:=l2
   unfold ZGU
   split
   ·have:2 ^ (7 - (k+1))<=2 ^ 7:=zbb Xb Xa
    omega
   ·omega
  have hw3:IntKind.i64.wrap (((ZGU (k+1):Nat):Int))=((ZGU (k+1):Nat):Int):=Zaw Xa Xa
  have h20:((2:Int)=0)=False:=Xc
  generalize ZBa (k+1)=a at *
  generalize ZGU k=b at *
  skip
  refine Bz1 (X10 f5 f3 f4 f0 d hw1 hw2 l2 hw3 h20) ?_
  exact⟨m,Xa,k+1,Xa,rfl,rfl,rfl⟩
 | zero =>
  obtain rfl:k+1=s:=Xa
  have d:decide (((k+1:Nat):Int)<((k+1:Nat):Int))=false:=Xc
  skip
  refine Bz1 (X5 f5 f3 f4 f0 d) ?_
  refine Zaz (by rfl)
theorem ZCg (n:Nat) (H:Zaa) (hn:n<18446744073709551616):Zay Tryz.prog 195 [uN n] H (Pure H (eS (ZA2 n))):=by
 obtain⟨h1,h9⟩:=ZA7 n
 have hz:=ZEZ n
 have hz2:=ZCc (ZA5 n) h1 h9
 obtain⟨hq1,hq2⟩:=ZD2 h1 h9 (ZC3 (n:=n)) hn
 unfold ZA2
 generalize ZA5 n=s at *
 have hnl:n / 256 ^ (s - 1)<=n:=Nat.div_le_self _ _
 have hll:ZBa s<=256:=Nat.sub_le _ _
 refine fnQ cf195 fun Q qr qn=>?_
 refine Bz0 ?_
 refine qcp (hz _) fun k1=>?_
 refine Bz0 ?_
 refine ZBA (fun m F G=>∃j,m+j+1=s/\Fr.get F 5=.i ((j+1:Nat):Int)/\Fr.get F 3=.i (s:Int)/\Fr.get F 0=uN (n / 256 ^ j)/\Fr.get F 4=eS (beB j n)/\Zaa.Ext H G) (s - 1) (GStep.refl _ _) ⟨0,Xa,rfl,rfl,by show uN n=_;simp,rfl,(Zaa.Ext.refl H).bump⟩ ?_
 rintro m F G ⟨j,hj,f5,f3,f0,f4,hx⟩
 cases m with
 | succ m =>
  have d:decide (((j+1:Nat):Int)<(s:Int))=true:=by simp;omega
  have hw1:=ZCE (s:=j+1) Xa
  have hlen:=ZB7 j n
  have hnq:n / 256 ^ j<=n:=Nat.div_le_self _ _
  have hbe:beB (j+1) n=UInt8.ofNat (n / 256 ^ j) :: beB j n:=rfl
  have hdv:=dv (n:=n) (j:=j)
  generalize n / 256 ^ j=q at *
  generalize hq':n / 256 ^ (j+1)=q' at *
  have hr:(q:Int).tmod 256=((q % 256:Nat):Int):=by rw[zbj Xa];omega
  have hr2:IntKind.u8.wrap ((q % 256:Nat):Int)=((UInt8.ofNat q).toNat:Int):=by
   rw[cnv8,UInt8.toNat_ofNat',UInt8.toNat_ofNat'];omega
  have hq:IntKind.u64.wrap ((q:Int).tdiv 256)=((q / 256:Nat):Int):=by
   rw[zbF Xa,ZB9 Xa Xa];omega
  have h20:((256:Int)=0)=False:=Xc
  have hby:Zef [[u8 (UInt8.ofNat q)]]=some [((UInt8.ofNat q).toNat:Int)]:=ZyX [UInt8.ofNat q]
  have hso:strOf [((UInt8.ofNat q).toNat:Int)]=⟨[UInt8.ofNat q].toArray⟩:=Zza [UInt8.ofNat q]
  have hap:(⟨#[UInt8.ofNat q]⟩:ByteArray)++⟨(beB j n).toArray⟩=⟨(UInt8.ofNat q :: beB j n).toArray⟩:=Zz9 [UInt8.ofNat q] (beB j n)
  have hml:1+(beB j n).length<=maxLen:=ZAp Xa
  generalize UInt8.ofNat q=c at *
  rw[<- hbe]at hap
  generalize beB j n=o at *
  generalize ho':beB (j+1) n=o' at *
  skip
  refine Bz1 (X12 f5 f3 f0 f4 d hw1 hr hr2 hq h20 hby (X3 hso hap hml)) ?_
  exact⟨m,Xa,j+1,Xa,rfl,by rw[hq',hdv],by rw[ho'],hx⟩
 | zero =>
  obtain rfl:j+1=s:=Xa
  have d:decide (((j+1:Nat):Int)<((j+1:Nat):Int))=false:=Xc
  skip
  rw[zaX]at hq1 hq2
  have hbl:=ZB7 j n
  generalize hQ0:n / 256 ^ j=q at *
  have hqs:q<=128:=by
   by_cases h:j+1<9
   ·have:=hq1 h
    have:(2:Nat) ^ (8 - (j+1))<=2 ^ 7:=zbb Xb Xa
    omega
   ·have:=hq2 Xa
    omega
  have hll:ZBa (j+1)<=256:=Nat.sub_le _ _
  have hwq:IntKind.i64.wrap (q:Int)=(q:Int):=Zaw Xa Xa
  have hws:IntKind.i64.wrap (((ZBa (j+1):Nat):Int)+(q:Int))=((ZBa (j+1)+q:Nat):Int):=by rw[Zaw Xa Xa];omega
  have hw8:=cnv8 (ZBa (j+1)+q)
  have eQ:UInt8.ofNat (ZBa (j+1)+n / 256 ^ (j+1 - 1))=UInt8.ofNat (ZBa (j+1)+q):=by rw[zaX,hQ0]
  have eB:beB (j+1 - 1) n=beB j n:=by rw[zaX]
  have eQ2:UInt8.ofNat (ZBa (j+1)+n / 256 ^ j)=UInt8.ofNat (ZBa (j+1)+q):=eQ
  have hby:Zef [[u8 (UInt8.ofNat (ZBa (j+1)+q))]]=some [((UInt8.ofNat (ZBa (j+1)+q)).toNat:Int)]:=ZyX [UInt8.ofNat (ZBa (j+1)+q)]
  have hso:strOf [((UInt8.ofNat (ZBa (j+1)+q)).toNat:Int)]=⟨[UInt8.ofNat (ZBa (j+1)+q)].toArray⟩:=Zza [UInt8.ofNat (ZBa (j+1)+q)]
  have hap:(⟨#[UInt8.ofNat (ZBa (j+1)+q)]⟩:ByteArray)++⟨(beB j n).toArray⟩=⟨(UInt8.ofNat (ZBa (j+1)+q) :: beB j n).toArray⟩:=Zz9 [UInt8.ofNat (ZBa (j+1)+q)] (beB j n)
  have hml:1+(beB j n).length<=maxLen:=ZAp Xa
  generalize UInt8.ofNat (ZBa (j+1)+q)=c at *
  refine Bz1 (X5 f5 f3 f0 f4 d) ?_
  refine qcp (hz2 _) fun k2=>?_
  refine Bz1 (X9 f0 f4 hwq hws hw8 hby hso hap hml) ?_
  first|rw[eQ,eB]|rw[eQ2]
  exact ZaW hx.bump rfl
def ZDq (n:Int):Nat:=if n<0 then 2 * (-(n+1)).toNat+1 else 2 * n.toNat
theorem ZFk {n:Int} (h:InI n):ZDq n<18446744073709551616:=by
 obtain⟨h0,h1⟩:=h
 unfold ZDq
 split<;>omega
open Go.RowKit Go.Lib
theorem or_one (m:Nat) (h:2 * m<18446744073709551616):IntKind.u64.wrap ((BitVec.ofInt IntKind.u64.bits ((2 * m:Nat):Int) ||| BitVec.ofInt IntKind.u64.bits 1).toNat:Int)=((2 * m+1:Nat):Int):=by
 have e:(BitVec.ofInt IntKind.u64.bits ((2 * m:Nat):Int) ||| BitVec.ofInt IntKind.u64.bits 1).toNat=2 * m+1:=by
  show(BitVec.ofInt 64 ((2 * m:Nat):Int) ||| BitVec.ofInt 64 1).toNat=_
  have h1:BitVec.ofInt 64 ((2 * m:Nat):Int)=BitVec.ofNat 64 (2 * m):=by rw[BitVec.ofInt_natCast]
  have h2:BitVec.ofInt 64 1=BitVec.ofNat 64 1:=rfl
  rw[h1,h2,BitVec.toNat_or,za8,za8,zaT Xa,zaT Xa]
  have:=Nat.two_pow_add_eq_or_of_lt (b:=1) (i:=1) Xb m
  simpa using this.symm
 rw[e,ZB9 Xa Xa]
theorem xor_not (m:Nat) (n:Int) (e:n = -(m:Int) - 1) (h:m<=9223372036854775807):IntKind.i64.wrap ((BitVec.ofInt IntKind.i64.bits (if IntKind.i64.signed=true then -1 else IntKind.i64.max) ^^^ BitVec.ofInt IntKind.i64.bits n).toNat:Int)=(m:Int):=by
 have e1:(BitVec.ofInt IntKind.i64.bits (if IntKind.i64.signed=true then -1 else IntKind.i64.max) ^^^ BitVec.ofInt IntKind.i64.bits n).toNat=m:=by
  show(BitVec.ofInt 64 (-1) ^^^ BitVec.ofInt 64 n).toNat=m
  have e2:BitVec.ofInt 64 (-1)=BitVec.allOnes 64:=Xb
  rw[e2,BitVec.allOnes_xor,BitVec.toNat_not,BitVec.toNat_ofInt]
  omega
 rw[e1,Zaw Xa Xa]
theorem ZFM (n:Int) (hn:InI n) (H:Zaa):Zay Tryz.prog 192 [.i n] H (Pure H (uN (ZDq n))):=by
 obtain⟨h0,h1⟩:=hn
 unfold ZDq
 by_cases h:n<0
 ·have d:decide (n<0)=true:=decide_eq_true h
  rw[if_pos h]
  obtain⟨m,hm⟩:∃m:Nat,n = -(m:Int) - 1:=⟨(-(n+1)).toNat,Xa⟩
  have e:(-(n+1)).toNat=m:=Xa
  rw[e]
  have hx:=xor_not m n hm Xa
  have hw:IntKind.u64.wrap (m:Int)=(m:Int):=ZB9 Xa Xa
  have hs:IntKind.u64.wrap ((m:Int) * 2 ^ min 1 IntKind.u64.bits)=((2 * m:Nat):Int):=by
   rw[ZEr,ZB9 Xf Xf];simp;omega
  have ho:=or_one m Xa
  refine fnQ cf192 fun Q qr qn=>?_
  refine Bz1 (X5 d hx hw hs ho) ?_
  refine Zcm (by rfl)
 ·have d:decide (n<0)=false:=decide_eq_false h
  rw[if_neg h]
  obtain⟨m,rfl⟩:∃m:Nat,n=(m:Int):=⟨n.toNat,Xa⟩
  have hw:IntKind.u64.wrap (m:Int)=(m:Int):=ZB9 Xa Xa
  have hs:IntKind.u64.wrap ((m:Int) * 2 ^ min 1 64)=((2 * m:Nat):Int):=by
   rw[ZB9 Xf Xf];simp;omega
  have ht:((m:Int)).toNat=m:=Xa
  rw[ht]
  refine fnQ cf192 fun Q qr qn=>?_
  refine Bz1 (X4 d hw ZEr hs) ?_
  refine Zcm (by rfl)
def ZCF (n:Int):Tx:=ZA2 (ZDq n)
def ZA4 (s:Tx):Tx:=ZA2 s.length++s
theorem ZBe (s:Tx):(ZA4 s).length<=s.length+9:=by
 have:=(ZA7 s.length).2
 unfold ZA4
 rw[zaa,ZA3];omega
theorem ZCy (n:Int):(ZCF n).length<=9:=by
 have:=(ZA7 (ZDq n)).2
 unfold ZCF
 rw[ZA3];omega
theorem u64n (n:Nat) (h:n<18446744073709551616):IntKind.u64.wrap (n:Int)=(n:Int):=ZB9 Xa Xa
theorem ZBc (n:Nat) (h:n<=9223372036854775807) (H:Zaa):Zay Tryz.prog 106 [.i (n:Int)] H (Pure H (eS (ZA2 n))):=by
 have hw:=u64n n Xa
 have hm:(if (0:Int) > (n:Int) then (0:Int) else (n:Int))=(n:Int):=if_neg Xa
 refine fnQ cf106 fun Q qr qn=>?_
 refine Bz1 (X2 hm hw) ?_
 refine qcp (ZDe n _ Xa) fun k1=>?_
 refine Bz0 ?_
 refine Zcm (by rfl)
theorem ZFL (n:Int) (h:InI n) (H:Zaa):Zay Tryz.prog 111 [.i n] H (Pure H (eS (ZCF n))):=by
 have hp:∀H,Zay Tryz.prog 155 [.i n] H (Pure H (eS (ZCF n))):=fun H=>by
  refine fnQ cf155 fun Q qr qn=>?_
  refine Bz0 ?_
  refine qcp (ZFM n h _) fun k1=>?_
  refine Bz0 ?_
  refine qcp (ZDe (ZDq n) _ (ZFk h)) fun k2=>?_
  refine Bz0 ?_
  refine Zcm (by rfl)
 refine fnQ cf111 fun Q qr qn=>?_
 refine Bz0 ?_
 refine qcp (hp _) fun k1=>?_
 refine Bz0 ?_
 refine Zcm (by rfl)
theorem ZBB (s:Tx) (h:s.length<=900000) (H:Zaa):Zay Tryz.prog 109 [eS s] H (Pure H (eS (ZA4 s))):=by
 have hl:=ZBe s
 have ha:(⟨(ZA2 s.length).toArray⟩:ByteArray)++⟨s.toArray⟩=⟨(ZA4 s).toArray⟩:=Zz9 (ZA2 s.length) s
 have hb:(ZA2 s.length).length+s.length<=maxLen:=ZAp (by unfold ZA4 at hl;rw[zaa]at hl;omega)
 refine fnQ cf109 fun Q qr qn=>?_
 refine Bz0 ?_
 refine qcp (ZBc s.length Xa _) fun k1=>?_
 refine Bz1 (X2 ha hb) ?_
 refine Zcm (by rfl)
open Go.RowKit Go.Lib
def ZB1:Tx->Tx->Nat
 | x :: a,y :: b=>if x=y then ZB1 a b+1 else 0
 | _,_=>0
theorem ZCo:∀(n:Nat) (a b:Tx),a.take n=b.take n->n<=a.length->n<=b.length->(∀x y,a[n]?=some x->b[n]?=some y->x≠y)->ZB1 a b=n
 | 0,[],b,_,_,_,_=>by simp[ZB1]
 | 0,_ :: _,[],_,_,_,_=>rfl
 | 0,x :: a,y :: b,_,_,_,h=>by rw[ZB1,if_neg (h x y rfl rfl)]
 | n+1,[],b,_,h,_,_=>by simp at h
 | n+1,x :: a,[],_,_,h,_=>by simp at h
 | n+1,x :: a,y :: b,h,h1,h2,h3=>by
  simp only[List.take_succ_cons,zbs]at h
  rw[ZB1,if_pos h.1,ZCo n a b h.2 (by simpa using h1) (by simpa using h2) (by simpa using h3)]
theorem ZD1:∀a b:Tx,ZB1 a b<=a.length/\ZB1 a b<=b.length
 | [],b=>by simp[ZB1]
 | _ :: _,[]=>by simp[ZB1]
 | x :: a,y :: b=>by
  have:=ZD1 a b
  rw[ZB1]
  split<;>simp<;>omega
theorem ZEA {a b:Tx} {n:Nat} (ha:n<a.length) (hb:n<b.length):(a.take (n+1)=b.take (n+1)) ↔ (a.take n=b.take n/\a[n]=b[n]):=by
 rw[zae ha,zae hb]
 constructor
 ·intro h
  have:=List.append_inj h Xf
  simpa using this
 ·rintro⟨h1,h2⟩
  rw[h1,h2]
theorem ZCa (a:Tx) (n:Nat):(⟨a.toArray⟩:ByteArray).extract 0 n=⟨(a.take n).toArray⟩:=by
 apply zbi
 simp[za6,List.extract_eq_take_drop]
theorem ZBP (a:Tx) (n:Nat):(⟨a.toArray⟩:ByteArray).extract n a.length=⟨(a.drop n).toArray⟩:=by
 apply zbi
 simp only[za6,zbC,List.extract_eq_take_drop]
 rw[zay Xc]
theorem ZEo (a b:Tx) (H:Zaa) (hl:a.length<=1000000):Zay Tryz.prog 137 [eS a,eS b] H (Pure H (.i (ZB1 a b:Nat))):=by
 refine fnQ cf137 fun Q qr qn=>?_
 refine Bz0 ?_
 refine ZBA (fun m F G=>∃n,m+n=a.length/\n<=b.length/\a.take n=b.take n/\Fr.get F 5=.i (n:Int)/\Fr.get F 0=eS a/\Fr.get F 1=eS b/\G=H) a.length (GStep.refl _ _) ⟨0,rfl,zas _,Xc,rfl,rfl,rfl,rfl⟩ ?_
 rintro m F G ⟨n,hm,hnb,ht,f5,f0,f1,rfl⟩
 have hz:(0:Int)<=(n:Int):=Xa
 by_cases ha:n<a.length
 ·have d1:decide ((n:Int)<(a.length:Int))=true:=by simp;omega
  by_cases hb:n<b.length
  ·have d2:decide ((n:Int)<(b.length:Int))=true:=by simp;omega
   have hw:=ZCE (s:=n) Xa
   have sa:=byte_at ha
   have sb:=byte_at hb
   have hn:=ZEA ha hb
   have hcm:=ZCo n a b ht Xa Xa
   rw[zac ha,zac hb]at hcm
   generalize a[n]=x at *
   generalize b[n]=y at *
   by_cases hxy:x=y
   ·have d3:(((x.toNat:Nat):Int) == ((y.toNat:Nat):Int))=true:=by rw[hxy];simp
    skip
    refine Bz1 (X10 f5 f0 f1 hz d1 d2 sa sb d3 hw) ?_
    exact⟨m - 1,Xa,n+1,Xa,Xa,hn.2 ⟨ht,hxy⟩,rfl⟩
   ·have d3:(((x.toNat:Nat):Int) == ((y.toNat:Nat):Int))=false:=by
     rw[beq_eq_false_iff_ne];intro h;exact hxy (UInt8.toNat_inj.1 Xa)
    have e:=hcm fun x' y' hx hy=>by injection hx with hx;injection hy with hy;rw[<- hx,<- hy];exact hxy
    skip
    refine Bz1 (X9 f5 f0 f1 hz d1 d2 sa sb d3) ?_
    rw[e]
    refine Zcm (by rfl)
  ·have d2:decide ((n:Int)<(b.length:Int))=false:=by simp;omega
   have e:=ZCo n a b ht Xa Xa fun x y hx hy=>by rw[List.getElem?_eq_none Xa]at hy;cases hy
   skip
   refine Bz1 (X6 f5 f0 f1 hz d1 d2) ?_
   rw[e]
   refine Zcm (by rfl)
 ·have d1:decide ((n:Int)<(a.length:Int))=false:=by simp;omega
  have e:=ZCo n a b ht Xa Xa fun x y hx hy=>by rw[List.getElem?_eq_none Xa]at hx;cases hx
  skip
  refine Bz1 (X5 f5 f0 f1 hz d1) ?_
  rw[e]
  refine Zcm (by rfl)
theorem Zpz (a b:Tx) (H:Zaa) (hl:a.length<=1000000) (hl2:b.length<=1000000):Zay Tryz.prog 121 [eS a,eS b] H (Pure H (.i (ZB1 a b:Nat))):=by
 refine fnQ cf121 fun Q qr qn=>?_
 refine Bz0 ?_
 refine ZBA (fun m F G=>∃n,m+n=a.length/\n<=b.length/\a.take n=b.take n/\Fr.get F 5=.i (n:Int)/\Fr.get F 0=eS a/\Fr.get F 1=eS b/\G=H) a.length (GStep.refl _ _) ⟨0,rfl,zas _,Xc,rfl,rfl,rfl,rfl⟩ ?_
 rintro m F G ⟨n,hm,hnb,ht,f5,f0,f1,rfl⟩
 have hz:(0:Int)<=(n:Int):=Xa
 by_cases ha:n<a.length
 ·have d1:decide ((n:Int)<(a.length:Int))=true:=by simp;omega
  by_cases hb:n<b.length
  ·have d2:decide ((n:Int)<(b.length:Int))=true:=by simp;omega
   have hw:=ZCE (s:=n) Xa
   skip
   have hz1:(0:Int)<=((n+1:Nat):Int):=Xa
   have htn:(((n+1:Nat):Int)).toNat=n+1:=Xa
   have hb1:(0<=n+1/\n+1<=a.length)=True:=by rw[eq_iff_iff,iff_true];omega
   have hb2:(0<=n+1/\n+1<=b.length)=True:=by rw[eq_iff_iff,iff_true];omega
   have hb3:n+1<=a.length:=Xa
   have hb4:n+1<=b.length:=Xa
   have e1:=ZCa a (n+1)
   have e2:=ZCa b (n+1)
   have hn:=ZEA ha hb
   have hcm:=ZCo n a b ht Xa Xa
   rw[zac ha,zac hb]at hcm
   by_cases hxy:a.take (n+1)=b.take (n+1)
   ·have d3:decide (a.take (n+1)=b.take (n+1))=true:=decide_eq_true hxy
    generalize hta:a.take (n+1)=ta at *
    generalize htb:b.take (n+1)=tb at *
    skip
    refine Bz6 (X12 f5 f0 f1 hz d1 d2 hw hz1 htn hb1 hb2 (X5 hb3 hb4 e1 e2 d3)) ?_
    exact⟨m - 1,Xa,n+1,Xa,Xa,by rw[hta,htb];exact hxy,rfl⟩
   ·have d3:decide (a.take (n+1)=b.take (n+1))=false:=decide_eq_false hxy
    have e:=hcm fun x y hx hy=>by
     injection hx with hx;injection hy with hy
     intro hh
     exact hxy (hn.2 ⟨ht,by rw[hx,hy];exact hh⟩)
    generalize a.take (n+1)=ta at *
    generalize b.take (n+1)=tb at *
    skip
    refine Bz6 (X12 f5 f0 f1 hz d1 d2 hw hz1 htn hb1 hb2 (X5 hb3 hb4 e1 e2 d3)) ?_
    rw[e]
    refine Zcm (by rfl)
  ·have d2:decide ((n:Int)<(b.length:Int))=false:=by simp;omega
   have e:=ZCo n a b ht Xa Xa fun x y hx hy=>by rw[List.getElem?_eq_none Xa]at hy;cases hy
   skip
   refine Bz1 (X6 f5 f0 f1 hz d1 d2) ?_
   rw[e]
   refine Zcm (by rfl)
 ·have d1:decide ((n:Int)<(a.length:Int))=false:=by simp;omega
  have e:=ZCo n a b ht Xa Xa fun x y hx hy=>by rw[List.getElem?_eq_none Xa]at hx;cases hx
  skip
  refine Bz1 (X5 f5 f0 f1 hz d1) ?_
  rw[e]
  refine Zcm (by rfl)
def ZBl:Tx->List Tx->Tx
 | _,[]=>[]
 | w,s :: r=>ZA2 (ZB1 w s)++ZA4 (s.drop (ZB1 w s))++ZBl s r
def ZB5 (l:List Tx):Tx:=ZA2 l.length++ZBl [] l
def lastT (l:List Tx) (k:Nat):Tx:=match k with
 | 0=>[]
 | k+1=>(l[k]?).getD []
theorem ZBz {l:List Tx} {k:Nat} (h:k<l.length):lastT l (k+1)=l[k]:=by simp[lastT,h]
def ZGI:Tx->List Tx->Tx
 | w,[]=>w
 | _,s :: r=>ZGI s r
theorem ZEL:∀(l:List Tx) (w x:Tx),ZGI w (l++[x])=x
 | [],_,_=>rfl
 | s :: r,_,x=>ZEL r s x
theorem ZDI:∀(l:List Tx) (w x:Tx),ZBl w (l++[x])=ZBl w l++(ZA2 (ZB1 (ZGI w l) x)++ZA4 (x.drop (ZB1 (ZGI w l) x)))
 | [],w,x=>by simp[ZBl,ZGI]
 | s :: r,w,x=>by
  have:=ZDI r s x
  simp only[List.cons_append,ZBl,this,ZGI,zam]
theorem ZDk {l:List Tx} {k:Nat} (h:k<=l.length):ZGI [] (l.take k)=lastT l k:=by
 cases k with
 | zero=>rfl
 | succ k=>rw[ZBz Xa,zae Xa,ZEL]
theorem ZCI {l:List Tx} {k:Nat} (h:k<l.length):ZBl [] (l.take (k+1))=ZBl [] (l.take k)++(ZA2 (ZB1 (lastT l k) l[k])++ZA4 (l[k].drop (ZB1 (lastT l k) l[k]))):=by
 rw[zae h,ZDI,ZDk Xa]
theorem ZCv:∀(l:List Tx) (w:Tx),(ZBl w l).length<=ZAr l+18 * l.length
 | [],w=>by simp[ZBl]
 | s :: r,w=>by
  have h1:=ZCv r s
  have h2:=ZBe (s.drop (ZB1 w s))
  have h3:=(ZA7 (ZB1 w s)).2
  have h4:(s.drop (ZB1 w s)).length<=s.length:=by rw[zaB];omega
  unfold ZBl
  have h5:ZAr (s :: r)=s.length+ZAr r:=by simp[ZAr]
  rw[h5]
  simp only[zaa,ZA3,List.length_cons]
  omega
theorem ZCh (l:List Tx):(ZB5 l).length<=ZAr l+18 * l.length+9:=by
 have:=ZCv l []
 have h3:=(ZA7 l.length).2
 unfold ZB5
 rw[zaa,ZA3];omega
theorem ZCH (t:Tok) (l:List Tx) (H:Zaa) (hl:l.length<=10000) (hs:ZAr l<=100000) (hr:Zgt none l=0):Zay Tryz.prog 156 [.sl t (rS l)] H (Pure H (.tup [eS (ZB5 l),.i 0])):=by
 have hrow:=ZkS t l
 rw[hr]at hrow
 have d0:((0:Int) != 0)=false:=rfl
 have hnm:=ZBc l.length Xa
 refine fnQ cf156 fun Q qr qn=>?_
 refine Bz0 ?_
 refine qcp (hrow _ Xa) fun k1=>?_
 refine Bz3 (X1 d0) ?_
 refine qcp (hnm _) fun k2=>?_
 refine Bz2 ?_
 refine ZbJ (N:=l.length) (fun k F G=>Fr.get F 20=.i (k:Int)/\Fr.get F 19=.i (l.length:Int)/\Fr.get F 18=.sl t (rS l)/\Fr.get F 6=eS (lastT l k)/\Fr.get F 5=eS (ZA2 l.length++ZBl [] (l.take k))/\Zaa.Ext H G) Xd (fun k F G h=>⟨h.1,h.2.1⟩) (GStep.refl _ _) ⟨rfl,rfl,rfl,rfl,by show eS (ZA2 l.length)=_;simp[ZBl],(Zaa.Ext.refl H).bump.bump⟩ ?_ ?_
 ·rintro k F G hk ⟨f20,f19,f18,f6,f5,hx⟩
  have hz:(0:Int)<=(k:Int):=Xa
  have hrk:(rS l)[k]?=some [eS l[k]]:=by simp[hk]
  have hst:=ZCI hk
  have hls:=ZBz hk
  have hmem:=ZAJ hk
  have hll:(lastT l k).length<=ZAr l:=by
   cases k with
   | zero=>simp[lastT]
   | succ j=>rw[ZBz Xa];exact ZAJ Xa
  have hlen1:=ZCv (l.take k) []
  have hlen2:=ZAT (l:=l) (k:=k)
  have hlen3:(l.take k).length<=l.length:=by rw[zau];omega
  have hpl:=ZA3 l.length
  have hsz:=(ZA7 l.length).2
  generalize hW':lastT l (k+1)=w' at *
  generalize hR1:ZBl [] (l.take (k+1))=R1 at *
  generalize ZBl [] (l.take k)=R0 at *
  generalize lastT l k=w at *
  generalize l[k]=s at *
  obtain⟨hc1,hc2⟩:=ZD1 w s
  have hsh:=ZEo w s
  generalize hc:ZB1 w s=c at *
  have hpc:=ZA3 c
  have hsc:=(ZA7 c).2
  have htl:=ZBe (s.drop c)
  have hdl:(s.drop c).length<=s.length:=by rw[zaB];omega
  have e1:=ZBP s c
  have hcz:(0:Int)<=(c:Int):=Xa
  have hct:((c:Int)).toNat=c:=Xa
  have hb1:(c<=s.length/\s.length<=s.length)=True:=by rw[eq_iff_iff,iff_true];omega
  obtain⟨P0,hP0⟩:∃P,P=ZA2 l.length++R0:=⟨_,rfl⟩
  obtain⟨P1,hP1⟩:∃P,P=ZA2 c++ZA4 (s.drop c):=⟨_,rfl⟩
  have lP0:P0.length=(ZA2 l.length).length+R0.length:=by rw[hP0,zaa]
  have lP1:P1.length=(ZA2 c).length+(ZA4 (s.drop c)).length:=by rw[hP1,zaa]
  have a1:(⟨(ZA2 c).toArray⟩:ByteArray)++⟨(ZA4 (s.drop c)).toArray⟩=⟨P1.toArray⟩:=by rw[hP1];exact Zz9 _ _
  have a2:(⟨P0.toArray⟩:ByteArray)++⟨P1.toArray⟩=⟨(P0++P1).toArray⟩:=Zz9 _ _
  have b1:(ZA2 c).length+(ZA4 (s.drop c)).length<=maxLen:=ZAp Xa
  have b2:P0.length+P1.length<=maxLen:=ZAp Xa
  rw[<- hP0]at f5
  have hnc:=ZBc c Xa
  have hts:=ZBB (s.drop c) Xa
  generalize s.drop c=sd at *
  skip
  refine Bz1 (X7 f20 f19 f18 f6 f5 hz hrk) ?_
  refine qcp (hsh _ Xa) fun k3=>?_
  refine Bz6 (X12 f20 f19 f18 f6 f5 hz hrk hcz hct hb1 hc2 e1) ?_
  refine qcp (hnc _) fun k4=>?_
  refine Bz1 (X5 f20 f19 f18 f6 f5) ?_
  refine qcp (hts _) fun k5=>?_
  refine Bz1 (X9 f20 f19 f18 f6 f5 a1 a2 b1 b2) ?_
  exact⟨by rw[hW',hls],by rw[hR1,hst,hP0,hP1,zam],hx.bump.bump.bump⟩
 ·rintro F G ⟨f20,f19,f18,f6,f5,hx⟩
  rw[zaq]at f5
  skip
  refine Bz1 (X1 f5) ?_
  exact ZaW hx rfl
theorem tput_bad (t:Tok) (l:List Tx) (H:Zaa) (hl:l.length<=1000000) (hr:Zgt none l≠0):Zay Tryz.prog 156 [.sl t (rS l)] H (Pure H (.tup [eS [],.i (Zgt none l)])):=by
 have hrow:=ZkS t l
 have d0:(Zgt none l != 0)=true:=by simpa using hr
 generalize Zgt none l=e at *
 refine fnQ cf156 fun Q qr qn=>?_
 refine Bz0 ?_
 refine qcp (hrow _ Xa) fun k1=>?_
 refine Bz1 (X1 d0) ?_
 refine Zcm (by rfl)
end Go.Proofs.YtdfgoekdlmkdfaaGreatDoor
