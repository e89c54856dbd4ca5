/- Texts of the walk. -/
import Derived.Test.YtfjjpndoeppbhaaGreatDoorMu
namespace Go.Proofs.YtfjjpndoeppbhaaGreatDoor
set_option linter.defProp false
set_option maxHeartbeats 64000000
set_option linter.unusedSimpArgs false
set_option linter.unusedVariables false
open Go.RowKit Go.Lib
theorem ZOm (n:Nat) (H:Zaa) (h:n<=9223372036854775807):Zay Tryz.prog 204 [.i (n:Int)] H (Pure H (eS (ZO1 n))):=by
 have hx0:Zaa.Ext H H:=.refl _
 have s2:Int.fdiv (n:Int) (2 ^ min 8 IntKind.i64.bits)=((n / 256:Nat):Int):=ZGL n 8 Xa
 have z2:¬((8:Int)<0):=Xb
 have t2:(8:Int).toNat=8:=rfl
 have c1:=ZRd (n / 256)
 have c2:=ZRd n
 have q4:Zef [[u8 (UInt8.ofNat (n / 256))],[u8 (UInt8.ofNat n)]]=some ((ZO1 n).map fun c=>(c.toNat:Int)):=ZyX (ZO1 n)
 have q5:strOf ((ZO1 n).map fun c=>(c.toNat:Int))=⟨(ZO1 n).toArray⟩:=Zza _
 generalize (ZO1 n).map (fun c=>(c.toNat:Int))=lz at *
 refine fnQ cf204 fun Q qr qn=>?_
 ((have hd:=tv;repeat' first|(first|apply Zad|apply Zac|apply Zab)<;>intro hd<;>try simp only[hd]|simp(disch:=first|assumption|omega|simp only[nx]<;>omega|fail)only[hd,qr,qn,ZLw,↓YA,YY,↓reduceIte,Nat.reduceEqDiff,Nat.reduceAdd,Nat.reduceMul,Nat.reduceLeDiff,Int.reduceToNat,Int.reduceLE,Int.reduceLT,Int.reduceGT,Int.reduceGE,Int.reduceAdd,Int.reduceSub,Int.reduceNeg,Int.reduceBEq,Int.reduceBNe,s2,z2,t2,c1,c2,q4,q5])<;>try revert hd;refine ttr ?_)
 exact Zcm rfl
theorem ZOu (n:Int) (H:Zaa):Zay Tryz.prog 156 [.i n] H (Pure H (.b (decide (0<=n/\n<=2046)))):=by
 have hx0:Zaa.Ext H H:=.refl _
 by_cases h1:n≥0
 ·have d1:decide (n≥0)=true:=decide_eq_true h1
  by_cases h2:n<2047
  ·have d2:decide (n<2047)=true:=decide_eq_true h2
   rw[decide_eq_true Xa]
   refine fnQ cf156 fun Q qr qn=>?_
   ((have hd:=tv;repeat' first|(first|apply Zad|apply Zac|apply Zab)<;>intro hd<;>try simp only[hd]|simp(disch:=first|assumption|omega|simp only[nx]<;>omega|fail)only[hd,qr,qn,Zr2,↓YA,YY,↓reduceIte,Nat.reduceEqDiff,Nat.reduceAdd,Nat.reduceMul,Nat.reduceLeDiff,Int.reduceToNat,Int.reduceLE,Int.reduceLT,Int.reduceGT,Int.reduceGE,Int.reduceAdd,Int.reduceSub,Int.reduceNeg,Int.reduceBEq,Int.reduceBNe,d1,d2])<;>try revert hd;refine ttr ?_)
   exact Zcm rfl
  ·have d2:decide (n<2047)=false:=decide_eq_false h2
   rw[decide_eq_false Xa]
   refine fnQ cf156 fun Q qr qn=>?_
   ((have hd:=tv;repeat' first|(first|apply Zad|apply Zac|apply Zab)<;>intro hd<;>try simp only[hd]|simp(disch:=first|assumption|omega|simp only[nx]<;>omega|fail)only[hd,qr,qn,Zr2,↓YA,YY,↓reduceIte,Nat.reduceEqDiff,Nat.reduceAdd,Nat.reduceMul,Nat.reduceLeDiff,Int.reduceToNat,Int.reduceLE,Int.reduceLT,Int.reduceGT,Int.reduceGE,Int.reduceAdd,Int.reduceSub,Int.reduceNeg,Int.reduceBEq,Int.reduceBNe,d1,d2])<;>try revert hd;refine ttr ?_)
   exact Zcm rfl
 ·have d1:decide (n≥0)=false:=decide_eq_false h1
  rw[decide_eq_false Xa]
  refine fnQ cf156 fun Q qr qn=>?_
  ((have hd:=tv;repeat' first|(first|apply Zad|apply Zac|apply Zab)<;>intro hd<;>try simp only[hd]|simp(disch:=first|assumption|omega|simp only[nx]<;>omega|fail)only[hd,qr,qn,Zr2,↓YA,YY,↓reduceIte,Nat.reduceEqDiff,Nat.reduceAdd,Nat.reduceMul,Nat.reduceLeDiff,Int.reduceToNat,Int.reduceLE,Int.reduceLT,Int.reduceGT,Int.reduceGE,Int.reduceAdd,Int.reduceSub,Int.reduceNeg,Int.reduceBEq,Int.reduceBNe,d1])<;>try revert hd;refine ttr ?_)
  exact Zcm rfl
theorem ZMj (n:Int) (H:Zaa) (h1 : -9223372036854775808<=n) (h2:n<=9223372036854775807):Zay Tryz.prog 65 [.i n] H (Pure H (.i (ZL3 n))):=by
 have hx0:Zaa.Ext H H:=.refl _
 have n2:((122:Int)=0)=False:=Xc
 unfold ZL3
 by_cases h:n<=0
 ·have d1:decide (n<=0)=true:=decide_eq_true h
  rw[if_pos h]
  refine fnQ cf65 fun Q qr qn=>?_
  ((have hd:=tv;repeat' first|(first|apply Zad|apply Zac|apply Zab)<;>intro hd<;>try simp only[hd]|simp(disch:=first|assumption|omega|simp only[nx]<;>omega|fail)only[hd,qr,qn,Zk1,↓YA,YY,↓reduceIte,Nat.reduceEqDiff,Nat.reduceAdd,Nat.reduceMul,Nat.reduceLeDiff,Int.reduceToNat,Int.reduceLE,Int.reduceLT,Int.reduceGT,Int.reduceGE,Int.reduceAdd,Int.reduceSub,Int.reduceNeg,Int.reduceBEq,Int.reduceBNe,d1])<;>try revert hd;refine ttr ?_)
  exact Zcm rfl
 ·have d1:decide (n<=0)=false:=decide_eq_false h
  rw[if_neg h]
  have w1:IntKind.i64.wrap (n - 1)=n - 1:=Zaw Xa Xa
  have w2:IntKind.i64.wrap (Int.tdiv (n - 1) 122)=(n - 1) / 122:=by
   rw[za3 Xa,Zaw Xa Xa]
  have w3:IntKind.i64.wrap ((n - 1) / 122+1)=(n - 1) / 122+1:=Zaw Xa Xa
  refine fnQ cf65 fun Q qr qn=>?_
  ((have hd:=tv;repeat' first|(first|apply Zad|apply Zac|apply Zab)<;>intro hd<;>try simp only[hd]|simp(disch:=first|assumption|omega|simp only[nx]<;>omega|fail)only[hd,qr,qn,Zk1,↓YA,YY,↓reduceIte,Nat.reduceEqDiff,Nat.reduceAdd,Nat.reduceMul,Nat.reduceLeDiff,Int.reduceToNat,Int.reduceLE,Int.reduceLT,Int.reduceGT,Int.reduceGE,Int.reduceAdd,Int.reduceSub,Int.reduceNeg,Int.reduceBEq,Int.reduceBNe,d1,w1,w2,w3,n2])<;>try revert hd;refine ttr ?_)
  exact Zcm rfl
def ch1 (next:Int) (l:List Int) (k:Nat):Tx:=ZO1 ((max next (-1))+1).toNat++(l.take k).flatMap fun n=>ZO1 n.toNat
theorem ch1_succ (next:Int) {l:List Int} {k:Nat} (h:k<l.length):ch1 next l (k+1)=ch1 next l k++ZO1 l[k].toNat:=by
 unfold ch1
 rw[zas h,zbZ,zan]
 simp
theorem ch1_len (next:Int) (l:List Int) (k:Nat):(ch1 next l k).length<=2+2 * k:=by
 have:=ZOY next (l.take k)
 unfold chP at this
 unfold ch1
 rw[this,zaj]
 omega
theorem ZQ3 (next:Int) (t:Tok) (l:List Int) (H:Zaa) (hl:l.length<=122) (hn : -1<=next/\next<=2046) (hm:∀x∈l,0<=x/\x<=2046):Zay Tryz.prog 160 [.i next,.sl t (rI l)] H (Pure H (.tup [eS (chP next l),.i 0])):=by
 have hx0:Zaa.Ext H H:=.refl _
 have hrl:(rI l).length=l.length:=Xc
 have d1:decide (((l.length:Nat):Int) > 122)=false:=decide_eq_false Xa
 have d2:decide (next≥2047)=false:=decide_eq_false Xa
 have hmx:(if (-1:Int) > next then (-1:Int) else next)=max next (-1):=by split<;>omega
 have hmx':(if next<(-1:Int) then (-1:Int) else next)=max next (-1):=by split<;>omega
 have w1:IntKind.i64.wrap (max next (-1)+1)=(((max next (-1)+1).toNat:Nat):Int):=by
  rw[Zaw Xa Xa];omega
 have hnum:=fun K=>ZOm (max next (-1)+1).toNat K Xa
 have h0:ch1 next l 0=ZO1 (max next (-1)+1).toNat:=by simp[ch1]
 have hend:ch1 next l l.length=chP next l:=by simp[ch1,chP]
 rw[<- h0]at hnum
 refine fnQ cf160 fun Q qr qn=>?_
 ((have hd:=tv;repeat' first|(first|apply Zad|apply Zac|apply Zab)<;>intro hd<;>try simp only[hd]|simp(disch:=first|assumption|omega|simp only[nx]<;>omega|fail)only[hd,qr,qn,ZGs,↓YA,YY,↓reduceIte,Nat.reduceEqDiff,Nat.reduceAdd,Nat.reduceMul,Nat.reduceLeDiff,Int.reduceToNat,Int.reduceLE,Int.reduceLT,Int.reduceGT,Int.reduceGE,Int.reduceAdd,Int.reduceSub,Int.reduceNeg,Int.reduceBEq,Int.reduceBNe,hrl,d1,d2,hmx,hmx',w1])<;>try revert hd;refine ttr ?_)
 refine qcp (hnum _) fun k1=>?_
 refine Bz1 (X1 hrl) ?_
 refine ZbJ (N:=l.length) (fun k F G=>Fr.get F 20=.i (k:Int)/\Fr.get F 19=.i (l.length:Int)/\Fr.get F 18=.sl t (rI l)/\Fr.get F 6=eS (ch1 next l k)/\Zaa.Ext H G) Xd (fun k F G h=>⟨h.1,h.2.1⟩) (GStep.refl _ _) ⟨rfl,rfl,rfl,rfl,by exact AXT⟩ ?_ ?_
 ·rintro k F G hk ⟨f20,f19,f18,f6,hx⟩
  have z0:(0:Int)<=(k:Int):=Xa
  have hr:(rI l)[k]?=some [.i l[k]]:=by simp[hk]
  have hlk:=hm l[k] (zau hk)
  have hs:=ch1_succ next hk
  have hl1:=ch1_len next l k
  obtain⟨v,hv⟩:∃v:Nat,l[k]=(v:Int):=⟨l[k].toNat,Xa⟩
  rw[hv]at hr hlk hs
  rw[Int.toNat_natCast]at hs
  have hmy:=fun K=>ZOu (v:Int) K
  rw[decide_eq_true Xa]at hmy
  have hnv:=fun K=>ZOm v K Xa
  have ha:=Zz9 (ch1 next l k) (ZO1 v)
  rw[<- hs]at ha
  have hlm:(ch1 next l k).length+(ZO1 v).length<=maxLen:=by
   show(ch1 next l k).length+2<=maxLen
   exact ZAp Xa
  generalize hR:ch1 next l (k+1)=R1 at *
  generalize ch1 next l k=R0 at *
  generalize ZO1 v=tv at *
  generalize rI l=rows at *
  skip
  refine Bz1 (X6 f20 f19 f18 f6 z0 hr) ?_
  refine qcp (hmy _) fun k2=>?_
  refine Bz1 (X4 f20 f19 f18 f6) ?_
  refine qcp (hnv _) fun k3=>?_
  refine Bz1 (X6 f20 f19 f18 f6 ha hlm) ?_
  exact⟨by rw[hR],hx.bump.bump⟩
 ·rintro F G ⟨f20,f19,f18,f6,hx⟩
  rw[hend]at f6
  skip
  refine Bz1 (X1 f6) ?_
  exact Zcm rfl
open Go.RowKit Go.Lib
theorem ZNm:∀s:Tx,(ZMG s).length=s.length / 2
 | []=>rfl
 | [a]=>by simp[ZMG]
 | a :: b :: r=>by
  show(ZMG r).length+1=_
  rw[ZNm r,List.length_cons,List.length_cons]
  omega
theorem ZQN:∀(s:Tx) (j:Nat) (h:2 * j+1<s.length) (h2:j<(ZMG s).length),(ZMG s)[j]=(s[2 * j]'Xa).toNat * 256+(s[2 * j+1]).toNat
 | [],j,h,_=>by simp at h
 | [a],j,h,_=>by simp at h
 | a :: b :: r,0,h,_=>rfl
 | a :: b :: r,j+1,h,h2=>by
  have:=ZQN r j (by simp at h;omega) (by simp[ZMG]at h2;omega)
  show(ZMG r)[j]'_=_
  rw[this]
  rfl
theorem ZRA {l:List Nat} (h:0<l.length):l.headD 0=l[0]:=by cases l with
 | nil=>simp at h
 | cons a r=>rfl
theorem ZNR {s:Tx} (h:s.length<2\/s.length % 2≠0\/246<s.length):chT s=none:=by
 unfold chT
 split
 ·rename_i n l e
  rw[if_neg]
  rintro⟨h1,h2,_⟩
  have:=congrArg List.length e
  rw[ZNm,List.length_cons]at this
  omega
 ·rfl
theorem ZRJ {s:Tx} {n:Nat} (h:(ZMG s)[0]?=some n) (hn:2047<n):chT s=none:=by
 unfold chT
 split
 ·rename_i m l e
  rw[e]at h
  simp at h
  rw[if_neg]
  rintro⟨_,_,h3,_⟩
  omega
 ·rfl
theorem ZSn {s:Tx} {j n:Nat} (h:(ZMG s)[j+1]?=some n) (hn:2047<=n):chT s=none:=by
 unfold chT
 split
 ·rename_i m l e
  rw[e,List.getElem?_cons_succ]at h
  rw[if_neg]
  rintro⟨_,_,_,h4⟩
  have:=h4 n (zaN h)
  omega
 ·rfl
def chV3 (o:Option (Int×List Int)):AV:=match o with
 | some (n,l)=>.tup [.i n,.sl .no (rI l),.i 0]
 | none=>.tup [.i 0,.sl .no [],.i 15]
theorem wkn3 (a b:Int) (t:Tok) (rows:List (List AV)):Wkn (.tup [.i a,.sl t rows,.i b]) (.tup [.i a,.sl .no rows,.i b]):=.tup _ _ rfl fun i x y hx hy=>by
 match i with
 | 0=>simp at hx hy;subst hx hy;exact .refl _
 | 1 =>
  simp at hx hy
  subst hx hy
  refine .sl _ _ _ rfl (fun i r r' h1 h2=>by rw[h1]at h2;injection h2 with h2;rw[h2]) fun i r r' j x y h1 h2 h3 h4=>?_
  rw[h1]at h2
  injection h2 with h2
  subst h2
  rw[h3]at h4
  injection h4 with h4
  subst h4
  exact .refl _
 | 2=>simp at hx hy;subst hx hy;exact .refl _
 | i+3=>simp at hx
def ZOW (s:Tx) (j:Nat):List Int:=(((ZMG s).take j).drop 1).map Int.ofNat
def lnkN (s:Tx) (j:Nat):Int:=if j=0 then 0 else ((((ZMG s).headD 0:Nat):Int) - 1)
theorem ZSP {s:Tx} {j:Nat} (h:j+1<(ZMG s).length):ZOW s (j+2)=ZOW s (j+1)++[(((ZMG s)[j+1]:Nat):Int)]:=by
 unfold ZOW
 rw[zas h,List.drop_append_of_le_length (by rw[zaj];omega),zb1]
 rfl
theorem ZOT {s:Tx} {j:Nat} (h:j<=(ZMG s).length):(ZOW s j).length=j - 1:=by
 unfold ZOW
 rw[zam,zaq,zaj]
 omega
theorem ZP3 (s:Tx) (H:Zaa) (hl:s.length<=100000):Zay Tryz.prog 103 [eS s] H (Pure H (chV3 (chT s))):=by
 have hx0:Zaa.Ext H H:=.refl _
 have n2:((2:Int)=0)=False:=Xc
 have e2:Int.tmod ((s.length:Nat):Int) 2=((s.length % 2:Nat):Int):=by rw[zbx Xa];omega
 by_cases h1:s.length<2
 ·have d1:decide (((s.length:Nat):Int)<2)=true:=decide_eq_true Xa
  rw[ZNR (.inl h1)]
  refine fnQ cf103 fun Q qr qn=>?_
  ((have hd:=tv;repeat' first|(first|apply Zad|apply Zac|apply Zab)<;>intro hd<;>try simp only[hd]|simp(disch:=first|assumption|omega|simp only[nx]<;>omega|fail)only[hd,qr,qn,Zuf,↓YA,YY,↓reduceIte,Nat.reduceEqDiff,Nat.reduceAdd,Nat.reduceMul,Nat.reduceLeDiff,Int.reduceToNat,Int.reduceLE,Int.reduceLT,Int.reduceGT,Int.reduceGE,Int.reduceAdd,Int.reduceSub,Int.reduceNeg,Int.reduceBEq,Int.reduceBNe,d1])<;>try revert hd;refine ttr ?_)
  exact Zcm rfl
 have d1:decide (((s.length:Nat):Int)<2)=false:=decide_eq_false Xa
 by_cases h2:s.length % 2≠0
 ·have d2:(((s.length % 2:Nat):Int) != 0)=true:=by simp only[bne_iff_ne,ne_eq];omega
  rw[ZNR (.inr (.inl h2))]
  refine fnQ cf103 fun Q qr qn=>?_
  ((have hd:=tv;repeat' first|(first|apply Zad|apply Zac|apply Zab)<;>intro hd<;>try simp only[hd]|simp(disch:=first|assumption|omega|simp only[nx]<;>omega|fail)only[hd,qr,qn,Zuf,↓YA,YY,↓reduceIte,Nat.reduceEqDiff,Nat.reduceAdd,Nat.reduceMul,Nat.reduceLeDiff,Int.reduceToNat,Int.reduceLE,Int.reduceLT,Int.reduceGT,Int.reduceGE,Int.reduceAdd,Int.reduceSub,Int.reduceNeg,Int.reduceBEq,Int.reduceBNe,d1,e2,d2,n2])<;>try revert hd;refine ttr ?_)
  exact Zcm rfl
 have h2:s.length % 2=0:=Xa
 have d2:(((s.length % 2:Nat):Int) != 0)=false:=by rw[h2];rfl
 by_cases h3:246<s.length
 ·have d3:decide (((s.length:Nat):Int) > 246)=true:=decide_eq_true Xa
  rw[ZNR (.inr (.inr h3))]
  refine fnQ cf103 fun Q qr qn=>?_
  ((have hd:=tv;repeat' first|(first|apply Zad|apply Zac|apply Zab)<;>intro hd<;>try simp only[hd]|simp(disch:=first|assumption|omega|simp only[nx]<;>omega|fail)only[hd,qr,qn,Zuf,↓YA,YY,↓reduceIte,Nat.reduceEqDiff,Nat.reduceAdd,Nat.reduceMul,Nat.reduceLeDiff,Int.reduceToNat,Int.reduceLE,Int.reduceLT,Int.reduceGT,Int.reduceGE,Int.reduceAdd,Int.reduceSub,Int.reduceNeg,Int.reduceBEq,Int.reduceBNe,d1,e2,d2,d3,n2])<;>try revert hd;refine ttr ?_)
  exact Zcm rfl
 have d3:decide (((s.length:Nat):Int) > 246)=false:=decide_eq_false Xa
 have hN:=ZNm s
 obtain⟨N,hNN⟩:∃N,N=(ZMG s).length:=⟨_,rfl⟩
 have hsN:s.length=2 * N:=Xa
 refine fnQ cf103 fun Q qr qn=>?_
 ((have hd:=tv;repeat' first|(first|apply Zad|apply Zac|apply Zab)<;>intro hd<;>try simp only[hd]|simp(disch:=first|assumption|omega|simp only[nx]<;>omega|fail)only[hd,qr,qn,Zuf,↓YA,YY,↓reduceIte,Nat.reduceEqDiff,Nat.reduceAdd,Nat.reduceMul,Nat.reduceLeDiff,Int.reduceToNat,Int.reduceLE,Int.reduceLT,Int.reduceGT,Int.reduceGE,Int.reduceAdd,Int.reduceSub,Int.reduceNeg,Int.reduceBEq,Int.reduceBNe,d1,e2,d2,d3,n2])<;>try revert hd;refine ttr ?_)
 refine ZBA (fun m F G=>∃j tok,j<=N/\m=N - j/\Fr.get F 6=.i ((2 * j:Nat):Int)/\Fr.get F 0=eS s/\Fr.get F 5=.ptr H.next 0/\G.get H.next=some (.cells [.i (lnkN s j),.sl tok (rI (ZOW s j))] 233)/\ZCe (H.next+1) G 3 1 (j - 1) tok/\Zaa.Ext H G/\(1<=j->(ZMG s).headD 0<=2047)/\∀i n,1<=i->i<j->(ZMG s)[i]?=some n->n<2047) N (GStep.refl _ _) ⟨0,.full,zat _,rfl,rfl,rfl,rfl,Zaa.Zat rfl,.inl rfl,by exact AXT,fun h=>by omega,fun i n h1 h2=>by omega⟩ ?_
 rintro m F G ⟨j,tok,hj,rfl,f6,f0,f5,gL,hT,hx,hc0,hc1⟩
 by_cases hjN:j<N
 ·have q1:decide (((2 * j:Nat):Int)<((s.length:Nat):Int))=true:=decide_eq_true Xa
  have hb0:=byte_at (l:=s) (k:=2 * j) Xa
  have hb1:=byte_at (l:=s) (k:=2 * j+1) Xa
  have hgt:=ZQN s j Xa Xa
  have hgn:(ZMG s)[j]?=some ((ZMG s)[j]'Xa):=zab Xa
  have w1:IntKind.i64.wrap (((2 * j:Nat):Int)+1)=((2 * j+1:Nat):Int):=by rw[Zaw Xa Xa];omega
  have w2:IntKind.i64.wrap (((2 * j:Nat):Int)+2)=((2 * (j+1):Nat):Int):=by rw[Zaw Xa Xa];omega
  have z0:(0:Int)<=((2 * j:Nat):Int):=Xa
  have z1:(0:Int)<=((2 * j+1:Nat):Int):=Xa
  have tt0:((2 * j:Nat):Int).toNat=2 * j:=Xa
  have tt1:((2 * j+1:Nat):Int).toNat=2 * j+1:=Xa
  have v0:=(s[2 * j]'Xa).toNat_lt
  have v1:=(s[2 * j+1]'Xa).toNat_lt
  have hsuc:∀(hh:1<=j),ZOW s (j+1)=ZOW s j++[(((ZMG s)[j]'Xa:Nat):Int)]:=fun hh=>by
   obtain⟨j',rfl⟩:∃j',j=j'+1:=⟨j - 1,Xa⟩
   exact ZSP Xa
  have hhd:j=0->(ZMG s).headD 0=(ZMG s)[j]'Xa:=fun h=>by
   subst h
   exact ZRA Xa
  have hlen:=ZOT (s:=s) (j:=j) Xa
  generalize (ZMG s)[j]'Xa=nn at *
  generalize s[2 * j]'Xa=c0 at *
  generalize s[2 * j+1]'Xa=c1 at *
  have cw0:IntKind.i64.wrap ((c0.toNat:Nat):Int)=((c0.toNat:Nat):Int):=Zaw Xa Xa
  have cw1:IntKind.i64.wrap ((c1.toNat:Nat):Int)=((c1.toNat:Nat):Int):=Zaw Xa Xa
  have sh:IntKind.i64.wrap (((c0.toNat:Nat):Int) * 2 ^ min 8 IntKind.i64.bits)=((c0.toNat * 2 ^ 8:Nat):Int):=by
   rw[show IntKind.i64.bits=64 from rfl,show min 8 64=8 from rfl,Zaw Xa Xa]
   omega
  have o1:=or_i 8 c0.toNat c1.toNat Xa Xa
  have eo:c0.toNat * 2 ^ 8+c1.toNat=nn:=Xa
  rw[eo]at o1
  have z8':¬((8:Int)<0):=Xb
  have t8:(8:Int).toNat=8:=rfl
  have hnn:nn<65536:=Xa
  by_cases hj0:j=0
  ·subst hj0
   have d5:((((2 * 0:Nat)):Int) == 0)=true:=rfl
   by_cases hle:nn<=2047
   ·have d6:decide ((nn:Int)<=2047)=true:=decide_eq_true Xa
    have w3:IntKind.i64.wrap ((nn:Int) - 1)=(nn:Int) - 1:=Zaw Xa Xa
    have hl1:lnkN s 1=(nn:Int) - 1:=by unfold lnkN;rw[if_neg Xb,hhd rfl]
    have hlL:ZOW s 1=ZOW s 0:=by
     have a:=ZOT (s:=s) (j:=1) Xa
     have b:=ZOT (s:=s) (j:=0) Xa
     rw[zcc.1 a,zcc.1 b]
    generalize hR0:rI (ZOW s 0)=R0 at *
    have hlH:=Zaa.lt gL
    skip
    ((have hd:=tv;repeat' first|(first|apply Zad|apply Zac|apply Zab)<;>intro hd<;>try simp only[hd]|simp(disch:=first|assumption|omega|simp only[nx]<;>omega|fail)only[hd,qr,qn,Zuf,↓YA,YY,↓reduceIte,Nat.reduceEqDiff,Nat.reduceAdd,Nat.reduceMul,Nat.reduceLeDiff,Int.reduceToNat,Int.reduceLE,Int.reduceLT,Int.reduceGT,Int.reduceGE,Int.reduceAdd,Int.reduceSub,Int.reduceNeg,Int.reduceBEq,Int.reduceBNe,f6,f0,f5,gL,q1,hb0,hb1,w1,w2,w3,z0,z1,tt0,tt1,cw0,cw1,sh,o1,z8',t8,d5,d6])<;>try revert hd;refine ttr ?_)
    exact⟨N - 1,Xa,1,tok,Xa,rfl,rfl,by rw[hl1,hlL,hR0],hT.imp id fun⟨t,h1,h2,h3⟩=>⟨t,h1,h2,by rw[Zaa.Zah Xa];exact h3⟩,hx.set (zad _),fun _=>by rw[hhd rfl];omega,fun i n h1 h2=>by omega⟩
   ·have d6:decide ((nn:Int)<=2047)=false:=decide_eq_false Xa
    have d7:decide ((((2 * 0:Nat)):Int) > 0)=false:=rfl
    rw[ZRJ hgn Xa]at qr qn
    skip
    ((have hd:=tv;repeat' first|(first|apply Zad|apply Zac|apply Zab)<;>intro hd<;>try simp only[hd]|simp(disch:=first|assumption|omega|simp only[nx]<;>omega|fail)only[hd,qr,qn,Zuf,↓YA,YY,↓reduceIte,Nat.reduceEqDiff,Nat.reduceAdd,Nat.reduceMul,Nat.reduceLeDiff,Int.reduceToNat,Int.reduceLE,Int.reduceLT,Int.reduceGT,Int.reduceGE,Int.reduceAdd,Int.reduceSub,Int.reduceNeg,Int.reduceBEq,Int.reduceBNe,f6,f0,f5,gL,q1,hb0,hb1,w1,w2,z0,z1,tt0,tt1,cw0,cw1,sh,o1,z8',t8,d5,d6,d7])<;>try revert hd;refine ttr ?_)
    exact Zcm rfl hx
  ·have d5:((((2 * j:Nat)):Int) == 0)=false:=by simp only[beq_eq_false_iff_ne,ne_eq];omega
   have d7:decide ((((2 * j:Nat)):Int) > 0)=true:=decide_eq_true Xa
   have hmy:=fun K=>ZOu (nn:Int) K
   by_cases hle:nn<=2046
   ·rw[decide_eq_true Xa]at hmy
    have hsn:=hsuc Xa
    have hrl:(rI (ZOW s j)).length=j - 1:=by rw[zam,hlen]
    have hall:ZaE 1 (rI (ZOW s j))=true:=ZaU (f:=fun n:Int=>[AV.i n]) (sz:=1) (fun _=>rfl) _
    have hal2:ZaE 1 [[AV.i (nn:Int)]]=true:=rfl
    have hm1:j - 1+1<=maxLen:=ZAp Xa
    have hm2:(j - 1+1) * 8<=140737488355328:=Xa
    have hap:rI (ZOW s j)++[[AV.i (nn:Int)]]=rI (ZOW s (j+1)):=by rw[hsn];simp
    have hnx2:lnkN s (j+1)=lnkN s j:=by unfold lnkN;rw[if_neg Xa,if_neg Xa]
    have hjj:j - 1+1=j+1 - 1:=Xa
    have hlH:=Zaa.lt gL
    have hcn:∀i n,1<=i->i<j+1->(ZMG s)[i]?=some n->n<2047:=fun i n h1 h2 h3=>by
     by_cases hij:i=j
     ·subst hij
      rw[hgn]at h3
      injection h3 with h3
      omega
     ·exact hc1 i n h1 Xa h3
    generalize hR1:rI (ZOW s (j+1))=R1 at *
    generalize rI (ZOW s j)=R0 at *
    rcases hT with rfl|⟨t',ht,rfl,hgt⟩
    ·skip
     ((have hd:=tv;repeat' first|(first|apply Zad|apply Zac|apply Zab)<;>intro hd<;>try simp only[hd]|simp(disch:=first|assumption|omega|simp only[nx]<;>omega|fail)only[hd,qr,qn,Zuf,↓YA,YY,↓reduceIte,Nat.reduceEqDiff,Nat.reduceAdd,Nat.reduceMul,Nat.reduceLeDiff,Int.reduceToNat,Int.reduceLE,Int.reduceLT,Int.reduceGT,Int.reduceGE,Int.reduceAdd,Int.reduceSub,Int.reduceNeg,Int.reduceBEq,Int.reduceBNe,f6,f0,f5,gL,q1,hb0,hb1,w1,w2,z0,z1,tt0,tt1,cw0,cw1,sh,o1,z8',t8,d5,d7])<;>try revert hd;refine ttr ?_)
     refine qcp (hmy _) fun k1=>?_
     refine Bz1 (X11 f6 f0 f5 gL w2 hrl hall hal2 hm1 hm2 hap) ?_
     exact⟨N - (j+1),Xa,j+1,.own (G.next+k1),Xa,rfl,rfl,by rw[hnx2,hR1],.inr ⟨_,by have:=hx.next;omega,rfl,by rw[Zaa.Zah Xa,<- hjj];exact Zaa.Zat xN⟩,hx.bump.alloc.set (zad _),fun _=>hc0 Xa,hcn⟩
    ·have hlt:=Zaa.lt hgt
     have htH:t'≠H.next:=Xa
     skip
     ((have hd:=tv;repeat' first|(first|apply Zad|apply Zac|apply Zab)<;>intro hd<;>try simp only[hd]|simp(disch:=first|assumption|omega|simp only[nx]<;>omega|fail)only[hd,qr,qn,Zuf,↓YA,YY,↓reduceIte,Nat.reduceEqDiff,Nat.reduceAdd,Nat.reduceMul,Nat.reduceLeDiff,Int.reduceToNat,Int.reduceLE,Int.reduceLT,Int.reduceGT,Int.reduceGE,Int.reduceAdd,Int.reduceSub,Int.reduceNeg,Int.reduceBEq,Int.reduceBNe,f6,f0,f5,gL,q1,hb0,hb1,w1,w2,z0,z1,tt0,tt1,cw0,cw1,sh,o1,z8',t8,d5,d7])<;>try revert hd;refine ttr ?_)
     refine qcp (hmy _) fun k1=>?_
     refine Bz1 (X12 f6 f0 f5 gL w2 hrl hall hal2 hm1 hm2 hap hgt) ?_
     exact⟨N - (j+1),Xa,j+1,.own t',Xa,rfl,rfl,by rw[hnx2,hR1],.inr ⟨_,ht,rfl,by rw[Zaa.Zah htH,<- hjj];exact Zaa.Zal Xe⟩,(hx.bump.set Xa).set (zad _),fun _=>hc0 Xa,hcn⟩
   ·rw[decide_eq_false Xa]at hmy
    obtain⟨j',rfl⟩:∃j',j=j'+1:=⟨j - 1,Xa⟩
    rw[ZSn hgn Xa]at qr qn
    skip
    ((have hd:=tv;repeat' first|(first|apply Zad|apply Zac|apply Zab)<;>intro hd<;>try simp only[hd]|simp(disch:=first|assumption|omega|simp only[nx]<;>omega|fail)only[hd,qr,qn,Zuf,↓YA,YY,↓reduceIte,Nat.reduceEqDiff,Nat.reduceAdd,Nat.reduceMul,Nat.reduceLeDiff,Int.reduceToNat,Int.reduceLE,Int.reduceLT,Int.reduceGT,Int.reduceGE,Int.reduceAdd,Int.reduceSub,Int.reduceNeg,Int.reduceBEq,Int.reduceBNe,f6,f0,f5,gL,q1,hb0,hb1,w1,w2,z0,z1,tt0,tt1,cw0,cw1,sh,o1,z8',t8,d5,d7])<;>try revert hd;refine ttr ?_)
    refine qcp (hmy _) fun k1=>?_
    refine Bz1 (X3 f6 f0 f5) ?_
    exact Zcm rfl hx.bump
 ·obtain rfl:j=N:=Xa
  have q1:decide (((2 * j:Nat):Int)<((s.length:Nat):Int))=false:=decide_eq_false Xa
  have hch:chT s=some (lnkN s j,ZOW s j):=by
   unfold chT lnkN ZOW
   rw[if_neg Xa,zav Xa]
   cases ht:ZMG s with
   | nil=>rw[ht]at hNN;simp at hNN;omega
   | cons a r =>
    simp only
    rw[ht]at hc0 hc1
    rw[if_pos ⟨h2,Xa,hc0 Xa,fun x hx=>by
     obtain⟨i,hi,rfl⟩:=zaK hx
     exact hc1 (i+1) _ Xa (by rw[ht]at hNN;simp at hNN;omega) (by rw[List.getElem?_cons_succ,zab hi])⟩]
    rfl
  rw[hch]at qr qn
  skip
  refine Bz1 (X5 f6 f0 f5 gL q1) ?_
  exact Zc1 (wkn3 _ _ _ _) hx
open Go.RowKit Go.Lib
theorem rI_take (l:List Int) (n:Nat):List.take n (rI l)=rI (l.take n):=by rw[<- zcE]
theorem rI_drop (l:List Int) (n:Nat):List.drop n (rI l)=rI (l.drop n):=by rw[<- List.map_drop]
theorem ZRc (t1 t2:Tok) (own pages:List Int) (H:Zaa) (hp:pages.length<=100000) (ho:(own.length:Int)=ZL3 pages.length) (h1:∀x∈own,0<=x/\x<=2046) (h2:∀x∈pages,0<=x/\x<=2046):Zay Tryz.prog 113 [.sl t1 (rI own),.sl t2 (rI pages)] H (SplQ (ZPB own own.length 0 pages) H):=by
 have hol:own.length<=100000:=by
  have:ZL3 pages.length<=pages.length:=by unfold ZL3;split<;>omega
  omega
 have hr1:(rI own).length=own.length:=Xc
 have hr2:(rI pages).length=pages.length:=Xc
 have hcn:=fun K=>ZMj (pages.length:Int) K Xa Xa
 rw[<- ho]at hcn
 have d1:(((own.length:Nat):Int) != ((own.length:Nat):Int))=false:=Xc
 refine fnQ ZKB fun Q qr qn=>?_
 refine Bz1 (X2 hr1 hr2) ?_
 refine qcp (hcn _) fun k1=>?_
 ((have hd:=tv;repeat' first|(first|apply Zad|apply Zac|apply Zab)<;>intro hd<;>try simp only[hd]|simp(disch:=first|assumption|omega|simp only[nx]<;>omega|fail)only[hd,qr,qn,ZpX,↓YA,YY,↓reduceIte,Nat.reduceEqDiff,Nat.reduceAdd,Nat.reduceMul,Nat.reduceLeDiff,Int.reduceToNat,Int.reduceLE,Int.reduceLT,Int.reduceGT,Int.reduceGE,Int.reduceAdd,Int.reduceSub,Int.reduceNeg,Int.reduceBEq,Int.reduceBNe,hr1,d1])<;>try revert hd;refine ttr ?_)
 refine ZbJ (N:=own.length) (fun k F G=>Fr.get F 20=.i (k:Int)/\Fr.get F 19=.i (own.length:Int)/\Fr.get F 0=.sl t1 (rI own)/\Zaa.Ext H G/\∃acc tok tp l,Fr.get F 1=.sl tp (rI l)/\Fr.get F 6=.sl tok (rS acc)/\acc.length=k/\ZCe H.next G 9 1 k tok/\l.length<=100000/\(∀x∈l,0<=x/\x<=2046)/\acc++ZPB own (own.length - k) k l=ZPB own own.length 0 pages) Xd (fun k F G h=>⟨h.1,h.2.1⟩) (GStep.refl _ _) ⟨rfl,rfl,rfl,by exact AXT,[],.full,t2,pages,rfl,rfl,rfl,.inl rfl,hp,h2,rfl⟩ ?_ ?_
 ·rintro k F G hk ⟨f20,f19,f0,hx,acc,tok,tp,l,f1,f6,hal,hT,hll,hlm,he⟩
  have w1:IntKind.i64.wrap ((k:Int)+1)=((k+1:Nat):Int):=by rw[Zaw Xa Xa];omega
  have hlr:(rI l).length=l.length:=Xc
  have hlal:ZaE 1 (rI l)=true:=ZaU (f:=fun n:Int=>[AV.i n]) (sz:=1) (fun _=>rfl) _
  have hmn:(if (122:Int)<((l.length:Nat):Int) then 122 else ((l.length:Nat):Int))=((min l.length 122:Nat):Int):=by split<;>omega
  have hmn':(if (((l.length:Nat):Int))<122 then ((l.length:Nat):Int) else 122)=((min l.length 122:Nat):Int):=by split<;>omega
  have z0:(0:Int)<=((min l.length 122:Nat):Int):=Xa
  have b1:min l.length 122<=l.length:=Xa
  have e1:=rI_take l (min l.length 122)
  have e2:List.drop (min l.length 122) (List.take l.length (rI l))=rI (l.drop (min l.length 122)):=by rw[zav Xc,rI_drop]
  rw[show own.length - k=(own.length - (k+1))+1 by omega,ZPB]at he
  have htk:l.take 122=l.take (min l.length 122):=by
   by_cases h:l.length<=122
   ·rw[zaP h,zaz,zav h]
   ·rw[zbC Xa]
  have hdr:l.drop 122=l.drop (min l.length 122):=by
   by_cases h:l.length<=122
   ·rw[zaP h,List.drop_length,zbg h]
   ·rw[zbC Xa]
  rw[htk,hdr]at he
  have hput:∀(nxt:Int) (t:Tok) K,-1<=nxt/\nxt<=2046->Zay Tryz.prog 160 [.i nxt,.sl t (rI (l.take (min l.length 122)))] K (Pure K (.tup [eS (chP nxt (l.take (min l.length 122))),.i 0])):=fun nxt t K hnx=>ZQ3 nxt t _ K (by rw[zaj];omega) hnx fun x hx=>hlm x (zaB hx)
  have hdm:∀x∈l.drop (min l.length 122),0<=x/\x<=2046:=fun x hx=>hlm x (zaW hx)
  have hdl:(l.drop (min l.length 122)).length<=100000:=by rw[zaq];omega
  have hrl:(rS acc).length=k:=by simp[hal]
  have hall:ZaE 1 (rS acc)=true:=ZaU (f:=fun s:Tx=>[eS s]) (sz:=1) (fun _=>rfl) _
  have hm1:k+1<=maxLen:=by unfold maxLen;omega
  have hm2:(k+1) * 16<=140737488355328:=Xa
  have key:∀nxt:Int,nxt=(if k+1<own.length then own.getD (k+1) 0 else -1)->(acc++[chP nxt (l.take (min l.length 122))])++ZPB own (own.length - (k+1)) (k+1) (l.drop (min l.length 122))=ZPB own own.length 0 pages:=fun nxt h=>by
   rw[<- he,h,zan]
   rfl
  clear he htk hdr
  generalize hld:l.drop (min l.length 122)=ld at *
  generalize l.take (min l.length 122)=lt at *
  generalize min l.length 122=mn at *
  generalize rI l=Rl at *
  by_cases hk1:k+1<own.length
  ·have d2:decide (((k+1:Nat):Int)<((own.length:Nat):Int))=true:=decide_eq_true Xa
   have hro:(rI own)[k+1]?=some [.i own[k+1]]:=by simp[hk1]
   have zk:(0:Int)<=((k+1:Nat):Int):=Xa
   have hok:=h1 own[k+1] (zau hk1)
   have key:=key own[k+1] (by rw[if_pos hk1,zai,zab hk1];rfl)
   generalize own[k+1]=nxt at *
   have hput:=fun t K=>hput nxt t K Xa
   have hsn:=ZQO acc (chP nxt lt)
   have hal2:ZaE 1 [[eS (chP nxt lt)]]=true:=rfl
   have hacl:(acc++[chP nxt lt]).length=k+1:=by rw[zac,hal];rfl
   generalize hR1:rS (acc++[chP nxt lt])=R1 at hsn
   generalize hR0:rS acc=R0 at *
   generalize chP nxt lt=pc at *
   generalize rI lt=Rt at *
   generalize hRd:rI ld=Rd at *
   rcases hT with rfl|⟨t',ht,rfl,hgt⟩
   ·skip
    ((have hd:=tv;repeat' first|(first|apply Zad|apply Zac|apply Zab)<;>intro hd<;>try simp only[hd]|simp(disch:=first|assumption|omega|simp only[nx]<;>omega|fail)only[hd,qr,qn,ZpX,↓YA,YY,↓reduceIte,Nat.reduceEqDiff,Nat.reduceAdd,Nat.reduceMul,Nat.reduceLeDiff,Int.reduceToNat,Int.reduceLE,Int.reduceLT,Int.reduceGT,Int.reduceGE,Int.reduceAdd,Int.reduceSub,Int.reduceNeg,Int.reduceBEq,Int.reduceBNe,f20,f19,f0,f1,f6,w1,hr1,hlr,hlal,d2,hro,zk,hmn,hmn',z0,b1,e1,Zdi,zat,true_or,or_true])<;>try revert hd;refine ttr ?_)
    refine qcp (hput _ _) fun k2=>?_
    ((have hd:=tv;repeat' first|(first|apply Zad|apply Zac|apply Zab)<;>intro hd<;>try simp only[hd]|simp(disch:=first|assumption|omega|simp only[nx]<;>omega|fail)only[hd,qr,qn,ZpX,↓YA,YY,↓reduceIte,Nat.reduceEqDiff,Nat.reduceAdd,Nat.reduceMul,Nat.reduceLeDiff,Int.reduceToNat,Int.reduceLE,Int.reduceLT,Int.reduceGT,Int.reduceGE,Int.reduceAdd,Int.reduceSub,Int.reduceNeg,Int.reduceBEq,Int.reduceBNe,f20,f19,f0,f1,f6,hlr,hlal,z0,b1,e2,hrl,hall,hal2,hm1,hm2,hsn,Zdi,zad,true_or,or_true])<;>try revert hd;refine ttr ?_)
    exact⟨hx.bump.alloc,acc++[pc],.own (G.next+k2),_,ld,by rw[hRd],by rw[hR1],hacl,.inr ⟨_,by have:=hx.next;omega,rfl,Zaa.Zat xN⟩,hdl,hdm,key⟩
   ·skip
    ((have hd:=tv;repeat' first|(first|apply Zad|apply Zac|apply Zab)<;>intro hd<;>try simp only[hd]|simp(disch:=first|assumption|omega|simp only[nx]<;>omega|fail)only[hd,qr,qn,ZpX,↓YA,YY,↓reduceIte,Nat.reduceEqDiff,Nat.reduceAdd,Nat.reduceMul,Nat.reduceLeDiff,Int.reduceToNat,Int.reduceLE,Int.reduceLT,Int.reduceGT,Int.reduceGE,Int.reduceAdd,Int.reduceSub,Int.reduceNeg,Int.reduceBEq,Int.reduceBNe,f20,f19,f0,f1,f6,w1,hr1,hlr,hlal,d2,hro,zk,hmn,hmn',z0,b1,e1,Zdi,zat,true_or,or_true])<;>try revert hd;refine ttr ?_)
    refine qcp (hput _ _) fun k2=>?_
    ((have hd:=tv;repeat' first|(first|apply Zad|apply Zac|apply Zab)<;>intro hd<;>try simp only[hd]|simp(disch:=first|assumption|omega|simp only[nx]<;>omega|fail)only[hd,qr,qn,ZpX,↓YA,YY,↓reduceIte,Nat.reduceEqDiff,Nat.reduceAdd,Nat.reduceMul,Nat.reduceLeDiff,Int.reduceToNat,Int.reduceLE,Int.reduceLT,Int.reduceGT,Int.reduceGE,Int.reduceAdd,Int.reduceSub,Int.reduceNeg,Int.reduceBEq,Int.reduceBNe,f20,f19,f0,f1,f6,hlr,hlal,z0,b1,e2,hrl,hall,hal2,hm1,hm2,hsn,hgt,Zdi,zad,true_or,or_true])<;>try revert hd;refine ttr ?_)
    exact⟨hx.bump.set ht,acc++[pc],.own t',_,ld,by rw[hRd],by rw[hR1],hacl,.inr ⟨_,ht,rfl,Zaa.Zal (by have:=Zaa.lt hgt;simp only[nx];omega)⟩,hdl,hdm,key⟩
  ·have d2:decide (((k+1:Nat):Int)<((own.length:Nat):Int))=false:=decide_eq_false Xa
   have key:=key (-1) (by rw[if_neg hk1])
   have hput:=fun t K=>hput (-1) t K Xa
   have hsn:=ZQO acc (chP (-1) lt)
   have hal2:ZaE 1 [[eS (chP (-1) lt)]]=true:=rfl
   have hacl:(acc++[chP (-1) lt]).length=k+1:=by rw[zac,hal];rfl
   generalize hR1:rS (acc++[chP (-1) lt])=R1 at hsn
   generalize hR0:rS acc=R0 at *
   generalize chP (-1) lt=pc at *
   generalize rI lt=Rt at *
   generalize hRd:rI ld=Rd at *
   rcases hT with rfl|⟨t',ht,rfl,hgt⟩
   ·skip
    ((have hd:=tv;repeat' first|(first|apply Zad|apply Zac|apply Zab)<;>intro hd<;>try simp only[hd]|simp(disch:=first|assumption|omega|simp only[nx]<;>omega|fail)only[hd,qr,qn,ZpX,↓YA,YY,↓reduceIte,Nat.reduceEqDiff,Nat.reduceAdd,Nat.reduceMul,Nat.reduceLeDiff,Int.reduceToNat,Int.reduceLE,Int.reduceLT,Int.reduceGT,Int.reduceGE,Int.reduceAdd,Int.reduceSub,Int.reduceNeg,Int.reduceBEq,Int.reduceBNe,f20,f19,f0,f1,f6,w1,hr1,hlr,hlal,d2,hmn,hmn',z0,b1,e1,Zdi,zat,true_or,or_true])<;>try revert hd;refine ttr ?_)
    refine qcp (hput _ _) fun k2=>?_
    ((have hd:=tv;repeat' first|(first|apply Zad|apply Zac|apply Zab)<;>intro hd<;>try simp only[hd]|simp(disch:=first|assumption|omega|simp only[nx]<;>omega|fail)only[hd,qr,qn,ZpX,↓YA,YY,↓reduceIte,Nat.reduceEqDiff,Nat.reduceAdd,Nat.reduceMul,Nat.reduceLeDiff,Int.reduceToNat,Int.reduceLE,Int.reduceLT,Int.reduceGT,Int.reduceGE,Int.reduceAdd,Int.reduceSub,Int.reduceNeg,Int.reduceBEq,Int.reduceBNe,f20,f19,f0,f1,f6,hlr,hlal,z0,b1,e2,hrl,hall,hal2,hm1,hm2,hsn,Zdi,zad,true_or,or_true])<;>try revert hd;refine ttr ?_)
    exact⟨hx.bump.alloc,acc++[pc],.own (G.next+k2),_,ld,by rw[hRd],by rw[hR1],hacl,.inr ⟨_,by have:=hx.next;omega,rfl,Zaa.Zat xN⟩,hdl,hdm,key⟩
   ·skip
    ((have hd:=tv;repeat' first|(first|apply Zad|apply Zac|apply Zab)<;>intro hd<;>try simp only[hd]|simp(disch:=first|assumption|omega|simp only[nx]<;>omega|fail)only[hd,qr,qn,ZpX,↓YA,YY,↓reduceIte,Nat.reduceEqDiff,Nat.reduceAdd,Nat.reduceMul,Nat.reduceLeDiff,Int.reduceToNat,Int.reduceLE,Int.reduceLT,Int.reduceGT,Int.reduceGE,Int.reduceAdd,Int.reduceSub,Int.reduceNeg,Int.reduceBEq,Int.reduceBNe,f20,f19,f0,f1,f6,w1,hr1,hlr,hlal,d2,hmn,hmn',z0,b1,e1,Zdi,zat,true_or,or_true])<;>try revert hd;refine ttr ?_)
    refine qcp (hput _ _) fun k2=>?_
    ((have hd:=tv;repeat' first|(first|apply Zad|apply Zac|apply Zab)<;>intro hd<;>try simp only[hd]|simp(disch:=first|assumption|omega|simp only[nx]<;>omega|fail)only[hd,qr,qn,ZpX,↓YA,YY,↓reduceIte,Nat.reduceEqDiff,Nat.reduceAdd,Nat.reduceMul,Nat.reduceLeDiff,Int.reduceToNat,Int.reduceLE,Int.reduceLT,Int.reduceGT,Int.reduceGE,Int.reduceAdd,Int.reduceSub,Int.reduceNeg,Int.reduceBEq,Int.reduceBNe,f20,f19,f0,f1,f6,hlr,hlal,z0,b1,e2,hrl,hall,hal2,hm1,hm2,hsn,hgt,Zdi,zad,true_or,or_true])<;>try revert hd;refine ttr ?_)
    exact⟨hx.bump.set ht,acc++[pc],.own t',_,ld,by rw[hRd],by rw[hR1],hacl,.inr ⟨_,ht,rfl,Zaa.Zal (by have:=Zaa.lt hgt;simp only[nx];omega)⟩,hdl,hdm,key⟩
 ·rintro F G ⟨f20,f19,f0,hx,acc,tok,tp,l,f1,f6,hal,hT,hll,hlm,he⟩
  rw[Nat.sub_self,ZPB,zaI]at he
  subst he
  skip
  refine Bz1 (X1 f6) ?_
  exact Zaq ⟨hx,tok,rfl,by rw[hal];exact hT⟩
open Go.RowKit Go.Lib
def ZMO (ms:List Int):List (Int×Int):=ms.map fun n=>(n,1)
theorem ZNu (n:Int):∀ms:List Int,Zcz n (ZMO ms)=if n∈ms then some 1 else none
 | []=>by simp[ZMO,Zcz]
 | a :: ms=>by
  have ih:=ZNu n ms
  unfold ZMO at ih ⊢
  simp only[zaD,Zcz,ih]
  by_cases h:n=a
  ·simp[h]
  ·simp[h]
theorem ZOU {n:Int}:∀{ms:List Int},n ∉ ms->ZbU n 1 (ZMO ms)=ZMO (ms++[n])
 | [],_=>rfl
 | a :: ms,h=>by
  have h1:n≠a:=fun e=>h (by rw[e];exact zak)
  have ih:=ZOU (n:=n) (ms:=ms) fun hm=>h (zar _ hm)
  unfold ZMO at ih ⊢
  simp only[zaD,ZbU,if_neg h1,ih,List.cons_append]
abbrev ZN0 (ms:List Int):Zb3:=.map (.one (.int .i64)) (Zgf kI AV.i (ZMO ms)) false
def FrsR (M:Nat) (ms l:List Int) (H:Zaa) (r:AV) (G:Zaa):Prop:=KF (·=M) H G/\(((ms++l).Nodup/\r=.b true/\G.get M=some (ZN0 (ms++l)))\/(¬(ms++l).Nodup/\r=.b false))
theorem ZN7 (B M:Nat) (E0:TypeId) (t:Tok) (ms l:List Int) (H:Zaa) (hl:l.length<=100000) (hB:H.get B=some (.cells [.mp M] E0)) (hM:H.get M=some (ZN0 ms)) (hnd:ms.Nodup):Zay Tryz.prog 102 [.sl t (rI l),.ptr B 0] H (FrsR M ms l H):=by
 have hBM:B≠M:=fun e=>by rw[e,hM]at hB;cases hB
 have hrl:(rI l).length=l.length:=Xc
 refine fnQ cf102 fun Q qr qn=>?_
 refine Bz1 (X1 hrl) ?_
 refine ZbJ (N:=l.length) (fun k F G=>Fr.get F 8=.i (k:Int)/\Fr.get F 7=.i (l.length:Int)/\Fr.get F 6=.sl t (rI l)/\Fr.get F 1=.ptr B 0/\G.get B=some (.cells [.mp M] E0)/\G.get M=some (ZN0 (ms++l.take k))/\(ms++l.take k).Nodup/\KF (·=M) H G) Xd (fun k F G h=>⟨h.1,h.2.1⟩) (GStep.refl _ _) ⟨rfl,rfl,rfl,rfl,hB,by rw[List.take_zero,zaI];exact hM,by rw[List.take_zero,zaI];exact hnd,KF.refl _ _⟩ ?_ ?_
 ·rintro k F G hk ⟨f8,f7,f6,f1,gB,gM,hn,hx⟩
  have z0:(0:Int)<=(k:Int):=Xa
  have hr:(rI l)[k]?=some [.i l[k]]:=by simp[hk]
  have htk:ms++l.take (k+1)=(ms++l.take k)++[l[k]]:=by rw[zas hk,zan]
  have hpre:(ms++l.take k)++[l[k]]++l.drop (k+1)=ms++l:=by
   rw[<- htk,zan,zaS]
  have hfind:=ZbV (vf:=AV.i) ZkH l[k] (ZMO (ms++l.take k))
  rw[ZNu]at hfind
  have hof:=ZrS l[k]
  have hlM:=Zaa.lt gM
  generalize hms:ms++l.take k=mk at *
  have gM:G.get M=some (.map (.one (.int .i64)) (Zgf kI AV.i (ZMO mk)) false):=gM
  generalize l[k]=n at *
  generalize rI l=Rl at *
  by_cases hm:n∈mk
  ·rw[if_pos hm]at hfind
   have hfind:ZdG (kI n) (Zgf kI AV.i (ZMO mk))=some (.i 1):=hfind
   have hset:=ZcH (vf:=AV.i) ZkH n 2 (ZMO mk)
   have hf2:=ZbV (vf:=AV.i) ZkH n (ZbU n 2 (ZMO mk))
   rw[ZdP]at hf2
   have hf2:ZdG (kI n) (Zgf kI AV.i (ZbU n 2 (ZMO mk)))=some (.i 2):=hf2
   have w2:IntKind.i64.wrap (1+1)=2:=rfl
   have w2':IntKind.i64.wrap 2=2:=rfl
   have d2:decide ((2:Int) > 1)=true:=rfl
   generalize Zgf kI AV.i (ZbU n 2 (ZMO mk))=e2 at *
   generalize Zgf kI AV.i (ZMO mk)=e1 at *
   skip
   ((have hd:=tv;repeat' first|(first|apply Zad|apply Zac|apply Zab)<;>intro hd<;>try simp only[hd]|simp(disch:=first|assumption|omega|simp only[nx]<;>omega|fail)only[hd,qr,qn,Zdc,↓YA,YY,↓reduceIte,Nat.reduceEqDiff,Nat.reduceAdd,Nat.reduceMul,Nat.reduceLeDiff,Int.reduceToNat,Int.reduceLE,Int.reduceLT,Int.reduceGT,Int.reduceGE,Int.reduceAdd,Int.reduceSub,Int.reduceNeg,Int.reduceBEq,Int.reduceBNe,f8,f7,f6,f1,gB,gM,z0,hr,hof,hfind,hset,hf2,w2,w2',d2,hBM])<;>try revert hd;refine ttr ?_)
   refine Zaq ⟨hx.set (.inl rfl),.inr ⟨fun h=>?_,rfl⟩⟩
   rw[<- hpre,zan]at h
   have:=(zbl.1 h).2.2
   exact this n hm n Xc rfl
  ·rw[if_neg hm]at hfind
   have hfind:ZdG (kI n) (Zgf kI AV.i (ZMO mk))=none:=hfind
   have hset:=ZcH (vf:=AV.i) ZkH n 1 (ZMO mk)
   rw[ZOU hm]at hset
   have hf2:=ZbV (vf:=AV.i) ZkH n (ZMO (mk++[n]))
   rw[ZNu,if_pos Xc]at hf2
   have hf2:ZdG (kI n) (Zgf kI AV.i (ZMO (mk++[n])))=some (.i 1):=hf2
   have w1:IntKind.i64.wrap (0+1)=1:=rfl
   have w1':IntKind.i64.wrap 1=1:=rfl
   have d2:decide ((1:Int) > 1)=false:=rfl
   have hnd2:(mk++[n]).Nodup:=by
    rw[zbl]
    exact⟨hn,Xc,fun a ha b hb=>by
     rw[zbr]at hb
     subst hb
     exact fun e=>hm (e ▸ ha)⟩
   generalize he2:Zgf kI AV.i (ZMO (mk++[n]))=e2 at *
   generalize Zgf kI AV.i (ZMO mk)=e1 at *
   skip
   ((have hd:=tv;repeat' first|(first|apply Zad|apply Zac|apply Zab)<;>intro hd<;>try simp only[hd]|simp(disch:=first|assumption|omega|simp only[nx]<;>omega|fail)only[hd,qr,qn,Zdc,↓YA,YY,↓reduceIte,Nat.reduceEqDiff,Nat.reduceAdd,Nat.reduceMul,Nat.reduceLeDiff,Int.reduceToNat,Int.reduceLE,Int.reduceLT,Int.reduceGT,Int.reduceGE,Int.reduceAdd,Int.reduceSub,Int.reduceNeg,Int.reduceBEq,Int.reduceBNe,f8,f7,f6,f1,gB,gM,z0,hr,hof,hfind,hset,hf2,w1,w1',d2,hBM])<;>try revert hd;refine ttr ?_)
   refine⟨?_,?_,?_⟩
   ·rw[htk]
    show _=some (Zb3.map (.one (.int .i64)) (Zgf kI AV.i (ZMO (mk++[n]))) false)
    rw[he2]
   ·rw[htk]
    exact hnd2
   ·exact hx.set (.inl rfl)
 ·rintro F G ⟨f8,f7,f6,f1,gB,gM,hn,hx⟩
  rw[zaz]at gM hn
  skip
  refine Bz0 ?_
  exact Zaq ⟨hx,.inl ⟨hn,rfl,gM⟩⟩
open Go.RowKit Go.Lib
structure RdF (f:FuncId) (p:AV) (rd:Int->Nat->Option Tx) (St:Zaa->Prop) (Fp:Nat->Prop) (b:Nat):Prop where
 st:∀{H G:Zaa},St H->H.next<=G.next->(∀i o,i<b->H.get i=some o->G.get i=some o)->St G
 fp:∀i,Fp i->i<b
 len:∀a ix s,rd a ix=some s->s.length<=100000
 go:∀(H:Zaa) (a:Int) (ix:Nat),St H->InI a->ix<=100000->Zay Tryz.prog f [p,.i a,.i (ix:Int)] H fun r G=>r=isV (rd a ix)/\St G/\KF Fp H G
def ZO3 (rd:Int->Nat->Option Tx) (pages first:Int):Option (List Int×List Int):=match ZMw rd pages (ZL3 pages).toNat 0 first [] []with
 | some x=>if (x.1++x.2).Nodup then some x else none
 | none=>none
theorem ZN5 (rd:Int->Nat->Option Tx) (pages:Int):∀(m i:Nat) (a:Int) (own list o l:List Int),ZMw rd pages m i a own list=some (o,l)->own <+: o/\list <+: l
 | 0,i,a,own,list,o,l,h=>by
  simp only[ZMw,zaa,zaf]at h
  obtain⟨rfl,rfl⟩:=h
  exact⟨zcn _,zcn _⟩
 | m+1,i,a,own,list,o,l,h=>by
  unfold ZMw at h
  cases h1:rd a i with
  | none=>rw[h1]at h;cases h
  | some s =>
  rw[h1,Option.bind_some]at h
  cases h2:chT s with
  | none=>rw[h2]at h;cases h
  | some x =>
  rw[h2,Option.bind_some]at h
  split at h
  ·obtain⟨q1,q2⟩:=ZN5 rd pages m (i+1) x.1 _ _ o l h
   exact⟨List.IsPrefix.trans (zcC _ _) q1,List.IsPrefix.trans (zcC _ _) q2⟩
  ·cases h
theorem ZRX {a b c d:List Int} (h1:a <+: c) (h2:b <+: d) (h:(c++d).Nodup):(a++b).Nodup:=by
 obtain⟨x,rfl⟩:=h1
 obtain⟨y,rfl⟩:=h2
 have e:(a++x++(b++y)).Perm ((a++b)++(x++y)):=by
  rw[zan,zan]
  refine List.Perm.append_left a ?_
  rw[<- zan,<- zan]
  exact zck y zbE
 exact(zbl.1 (e.nodup_iff.1 h)).1
theorem ZRl {rd:Int->Nat->Option Tx} {pages first:Int} {m i:Nat} {a:Int} {own list:List Int} (h:ZMw rd pages (ZL3 pages).toNat 0 first [] []=ZMw rd pages m i a own list) (hn:∀o l,ZMw rd pages m i a own list=some (o,l)->¬(o++l).Nodup):ZO3 rd pages first=none:=by
 unfold ZO3
 rw[h]
 cases hf:ZMw rd pages m i a own list with
 | none=>rfl
 | some x=>simp only;rw[if_neg (hn x.1 x.2 hf)]
def FolQ (St:Zaa->Prop) (Fp:Nat->Prop) (o:Option (List Int×List Int)) (H:Zaa) (r:AV) (G:Zaa):Prop:=St G/\KF Fp H G/\match o with
 | some (own,list)=>∃t1 t2,r=.tup [.sl t1 (rI own),.sl t2 (rI list),.i 0]
 | none=>r=.tup [.sl .full [],.sl .full [],.i 15]
def TokB (b:Nat) (G:Zaa) (n:Nat) (t:Tok):Prop:=t=.full\/∃i,b<=i/\t=.own i/\G.get i=some (.tok n 3 1)
theorem ZN2 {rd:Int->Nat->Option Tx} {pages:Int} {m i:Nat} {a:Int} {own list l:List Int} {s:Tx} {nxt:Int} (h1:rd a i=some s) (h2:chT s=some (nxt,l)):ZMw rd pages (m+1) i a own list=if (l.length:Int)=min (pages - list.length) 122/\(m=0 ↔ nxt<0) then ZMw rd pages m (i+1) nxt (own++[a]) (list++l) else none:=by
 rw[ZMw,h1,Option.bind_some,h2,Option.bind_some]
theorem ZQ6 {rd:Int->Nat->Option Tx} {pages:Int} {m i:Nat} {a:Int} {own list:List Int} (h1:rd a i=none):ZMw rd pages (m+1) i a own list=none:=by
 rw[ZMw,h1]
 rfl
theorem ZQR {rd:Int->Nat->Option Tx} {pages:Int} {m i:Nat} {a:Int} {own list:List Int} {s:Tx} (h1:rd a i=some s) (h2:chT s=none):ZMw rd pages (m+1) i a own list=none:=by
 rw[ZMw,h1,Option.bind_some,h2]
 rfl
theorem chT_in {s:Tx} {n:Int} {l:List Int} (h:chT s=some (n,l)) : -1<=n/\n<=2046/\l.length<=122/\∀x∈l,0<=x/\x<=2046:=by
 unfold chT at h
 split at h
 ·rename_i m r e
  split at h
  ·rename_i hc
   obtain⟨c1,c2,c3,c4⟩:=hc
   simp only[zaa,zaf]at h
   obtain⟨rfl,rfl⟩:=h
   have:=congrArg List.length e
   rw[ZNm,List.length_cons]at this
   refine⟨Xa,Xa,by rw[zam];omega,fun x hx=>?_⟩
   obtain⟨y,hy,rfl⟩:=zaH.1 hx
   have:=c4 y hy
   simp only[Int.ofNat_eq_natCast]
   omega
  ·cases h
 ·cases h
theorem rI_app (l m:List Int):rI l++rI m=rI (l++m):=Xc
section
variable {f:FuncId} {p:AV} {rd:Int->Nat->Option Tx} {St:Zaa->Prop} {Fp:Nat->Prop} {H:Zaa}
structure ZMP (St:Zaa->Prop) (Fp:Nat->Prop) (H:Zaa) (tw tz:Tok) (own list:List Int) (G:Zaa):Prop where
 st:St G
 kf:KF Fp H G
 o:TokB H.next G own.length tw
 l:TokB H.next G list.length tz
 ne:∀i,tw=.own i->tz≠.own i
 b:G.get (H.next+1)=some (.cells [.mp H.next] 172)
theorem TokB.keep {b:Nat} {G K:Zaa} {n:Nat} {t:Tok} (h:TokB b G n t) (k:∀i o,b<=i->i≠b->G.get i=some o->K.get i=some o) (hb:∀n,G.get b≠some (.tok n 3 1)):TokB b K n t:=by
 rcases h with h|⟨i,h1,h2,h3⟩
 ·exact .inl h
 ·exact .inr ⟨i,h1,h2,k i _ h1 (fun e=>hb n (e ▸ h3)) h3⟩
theorem ZMP.read (hR:RdF f p rd St Fp H.next) {tw tz:Tok} {own list ms:List Int} {G K:Zaa} (h:ZMP St Fp H tw tz own list G) (hm:G.get H.next=some (ZN0 ms)) (hs:St K) (k:KF Fp G K):ZMP St Fp H tw tz own list K/\K.get H.next=some (ZN0 ms):=by
 have old:∀i o,H.next<=i->G.get i=some o->K.get i=some o:=fun i o hi ho=>k.g i o (fun hf=>by have:=hR.fp i hf;omega) ho
 exact⟨⟨hs,h.kf.ZeP k,h.o.keep (fun i o hi _ ho=>old i o hi ho) (by rw[hm];intro n e;cases e),h.l.keep (fun i o hi _ ho=>old i o hi ho) (by rw[hm];intro n e;cases e),h.ne,old _ _ Xa h.b⟩,old _ _ (zad _) hm⟩
theorem ZMP.bump (hR:RdF f p rd St Fp H.next) {tw tz:Tok} {own list ms:List Int} {G:Zaa} (h:ZMP St Fp H tw tz own list G) (hm:G.get H.next=some (ZN0 ms)) (k:Nat):ZMP St Fp H tw tz own list (G.bump k)/\(G.bump k).get H.next=some (ZN0 ms) :=
 h.read hR hm (hR.st h.st Xe fun i o _ ho=>by rw[Zaa.ZaB];exact ho) ((KF.refl _ _).bump k)
theorem ZMP.mark (hR:RdF f p rd St Fp H.next) {tw tz:Tok} {own list ms:List Int} {G K:Zaa} (h:ZMP St Fp H tw tz own list G) (hm:G.get H.next=some (ZN0 ms)) (k:KF (·=H.next) G K):ZMP St Fp H tw tz own list K :=
 ⟨hR.st h.st k.n fun i o hi ho=>k.g i o Xa ho,h.kf.trans k fun i hi=>.inr Xa,h.o.keep (fun i o _ hi ho=>k.g i o hi ho) (by rw[hm];intro n e;cases e),h.l.keep (fun i o _ hi ho=>k.g i o hi ho) (by rw[hm];intro n e;cases e),h.ne,k.g _ _ Xa h.b⟩
end
open Go.RowKit Go.Lib
section
variable {f:FuncId} {p:AV} {rd:Int->Nat->Option Tx} {St:Zaa->Prop} {Fp:Nat->Prop} {H:Zaa}
theorem ZMP.addA (hR:RdF f p rd St Fp H.next) {tz:Tok} {own list ms:List Int} {G:Zaa} (h:ZMP St Fp H .full tz own list G) (hm:G.get H.next=some (ZN0 ms)) (x:Int) (n:Nat) (hn:n=own.length+1):ZMP St Fp H (.own G.next) tz (own++[x]) list (G.alloc (.tok n 3 1))/\(G.alloc (.tok n 3 1)).get H.next=some (ZN0 ms):=by
 have old:∀i o,G.get i=some o->(G.alloc (.tok n 3 1)).get i=some o:=fun i o ho=>(Zaa.Ext.refl G).alloc.get _ _ ho
 have hlt:=Zaa.lt hm
 refine⟨⟨hR.st h.st Xe fun i o _ ho=>old i o ho,h.kf.alloc,.inr ⟨_,Xa,rfl,by rw[zac,hn];exact Zaa.Zat rfl⟩,h.l.keep (fun i o _ _ ho=>old i o ho) (by rw[hm];intro n e;cases e),fun i e ez=>?_,old _ _ h.b⟩,old _ _ hm⟩
 cases e
 rcases h.l with hl|⟨j,h1,h2,h3⟩
 ·rw[hl]at ez;cases ez
 ·rw[h2]at ez
  cases ez
  have:=Zaa.lt h3
  omega
theorem ZMP.addS (hR:RdF f p rd St Fp H.next) {i:Nat} {tz:Tok} {own list ms:List Int} {G:Zaa} (h:ZMP St Fp H (.own i) tz own list G) (hm:G.get H.next=some (ZN0 ms)) (x:Int) (n:Nat) (hn:n=own.length+1):ZMP St Fp H (.own i) tz (own++[x]) list (G.set i (.tok n 3 1))/\(G.set i (.tok n 3 1)).get H.next=some (ZN0 ms):=by
 rcases h.o with ho|⟨j,h1,h2,h3⟩
 ·cases ho
 cases h2
 have hlt:=Zaa.lt h3
 have ij:i≠H.next:=fun e=>by rw[e,hm]at h3;cases h3
 have ij2:i≠H.next+1:=fun e=>by rw[e,h.b]at h3;cases h3
 have old:∀k o,k≠i->G.get k=some o->(G.set i (.tok n 3 1)).get k=some o:=fun k o hk ho=>by rw[Zaa.Zah hk];exact ho
 refine⟨⟨hR.st h.st Xe fun k o hk ho=>old k o Xa ho,h.kf.set (.inr h1),.inr ⟨_,h1,rfl,by rw[zac,hn];exact Zaa.Zal hlt⟩,?_,h.ne,old _ _ Xa h.b⟩,old _ _ Xa hm⟩
 rcases h.l with hl|⟨j,g1,g2,g3⟩
 ·exact .inl hl
 ·exact .inr ⟨j,g1,g2,old j _ (fun e=>h.ne i rfl (by rw[g2,e])) g3⟩
theorem ZMP.addLA (hR:RdF f p rd St Fp H.next) {tw:Tok} {own list ms:List Int} {G:Zaa} (h:ZMP St Fp H tw .full own list G) (hm:G.get H.next=some (ZN0 ms)) (l:List Int) (n:Nat) (hn:n=list.length+l.length):ZMP St Fp H tw (.own G.next) own (list++l) (G.alloc (.tok n 3 1))/\(G.alloc (.tok n 3 1)).get H.next=some (ZN0 ms):=by
 have old:∀i o,G.get i=some o->(G.alloc (.tok n 3 1)).get i=some o:=fun i o ho=>(Zaa.Ext.refl G).alloc.get _ _ ho
 have hlt:=Zaa.lt hm
 refine⟨⟨hR.st h.st Xe fun i o _ ho=>old i o ho,h.kf.alloc,h.o.keep (fun i o _ _ ho=>old i o ho) (by rw[hm];intro n e;cases e),.inr ⟨_,Xa,rfl,by rw[zac,hn];exact Zaa.Zat rfl⟩,fun i e ez=>?_,old _ _ h.b⟩,old _ _ hm⟩
 cases ez
 rcases h.o with hl|⟨j,h1,h2,h3⟩
 ·rw[hl]at e;cases e
 ·rw[h2]at e
  cases e
  have:=Zaa.lt h3
  omega
theorem ZMP.addLS (hR:RdF f p rd St Fp H.next) {i:Nat} {tw:Tok} {own list ms:List Int} {G:Zaa} (h:ZMP St Fp H tw (.own i) own list G) (hm:G.get H.next=some (ZN0 ms)) (l:List Int) (n:Nat) (hn:n=list.length+l.length):ZMP St Fp H tw (.own i) own (list++l) (G.set i (.tok n 3 1))/\(G.set i (.tok n 3 1)).get H.next=some (ZN0 ms):=by
 rcases h.l with ho|⟨j,h1,h2,h3⟩
 ·cases ho
 cases h2
 have hlt:=Zaa.lt h3
 have ij:i≠H.next:=fun e=>by rw[e,hm]at h3;cases h3
 have ij2:i≠H.next+1:=fun e=>by rw[e,h.b]at h3;cases h3
 have old:∀k o,k≠i->G.get k=some o->(G.set i (.tok n 3 1)).get k=some o:=fun k o hk ho=>by rw[Zaa.Zah hk];exact ho
 refine⟨⟨hR.st h.st Xe fun k o hk ho=>old k o Xa ho,h.kf.set (.inr h1),?_,.inr ⟨_,h1,rfl,by rw[zac,hn];exact Zaa.Zal hlt⟩,h.ne,old _ _ Xa h.b⟩,old _ _ Xa hm⟩
 rcases h.o with hl|⟨j,g1,g2,g3⟩
 ·exact .inl hl
 ·exact .inr ⟨j,g1,g2,old j _ (fun e=>h.ne j g2 (by rw[e])) g3⟩
theorem ZMP.addL (hR:RdF f p rd St Fp H.next) {tw tz:Tok} {own list ms:List Int} {K:Zaa} (h:ZMP St Fp H tw tz own list K) (hm:K.get H.next=some (ZN0 ms)) (l:List Int) (n:Nat) (hn:n=list.length+l.length):(tz=.full->ZMP St Fp H tw (.own K.next) own (list++l) (K.alloc (.tok n 3 1))/\(K.alloc (.tok n 3 1)).get H.next=some (ZN0 ms))/\(∀i,tz=.own i->K.get i=some (.tok list.length 3 1)/\ZMP St Fp H tw (.own i) own (list++l) (K.set i (.tok n 3 1))/\(K.set i (.tok n 3 1)).get H.next=some (ZN0 ms)) :=
 ⟨fun e=>by subst e;exact h.addLA hR hm l _ hn,fun i e=>by
  subst e
  refine⟨?_,h.addLS hR hm l _ hn⟩
  rcases h.l with h|⟨_,_,h,h'⟩
  ·cases h
  ·cases h;exact h'⟩
end
theorem ZQG {pages:Int} {N k n:Nat} (h:ZL3 pages=N) (hk:k<N) (hn:n<=122 * k):(n:Int)<pages:=by
 unfold ZL3 at h
 split at h<;>omega
theorem cons_of {pages:Int} {n:Nat} {l:List Int} (h:(n:Int)<pages) (hA:(l.length:Int)=min (pages - n) 122):∃x r,l=x :: r:=by
 cases l with
 | nil=>simp only[List.length_nil]at hA;omega
 | cons x l=>exact⟨_,_,rfl⟩
theorem folB {N k a b:Nat} (hk:k<N) (hN:N<=100000) (h:a<=122 * k) (h2:b<=122):k+1<=maxLen/\(k+1) * 8<=140737488355328/\a+b<=maxLen/\(a+b) * 8<=140737488355328/\a+b<=122 * (k+1):=by
 unfold maxLen
 omega
theorem ZAs {n:Int} (h1 : -1<=n) (h2:n<=2046):InI n:=⟨Xa,Xa⟩
theorem folW {pages:Int} {N k n:Nat} (hp:pages<=100000) (h:ZL3 pages=N) (hk:k<N) (hn:n<=122 * k):IntKind.i64.wrap (pages - (n:Int))=pages - (n:Int):=by
 have:=ZQG h hk hn
 rw[Zaw Xa Xa]
theorem mn_bne {a b:Int}:(a=min b 122->(a != if 122<b then 122 else b)=false)/\(¬a=min b 122->(a != if 122<b then 122 else b)=true):=by
 constructor
 ·intro h
  rw[bne_eq_false_iff_eq,h]
  split<;>omega
 ·intro h
  rw[bne_iff_ne]
  intro e
  apply h
  rw[e]
  split<;>omega
theorem last_bne {k N m:Nat} {nxt:Int} {lb:Bool} (hl:(((k+1:Nat):Int) == (N:Int))=lb) (hm:N - (k+1)=m) (hk:k<N):((m=0 ↔ nxt<0)->(!(lb == decide (nxt<0)))=false)/\(¬(m=0 ↔ nxt<0)->(!(lb == decide (nxt<0)))=true):=by
 have hlb:lb=true ↔ m=0:=by
  rw[<- hl,beq_iff_eq]
  omega
 constructor
 ·intro h
  rw[Bool.not_eq_false',beq_iff_eq,zbQ,decide_eq_true_iff,hlb]
  exact h
 ·intro hB
  rw[zcG,beq_eq_false_iff_ne]
  intro h
  apply hB
  rw[<- hlb,h,decide_eq_true_iff]
open Go.RowKit Go.Lib
section
variable {f:FuncId} {p:AV} {rd:Int->Nat->Option Tx} {St:Zaa->Prop} {Fp:Nat->Prop} {H:Zaa}
def FolV (St:Zaa->Prop) (Fp:Nat->Prop) (H:Zaa) (f:FuncId) (p:AV) (rd:Int->Nat->Option Tx) (pages first:Int) (N:Nat) (k:Nat) (F:Fr) (G:Zaa):Prop :=
 Fr.get F 23=.i (k:Int)/\Fr.get F 22=.i (N:Int)/\Fr.get F 1=.i pages/\Fr.get F 2=.fn f [p] []/\Fr.get F 10=.fn 102 [] [.ptr (H.next+1) 0] /\
 ∃own list ms tw tz a,Fr.get F 11=.i a/\Fr.get F 6=.sl tw (rI own)/\Fr.get F 7=.sl tz (rI list)/\InI a/\ZMP St Fp H tw tz own list G/\G.get H.next=some (ZN0 ms)/\ms.Perm (own++list)/\ms.Nodup/\own.length=k/\list.length<=122 * k/\ZMw rd pages N 0 first [] []=ZMw rd pages (N - k) k a own list
theorem ZO5 (pages first:Int) (hR:RdF f p rd St Fp H.next) (hS:St H) (hp:pages<=100000) (hp0 : -9223372036854775808<=pages) (hf:InI first):Zay Tryz.prog 56 [.i first,.i pages,.fn f [p] []] H (FolQ St Fp (ZO3 rd pages first) H):=by
 obtain⟨N,hN⟩:∃N:Nat,ZL3 pages=(N:Int):=⟨(ZL3 pages).toNat,by unfold ZL3;split<;>omega⟩
 have hN2:N<=100000:=by
  unfold ZL3 at hN
  split at hN<;>omega
 have hfol:ZO3 rd pages first=match ZMw rd pages N 0 first [] []with
  | some x=>if (x.1++x.2).Nodup then some x else none
  | none=>none:=by unfold ZO3;rw[hN];rfl
 have hcn:=fun K=>ZMj pages K hp0 Xa
 rw[hN]at hcn
 have bad:ZO3 rd pages first=none->∀K,St K->KF Fp H K->FolQ St Fp (ZO3 rd pages first) H (.tup [.sl .full [],.sl .full [],.i 15]) K:=fun e K h1 h2=>by rw[e];exact⟨h1,h2,rfl⟩
 refine fnQ cf56 fun Q qr qn=>?_
 refine Bz0 ?_
 refine qcp (hcn _) fun k1=>?_
 refine Bz0 ?_
 refine ZbJ (N:=N) (FolV St Fp H f p rd pages first N) Xd (fun k F G h=>⟨h.1,h.2.1⟩) (GStep.refl _ _) ⟨rfl,rfl,rfl,rfl,rfl,[],[],[],.full,.full,first,rfl,rfl,rfl,hf,⟨?_,?_,.inl rfl,.inl rfl,nofun,?_⟩,?_,Xc,Xc,rfl,Xc,rfl⟩ ?_ ?_
 ·exact hR.st hS Xe fun i o _ ho=>(by exact AXT:Zaa.Ext H (((H.alloc (.map (.one (.int .i64)) [] false)).alloc (.cells [.mp H.next] 172)).bump k1)).get _ _ ho
 ·exact .of (by exact AXT)
 ·rw[Zaa.ZaB]
  exact Zaa.Zat xN
 ·rw[Zaa.ZaB]
  exact(Zaa.Ext.refl _).alloc.get _ _ (Zaa.Zat rfl)
 ·rintro k F G hk ⟨f23,f22,f1,f2,f10,own,list,ms,tw,tz,a,f11,f6,f7,ha,hI,hm,hpm,hnd,hol,hll,he⟩
  have w1:IntKind.i64.wrap ((k:Int)+1)=((k+1:Nat):Int):=by rw[Zaw Xa Xa];omega
  obtain⟨m,hm1⟩:∃m,N - k=m+1:=⟨N - k - 1,Xa⟩
  have hm2':N - (k+1)=m:=Xa
  rw[hm1]at he
  have n0:((0:Int)=0)=True:=Xc
  have n15:((15:Int)=0)=False:=Xc
  skip
  refine Bz1 (X8 f23 f22 f1 f2 f10 f11 f6 f7) ?_
  refine Zap.use (hR.go _ a k hI.st ha Xa) ?_
  rintro _ G1 ⟨rfl,hs1,kf1⟩
  obtain⟨hI,hm⟩:=hI.read hR hm hs1 kf1
  cases h1:rd a k with
  | none =>
   have hz:=bad (by rw[hfol,he,ZQ6 h1])
   unfold isV
   refine Bz1 (X9 f23 f22 f1 f2 f10 f11 f6 f7 n15) ?_
   exact Zaq (hz _ hI.st hI.kf)
  | some s =>
  unfold isV
  refine Bz1 (X9 f23 f22 f1 f2 f10 f11 f6 f7 n0) ?_
  refine qcp (ZP3 s _ (hR.len a k s h1)) fun k2=>?_
  refine Bz1 (X8 f23 f22 f1 f2 f10 f11 f6 f7) ?_
  obtain⟨hI,hm⟩:=hI.bump hR hm k2
  cases h2:chT s with
  | none =>
   have hz:=bad (by rw[hfol,he,ZQR h1 h2])
   unfold chV3
   refine Bz1 (X9 f23 f22 f1 f2 f10 f11 f6 f7 n15) ?_
   exact Zaq (hz _ hI.st hI.kf)
  | some x =>
  obtain⟨nxt,l⟩:=x
  obtain⟨c1,c2,c3,c4⟩:=chT_in h2
  have hP:(ms++[a]++l).Perm ((own++[a])++(list++l)):=by
   rw[<- zan]
   refine zck l ?_
   refine(zck [a] hpm).trans ?_
   rw[zan,zan]
   exact List.Perm.append_left own zbE
  have badn:¬(ms++[a]++l).Nodup->ZO3 rd pages first=none:=fun hx=>ZRl (m:=m+1) (i:=k) (a:=a) (own:=own) (list:=list) (by rw[hN];exact he) fun o l' e hy=>by
   rw[ZN2 h1 h2]at e
   split at e
   ·obtain⟨q1,q2⟩:=ZN5 rd pages m (k+1) nxt _ _ o l' e
    exact hx (hP.nodup_iff.2 (ZRX q1 q2 hy))
   ·cases e
  rw[ZN2 h1 h2]at he
  unfold chV3
  refine Bz1 (X10 f23 f22 f1 f2 f10 f11 f6 f7 n0 w1) ?_
  refine qcp (hcn _) fun k3=>?_
  obtain⟨hI,hm⟩:=hI.bump hR hm k3
  generalize hlast:(((k+1:Nat):Int) == (N:Int))=lb
  refine Bz1 (X11 f23 f22 f1 f2 f10 f11 f6 f7 n0 w1 hlast) ?_
  refine Zap.use (ZN7 _ _ _ _ ms [a] _ Xc hI.b hm hnd) ?_
  rintro _ G2 ⟨kf2,hr2⟩
  have hI2:=hI.mark hR hm kf2
  rcases hr2 with⟨hn2,rfl,hm2⟩|⟨hn2,rfl⟩
  rotate_left
  ·have hz:=bad (badn fun h=>hn2 (zbl.1 h).1)
   refine Bz1 (X10 f23 f22 f1 f2 f10 f11 f6 f7 n15 hlast) ?_
   exact Zaq (hz _ hI2.st hI2.kf)
  refine Bz1 (X11 f23 f22 f1 f2 f10 f11 f6 f7 n0 w1 hlast) ?_
  refine Zap.use (ZN7 _ _ _ _ (ms++[a]) l _ Xa hI2.b hm2 hn2) ?_
  rintro _ G3 ⟨kf3,hr3⟩
  have hI3:=hI2.mark hR hm2 kf3
  rcases hr3 with⟨hn3,rfl,hm3⟩|⟨hn3,rfl⟩
  rotate_left
  ·have hz:=bad (badn hn3)
   refine Bz1 (X10 f23 f22 f1 f2 f10 f11 f6 f7 n15 hlast) ?_
   exact Zaq (hz _ hI3.st hI3.kf)
  clear hI hI2
  have hlr:(rI l).length=l.length:=Xc
  have hzr:(rI list).length=list.length:=Xc
  have w2:=folW hp hN hk hll
  have hbb:=folB hk hN2 hll c3
  have hmx:=hbb.1
  have hmy:=hbb.2.1
  have hmx2:=hbb.2.2.1
  have hmy2:=hbb.2.2.2.1
  have hll2:=hbb.2.2.2.2
  clear hbb
  have hla:=last_bne (nxt:=nxt) hlast hm2' hk
  have hmn:=mn_bne (a:=l.length) (b:=pages - list.length)
  by_cases hA:(l.length:Int)=min (pages - list.length) 122
  rotate_left
  ·have hz:=bad (by rw[hfol,he,if_neg fun h=>hA h.1])
   have dA:=hmn.2 hA
   refine Bz1 (X12 f23 f22 f1 f2 f10 f11 f6 f7 n15 hlast hlr (X3 hzr w2 dA)) ?_
   exact Zaq (hz _ hI3.st hI3.kf)
  have dA:=hmn.1 hA
  by_cases hB:m=0 ↔ nxt<0
  rotate_left
  ·have hz:=bad (by rw[hfol,he,if_neg fun h=>hB h.2])
   have dB:=hla.2 hB
   refine Bz1 (X12 f23 f22 f1 f2 f10 f11 f6 f7 n15 hlast hlr (X4 hzr w2 dA dB)) ?_
   exact Zaq (hz _ hI3.st hI3.kf)
  have dB:=hla.1 hB
  rw[if_pos ⟨hA,hB⟩]at he
  have hall:ZaE 1 (rI own)=true:=ZaU (f:=fun n:Int=>[AV.i n]) (sz:=1) (fun _=>rfl) _
  have halz:ZaE 1 (rI list)=true:=ZaU (f:=fun n:Int=>[AV.i n]) (sz:=1) (fun _=>rfl) _
  have hall2:ZaE 1 (rI l)=true:=ZaU (f:=fun n:Int=>[AV.i n]) (sz:=1) (fun _=>rfl) _
  have hal1:ZaE 1 [[AV.i a]]=true:=rfl
  have hrl:(rI own).length=k:=by simp[hol]
  have hsn:rI own++[[AV.i a]]=rI (own++[a]):=rI_app own [a]
  have hsl:=rI_app list l
  have fin:∀(K:Zaa) (tw' tz':Tok),ZMP St Fp H tw' tz' (own++[a]) (list++l) K/\K.get H.next=some (ZN0 (ms++[a]++l))->∃own' list' ms' tw2 tz2 a',AV.i nxt=.i a'/\AV.sl tw' (rI (own++[a]))=.sl tw2 (rI own')/\AV.sl tz' (rI (list++l))=.sl tz2 (rI list')/\InI a'/\ZMP St Fp H tw2 tz2 own' list' K/\K.get H.next=some (ZN0 ms')/\ms'.Perm (own'++list')/\ms'.Nodup/\own'.length=k+1/\list'.length<=122 * (k+1)/\ZMw rd pages N 0 first [] []=ZMw rd pages (N - (k+1)) (k+1) a' own' list':=fun K tw' tz' hK=>⟨own++[a],list++l,ms++[a]++l,tw',tz',nxt,rfl,rfl,rfl,ZAs c1 c2,hK.1,hK.2,hP,hn3,by rw[zac,hol];rfl,by rw[zac];exact hll2,by rw[hm2'];exact he⟩
  have hcl:∃x0 l0,rI l=[AV.i x0] :: rI l0:=(cons_of (ZQG hN hk hll) hA).elim fun x0 h=>h.elim fun l0 h=>⟨x0,l0,by rw[h];rfl⟩
  clear he hP badn bad hcn hA hB hfol hpm hnd hn2 hn3 c4 hmn hla hN hll hll2 hm1 hm2'
  refine hcl.elim fun x0 hcl=>hcl.elim fun l0 hcl=>?_
  refine hI3.o.elim (fun e1=>?_) fun e1=>e1.elim fun t' e1=>?_
  ·have f6:Fr.get F 6=.sl .full (rI own):=by rw[f6,e1]
   have hI4:ZMP St Fp H .full tz own list G3:=e1 ▸ hI3
   have hK:=hI4.addA hR hm3 a (k+1) (by rw[hol])
   have hq:=hK.1.addL hR hK.2 l _ rfl
   refine hI3.l.elim (fun e2=>?_) fun e2=>e2.elim fun i e2=>?_
   ·have f7:Fr.get F 7=.sl .full (rI list):=by rw[f7,e2]
    have q1:=hq.1 e2
    ((have hd:=tv;repeat' first|(first|apply Zad|apply Zac|apply Zab)<;>intro hd<;>try simp only[hd]|simp(disch:=first|assumption|omega|simp only[nx]<;>omega|fail)only[hd,qr,qn,Zfd,↓YA,YY,↓reduceIte,Nat.reduceEqDiff,Nat.reduceAdd,Nat.reduceMul,Nat.reduceLeDiff,Int.reduceToNat,Int.reduceLE,Int.reduceLT,Int.reduceGT,Int.reduceGE,Int.reduceAdd,Int.reduceSub,Int.reduceNeg,Int.reduceBEq,Int.reduceBNe,f23,f22,f1,f2,f10,f11,f6,f7,n0,hlast,w2,dA,dB,hall,halz,hall2,hal1,hrl,hlr,hzr,hmx,hmy,hmx2,hmy2,hsn,hsl,Zdi,zat,true_or,or_true])<;>try revert hd;refine ttr ?_)
    simp only[hcl]
    refine Bz1 (X9 f23 f22 f1 f2 f10 f11 f6 f7 hsn) ?_
    exact⟨rfl,f22,f1,f2,f10,fin _ _ _ q1⟩
   ·have f7:Fr.get F 7=.sl (.own i) (rI list):=by rw[f7,e2.2.1]
    have q3:=(hq.2 i e2.2.1).1
    have q4:=(hq.2 i e2.2.1).2
    ((have hd:=tv;repeat' first|(first|apply Zad|apply Zac|apply Zab)<;>intro hd<;>try simp only[hd]|simp(disch:=first|assumption|omega|simp only[nx]<;>omega|fail)only[hd,qr,qn,Zfd,↓YA,YY,↓reduceIte,Nat.reduceEqDiff,Nat.reduceAdd,Nat.reduceMul,Nat.reduceLeDiff,Int.reduceToNat,Int.reduceLE,Int.reduceLT,Int.reduceGT,Int.reduceGE,Int.reduceAdd,Int.reduceSub,Int.reduceNeg,Int.reduceBEq,Int.reduceBNe,f23,f22,f1,f2,f10,f11,f6,f7,n0,hlast,w2,dA,dB,hall,halz,hall2,hal1,hrl,hlr,hzr,hmx,hmy,hmx2,hmy2,hsn,hsl,q3,Zdi,zat,true_or,or_true])<;>try revert hd;refine ttr ?_)
    exact⟨rfl,f22,f1,f2,f10,fin _ _ _ q4⟩
  ·have hgt:=e1.2.2
   rw[hol]at hgt
   have e1:=e1.2.1
   have f6:Fr.get F 6=.sl (.own t') (rI own):=by rw[f6,e1]
   have hI4:ZMP St Fp H (.own t') tz own list G3:=e1 ▸ hI3
   have hK:=hI4.addS hR hm3 a (k+1) (by rw[hol])
   have hq:=hK.1.addL hR hK.2 l _ rfl
   refine hI3.l.elim (fun e2=>?_) fun e2=>e2.elim fun i e2=>?_
   ·have f7:Fr.get F 7=.sl .full (rI list):=by rw[f7,e2]
    have q1:=hq.1 e2
    ((have hd:=tv;repeat' first|(first|apply Zad|apply Zac|apply Zab)<;>intro hd<;>try simp only[hd]|simp(disch:=first|assumption|omega|simp only[nx]<;>omega|fail)only[hd,qr,qn,Zfd,↓YA,YY,↓reduceIte,Nat.reduceEqDiff,Nat.reduceAdd,Nat.reduceMul,Nat.reduceLeDiff,Int.reduceToNat,Int.reduceLE,Int.reduceLT,Int.reduceGT,Int.reduceGE,Int.reduceAdd,Int.reduceSub,Int.reduceNeg,Int.reduceBEq,Int.reduceBNe,f23,f22,f1,f2,f10,f11,f6,f7,n0,hlast,w2,dA,dB,hall,halz,hall2,hal1,hrl,hlr,hzr,hmx,hmy,hmx2,hmy2,hsn,hsl,hgt,Zdi,zat,true_or,or_true])<;>try revert hd;refine ttr ?_)
    simp only[hcl]
    refine Bz1 (X9 f23 f22 f1 f2 f10 f11 f6 f7 hsn) ?_
    exact⟨rfl,f22,f1,f2,f10,fin _ _ _ q1⟩
   ·have f7:Fr.get F 7=.sl (.own i) (rI list):=by rw[f7,e2.2.1]
    have q3:=(hq.2 i e2.2.1).1
    have q4:=(hq.2 i e2.2.1).2
    ((have hd:=tv;repeat' first|(first|apply Zad|apply Zac|apply Zab)<;>intro hd<;>try simp only[hd]|simp(disch:=first|assumption|omega|simp only[nx]<;>omega|fail)only[hd,qr,qn,Zfd,↓YA,YY,↓reduceIte,Nat.reduceEqDiff,Nat.reduceAdd,Nat.reduceMul,Nat.reduceLeDiff,Int.reduceToNat,Int.reduceLE,Int.reduceLT,Int.reduceGT,Int.reduceGE,Int.reduceAdd,Int.reduceSub,Int.reduceNeg,Int.reduceBEq,Int.reduceBNe,f23,f22,f1,f2,f10,f11,f6,f7,n0,hlast,w2,dA,dB,hall,halz,hall2,hal1,hrl,hlr,hzr,hmx,hmy,hmx2,hmy2,hsn,hsl,q3,hgt,Zdi,zat,true_or,or_true])<;>try revert hd;refine ttr ?_)
    exact⟨rfl,f22,f1,f2,f10,fin _ _ _ q4⟩
 ·rintro F G ⟨f23,f22,f1,f2,f10,own,list,ms,tw,tz,a,f11,f6,f7,ha,hI,hm,hpm,hnd,hol,hll,he⟩
  skip
  refine Bz1 (X2 f6 f7) ?_
  refine Zaq ?_
  rw[Nat.sub_self,ZMw]at he
  rw[hfol,he]
  simp only
  rw[if_pos (hpm.nodup_iff.1 hnd)]
  exact⟨hI.st,hI.kf,tw,tz,rfl⟩
end
end Go.Proofs.YtfjjpndoeppbhaaGreatDoor
