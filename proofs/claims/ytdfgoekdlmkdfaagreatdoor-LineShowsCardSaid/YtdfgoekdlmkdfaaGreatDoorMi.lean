/- Texts of the walk. -/
import Derived.Test.YtdfgoekdlmkdfaaGreatDoorMh
namespace Go.Proofs.YtdfgoekdlmkdfaaGreatDoor
set_option linter.defProp false
set_option maxHeartbeats 64000000
set_option linter.unusedSimpArgs false
set_option linter.unusedVariables false
open Go.RowKit Go.Lib
abbrev rS (l:List Tx):List (List AV):=l.map fun s=>[eS s]
theorem ok_join:Zmq Tryz.prog 38:=⟨_,Tryz.func38,Xg,Xg⟩
theorem ZAC (t:Tok) (l:List Tx) (sep:Tx) (H:Zaa) (hl:(Lib.join l sep).length<=100000000) (hn:l.length<=1000000):Zay Tryz.prog 38 [.sl t (rS l),eS sep] H (Pure H (eS (Lib.join l sep))):=by
 refine⟨ok_join,fun g w vs hW hV hEn=>?_⟩
 obtain⟨v0,v1,rfl⟩:∃v0 v1,vs=[v0,v1]:=by
  match vs,hV.1 with
  | [v0,v1],_=>exact⟨v0,v1,rfl⟩
 have q0:=hV.2 0 _ _ rfl rfl
 have q1:=hV.2 1 _ _ rfl rfl
 cases q1
 cases q0 with
 | sl _ _ A c sz b o f hc hm hA hsz hcell hv ht =>
 have hlen:(rS l).length=l.length:=Xc
 by_cases hne:l=[]
 ·subst hne
  refine(Any.strings_Join_none Zz1 ZzF A c ⟨sep.toArray⟩ w).mono fun e w' ⟨he,hb⟩=>?_
  subst hb
  exact .inl ⟨_,_,_,g,he,⟨rfl,0,rfl⟩,.sc _,hW,.refl _ _ _⟩
 ·have hrn:rS l≠[]:=fun e=>hne (by simpa using e)
  have hA:=hA hrn
  subst hA
  have hone:sz=1:=by
   obtain⟨x,hx⟩:=zbJ l hne
   have:=(hsz [eS x] (List.mem_map.2 ⟨x,hx,rfl⟩)).1
   simpa using this.symm
  subst hone
  have hcells:∀(j:Nat) (x:ByteArray),(l.map fun s=>(⟨s.toArray⟩:ByteArray))[j]?=some x->w.cell? ⟨b,o+j,none⟩=some (.string x):=fun j x hx=>by
   rw[List.getElem?_map]at hx
   cases hj:l[j]? with
   | none=>rw[hj]at hx;cases hx
   | some s =>
    rw[hj]at hx
    simp only[Option.map_some,zab]at hx
    subst hx
    have hr:(rS l)[j]?=some [eS s]:=by simp[hj]
    have h1:=(hcell j [eS s] 0 (eS s) hr rfl).1
    have h2:=hv j [eS s] 0 (eS s) hr rfl
    rw[show o+j * 1+0=o+j by omega]at h1
    rw[h1]
    generalize f j 0=y at h2
    cases h2
    rfl
  have hbl:b<w.heap.size:=by
   obtain⟨s,hs⟩:=zbJ l hne
   obtain⟨j,hj,rfl⟩:=zar hs
   exact hW.ro b _ (hcell j [eS l[j]] 0 (eS l[j]) (by simp[hj]) rfl).2
  have hmm:(l.map fun s=>(⟨s.toArray⟩:ByteArray)).map (·.data.toList)=l:=by rw[zbz];simp[Function.comp_def]
  have:=Any.strings_Join Zz1 ZzF b o c (l.map fun s=>(⟨s.toArray⟩:ByteArray)) ⟨sep.toArray⟩ w hcells hbl Xf (by simpa using hc) (by rw[hmm];simp only;omega)
  rw[hmm]at this
  have e2:(l.map fun s=>(⟨s.toArray⟩:ByteArray)).length=(rS l).length:=Xc
  rw[e2]at this
  refine this.mono fun e w' ⟨he,hb⟩=>?_
  obtain⟨k1,k2⟩:=Zxg hW hb
  exact .inl ⟨_,_,_,g,he,⟨rfl,0,rfl⟩,.sc _,k1,k2⟩
def decD (u:Nat):Tx:=if u=0 then [] else decDigits u
theorem ZAQ {u:Nat} (h:0<u):decD u=decD (u / 10)++[UInt8.ofNat (48+u % 10)]:=by
 unfold decD
 rw[if_neg Xa]
 by_cases h10:u<10
 ·rw[if_pos Xa,decDigits_one h10,zaT h10];rfl
 ·rw[if_neg Xa,decDigits,dif_neg h10]
theorem dig10:∀n:Fin 10,IntKind.u8.wrap (48+IntKind.u8.wrap (n.val:Int))=((UInt8.ofNat (48+n.val)).toNat:Int):=by decide +kernel
theorem u64_quo (u:Nat) (h:u<18446744073709551616):IntKind.u64.wrap ((u:Int).tdiv 10)=((u / 10:Nat):Int):=by
 rw[zbF Xa,IntKind.wrap_u64]
 omega
theorem nDig_le:∀u:Nat,nDigits u<=u+1:=by
 intro u
 induction u using Nat.strongRecOn with
 | _ u ih =>
  by_cases h:u<10
  ·rw[nDigits_small h];omega
  ·rw[nDigits_big h]
   have:=ih (u / 10) Xa
   omega
theorem ZAP (u:Nat) (h:u<18446744073709551616):(decDigits u).length<=9000000000000000000:=by
 rw[decDigits_length]
 by_cases h10:u<10
 ·rw[nDigits_small h10];omega
 ·rw[nDigits_big h10]
  have:=nDig_le (u / 10)
  omega
theorem Zz9 (a b:Tx):(⟨a.toArray⟩:ByteArray)++⟨b.toArray⟩=⟨(a++b).toArray⟩:=by
 apply zbi
 simp[ByteArray.data_append]
theorem ZAb (n:Int) (h0 : -9223372036854775808<=n) (h1:n<=9223372036854775807) (H:Zaa):Zay Tryz.prog 26 [.i n] H (Pure H (eS (itoa n))):=by
 by_cases hz:n=0
 ·subst hz
  have hi:itoa 0=[48]:=by unfold itoa;rw[if_neg Xa];exact decDigits_one Xb
  rw[hi]
  have d:((0:Int) == 0)=true:=rfl
  refine fnQ cf26 fun Q qr qn=>?_
  refine Bz1 (X1 d) ?_
  refine Zcm (by rfl)
 have dz:(n == 0)=false:=by simpa using hz
 obtain⟨U,hU⟩:∃U,U=n.natAbs:=⟨_,rfl⟩
 have hUp:0<U:=Xa
 have hUl:U<18446744073709551616:=Xa
 have hloop:∀(T:Tx) (Q:AEx->Fr->Zaa->Prop) (F:Fr) (G:Zaa),Fr.get F 3=.sc (.int .u64 (U:Int))->Fr.get F 4=eS []->Fr.get F 0=.i n->(∀F',Fr.get F' 4=eS (decDigits U)->Fr.get F' 0=.i n->Q .normal F' G)->AW Tryz.prog c26_1 Q F G:=by
  intro T Q F G f3 f4 f0 hQ
  refine ZBA (fun m F' G'=>∃u out,m=u/\u<=U/\Fr.get F' 3=.sc (.int .u64 (u:Int))/\Fr.get F' 4=eS out/\Fr.get F' 0=.i n/\decD U=decD u++out/\G'=G) U (GStep.refl _ _) ⟨U,[],rfl,zad _,f3,f4,f0,Xc,rfl⟩ ?_
  rintro m F' G' ⟨u,out,rfl,hu,f3,f4,f0,hd,rfl⟩
  have qr:=trivial
  have qn:=trivial
  by_cases hu0:0<m
  ·have d:decide ((m:Int) > 0)=true:=by simp;omega
   have hr:(m:Int).tmod 10=((m % 10:Nat):Int):=by rw[zbj Xa];omega
   have hq:=u64_quo m Xa
   have h10:((10:Int)=0)=False:=Xc
   have hdg:=dig10 ⟨m % 10,Xa⟩
   simp only at hdg
   rw[ZAQ hu0]at hd
   have hby:Zef [[u8 (UInt8.ofNat (48+m % 10))]]=some [((UInt8.ofNat (48+m % 10)).toNat:Int)]:=ZyX [UInt8.ofNat (48+m % 10)]
   have hso:strOf [((UInt8.ofNat (48+m % 10)).toNat:Int)]=⟨[UInt8.ofNat (48+m % 10)].toArray⟩:=Zza [UInt8.ofNat (48+m % 10)]
   generalize UInt8.ofNat (48+m % 10)=c at *
   have hol:1+out.length<=maxLen:=by
    have hl:=congrArg List.length hd
    have h3:decD U=decDigits U:=by unfold decD;rw[if_neg Xa]
    have h4:=ZAP U hUl
    rw[<- h3,hl]at h4
    simp only[zaa,List.length_cons,List.length_nil]at h4
    unfold maxLen
    omega
   have hap:(⟨#[c]⟩:ByteArray)++⟨out.toArray⟩=⟨(c :: out).toArray⟩:=Zz9 [c] out
   skip
   refine Bz1 (X12 f3 f4 f0 d hr hq h10 hdg hby hso hol hap) ?_
   exact⟨_,Xa,m / 10,_,rfl,Xa,rfl,rfl,by rw[hd];simp⟩
  ·have d:decide ((m:Int) > 0)=false:=by simp;omega
   have hm:m=0:=Xa
   subst hm
   have ho:decDigits U=out:=by
    have e:decD U=decDigits U:=by unfold decD;rw[if_neg Xa]
    rw[<- e,hd];rfl
   rw[ho]at hQ
   skip
   refine Bz1 (X4 f3 f4 f0 d) ?_
   exact hQ _ (by simpa [Fr.get] using f4) (by simpa [Fr.get] using f0)
 by_cases hneg:n<0
 ·have dn:decide (n<0)=true:=decide_eq_true hneg
  have hi:itoa n=45 :: decDigits U:=by unfold itoa;rw[if_pos hneg,hU]
  rw[hi]
  have hw:IntKind.u64.wrap (0 - IntKind.u64.wrap n)=(U:Int):=by rw[IntKind.wrap_u64,IntKind.wrap_u64];omega
  have hol:1+(decDigits U).length<=maxLen:=by have:=ZAP U hUl;unfold maxLen;omega
  have hap:(⟨#[45]⟩:ByteArray)++⟨(decDigits U).toArray⟩=⟨(45 :: decDigits U).toArray⟩:=Zz9 [45] (decDigits U)
  refine fnQ cf26 fun Q qr qn=>?_
  refine Bz1 (X3 dz dn hw) ?_
  refine hloop [] _ _ _ rfl rfl rfl fun F' f4 f0=>?_
  refine Bz1 (X5 f4 f0 dn hol hap) ?_
  exact Zcm rfl (Zaa.Ext.refl _)
 ·have dn:decide (n<0)=false:=decide_eq_false hneg
  have hi:itoa n=decDigits U:=by unfold itoa;rw[if_neg hneg,hU];congr 1;omega
  rw[hi]
  have hw:IntKind.u64.wrap n=(U:Int):=by rw[IntKind.wrap_u64];omega
  refine fnQ cf26 fun Q qr qn=>?_
  refine Bz1 (X3 dz dn hw) ?_
  refine hloop [] _ _ _ rfl rfl rfl fun F' f4 f0=>?_
  refine Bz1 (X3 f4 f0 dn) ?_
  exact Zcm rfl (Zaa.Ext.refl _)
open Go.RowKit Go.Lib
def ZAc (l:List Tx):Tx:=Lib.join (l.map ZyH) [44]
theorem ZAS (sep:Tx) (l:List Tx) (x:Tx) (h:l≠[]):Lib.join (l++[x]) sep=Lib.join l sep++sep++x:=by
 cases l with
 | nil=>exact absurd rfl h
 | cons y l=>rw[List.cons_append,Lib.join_cons,Lib.join_cons];simp[Lib.joinTail]
def ZAr (l:List Tx):Nat:=(l.map List.length).sum
theorem ZAw (sep:Tx):∀l:List Tx,(Lib.join l sep).length<=ZAr l+l.length * sep.length
 | []=>by simp[Lib.join_nil]
 | x :: r=>by
  rw[Lib.join_cons]
  have:(Lib.joinTail sep r).length=ZAr r+r.length * sep.length:=by
   unfold Lib.joinTail ZAr
   induction r with
   | nil=>simp
   | cons y r ih=>simp only[zao,List.flatten_cons,zaa,ih,List.sum_cons,List.length_cons];rw[zaE];omega
  rw[zaa,this]
  unfold ZAr
  simp only[zao,List.sum_cons,List.length_cons]
  rw[zaE]
  omega
theorem ZAj (l:List Tx):ZAr (l.map ZyH)<=2 * ZAr l+l.length:=by
 unfold ZAr
 induction l with
 | nil=>simp
 | cons x l ih =>
  have:=ZzU x
  simp only[zao,List.sum_cons,List.length_cons]at ih ⊢
  omega
theorem ZAJ {l:List Tx} {k:Nat} (h:k<l.length):l[k].length<=ZAr l:=by
 unfold ZAr
 induction l generalizing k with
 | nil=>simp at h
 | cons x l ih =>
  simp only[zao,List.sum_cons]
  cases k with
  | zero=>simp
  | succ k =>
   have:=ih (k:=k) (by simpa using h)
   simp only[List.getElem_cons_succ]
   omega
theorem ZAT {l:List Tx} {k:Nat}:ZAr (l.take k)<=ZAr l:=by
 unfold ZAr
 induction l generalizing k with
 | nil=>simp
 | cons x l ih =>
  cases k with
  | zero=>simp
  | succ k=>simp only[List.take_succ_cons,zao,List.sum_cons];have:=ih (k:=k);omega
theorem ZAZ {l:List Tx} {k:Nat} (h:k<l.length):rS (l.take k)++[[eS l[k]]]=rS (l.take (k+1)):=by
 rw[zae h]
 unfold rS
 rw[zaD];rfl
theorem ZAE (t:Tok) (l:List Tx) (H:Zaa) (hl:l.length<=1000) (hs:ZAr l<=100000):Zay Tryz.prog 46 [.sl t (rS l)] H (Pure H (eS (ZAc l))):=by
 have hsw:=ZAj l
 have hjl:=ZAw [44] (l.map ZyH)
 rw[zan]at hjl
 simp only[List.length_cons,List.length_nil]at hjl
 refine fnQ cf46 fun Q qr qn=>?_
 refine Bz2 ?_
 refine ZbJ (N:=l.length) (fun k F G=>Fr.get F 8=.i (k:Int)/\Fr.get F 7=.i (l.length:Int)/\Fr.get F 6=.sl t (rS l)/\Zaa.Ext H G/\∃tok,Fr.get F 3=.sl tok (rS ((l.map ZyH).take k))/\ZCe H.next G 9 1 k tok) Xd (fun k F G h=>⟨h.1,h.2.1⟩) (GStep.refl _ _) ⟨rfl,rfl,rfl,.refl _,.full,rfl,.inl rfl⟩ ?_ ?_
 ·rintro k F G hk ⟨f8,f7,f6,hx,tok,f3,hT⟩
  have h0:(0:Int)<=(k:Int):=Xa
  have hr:(rS l)[k]?=some [eS l[k]]:=by simp[hk]
  have hk2:k<(l.map ZyH).length:=by simpa using hk
  have hsn:=ZAZ hk2
  rw[zbp]at hsn
  have hle:=ZAJ hk
  have hrl:(rS ((l.map ZyH).take k)).length=k:=by simp;omega
  have hal:ZaE 1 (rS ((l.map ZyH).take k))=true:=ZaU (f:=fun s:Tx=>[eS s]) (sz:=1) (fun _=>rfl) _
  have hm1:k+1<=maxLen:=by unfold maxLen;omega
  have hm2:(k+1) * 16<=140737488355328:=Xa
  generalize hR1:rS ((l.map ZyH).take (k+1))=R1 at *
  generalize rS ((l.map ZyH).take k)=R0 at *
  generalize l[k]=s at *
  have hal2:ZaE 1 [[eS (ZyH s)]]=true:=rfl
  rcases hT with rfl|⟨t',ht,rfl,hgt⟩
  ·refine Bz1 (X6 f8 f7 f6 f3 h0 hr) ?_
   refine qcp (ZyQ s _ Xa) fun k2=>?_
   refine Bz1 (X10 f8 f7 f6 f3 hrl hal hal2 hm1 hm2 hsn) ?_
   have hnx:=hx.next
   exact⟨hx.bump.alloc,_,by rw[hR1];rfl,.inr ⟨_,by simp only[Zaa.ZaD];omega,rfl,Zaa.Zae (H:=G.bump k2)⟩⟩
  ·refine Bz1 (X6 f8 f7 f6 f3 h0 hr) ?_
   refine qcp (ZyQ s _ Xa) fun k2=>?_
   refine Bz1 (X11 f8 f7 f6 f3 hrl hal hal2 hm1 hm2 hsn hgt) ?_
   exact⟨hx.bump.set ht,_,by rw[hR1],.inr ⟨t',ht,rfl,Zaa.Zal (Zaa.lt (H:=G.bump k2) hgt)⟩⟩
 ·rintro F G ⟨f8,f7,f6,hx,tok,f3,hT⟩
  rw[zay Xc]at f3
  refine Bz1 (X4 f8 f7 f6 f3) ?_
  refine qcp (ZAC tok (l.map ZyH) [44] _ Xa Xf) fun k2=>?_
  refine Bz0 ?_
  exact Zcm rfl (hx.bump)
theorem ZAX (l:List Tx) {k:Nat} (h:k<l.length):Lib.join (l.take (k+1)) [44]=(if 0<k then Lib.join (l.take k) [44]++[44] else [])++l[k]:=by
 rw[zae h]
 by_cases hk:0<k
 ·rw[if_pos hk,ZAS]
  intro e
  have:=congrArg List.length e
  rw[zau,List.length_nil]at this
  omega
 ·have:k=0:=Xa
  subst this
  rw[if_neg hk]
  simp[Lib.join_one]
theorem ZA0 {a b:Nat} (h:a+b<=1000000000):a+b<=maxLen:=by unfold maxLen;omega
theorem ZAA (t:Tok) (l:List Tx) (H:Zaa) (hl:l.length<=1000) (hs:ZAr l<=100000):Zay Tryz.prog 70 [.sl t (rS l)] H (Pure H (eS (ZAc l))):=by
 have hbnd:∀k,(Lib.join ((l.map ZyH).take k) [44]).length<=300000:=fun k=>by
  have h1:=ZAw [44] ((l.map ZyH).take k)
  have h2:=ZAT (l:=l.map ZyH) (k:=k)
  have h3:=ZAj l
  have h4:((l.map ZyH).take k).length<=l.length:=by rw[zau,zan];omega
  simp only[List.length_cons,List.length_nil]at h1
  omega
 refine fnQ cf70 fun Q qr qn=>?_
 refine Bz2 ?_
 refine Zbs [0,6] (σ:=Tx) (fun(k:Nat) s=>s=Lib.join ((l.map ZyH).take k) [44]) (fun k s=>[(3,eS s)]) (fun k s=>[]) [] (GStep.refl _ _) xV xW xW (by rfl) Xd ?_ xT xU ?_ ?_
 ·rfl
 ·(rintro k J0 G hk hJ0 hG hn;try simp only[nx]at hn)
  have hr:(rS l)[k]?=some [eS l[k]]:=by simp[hk]
  have hk2:k<(l.map ZyH).length:=by simpa using hk
  have hjt:=ZAX (l.map ZyH) hk2
  rw[zbp]at hjt
  have hle:=ZAJ hk
  have hb:=hbnd k
  have hwl:=ZzU l[k]
  rw[<- hJ0]at hb hjt
  generalize hJ1:Lib.join ((l.map ZyH).take (k+1)) [44]=J1 at *
  generalize l[k]=s at *
  have hf1:J0.length+1<=maxLen:=ZA0 Xa
  have hf2:J0.length+(ZyH s).length<=maxLen:=ZA0 Xa
  have hf3:(J0++[44]).length+(ZyH s).length<=maxLen:=by rw[zaa];simp only[List.length_cons,List.length_nil];unfold maxLen;omega
  have ha1:(⟨J0.toArray⟩:ByteArray)++⟨#[44]⟩=⟨(J0++[44]).toArray⟩:=Zz9 J0 [44]
  have ha2:(⟨J0.toArray⟩:ByteArray)++⟨(ZyH s).toArray⟩=⟨(J0++ZyH s).toArray⟩:=Zz9 J0 (ZyH s)
  have ha3:(⟨(J0++[44]).toArray⟩:ByteArray)++⟨(ZyH s).toArray⟩=⟨(J0++[44]++ZyH s).toArray⟩:=Zz9 (J0++[44]) (ZyH s)
  by_cases h0:0<k
  ·have d:decide ((k:Int) > 0)=true:=by simp;omega
   rw[if_pos h0]at hjt
   refine Bz1 (X4 d hr hf1 ha1) ?_
   refine qcp (ZyV s _ Xa) fun k2=>?_
   refine Bz1 (X2 hf3 ha3) ?_
   exact⟨J1,hJ1.symm,by rw[hjt],by exact HXT⟩
  ·have d:decide ((k:Int) > 0)=false:=by simp;omega
   rw[if_neg h0]at hjt
   refine Bz1 (X4 d hr hf1 ha1) ?_
   refine qcp (ZyV s _ Xa) fun k2=>?_
   refine Bz1 (X2 hf2 ha2) ?_
   have e0:J0=[]:=by
    have:k=0:=Xa
    rw[hJ0,this];rfl
   exact⟨J1,hJ1.symm,by rw[hjt,e0],by exact HXT⟩
 ·(rintro J0 G hJ0 hG hn;try simp only[nx]at hn)
  rw[zay Xc]at hJ0
  refine Bz0 ?_
  exact Zcm (by rw[hJ0];rfl) hG.ext
theorem ZAi (n:Int) (h0 : -9223372036854775808<=n) (h1:n<=9223372036854775807) (H:Zaa):Zay Tryz.prog 101 [.i n] H (Pure H (eS (itoa n))):=by
 have hf:∀H,Zay Tryz.prog 45 [.i n,.i 10] H (Pure H (eS (itoa n))):=fun H=>Same.pure (Zzz n H h0 h1)
 refine fnQ cf101 fun Q qr qn=>?_
 refine Bz0 ?_
 refine qcp (hf _) fun k1=>?_
 refine Bz0 ?_
 refine Zcm (by rfl)
def InI (n:Int):Prop := -9223372036854775808<=n/\n<=9223372036854775807
abbrev rI (l:List Int):List (List AV):=l.map fun n=>[AV.i n]
def SlQ (l:List Tx) (H:Zaa) (r:AV) (G:Zaa):Prop:=Zaa.Ext H G/\∃tok,r=.sl tok (rS l)
end Go.Proofs.YtdfgoekdlmkdfaaGreatDoor
