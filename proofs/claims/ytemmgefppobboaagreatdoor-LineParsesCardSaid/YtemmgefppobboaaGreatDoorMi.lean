/- Texts of the walk. -/
import Derived.Test.YtemmgefppobboaaGreatDoorMf
import Derived.Test.YtemmgefppobboaaGreatDoorMh
namespace Go.Proofs.YtemmgefppobboaaGreatDoor
set_option linter.defProp false
set_option linter.unusedSimpArgs false
set_option linter.unusedVariables false
open Go.RowKit Go.Lib
abbrev rS (l:List Tx):List (List AV):=l.map fun s=>[eS s]
def decD (u:Nat):Tx:=if u=0 then [] else decDigits u
theorem ZAQ {u:Nat} (h:0<u):decD u=decD (u / 10)++[UInt8.ofNat (48+u % 10)]:=by
 unfold decD
 rw[if_neg (by omega)]
 by_cases h10:u<10
 ·rw[if_pos (by omega),decDigits_one h10,zbC h10];rfl
 ·rw[if_neg (by omega),decDigits,dif_neg h10]
theorem dig10:∀n:Fin 10,IntKind.u8.wrap (48+IntKind.u8.wrap (n.val:Int))=((UInt8.ofNat (48+n.val)).toNat:Int):=by decide +kernel
theorem u64_quo (u:Nat) (h:u<18446744073709551616):IntKind.u64.wrap ((u:Int).tdiv 10)=((u / 10:Nat):Int):=by
 rw[Int.tdiv_eq_ediv_of_nonneg (by omega),IntKind.wrap_u64]
 omega
theorem nDig_le:∀u:Nat,nDigits u<=u+1:=by
 intro u
 induction u using Nat.strongRecOn with
 | _ u ih =>
  by_cases h:u<10
  ·rw[nDigits_small h];omega
  ·rw[nDigits_big h]
   have:=ih (u / 10) (by omega)
   omega
theorem ZAP (u:Nat) (h:u<18446744073709551616):(decDigits u).length<=9000000000000000000:=by
 rw[decDigits_length]
 by_cases h10:u<10
 ·rw[nDigits_small h10];omega
 ·rw[nDigits_big h10]
  have:=nDig_le (u / 10)
  omega
theorem Zz9 (a b:Tx):(⟨a.toArray⟩:ByteArray)++⟨b.toArray⟩=⟨(a++b).toArray⟩:=by
 apply za3
 simp[ByteArray.data_append]
set_option maxHeartbeats 4000000 in
theorem ZAb (n:Int) (h0 : -9223372036854775808<=n) (h1:n<=9223372036854775807) (H:Zaa):Zay Tryz.prog 39 [.i n] H (Pure H (eS (itoa n))):=by
 by_cases hz:n=0
 ·subst hz
  have hi:itoa 0=[48]:=by unfold itoa;rw[if_neg (by omega)];exact decDigits_one (by decide)
  rw[hi]
  have d:((0:Int) == 0)=true:=rfl
  refine Zak hE cf39 (zaa rfl) fun Q qr qn=>?_
  have hZ:=d;refine Bz1 ?_
  refine Zcm (by rfl)
 have dz:(n == 0)=false:=by simpa using hz
 obtain⟨U,hU⟩:∃U,U=n.natAbs:=⟨_,rfl⟩
 have hUp:0<U:=by omega
 have hUl:U<18446744073709551616:=by omega
 have hloop:∀(T:Tx) (Q:AEx->Fr->Zaa->Prop) (F:Fr) (G:Zaa),Fr.get F 3=.sc (.int .u64 (U:Int))->Fr.get F 4=eS []->Fr.get F 0=.i n->(∀F',Fr.get F' 4=eS (decDigits U)->Fr.get F' 0=.i n->Q .normal F' G)->AW Tryz.prog c39_1 Q F G:=by
  intro T Q F G f3 f4 f0 hQ
  refine ZBA (fun m F' G'=>∃u out,m=u/\u<=U/\Fr.get F' 3=.sc (.int .u64 (u:Int))/\Fr.get F' 4=eS out/\Fr.get F' 0=.i n/\decD U=decD u++out/\G'=G) U (GStep.refl _ _) ⟨U,[],rfl,zae _,f3,f4,f0,by simp,rfl⟩ ?_
  rintro m F' G' ⟨u,out,rfl,hu,f3,f4,f0,hd,rfl⟩
  have qr:=trivial
  have qn:=trivial
  by_cases hu0:0<m
  ·have d:decide ((m:Int) > 0)=true:=by simp;omega
   have hr:(m:Int).tmod 10=((m % 10:Nat):Int):=by rw[zbG (by omega)];omega
   have hq:=u64_quo m (by omega)
   have h10:((10:Int)=0)=False:=by simp
   have hdg:=dig10 ⟨m % 10,by omega⟩
   simp only at hdg
   rw[ZAQ hu0]at hd
   have hby:Zef [[u8 (UInt8.ofNat (48+m % 10))]]=some [((UInt8.ofNat (48+m % 10)).toNat:Int)]:=ZyX [UInt8.ofNat (48+m % 10)]
   have hso:strOf [((UInt8.ofNat (48+m % 10)).toNat:Int)]=⟨[UInt8.ofNat (48+m % 10)].toArray⟩:=Zza [UInt8.ofNat (48+m % 10)]
   generalize UInt8.ofNat (48+m % 10)=c at *
   have hol:1+out.length<=maxLen:=by
    have hl:=congrArg List.length hd
    have h3:decD U=decDigits U:=by unfold decD;rw[if_neg (by omega)]
    have h4:=ZAP U hUl
    rw[<- h3,hl]at h4
    simp only[zab,List.length_cons,List.length_nil]at h4
    unfold maxLen
    omega
   have hap:(⟨#[c]⟩:ByteArray)++⟨out.toArray⟩=⟨(c :: out).toArray⟩:=Zz9 [c] out
   skip
   have hZ:=an7 f3<|an7 f4<|an7 f0<|an7 d<|an7 hr<|an7 hq<|an7 h10<|an7 hdg<|an7 hby<|an7 hso<|an7 hol<|hap;refine Bz1 ?_
   exact⟨_,by omega,m / 10,_,rfl,by omega,rfl,rfl,by rw[hd];simp⟩
  ·have d:decide ((m:Int) > 0)=false:=by simp;omega
   have hm:m=0:=by omega
   subst hm
   have ho:decDigits U=out:=by
    have e:decD U=decDigits U:=by unfold decD;rw[if_neg (by omega)]
    rw[<- e,hd];rfl
   rw[ho]at hQ
   skip
   have hZ:=an7 f3<|an7 f4<|an7 f0<|d;refine Bz1 ?_
   exact hQ _ (by simpa [Fr.get] using f4) (by simpa [Fr.get] using f0)
 by_cases hneg:n<0
 ·have dn:decide (n<0)=true:=decide_eq_true hneg
  have hi:itoa n=45 :: decDigits U:=by unfold itoa;rw[if_pos hneg,hU]
  rw[hi]
  have hw:IntKind.u64.wrap (0 - IntKind.u64.wrap n)=(U:Int):=by rw[IntKind.wrap_u64,IntKind.wrap_u64];omega
  have hol:1+(decDigits U).length<=maxLen:=by have:=ZAP U hUl;unfold maxLen;omega
  have hap:(⟨#[45]⟩:ByteArray)++⟨(decDigits U).toArray⟩=⟨(45 :: decDigits U).toArray⟩:=Zz9 [45] (decDigits U)
  refine Zak hE cf39 (zaa rfl) fun Q qr qn=>?_
  have hZ:=an7 dz<|an7 dn<|hw;refine Bz1 ?_
  refine hloop [] _ _ _ rfl rfl rfl fun F' f4 f0=>?_
  have hZ:=an7 f4<|an7 f0<|an7 dn<|an7 hol<|hap;refine Bz1 ?_
  exact Zcm rfl (Zaa.Ext.refl _)
 ·have dn:decide (n<0)=false:=decide_eq_false hneg
  have hi:itoa n=decDigits U:=by unfold itoa;rw[if_neg hneg,hU];congr 1;omega
  rw[hi]
  have hw:IntKind.u64.wrap n=(U:Int):=by rw[IntKind.wrap_u64];omega
  refine Zak hE cf39 (zaa rfl) fun Q qr qn=>?_
  have hZ:=an7 dz<|an7 dn<|hw;refine Bz1 ?_
  refine hloop [] _ _ _ rfl rfl rfl fun F' f4 f0=>?_
  have hZ:=an7 f4<|an7 f0<|dn;refine Bz1 ?_
  exact Zcm rfl (Zaa.Ext.refl _)
open Go.RowKit Go.Lib
def ZAr (l:List Tx):Nat:=(l.map List.length).sum
theorem ZAJ {l:List Tx} {k:Nat} (h:k<l.length):l[k].length<=ZAr l:=by
 unfold ZAr
 induction l generalizing k with
 | nil=>simp at h
 | cons x l ih =>
  simp only[zav,List.sum_cons]
  cases k with
  | zero=>simp
  | succ k =>
   have:=ih (k:=k) (by simpa using h)
   simp only[List.getElem_cons_succ]
   omega
theorem ZAT {l:List Tx} {k:Nat}:ZAr (l.take k)<=ZAr l:=by
 unfold ZAr
 induction l generalizing k with
 | nil=>simp
 | cons x l ih =>
  cases k with
  | zero=>simp
  | succ k=>simp only[List.take_succ_cons,zav,List.sum_cons];have:=ih (k:=k);omega
theorem ZAi (n:Int) (h0 : -9223372036854775808<=n) (h1:n<=9223372036854775807) (H:Zaa):Zay Tryz.prog 38 [.i n] H (Pure H (eS (itoa n))):=by
 have hf:∀H,Zay Tryz.prog 35 [.i n,.i 10] H (Pure H (eS (itoa n))):=fun H=>Same.pure (Zzz n H h0 h1)
 refine Zak hE cf38 (zaa rfl) fun Q qr qn=>?_
 refine Bz0 ?_
 refine qcp (hf _) fun k1=>?_
 refine Bz0 ?_
 refine Zcm (by rfl)
def InI (n:Int):Prop := -9223372036854775808<=n/\n<=9223372036854775807
abbrev rI (l:List Int):List (List AV):=l.map fun n=>[AV.i n]
end Go.Proofs.YtemmgefppobboaaGreatDoor
