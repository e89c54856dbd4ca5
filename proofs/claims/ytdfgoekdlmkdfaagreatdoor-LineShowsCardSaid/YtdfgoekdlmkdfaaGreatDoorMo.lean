/- Texts of the walk. -/
import Derived.Test.YtdfgoekdlmkdfaaGreatDoorMn
namespace Go.Proofs.YtdfgoekdlmkdfaaGreatDoor
set_option linter.defProp false
set_option maxHeartbeats 64000000
set_option linter.unusedSimpArgs false
set_option linter.unusedVariables false
open Go.RowKit Go.Lib
theorem ZBd (c:UInt8) (l:Tx):∃p ps,ZyA c l=p :: ps:=by
 cases h:ZyA c l with
 | nil=>exact absurd h (Zzp c l)
 | cons p ps=>exact⟨p,ps,rfl⟩
theorem parts_eq (c:UInt8) (l:Tx) {p:Tx} {ps:List Tx} (h:ZyA c l=p :: ps):ZyA c (c :: l)=[] :: p :: ps:=by
 unfold ZyA
 rw[if_pos rfl,h]
theorem ZBv {c x:UInt8} (l:Tx) (hx:x≠c) {p:Tx} {ps:List Tx} (h:ZyA c l=p :: ps):ZyA c (x :: l)=(x :: p) :: ps:=by
 rw[ZyA,if_neg hx,h]
def ZBU (s:Tx):Option Nat:=match s with
 | [c]=>if 48<=c.toNat/\c.toNat<=57 then some (c.toNat - 48) else none
 | _=>none
theorem sub48:∀n:Fin 256,48<=n.val->IntKind.u8.wrap ((n.val:Int) - 48)=((n.val - 48:Nat):Int):=by decide +kernel
open Go.RowKit Go.Lib
def tsB:List Tx->Option (List Tx)
 | []=>some []
 | w :: r=>match ZyG w with
  | none=>none
  | some u=>(tsB r).map (u :: ·)
def ZBm (s:Tx):Option (List Tx):=if s=[] then some [] else tsB (ZyA 44 s)
def eTexts (o:Option (List Tx)):AV:=match o with
 | some l=>.tup [.sl .no (rS l),.b true]
 | none=>.tup [.sl .no [],.b false]
theorem ZBo (c:UInt8):∀l:Tx,(ZyA c l).length<=l.length+1
 | []=>by simp[ZyA]
 | x :: l=>by
  have ih:=ZBo c l
  obtain⟨p,ps,h⟩:=ZBd c l
  by_cases hx:x=c
  ·subst hx
   rw[parts_eq x l h]
   rw[h]at ih
   simp only[List.length_cons]at ih ⊢;omega
  ·rw[ZBv l hx h]
   rw[h]at ih
   simp only[List.length_cons]at ih ⊢;omega
theorem ZBw (c:UInt8):∀l:Tx,∀p∈ZyA c l,p.length<=l.length
 | [],p,hp=>by simp[ZyA]at hp;subst hp;simp
 | x :: l,p,hp=>by
  have ih:=ZBw c l
  obtain⟨q,qs,h⟩:=ZBd c l
  rw[h]at ih
  by_cases hx:x=c
  ·subst hx
   rw[parts_eq x l h]at hp
   rcases zak.1 hp with rfl|hp
   ·simp
   ·have:=ih p hp
    simp only[List.length_cons];omega
  ·rw[ZBv l hx h]at hp
   rcases zak.1 hp with rfl|hp
   ·have:=ih q Xc
    simp only[List.length_cons];omega
   ·have:=ih p (by simp[hp])
    simp only[List.length_cons];omega
theorem ZCf {a a' b:AV} (h:Wkn a a'):Wkn (.tup [a,b]) (.tup [a',b]):=.tup _ _ rfl fun i x y hx hy=>by
 match i with
 | 0=>simp at hx hy;subst hx hy;exact h
 | 1=>simp at hx hy;subst hx hy;exact .refl _
 | i+2=>simp at hx
open Go.RowKit Go.Lib
theorem ZD9 (M:Nat):∀(a b:Tx) (acc x:Nat),parseUintM M acc a=.ok x->parseUintM M acc (a++b)=parseUintM M x b
 | [],b,acc,x,h=>by rw[parseUintM]at h;injection h with h;rw[h,List.nil_append]
 | c :: a,b,acc,x,h=>by
  rw[List.cons_append,parseUintM]
  rw[parseUintM]at h
  split at h
  ·rename_i h1
   rw[if_pos h1]
   split at h
   ·cases h
   ·rename_i h2
    rw[if_neg h2]
    split at h
    ·cases h
    ·rename_i h3
     rw[if_neg h3]
     exact ZD9 M a b _ x h
  ·cases h
theorem ZCK (d:Nat) (h:d<10):(UInt8.ofNat (48+d)).toNat=48+d:=by rw[UInt8.toNat_ofNat'];omega
theorem ZGB (u:Nat):decDigits u≠[]:=by
 by_cases h10:u<10
 ·rw[decDigits_one h10];simp
 ·rw[decDigits,dif_neg h10];simp
theorem ZDb:∀u:Nat,∀c∈decDigits u,48<=c.toNat/\c.toNat<=57:=by
 intro u
 induction u using Nat.strongRecOn with
 | _ u ih =>
  intro c hc
  by_cases h10:u<10
  ·rw[decDigits_one h10,zat]at hc
   subst hc
   have:=ZCK u h10
   omega
  ·rw[decDigits,dif_neg h10,zaj,zat]at hc
   rcases hc with hc|rfl
   ·exact ih (u / 10) Xa c hc
   ·have:=ZCK (u % 10) Xa
    omega
theorem ZEa:∀u:Nat,u<18446744073709551616->parseUintM 18446744073709551615 0 (decDigits u)=.ok u:=by
 intro u
 induction u using Nat.strongRecOn with
 | _ u ih =>
  intro hu
  by_cases h10:u<10
  ·rw[decDigits_one h10,parseUintM]
   have:=ZCK u h10
   rw[if_pos Xa,if_neg Xa,if_neg Xa,parseUintM,this]
   congr 1;omega
  ·rw[decDigits,dif_neg h10,ZD9 _ _ _ _ _ (ih (u / 10) Xa Xa),parseUintM]
   have:=ZCK (u % 10) Xa
   rw[if_pos Xa,if_neg Xa,if_neg Xa,parseUintM,this]
   congr 1;omega
theorem ZDu {n:Int} (h:InI n):parseIntB 64 (itoa n)=.ok n:=by
 obtain⟨h0,h1⟩:=h
 have hM:2 ^ 64 - 1=18446744073709551615:=Xb
 have h63:(2:Nat) ^ (64 - 1)=9223372036854775808:=Xb
 unfold itoa
 split
 ·rename_i hn
  have hu:=ZEa n.natAbs Xa
  have hne:=ZGB n.natAbs
  have e45:(45:UInt8).toNat=45:=rfl
  unfold parseIntB
  simp only[e45,or_true,if_true]
  unfold parseUintB
  rw[if_neg hne,hM,hu]
  simp only[h63]
  rw[if_neg Xc,if_neg Xa]
  simp
  omega
 ·rename_i hn
  have hu:=ZEa n.toNat Xa
  have hne:=ZGB n.toNat
  have hall:=ZDb n.toNat
  cases hd:decDigits n.toNat with
  | nil=>exact absurd hd hne
  | cons c r =>
   rw[hd]at hu hall
   have hc:=hall c Xc
   have h45:¬c.toNat=45:=Xa
   have h43:¬(c.toNat=43\/c.toNat=45):=Xa
   unfold parseIntB
   simp only[if_neg h43]
   unfold parseUintB
   rw[if_neg Xc,hM,hu]
   simp only[h63]
   rw[if_neg Xa,if_neg Xa,if_neg h45]
   congr 1
   omega
open Go.RowKit Go.Lib
def NoNum (s:Tx):Prop:=∀m,InI m->itoa m≠s
def NoQ (H:Zaa) (r:AV) (H':Zaa):Prop:=(∃n,r=.tup [.i n,.b false])/\Zaa.Ext H H'
theorem ZGt (n:Int) (hn:InI n) (H:Zaa):Zay Tryz.prog 53 [eS (itoa n)] H (Pure H (.tup [.i n,.b true])):=by
 have hl:=Zz8 hn
 have hp:=fun H=>ZD4 ⟨(itoa n).toArray⟩ n H (by show(itoa n).toArray.size<=_;rw[zaP];omega) (by show parseIntB 64 (itoa n).toArray.toList=_;rw[List.toList_toArray];exact ZDu hn)
 have hx0:Zaa.Ext H H:=.refl _
 have d:decide (itoa n=itoa n)=true:=decide_eq_true rfl
 refine fnQ cf53 fun Q qr qn=>?_
 refine Bz0 ?_
 refine Zap.use (hp _) ?_
 rintro r G ⟨rfl,rfl⟩
 refine Bz0 ?_
 refine qcp (ZAi n hn.1 hn.2 _) fun k1=>?_
 refine Bz1 (X1 d) ?_
 refine Zcm (by rfl)
theorem num_no (s:Tx) (hs:NoNum s) (H:Zaa) (hl:s.length<=100000):Zay Tryz.prog 53 [eS s] H (NoQ H):=by
 have hx0:Zaa.Ext H H:=.refl _
 have hsz:(⟨s.toArray⟩:ByteArray).size<=1000000:=by show s.toArray.size<=_;rw[zaP];omega
 have hdl:(⟨s.toArray⟩:ByteArray).data.toList=s:=by show s.toArray.toList=s;rw[List.toList_toArray]
 rcases hq:parseIntB 64 s with v|_|_
 ·have hv:InI v:=by
   rw[parseIntB_64]at hq
   exact atoiAll_bounds hq
  have hp:=fun H=>ZD4 ⟨s.toArray⟩ v H hsz (by rw[hdl];exact hq)
  have d:decide (itoa v=s)=false:=decide_eq_false (hs v hv)
  refine fnQ cf53 fun Q qr qn=>?_
  refine Bz0 ?_
  refine Zap.use (hp _) ?_
  rintro r G ⟨rfl,rfl⟩
  refine Bz0 ?_
  refine qcp (ZAi v hv.1 hv.2 _) fun k1=>?_
  refine Bz1 (X1 d) ?_
  exact Zaq ⟨⟨_,rfl⟩,hx0.bump⟩
 ·have hp:=fun H=>ZEm ⟨s.toArray⟩ H hsz (by rw[hdl,hq];intro v h;cases h)
  refine fnQ cf53 fun Q qr qn=>?_
  refine Bz0 ?_
  refine Zap.use (hp _) ?_
  rintro r G ⟨⟨n,t,p,rfl⟩,rfl⟩
  refine Bz0 ?_
  exact Zaq ⟨⟨_,rfl⟩,hx0⟩
 ·have hp:=fun H=>ZEm ⟨s.toArray⟩ H hsz (by rw[hdl,hq];intro v h;cases h)
  refine fnQ cf53 fun Q qr qn=>?_
  refine Bz0 ?_
  refine Zap.use (hp _) ?_
  rintro r G ⟨⟨n,t,p,rfl⟩,rfl⟩
  refine Bz0 ?_
  exact Zaq ⟨⟨_,rfl⟩,hx0⟩
open Go.RowKit Go.Lib
open Go.RowKit Go.Lib
def eDig (o:Option Nat):AV:=match o with
 | some n=>.tup [.i (n:Int),.b true]
 | none=>.tup [.i 0,.b false]
theorem ZFa (s:Tx) (H:Zaa) (hl:s.length<=100000):Zay Tryz.prog 113 [eS s] H (Pure H (eDig (ZBU s))):=by
 match s,hl with
 | [],_ =>
  have d:((((0:Nat):Int)) != 1)=true:=rfl
  refine fnQ ZKB fun Q qr qn=>?_
  refine Bz5 (X1 d) ?_
  refine Zcm (by rfl)
 | [c],_ =>
  have d:((((1:Nat):Int)) != 1)=false:=rfl
  have dl:([c]:Tx).length=1:=rfl
  have hb:(⟨#[c]⟩:ByteArray)[0]?=some c:=rfl
  have hb2:=byte_at (l:=[c]) (k:=0) Xc
  have h256:c.toNat<256:=c.toNat_lt
  by_cases h1:c.toNat<48
  ·have d1:decide (((c.toNat:Nat):Int)<48)=true:=by simp;omega
   have hg:ZBU [c]=none:=by show(if 48<=c.toNat/\c.toNat<=57 then some (c.toNat - 48) else none)=none;rw[if_neg Xa]
   rw[hg]
   refine fnQ ZKB fun Q qr qn=>?_
   refine Bz1 (X5 d dl d1 hb hb2) ?_
   refine Zcm (by rfl)
  ·have d1:decide (((c.toNat:Nat):Int)<48)=false:=by simp;omega
   by_cases h2:c.toNat > 57
   ·have d2:decide (((c.toNat:Nat):Int) > 57)=true:=by simp;omega
    have hg:ZBU [c]=none:=by show(if 48<=c.toNat/\c.toNat<=57 then some (c.toNat - 48) else none)=none;rw[if_neg Xa]
    rw[hg]
    refine fnQ ZKB fun Q qr qn=>?_
    refine Bz1 (X6 d dl d1 d2 hb hb2) ?_
    refine Zcm (by rfl)
   ·have d2:decide (((c.toNat:Nat):Int) > 57)=false:=by simp;omega
    have hg:ZBU [c]=some (c.toNat - 48):=by show(if 48<=c.toNat/\c.toNat<=57 then some (c.toNat - 48) else none)=_;rw[if_pos Xa]
    rw[hg]
    have hs:=sub48 ⟨c.toNat,h256⟩ Xf
    simp only at hs
    have hw:IntKind.i64.wrap ((c.toNat - 48:Nat):Int)=((c.toNat - 48:Nat):Int):=Zaw Xa Xa
    refine fnQ ZKB fun Q qr qn=>?_
    refine Bz1 (X8 d dl d1 d2 hb hb2 hs hw) ?_
    refine Zcm (by rfl)
 | c :: e :: r,hl =>
  have d:(((r.length+1+1:Nat):Int) != 1)=true:=by simp;omega
  refine fnQ ZKB fun Q qr qn=>?_
  refine Bz5 (X1 d) ?_
  refine Zcm (by rfl)
open Go.RowKit Go.Lib
def eCut (p:Tx×Option Tx):AV:=match p.2 with
 | some r=>.tup [eS p.1,eS r,.b true]
 | none=>.tup [eS p.1,eS [],.b false]
theorem ZEX (c:UInt8) (s:Tx) (H:Zaa) (hl:s.length<=100000):Zay Tryz.prog 153 [eS s,eS [c]] H (Pure H (eCut (ZyS c s))):=by
 have hi:∀H,Zay Tryz.prog 145 [eS s,eS [c]] H (Pure H (.i (indexByte s c))):=fun H=>by
  have h:=Same.pure (Zzs ⟨s.toArray⟩ c H)
  have e:(⟨s.toArray⟩:ByteArray).data.toList=s:=by show s.toArray.toList=s;rw[List.toList_toArray]
  rw[e]at h
  exact h
 rw[Zzm]at hi
 have heq:=ZzW c s
 unfold eCut
 cases hc:(ZyS c s).2 with
 | none =>
  rw[hc]at hi heq
  simp only[zaw]at heq
  have hi:∀H,Zay Tryz.prog 145 [eS s,eS [c]] H (Pure H (.i (-1))):=hi
  rw[<- heq]
  have d:decide ((-1:Int)≥0)=false:=Xb
  refine fnQ cf153 fun Q qr qn=>?_
  refine Bz0 ?_
  refine qcp (hi _) fun k1=>?_
  refine Bz1 (X1 d) ?_
  refine Zcm (by rfl)
 | some r =>
  rw[hc]at hi heq
  generalize (ZyS c s).1=a at *
  have hi:∀H,Zay Tryz.prog 145 [eS s,eS [c]] H (Pure H (.i (a.length:Int))):=hi
  have heq:s=a++c :: r:=heq
  have hal:a.length+1<=s.length:=by rw[heq];simp
  have d:decide ((a.length:Int)≥0)=true:=Xc
  have hz:(0:Int)<=(a.length:Int):=Xa
  have hz1:(0:Int)<=((a.length+1:Nat):Int):=Xa
  have ht:((a.length:Int)).toNat=a.length:=Xa
  have ht1:(((a.length+1:Nat):Int)).toNat=a.length+1:=Xa
  have hw:IntKind.i64.wrap ((a.length:Int)+((1:Nat):Int))=((a.length+1:Nat):Int):=ZCE Xa
  have hw2:IntKind.i64.wrap ((a.length:Int)+1)=((a.length+1:Nat):Int):=ZCE Xa
  have dl:([c]:Tx).length=1:=rfl
  have b1:a.length<=s.length:=Xa
  have b0:0<=a.length:=zas _
  have b2:s.length<=s.length:=zad _
  have e1:(⟨s.toArray⟩:ByteArray).extract 0 a.length=⟨a.toArray⟩:=by rw[ZCa,heq,List.take_left]
  have e2:(⟨s.toArray⟩:ByteArray).extract (a.length+1) s.length=⟨r.toArray⟩:=by rw[ZBP,heq,<- zbd,List.drop_left];rfl
  generalize a.length=n at *
  refine fnQ cf153 fun Q qr qn=>?_
  refine Bz0 ?_
  refine qcp (hi _) fun k1=>?_
  refine Bz6 (X12 d hz hz1 ht ht1 hw hw2 dl b0 b1 b2 (X3 hal e1 e2)) ?_
  refine Zcm (by rfl)
theorem ZEp (c:UInt8) (s:Tx) (H:Zaa) (hl:s.length<=100000):Zay Tryz.prog 107 [eS s,eS [c]] H (Pure H (eCut (ZyS c s))):=by
 have h:=fun H=>ZEX c s H hl
 unfold eCut at *
 cases hc:(ZyS c s).2 with
 | none =>
  rw[hc]at h
  simp only at h ⊢
  refine fnQ cf107 fun Q qr qn=>?_
  refine Bz0 ?_
  refine qcp (h _) fun k1=>?_
  refine Bz0 ?_
  refine Zcm (by rfl)
 | some r =>
  rw[hc]at h
  simp only at h ⊢
  refine fnQ cf107 fun Q qr qn=>?_
  refine Bz0 ?_
  refine qcp (h _) fun k1=>?_
  refine Bz0 ?_
  refine Zcm (by rfl)
open Go.RowKit Go.Lib
theorem ZEk (c:UInt8) (l a b:Tx):ZyA c l=[a,b] ↔ (ZyS c l).1=a/\(ZyS c l).2=some b/\(ZyS c b).2=none:=by
 rw[ZyM]
 cases h:(ZyS c l).2 with
 | none=>simp
 | some r =>
  simp only[zbs,zab]
  constructor
  ·rintro⟨h1,h2⟩
   rw[ZyM]at h2
   cases h3:(ZyS c r).2 with
   | none =>
    rw[h3]at h2
    simp only[zbs,and_true]at h2
    have:=ZzW c r
    rw[h3,zaw]at this
    refine⟨h1,?_,?_⟩
    ·rw[this,h2]
    ·rw[<- h2,<- this];exact h3
   | some q =>
    rw[h3]at h2
    simp only[zbs]at h2
    exact absurd h2.2 (Zzp c q)
  ·rintro⟨h1,rfl,h2⟩
   refine⟨h1,?_⟩
   rw[ZyM,h2]
   have:=ZzW c r
   rw[h2,zaw]at this
   rw[<- this]
theorem ZCw (c:UInt8):∀l:Tx,c ∉ l->ZyS c l=(l,none)
 | [],_=>rfl
 | x :: l,h=>by
  have hx:¬x=c:=fun e=>h (by rw[e];simp)
  have ih:=ZCw c l (fun e=>h (by simp[e]))
  rw[ZyS,if_neg hx,ih]
theorem ZFI:∀n:Fin 256,ZyJ (ZyR (UInt8.ofNat n.val / 16))=true/\ZyJ (ZyR (UInt8.ofNat n.val % 16))=true:=by decide +kernel
theorem ZCN (s:Tx):∀c∈ZyH s,ZyJ c=true\/c=37:=by
 intro c hc
 have hb:=bfb (ZyB s)
 rcases hb with hb|hb
 ·rw[ZyN hb]at hc
  unfold Zy7 at hc
  rcases zak.1 hc with rfl|hc
  ·exact .inr rfl
  ·obtain⟨x,_,hx⟩:=List.mem_flatMap.1 hc
   have h:=ZFI ⟨x.toNat,x.toNat_lt⟩
   simp only[UInt8.ofNat_toNat]at h
   unfold hex2 at hx
   simp at hx
   rcases hx with rfl|rfl
   ·exact .inl h.1
   ·exact .inl h.2
 ·rw[ZyF hb]at hc
  unfold ZyB at hb
  rw[zaI,zaA]at hb
  exact .inl (hb.1 c hc)
theorem ZDx {w u:Tx} (h:ZyG w=some u):∀c∈w,ZyJ c=true\/c=37:=by
 rw[<- Zzn h]
 exact ZCN u
theorem ZFN (n:Int):∀c∈itoa n,(48<=c.toNat/\c.toNat<=57)\/c=45:=by
 intro c hc
 unfold itoa at hc
 split at hc
 ·rcases zak.1 hc with rfl|hc
  ·exact .inr rfl
  ·exact .inl (ZDb _ c hc)
 ·exact .inl (ZDb _ c hc)
open Go.RowKit Go.Lib
def numOf (s:Tx):Option Int:=match parseIntB 64 s with
 | .ok v=>if itoa v=s then some v else none
 | _=>none
theorem ZBW {s:Tx} {n:Int} (h:numOf s=some n):InI n/\itoa n=s:=by
 unfold numOf at h
 split at h
 ·rename_i v hv
  split at h
  ·rename_i he
   injection h with h
   subst h
   rw[parseIntB_64]at hv
   exact⟨atoiAll_bounds hv,he⟩
  ·cases h
 ·cases h
theorem ZCd {s:Tx} (h:numOf s=none):NoNum s:=by
 intro m hm he
 subst he
 unfold numOf at h
 rw[ZDu hm]at h
 simp at h
def numsOf:List Tx->Option (List Int)
 | []=>some []
 | w :: r=>match numOf w with
  | none=>none
  | some n=>(numsOf r).map (n :: ·)
def rowP (w:Tx):Option Tx:=match (ZyS 61 w).2 with
 | none=>none
 | some b=>match ZBm (ZyS 61 w).1 with
  | none=>none
  | some names=>if b=[] then some (names.flatMap ZA4) else match numsOf (ZyA 44 b)with
   | none=>none
   | some ns=>some (names.flatMap ZA4++ns.flatMap ZCF)
theorem ZCt (c:UInt8):∀l:Tx,ZAr (ZyA c l)<=l.length
 | []=>by simp[ZyA,ZAr]
 | x :: l=>by
  have ih:=ZCt c l
  obtain⟨p,ps,h⟩:=ZBd c l
  rw[h]at ih
  have e:∀(y:Tx) (r:List Tx),ZAr (y :: r)=y.length+ZAr r:=fun y r=>by simp[ZAr]
  rw[e]at ih
  by_cases hx:x=c
  ·subst hx
   rw[parts_eq x l h,e,e]
   simp only[List.length_nil,List.length_cons];omega
  ·rw[ZBv l hx h,e]
   simp only[List.length_cons];omega
theorem ts_len:∀{l:List Tx} {m:List Tx},tsB l=some m->m.length=l.length/\ZAr m<=ZAr l
 | [],m,h=>by injection h with h;subst h;simp[ZAr]
 | w :: r,m,h=>by
  unfold tsB at h
  split at h
  ·cases h
  ·rename_i u hu
   cases hr:tsB r with
   | none=>rw[hr]at h;cases h
   | some q =>
    rw[hr]at h
    injection h with h
    subst h
    obtain⟨h1,h2⟩:=ts_len hr
    have h3:=ZzT hu
    have e:∀(y:Tx) (r:List Tx),ZAr (y :: r)=y.length+ZAr r:=fun y r=>by simp[ZAr]
    rw[e,e]
    exact⟨by simp[h1],Xa⟩
theorem ZBR {s:Tx} {m:List Tx} (h:ZBm s=some m):m.length<=s.length+1/\ZAr m<=s.length:=by
 unfold ZBm at h
 split at h
 ·injection h with h;subst h;simp[ZAr]
 ·obtain⟨h1,h2⟩:=ts_len h
  have h3:=ZBo 44 s
  have h4:=ZCt 44 s
  exact⟨Xa,Xa⟩
end Go.Proofs.YtdfgoekdlmkdfaaGreatDoor
