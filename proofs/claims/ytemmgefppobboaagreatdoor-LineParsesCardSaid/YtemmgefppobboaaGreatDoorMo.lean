/- Texts of the walk. -/
import Derived.Test.YtemmgefppobboaaGreatDoorMn
import Derived.Lib.ParseIntB
import Derived.Lib.ParseIntBTie
import Derived.Test.YtemmgefppobboaaGreatDoorMh
namespace Go.Proofs.YtemmgefppobboaaGreatDoor
set_option linter.defProp false
set_option linter.unusedSimpArgs false
set_option linter.unusedVariables false
open Go.RowKit Go.Lib
theorem ba_sub (s:Tx) (a b:Nat) (h:b<=s.length):(⟨s.toArray⟩:ByteArray).extract a b=⟨((s.drop a).take (b - a)).toArray⟩:=by
 apply za3
 simp only[zbe,zbD,List.extract_eq_take_drop]
theorem cur_next {s:Tx} {a i:Nat} (h:i<s.length) (ha:a<=i):(s.drop a).take (i+1 - a)=(s.drop a).take (i - a)++[s[i]]:=by
 have e:i+1 - a=(i - a)+1:=by omega
 rw[e,zah (by rw[zaC];omega),List.getElem_drop]
 congr 3
 omega
theorem ZBd (c:UInt8) (l:Tx):∃p ps,ZyA c l=p :: ps:=by
 cases h:ZyA c l with
 | nil=>exact absurd h (Zzp c l)
 | cons p ps=>exact⟨p,ps,rfl⟩
theorem parts_eq (c:UInt8) (l:Tx) {p:Tx} {ps:List Tx} (h:ZyA c l=p :: ps):ZyA c (c :: l)=[] :: p :: ps:=by
 unfold ZyA
 rw[if_pos rfl,h]
theorem ZBv {c x:UInt8} (l:Tx) (hx:x≠c) {p:Tx} {ps:List Tx} (h:ZyA c l=p :: ps):ZyA c (x :: l)=(x :: p) :: ps:=by
 rw[ZyA,if_neg hx,h]
set_option maxHeartbeats 8000000 in
theorem ZBj (c:UInt8) (s:Tx) (H:Zaa) (hl:s.length<=100000):Zay Tryz.prog 28 [eS s,u8 c] H (Pure H (.sl .no (rS (ZyA c s)))):=by
 have hx0:Zaa.Ext H H:=.refl _
 refine Zak hE cf28 (zaa rfl) fun Q qr qn=>?_
 refine Bz0 ?_
 obtain⟨p0,ps0,hp0⟩:=ZBd c s
 refine ZBA (fun m F G=>∃i a tok done p ps,m+i=s.length/\a<=i/\ZyA c (s.drop i)=p :: ps/\ZyA c s=done++((s.drop a).take (i - a)++p) :: ps/\done.length<=i/\Fr.get F 7=.i (i:Int)/\Fr.get F 6=.i (a:Int)/\Fr.get F 0=eS s/\Fr.get F 1=u8 c/\Fr.get F 5=.sl tok (rS done)/\ZCe H.next G 9 1 done.length tok/\Zaa.Ext H G) s.length (GStep.refl _ _) ⟨0,0,.full,[],p0,ps0,rfl,zae _,by rw[zax];exact hp0,by simp[hp0],zaA _,rfl,rfl,rfl,rfl,rfl,.inl rfl,hx0⟩ ?_
 rintro m F G ⟨i,a,tok,done,p,ps,hm,ha,hpi,hps,hdn,f7,f6,f0,f1,f5,hT,hx⟩
 have hz:(0:Int)<=(i:Int):=by omega
 have haz:(0:Int)<=(a:Int):=by omega
 have hit:((i:Int)).toNat=i:=by omega
 have hat:((a:Int)).toNat=a:=by omega
 have hrl:(rS done).length=done.length:=by simp
 have hal:ZaE 1 (rS done)=true:=ZaU (f:=fun s:Tx=>[eS s]) (sz:=1) (fun _=>rfl) _
 have hm1:done.length+1<=maxLen:=ZAp (by omega)
 have hm2:(done.length+1) * 16<=140737488355328:=by omega
 by_cases hi:i<s.length
 ·have d1:decide ((i:Int)<(s.length:Int))=true:=by simp;omega
  have hw:=ZCE (s:=i) (by omega)
  have hb:=byte_at hi
  have hcn:=cur_next hi ha
  obtain⟨p',ps',hp'⟩:=ZBd c (s.drop (i+1))
  rw[zai hi]at hpi
  generalize s[i]=x at *
  by_cases hxc:x=c
  ·subst hxc
   rw[parts_eq x _ hp']at hpi
   injection hpi with hp1 hp2
   have d2:(((x.toNat:Nat):Int) == ((x.toNat:Nat):Int))=true:=by simp
   have hbd:(a<=i/\i<=s.length)=True:=by rw[eq_iff_iff,iff_true];omega
   have hiS:i<=s.length:=by omega
   have e1:=ba_sub s a i (by omega)
   have hal2:ZaE 1 [[eS ((s.drop a).take (i - a))]]=true:=rfl
   have hsn:rS done++[[eS ((s.drop a).take (i - a))]]=rS (done++[(s.drop a).take (i - a)]):=by simp
   have hfin:ZyA x s=(done++[(s.drop a).take (i - a)])++((s.drop (i+1)).take (i+1 - (i+1))++p') :: ps':=by
    rw[hps,<- hp1,<- hp2];simp
   generalize (s.drop a).take (i - a)=cur at *
   rcases hT with rfl|⟨t',ht',rfl,hgt⟩
   ·skip
    ((have hd:=tv;repeat' first|(first|apply Zad|apply Zac|apply Zab)<;>intro hd<;>try simp only[hd]|simp(disch:=first|assumption|omega|simp only[nx]<;>omega|fail)only[hd,qr,qn,Zl6,↓YA,YY,sevalprocAttr,f7,f6,f0,f1,f5,hz,haz,hit,hat,d1,d2,hb,hw,Zdi,hbd,ha,hiS,e1,hrl,hal,hal2,hm1,hm2,hsn,zar])<;>try revert hd;refine ttr ?_)
    exact⟨m - 1,by omega,i+1,i+1,.own G.next,done++[cur],p',ps',by omega,by omega,hp',hfin,by rw[zab];simp;omega,rfl,rfl,rfl,.inr ⟨_,hx.next,rfl,by rw[zab];exact Zaa.Zae⟩,hx.alloc⟩
   ·have lt':=Zaa.lt hgt
    skip
    ((have hd:=tv;repeat' first|(first|apply Zad|apply Zac|apply Zab)<;>intro hd<;>try simp only[hd]|simp(disch:=first|assumption|omega|simp only[nx]<;>omega|fail)only[hd,qr,qn,Zl6,↓YA,YY,sevalprocAttr,f7,f6,f0,f1,f5,hz,haz,hit,hat,d1,d2,hb,hw,Zdi,hbd,ha,hiS,e1,hrl,hal,hal2,hm1,hm2,hsn,hgt,zar])<;>try revert hd;refine ttr ?_)
    exact⟨m - 1,by omega,i+1,i+1,.own t',done++[cur],p',ps',by omega,by omega,hp',hfin,by rw[zab];simp;omega,rfl,rfl,rfl,.inr ⟨t',ht',rfl,by rw[zab];exact Zaa.Zal lt'⟩,hx.set ht'⟩
  ·rw[ZBv _ hxc hp']at hpi
   injection hpi with hp1 hp2
   have d2:(((x.toNat:Nat):Int) == ((c.toNat:Nat):Int))=false:=by
    rw[beq_eq_false_iff_ne];intro h;exact hxc (UInt8.toNat_inj.1 (by omega))
   skip
   have hZ:=an7 f7<|an7 f6<|an7 f0<|an7 f1<|an7 f5<|an7 hz<|an7 d1<|an7 d2<|an7 hb<|hw;refine Bz1 ?_
   exact⟨m - 1,by omega,i+1,a,tok,done,p',ps',by omega,by omega,hp',by rw[hps,hcn,<- hp1,<- hp2];simp,by omega,rfl,rfl,rfl,hT,hx⟩
 ·obtain rfl:i=s.length:=by omega
  rw[zaw]at hpi
  have e0:ZyA c []=[[]]:=rfl
  rw[e0]at hpi
  injection hpi with hp1 hp2
  have d1:decide (((s.length:Nat):Int)<(s.length:Int))=false:=by simp
  have hbd:(a<=s.length/\s.length<=s.length)=True:=by rw[eq_iff_iff,iff_true];omega
  have e1:=ZBP s a
  have hal2:ZaE 1 [[eS (s.drop a)]]=true:=rfl
  have hcu:(s.drop a).take (s.length - a)=s.drop a:=zaX (by rw[zaC];omega)
  have hsn:rS done++[[eS (s.drop a)]]=rS (ZyA c s):=by rw[hps,<- hp1,<- hp2,hcu];simp
  generalize s.drop a=cur at *
  generalize hPP:rS (ZyA c s)=PP at *
  rcases hT with rfl|⟨t',ht',rfl,hgt⟩
  ·skip
   ((have hd:=tv;repeat' first|(first|apply Zad|apply Zac|apply Zab)<;>intro hd<;>try simp only[hd]|simp(disch:=first|assumption|omega|simp only[nx]<;>omega|fail)only[hd,qr,qn,Zl6,↓YA,YY,sevalprocAttr,f7,f6,f0,f5,haz,hat,d1,Zdi,hbd,ha,e1,hrl,hal,hal2,hm1,hm2,hsn,zar])<;>try revert hd;refine ttr ?_)
   exact Zc1 (Zfm _ _) hx.alloc
  ·have lt':=Zaa.lt hgt
   skip
   ((have hd:=tv;repeat' first|(first|apply Zad|apply Zac|apply Zab)<;>intro hd<;>try simp only[hd]|simp(disch:=first|assumption|omega|simp only[nx]<;>omega|fail)only[hd,qr,qn,Zl6,↓YA,YY,sevalprocAttr,f7,f6,f0,f5,haz,hat,d1,Zdi,hbd,ha,e1,hrl,hal,hal2,hm1,hm2,hsn,hgt,zar])<;>try revert hd;refine ttr ?_)
   exact Zc1 (Zfm _ _) (hx.set ht')
def ZBU (s:Tx):Option Nat:=match s with
 | [c]=>if 48<=c.toNat/\c.toNat<=57 then some (c.toNat - 48) else none
 | _=>none
theorem sub48:∀n:Fin 256,48<=n.val->IntKind.u8.wrap ((n.val:Int) - 48)=((n.val - 48:Nat):Int):=by decide +kernel
set_option maxHeartbeats 4000000 in
theorem ZEx (s:Tx) (H:Zaa) (hl:s.length<=100000):Zay Tryz.prog 88 [eS s] H (Pure H (.i (match ZBU s with|some n=>(n:Int)|none => -1))):=by
 match s,hl with
 | [],_ =>
  have d:((((0:Nat):Int)) != 1)=true:=rfl
  refine Zak hE cf88 (zaa rfl) fun Q qr qn=>?_
  have hZ:=d;refine Bz5 ?_
  refine Zcm (by rfl)
 | [c],_ =>
  have d:((((1:Nat):Int)) != 1)=false:=rfl
  have dl:([c]:Tx).length=1:=rfl
  have hb:(⟨#[c]⟩:ByteArray)[0]?=some c:=rfl
  have hb2:=byte_at (l:=[c]) (k:=0) (by simp)
  have h256:c.toNat<256:=c.toNat_lt
  by_cases h1:c.toNat<48
  ·have d1:decide (((c.toNat:Nat):Int)<48)=true:=by simp;omega
   have hg:ZBU [c]=none:=by show(if 48<=c.toNat/\c.toNat<=57 then some (c.toNat - 48) else none)=none;rw[if_neg (by omega)]
   rw[hg]
   refine Zak hE cf88 (zaa rfl) fun Q qr qn=>?_
   have hZ:=an7 d<|an7 dl<|an7 d1<|an7 hb<|hb2;refine Bz1 ?_
   refine Zcm (by rfl)
  ·have d1:decide (((c.toNat:Nat):Int)<48)=false:=by simp;omega
   by_cases h2:c.toNat > 57
   ·have d2:decide (((c.toNat:Nat):Int) > 57)=true:=by simp;omega
    have hg:ZBU [c]=none:=by show(if 48<=c.toNat/\c.toNat<=57 then some (c.toNat - 48) else none)=none;rw[if_neg (by omega)]
    rw[hg]
    refine Zak hE cf88 (zaa rfl) fun Q qr qn=>?_
    have hZ:=an7 d<|an7 dl<|an7 d1<|an7 d2<|an7 hb<|hb2;refine Bz1 ?_
    refine Zcm (by rfl)
   ·have d2:decide (((c.toNat:Nat):Int) > 57)=false:=by simp;omega
    have hg:ZBU [c]=some (c.toNat - 48):=by show(if 48<=c.toNat/\c.toNat<=57 then some (c.toNat - 48) else none)=_;rw[if_pos (by omega)]
    rw[hg]
    have hs:=sub48 ⟨c.toNat,h256⟩ (by simp;omega)
    simp only at hs
    have hw:IntKind.i64.wrap ((c.toNat - 48:Nat):Int)=((c.toNat - 48:Nat):Int):=Zaw (by omega) (by omega)
    refine Zak hE cf88 (zaa rfl) fun Q qr qn=>?_
    have hZ:=an7 d<|an7 dl<|an7 d1<|an7 d2<|an7 hb<|an7 hb2<|an7 hs<|hw;refine Bz1 ?_
    refine Zcm (by rfl)
 | c :: e :: r,hl =>
  have d:(((r.length+1+1:Nat):Int) != 1)=true:=by simp;omega
  refine Zak hE cf88 (zaa rfl) fun Q qr qn=>?_
  have hZ:=d;refine Bz5 ?_
  refine Zcm (by rfl)
open Go.RowKit Go.Lib
def tsB:List Tx->Option (List Tx)
 | []=>some []
 | w :: r=>match ZyG w with
  | none=>none
  | some u=>(tsB r).map (u :: ·)
def ZBm (s:Tx):Option (List Tx):=if s=[] then some [] else tsB (ZyA 44 s)
def eTexts (o:Option (List Tx)):AV:=match o with
 | some l=>.tup [.sl .no (rS l),.b true]
 | none=>.tup [.sl .no [],.b false]
theorem ZBo (c:UInt8):∀l:Tx,(ZyA c l).length<=l.length+1
 | []=>by simp[ZyA]
 | x :: l=>by
  have ih:=ZBo c l
  obtain⟨p,ps,h⟩:=ZBd c l
  by_cases hx:x=c
  ·subst hx
   rw[parts_eq x l h]
   rw[h]at ih
   simp only[List.length_cons]at ih ⊢;omega
  ·rw[ZBv l hx h]
   rw[h]at ih
   simp only[List.length_cons]at ih ⊢;omega
theorem ZBw (c:UInt8):∀l:Tx,∀p∈ZyA c l,p.length<=l.length
 | [],p,hp=>by simp[ZyA]at hp;subst hp;simp
 | x :: l,p,hp=>by
  have ih:=ZBw c l
  obtain⟨q,qs,h⟩:=ZBd c l
  rw[h]at ih
  by_cases hx:x=c
  ·subst hx
   rw[parts_eq x l h]at hp
   rcases zaq.1 hp with rfl|hp
   ·simp
   ·have:=ih p hp
    simp only[List.length_cons];omega
  ·rw[ZBv l hx h]at hp
   rcases zaq.1 hp with rfl|hp
   ·have:=ih q (by simp)
    simp only[List.length_cons];omega
   ·have:=ih p (by simp[hp])
    simp only[List.length_cons];omega
theorem ZCf {a a' b:AV} (h:Wkn a a'):Wkn (.tup [a,b]) (.tup [a',b]):=.tup _ _ rfl fun i x y hx hy=>by
 match i with
 | 0=>simp at hx hy;subst hx hy;exact h
 | 1=>simp at hx hy;subst hx hy;exact .refl _
 | i+2=>simp at hx
set_option maxHeartbeats 8000000 in
theorem ZCT (s:Tx) (H:Zaa) (hl:s.length<=10000):Zay Tryz.prog 86 [eS s] H (Pure H (eTexts (ZBm s))):=by
 have hx0:Zaa.Ext H H:=.refl _
 unfold ZBm
 by_cases hs:s=[]
 ·subst hs
  have d:decide (([]:Tx)=[])=true:=rfl
  rw[if_pos rfl]
  refine Zak hE cf86 (zaa rfl) fun Q qr qn=>?_
  have hZ:=d;refine Bz1 ?_
  exact Zc1 (ZCf (Zfm _ [])) hx0
 have d:decide (s=[])=false:=decide_eq_false hs
 rw[if_neg hs]
 have hcnt:=ZBo 44 s
 have hmem:=ZBw 44 s
 have hsp:=fun H=>ZBj 44 s H (by omega)
 generalize ZyA 44 s=ps at *
 generalize hT0:tsB ps=T at *
 refine Zak hE cf86 (zaa rfl) fun Q qr qn=>?_
 have hZ:=d;refine Bz1 ?_
 refine qcp (hsp _) fun k1=>?_
 refine Bz2 ?_
 refine ZbJ (N:=ps.length) (fun k F G=>Fr.get F 14=.i (k:Int)/\Fr.get F 13=.i (ps.length:Int)/\Fr.get F 12=.sl .no (rS ps)/\Zaa.Ext H G/\∃tok done,Fr.get F 4=.sl tok (rS done)/\done.length=k/\ZCe H.next G 9 1 k tok/\T=(tsB (ps.drop k)).map (done++·)) (by unfold maxLen;omega) (fun k F G h=>⟨h.1,h.2.1⟩) (GStep.refl _ _) ⟨rfl,rfl,rfl,hx0.bump,.full,[],rfl,rfl,.inl rfl,by rw[zax,hT0];cases T<;>rfl⟩ ?_ ?_
 ·rintro k F G hk ⟨f14,f13,f12,hx,tok,done,f4,hdl,hTk,hT⟩
  have hz:(0:Int)<=(k:Int):=by omega
  have hr:(rS ps)[k]?=some [eS ps[k]]:=by simp[hk]
  have hwl:=hmem _ (zan hk)
  have htx:=fun H=>ZzE ps[k] H (by omega)
  rw[zai hk,tsB]at hT
  generalize ps[k]=w at *
  have hrl:(rS done).length=k:=by simp[hdl]
  have hal:ZaE 1 (rS done)=true:=ZaU (f:=fun s:Tx=>[eS s]) (sz:=1) (fun _=>rfl) _
  have hm1:k+1<=maxLen:=ZAp (by omega)
  have hm2:(k+1) * 16<=140737488355328:=by omega
  cases hw:ZyG w with
  | none =>
   rw[hw]at htx hT
   have hT:T=none:=hT
   have htx:∀H,Zay Tryz.prog 9 [eS w] H (Pure H (.tup [eS [],.b false])):=htx
   skip
   have hZ:=an7 f14<|an7 f13<|an7 f12<|an7 f4<|an7 hz<|hr;refine Bz1 ?_
   refine qcp (htx _) fun k2=>?_
   have hZ:=an7 f14<|an7 f13<|an7 f12<|f4;refine Bz1 ?_
   rw[hT]
   exact Zc1 (ZCf (Zfm _ [])) hx.bump
  | some u =>
   rw[hw]at htx hT
   have htx:∀H,Zay Tryz.prog 9 [eS w] H (Pure H (.tup [eS u,.b true])):=htx
   have hT:T=(tsB (ps.drop (k+1))).map ((done++[u])++·):=by rw[hT];simp only[zbf];congr 1;funext l;simp
   have hal2:ZaE 1 [[eS u]]=true:=rfl
   have hsn:rS done++[[eS u]]=rS (done++[u]):=by simp
   have hdn:(done++[u]).length=k+1:=by rw[zab,hdl];rfl
   rcases hTk with rfl|⟨t',ht',rfl,hgt⟩
   ·skip
    have hZ:=an7 f14<|an7 f13<|an7 f12<|an7 f4<|an7 hz<|hr;refine Bz1 ?_
    refine qcp (htx _) fun k2=>?_
    have hZ:=an7 f14<|an7 f13<|an7 f12<|an7 f4<|an7 hrl<|an7 hal<|an7 hal2<|an7 hm1<|an7 hm2<|hsn;refine Bz1 ?_
    exact⟨hx.bump.alloc,.own (G.next+k2),done++[u],rfl,hdn,.inr ⟨_,by have:=hx.next;omega,rfl,Zaa.Zae⟩,hT⟩
   ·have lt':=Zaa.lt hgt
    skip
    have hZ:=an7 f14<|an7 f13<|an7 f12<|an7 f4<|an7 hz<|hr;refine Bz1 ?_
    refine qcp (htx _) fun k2=>?_
    have hZ:=an7 f14<|an7 f13<|an7 f12<|an7 f4<|an7 hrl<|an7 hal<|an7 hal2<|an7 hm1<|an7 hm2<|an7 hsn<|hgt;refine Bz1 ?_
    exact⟨hx.bump.set ht',.own t',done++[u],rfl,hdn,.inr ⟨t',ht',rfl,Zaa.Zal (by simp only[nx];omega)⟩,hT⟩
 ·rintro F G ⟨f14,f13,f12,hx,tok,done,f4,hdl,hTk,hT⟩
  rw[zaw]at hT
  have hT:T=some done:=by rw[hT];simp[tsB]
  skip
  have hZ:=f4;refine Bz1 ?_
  rw[hT]
  exact Zc1 (ZCf (Zfm _ _)) hx
open Go.RowKit Go.Lib
theorem ZD9 (M:Nat):∀(a b:Tx) (acc x:Nat),parseUintM M acc a=.ok x->parseUintM M acc (a++b)=parseUintM M x b
 | [],b,acc,x,h=>by rw[parseUintM]at h;injection h with h;rw[h,List.nil_append]
 | c :: a,b,acc,x,h=>by
  rw[List.cons_append,parseUintM]
  rw[parseUintM]at h
  split at h
  ·rename_i h1
   rw[if_pos h1]
   split at h
   ·cases h
   ·rename_i h2
    rw[if_neg h2]
    split at h
    ·cases h
    ·rename_i h3
     rw[if_neg h3]
     exact ZD9 M a b _ x h
  ·cases h
theorem ZCK (d:Nat) (h:d<10):(UInt8.ofNat (48+d)).toNat=48+d:=by rw[UInt8.toNat_ofNat'];omega
theorem ZGB (u:Nat):decDigits u≠[]:=by
 by_cases h10:u<10
 ·rw[decDigits_one h10];simp
 ·rw[decDigits,dif_neg h10];simp
theorem ZDb:∀u:Nat,∀c∈decDigits u,48<=c.toNat/\c.toNat<=57:=by
 intro u
 induction u using Nat.strongRecOn with
 | _ u ih =>
  intro c hc
  by_cases h10:u<10
  ·rw[decDigits_one h10,zau]at hc
   subst hc
   have:=ZCK u h10
   omega
  ·rw[decDigits,dif_neg h10,zat,zau]at hc
   rcases hc with hc|rfl
   ·exact ih (u / 10) (by omega) c hc
   ·have:=ZCK (u % 10) (by omega)
    omega
theorem ZEa:∀u:Nat,u<18446744073709551616->parseUintM 18446744073709551615 0 (decDigits u)=.ok u:=by
 intro u
 induction u using Nat.strongRecOn with
 | _ u ih =>
  intro hu
  by_cases h10:u<10
  ·rw[decDigits_one h10,parseUintM]
   have:=ZCK u h10
   rw[if_pos (by omega),if_neg (by omega),if_neg (by omega),parseUintM,this]
   congr 1;omega
  ·rw[decDigits,dif_neg h10,ZD9 _ _ _ _ _ (ih (u / 10) (by omega) (by omega)),parseUintM]
   have:=ZCK (u % 10) (by omega)
   rw[if_pos (by omega),if_neg (by omega),if_neg (by omega),parseUintM,this]
   congr 1;omega
theorem ZDu {n:Int} (h:InI n):parseIntB 64 (itoa n)=.ok n:=by
 obtain⟨h0,h1⟩:=h
 have hM:2 ^ 64 - 1=18446744073709551615:=by decide
 have h63:(2:Nat) ^ (64 - 1)=9223372036854775808:=by decide
 unfold itoa
 split
 ·rename_i hn
  have hu:=ZEa n.natAbs (by omega)
  have hne:=ZGB n.natAbs
  have e45:(45:UInt8).toNat=45:=rfl
  unfold parseIntB
  simp only[e45,or_true,if_true]
  unfold parseUintB
  rw[if_neg hne,hM,hu]
  simp only[h63]
  rw[if_neg (by simp),if_neg (by omega)]
  simp
  omega
 ·rename_i hn
  have hu:=ZEa n.toNat (by omega)
  have hne:=ZGB n.toNat
  have hall:=ZDb n.toNat
  cases hd:decDigits n.toNat with
  | nil=>exact absurd hd hne
  | cons c r =>
   rw[hd]at hu hall
   have hc:=hall c (by simp)
   have h45:¬c.toNat=45:=by omega
   have h43:¬(c.toNat=43\/c.toNat=45):=by omega
   unfold parseIntB
   simp only[if_neg h43]
   unfold parseUintB
   rw[if_neg (by simp),hM,hu]
   simp only[h63]
   rw[if_neg (by omega),if_neg (by omega),if_neg h45]
   congr 1
   omega
open Go.RowKit Go.Lib
def NoNum (s:Tx):Prop:=∀m,InI m->itoa m≠s
def NoQ (H:Zaa) (r:AV) (H':Zaa):Prop:=(∃n,r=.tup [.i n,.b false])/\Zaa.Ext H H'
set_option maxHeartbeats 4000000 in
theorem ZGt (n:Int) (hn:InI n) (H:Zaa):Zay Tryz.prog 45 [eS (itoa n)] H (Pure H (.tup [.i n,.b true])):=by
 have hl:=Zz8 hn
 have hp:=fun H=>ZD4 ⟨(itoa n).toArray⟩ n H (by show(itoa n).toArray.size<=_;rw[zbN];omega) (by show parseIntB 64 (itoa n).toArray.toList=_;rw[List.toList_toArray];exact ZDu hn)
 have hx0:Zaa.Ext H H:=.refl _
 have d:decide (itoa n=itoa n)=true:=decide_eq_true rfl
 refine Zak hE cf45 (zaa rfl) fun Q qr qn=>?_
 refine Bz0 ?_
 refine Zap.use (hp _) ?_
 rintro r G ⟨rfl,rfl⟩
 refine Bz0 ?_
 refine qcp (ZAi n hn.1 hn.2 _) fun k1=>?_
 have hZ:=d;refine Bz1 ?_
 refine Zcm (by rfl)
set_option maxHeartbeats 4000000 in
theorem num_no (s:Tx) (hs:NoNum s) (H:Zaa) (hl:s.length<=100000):Zay Tryz.prog 45 [eS s] H (NoQ H):=by
 have hx0:Zaa.Ext H H:=.refl _
 have hsz:(⟨s.toArray⟩:ByteArray).size<=1000000:=by show s.toArray.size<=_;rw[zbN];omega
 have hdl:(⟨s.toArray⟩:ByteArray).data.toList=s:=by show s.toArray.toList=s;rw[List.toList_toArray]
 rcases hq:parseIntB 64 s with v|_|_
 ·have hv:InI v:=by
   rw[parseIntB_64]at hq
   exact atoiAll_bounds hq
  have hp:=fun H=>ZD4 ⟨s.toArray⟩ v H hsz (by rw[hdl];exact hq)
  have d:decide (itoa v=s)=false:=decide_eq_false (hs v hv)
  refine Zak hE cf45 (zaa rfl) fun Q qr qn=>?_
  refine Bz0 ?_
  refine Zap.use (hp _) ?_
  rintro r G ⟨rfl,rfl⟩
  refine Bz0 ?_
  refine qcp (ZAi v hv.1 hv.2 _) fun k1=>?_
  have hZ:=d;refine Bz1 ?_
  exact Zaq ⟨⟨_,rfl⟩,hx0.bump⟩
 ·have hp:=fun H=>ZEm ⟨s.toArray⟩ H hsz (by rw[hdl,hq];intro v h;cases h)
  refine Zak hE cf45 (zaa rfl) fun Q qr qn=>?_
  refine Bz0 ?_
  refine Zap.use (hp _) ?_
  rintro r G ⟨⟨n,t,p,rfl⟩,rfl⟩
  refine Bz0 ?_
  exact Zaq ⟨⟨_,rfl⟩,hx0⟩
 ·have hp:=fun H=>ZEm ⟨s.toArray⟩ H hsz (by rw[hdl,hq];intro v h;cases h)
  refine Zak hE cf45 (zaa rfl) fun Q qr qn=>?_
  refine Bz0 ?_
  refine Zap.use (hp _) ?_
  rintro r G ⟨⟨n,t,p,rfl⟩,rfl⟩
  refine Bz0 ?_
  exact Zaq ⟨⟨_,rfl⟩,hx0⟩
open Go.RowKit Go.Lib
theorem ZGT (n:Int):InI (IntKind.i64.wrap n):=by
 unfold InI
 rw[IntKind.wrap_i64]
 omega
def ZDy:Int->Tx->Int
 | v,[]=>v
 | v,c :: r=>ZDy (IntKind.i64.wrap (IntKind.i64.wrap (v * 10)+((c.toNat - 48:Nat):Int))) r
theorem ZFj:∀(a b:Tx) (v:Int),ZDy v (a++b)=ZDy (ZDy v a) b
 | [],_,_=>rfl
 | c :: a,b,v=>by simp only[List.cons_append,ZDy];exact ZFj a b _
theorem ZFs:∀u:Nat,ZDy 0 (decDigits u)=IntKind.i64.wrap (u:Int):=by
 intro u
 induction u using Nat.strongRecOn with
 | _ u ih =>
  by_cases h10:u<10
  ·rw[decDigits_one h10]
   simp only[ZDy]
   rw[ZCK u h10]
   simp only[IntKind.wrap_i64]
   omega
  ·rw[decDigits,dif_neg h10,ZFj,ih (u / 10) (by omega)]
   simp only[ZDy]
   rw[ZCK (u % 10) (by omega)]
   simp only[IntKind.wrap_i64]
   omega
theorem ZGj:∀(l:Tx) (v:Int),InI v->InI (ZDy v l)
 | [],v,h=>h
 | c :: l,v,_=>ZGj l _ (ZGT _)
def ZFv (c:UInt8):Bool:=decide (48<=c.toNat)&&decide (c.toNat<=57)
set_option maxHeartbeats 4000000 in
theorem ZB4 {Q:AEx->Fr->Zaa->Prop} {F:Fr} {H:Zaa} {s:Tx} {k:Nat} {v4:AV} (hk:k<=s.length) (hl:s.length<=1000) (f0:Fr.get F 0=eS s) (f4:Fr.get F 4=v4) (f5:Fr.get F 5=.i 0) (f6:Fr.get F 6=.i (k:Int))
  (hR:∀F',(s.drop k).all ZFv=false->Fr.get F' 2=.i 0->Fr.get F' 3=.b false->Q .ret F' H)
  (hQ:∀F',(s.drop k).all ZFv=true->Fr.get F' 0=eS s->Fr.get F' 4=v4->Fr.get F' 5=.i (ZDy 0 (s.drop k))->Q .normal F' H):AW Tryz.prog c29_1 Q F H:=by
 have qr:=trivial
 have qn:=trivial
 refine ZBA (fun m F G=>∃i v,m+i=s.length/\Fr.get F 6=.i (i:Int)/\Fr.get F 0=eS s/\Fr.get F 4=v4/\Fr.get F 5=.i v/\ZDy 0 (s.drop k)=ZDy v (s.drop i)/\(s.drop k).all ZFv=(s.drop i).all ZFv/\G=H) (s.length - k) (GStep.refl _ _) ⟨k,0,by omega,f6,f0,f4,f5,rfl,rfl,rfl⟩ ?_
 rintro m F G ⟨i,v,hm,f6,f0,f4,f5,ha,hd,rfl⟩
 have hz:(0:Int)<=(i:Int):=by omega
 by_cases hi:i<s.length
 ·have d1:decide ((i:Int)<(s.length:Int))=true:=by simp;omega
  have hw:=ZCE (s:=i) (by omega)
  have hb:=byte_at hi
  rw[zai hi]at ha hd
  generalize s[i]=c at *
  have h256:c.toNat<256:=c.toNat_lt
  simp only[ZDy,List.all_cons]at ha hd
  by_cases h1:c.toNat<48
  ·have e1:decide (((c.toNat:Nat):Int)<48)=true:=by simp;omega
   have hc:ZFv c=false:=by unfold ZFv;simp;omega
   rw[hc,zb4]at hd
   skip
   have hZ:=an7 f6<|an7 f0<|an7 f4<|an7 f5<|an7 hz<|an7 d1<|an7 hb<|e1;refine Bz1 ?_
   exact hR _ hd rfl rfl
  ·have e1:decide (((c.toNat:Nat):Int)<48)=false:=by simp;omega
   by_cases h2:c.toNat > 57
   ·have e2:decide (((c.toNat:Nat):Int) > 57)=true:=by simp;omega
    have hc:ZFv c=false:=by unfold ZFv;simp;omega
    rw[hc,zb4]at hd
    skip
    have hZ:=an7 f6<|an7 f0<|an7 f4<|an7 f5<|an7 hz<|an7 d1<|an7 hb<|an7 e1<|e2;refine Bz1 ?_
    exact hR _ hd rfl rfl
   ·have e2:decide (((c.toNat:Nat):Int) > 57)=false:=by simp;omega
    have hc:ZFv c=true:=by unfold ZFv;simp;omega
    rw[hc,zbl]at hd
    have hs:=sub48 ⟨c.toNat,h256⟩ (by simp;omega)
    simp only at hs
    have hw2:IntKind.i64.wrap ((c.toNat - 48:Nat):Int)=((c.toNat - 48:Nat):Int):=Zaw (by omega) (by omega)
    skip
    have hZ:=an7 f6<|an7 f0<|an7 f4<|an7 f5<|an7 hz<|an7 d1<|an7 hb<|an7 e1<|an7 e2<|an7 hs<|an7 hw2<|hw;refine Bz1 ?_
    exact⟨m - 1,by omega,i+1,_,by omega,rfl,rfl,ha,hd⟩
 ·have d1:decide ((i:Int)<(s.length:Int))=false:=by simp;omega
  have e:s.drop i=[]:=zbs (by omega)
  rw[e]at ha hd
  simp only[ZDy]at ha
  rw[<- ha]at f5
  skip
  have hZ:=an7 f6<|an7 f0<|an7 f4<|an7 f5<|d1;refine Bz1 ?_
  exact hQ _ hd (by simpa [Fr.get] using f0) (by simpa [Fr.get] using f4) (by simpa [Fr.get] using f5)
theorem ZGm (u:Nat):(decDigits u).all ZFv=true:=by
 rw[zaF]
 intro c hc
 have:=ZDb u c hc
 unfold ZFv
 simp
 omega
theorem ZGb (u:Nat):∃c r,decDigits u=c :: r/\(((c.toNat:Nat):Int) == 45)=false:=by
 have h1:=ZGB u
 have h2:=ZDb u
 cases h:decDigits u with
 | nil=>exact absurd h h1
 | cons c r =>
  rw[h]at h2
  have:=h2 c (by simp)
  exact⟨c,r,rfl,by rw[beq_eq_false_iff_ne];omega⟩
set_option maxHeartbeats 4000000 in
theorem ZFp (n:Int) (hn:InI n) (H:Zaa):Zay Tryz.prog 29 [eS (itoa n)] H (Pure H (.tup [.i n,.b true])):=by
 have hl:=Zz8 hn
 have hx0:Zaa.Ext H H:=.refl _
 have dd:decide (itoa n=itoa n)=true:=decide_eq_true rfl
 have d20:decide (((itoa n).length:Int) > 20)=false:=by simp;omega
 have hdg:=ZAb n hn.1 hn.2
 have hz0:(0:Int)<=0:=za9 _
 by_cases hneg:n<0
 ·have he:itoa n=45 :: decDigits n.natAbs:=by unfold itoa;rw[if_pos hneg]
  have hdr:(itoa n).drop 1=decDigits n.natAbs:=by rw[he];rfl
  have hb:(⟨(itoa n).toArray⟩:ByteArray)[0]?=some 45:=by rw[Zy6,he];rfl
  have dp:decide (((itoa n).length:Int) > 0)=true:=by rw[he];simp
  have d45:((((45:UInt8).toNat:Nat):Int) == 45)=true:=rfl
  have d11:((1:Int) == 1)=true:=rfl
  have hac:ZDy 0 ((itoa n).drop 1)=IntKind.i64.wrap (n.natAbs:Int):=by rw[hdr];exact ZFs _
  have hall:((itoa n).drop 1).all ZFv=true:=by rw[hdr];exact ZGm _
  have hfin:IntKind.i64.wrap (0 - IntKind.i64.wrap (n.natAbs:Int))=n:=by
   have:=hn.1
   simp only[IntKind.wrap_i64];omega
  have hk:1<=(itoa n).length:=by rw[he];simp
  generalize itoa n=s at *
  refine Zak hE cf29 (zaa rfl) fun Q qr qn=>?_
  have hZ:=an7 d20<|an7 dp<|an7 hz0<|an7 hb<|d45;refine Bz1 ?_
  refine ZB4 (k:=1) hk (by omega) rfl rfl rfl rfl ?_ ?_
  ·intro F' h
   rw[hall]at h;cases h
  ·intro F' _ f0 f4 f5
   rw[hac]at f5
   have hZ:=an7 f0<|an7 f4<|an7 f5<|an7 d11<|hfin;refine Bz1 ?_
   refine qcp (hdg _) fun k1=>?_
   have hZ:=an7 f0<|an7 f4<|an7 f5<|dd;refine Bz1 ?_
   refine Zcm (by rfl)
 ·have he:itoa n=decDigits n.toNat:=by unfold itoa;rw[if_neg hneg]
  obtain⟨c,r,hcr,hc45⟩:=ZGb n.toNat
  have hb:(⟨(itoa n).toArray⟩:ByteArray)[0]?=some c:=by rw[Zy6,he,hcr];rfl
  have dp:decide (((itoa n).length:Int) > 0)=true:=by rw[he,hcr];simp
  have d01:((0:Int) == 1)=false:=rfl
  have hac:ZDy 0 ((itoa n).drop 0)=n:=by
   rw[zax,he,ZFs,Zaw (by omega) (by have:=hn.2;omega)];omega
  have hall:((itoa n).drop 0).all ZFv=true:=by rw[zax,he];exact ZGm _
  generalize itoa n=s at *
  refine Zak hE cf29 (zaa rfl) fun Q qr qn=>?_
  have hZ:=an7 d20<|an7 dp<|an7 hz0<|an7 hb<|hc45;refine Bz1 ?_
  refine ZB4 (k:=0) (zaA _) (by omega) rfl rfl rfl rfl ?_ ?_
  ·intro F' h
   rw[hall]at h;cases h
  ·intro F' _ f0 f4 f5
   rw[hac]at f5
   have hZ:=an7 f0<|an7 f4<|an7 f5<|d01;refine Bz1 ?_
   refine qcp (hdg _) fun k1=>?_
   have hZ:=an7 f0<|an7 f4<|an7 f5<|dd;refine Bz1 ?_
   refine Zcm (by rfl)
set_option maxHeartbeats 4000000 in
theorem ZHc (s:Tx) (hs:NoNum s) (H:Zaa) (hl:s.length<=100000):Zay Tryz.prog 29 [eS s] H (NoQ H):=by
 have hx0:Zaa.Ext H H:=.refl _
 have hz0:(0:Int)<=0:=za9 _
 by_cases h20:s.length > 20
 ·have d20:decide ((s.length:Int) > 20)=true:=by simp;omega
  refine Zak hE cf29 (zaa rfl) fun Q qr qn=>?_
  have hZ:=d20;refine Bz1 ?_
  exact Zaq ⟨⟨_,rfl⟩,hx0⟩
 have d20:decide ((s.length:Int) > 20)=false:=by simp;omega
 have hno:∀v,InI v->decide (itoa v=s)=false:=fun v hv=>decide_eq_false (hs v hv)
 have z0:InI 0:=⟨by omega,by omega⟩
 cases s with
 | nil =>
  have dp:decide (((([]:Tx).length:Nat):Int) > 0)=false:=by decide
  have dp2:decide ((((0:Nat):Int)) > 0)=false:=by decide
  have dp3:decide ((((0:Nat):Int)) > 20)=false:=by decide
  have d01:((0:Int) == 1)=false:=rfl
  refine Zak hE cf29 (zaa rfl) fun Q qr qn=>?_
  have hZ:=an7 d20<|an7 dp<|an7 dp2<|dp3;refine Bz5 ?_
  refine ZB4 (k:=0) (s:=[]) (zaA _) (by simp) rfl rfl rfl rfl ?_ ?_
  ·intro F' h
   cases h
  ·intro F' _ f0 f4 f5
   have e:ZDy 0 (List.drop 0 ([]:Tx))=0:=rfl
   rw[e]at f5
   have hZ:=an7 f0<|an7 f4<|an7 f5<|d01;refine Bz1 ?_
   refine qcp (ZAb 0 z0.1 z0.2 _) fun k1=>?_
   have dn:=hno 0 z0
   have hZ:=an7 f0<|an7 f4<|an7 f5<|dn;refine Bz1 ?_
   exact Zaq ⟨⟨_,rfl⟩,hx0.bump⟩
 | cons c r =>
  have dp:decide ((((c :: r:Tx).length:Nat):Int) > 0)=true:=by simp
  have hb:(⟨(c :: r).toArray⟩:ByteArray)[0]?=some c:=by rw[Zy6];rfl
  have hlr:(c :: r:Tx).length<=20:=by omega
  have h1l:1<=(c :: r:Tx).length:=by simp
  generalize hS:c :: r=S at *
  by_cases h45:c.toNat=45
  ·have d45:(((c.toNat:Nat):Int) == 45)=true:=by rw[h45];rfl
   have d11:((1:Int) == 1)=true:=rfl
   refine Zak hE cf29 (zaa rfl) fun Q qr qn=>?_
   have hZ:=an7 d20<|an7 dp<|an7 hz0<|an7 hb<|d45;refine Bz1 ?_
   refine ZB4 (k:=1) (s:=S) h1l (by omega) rfl rfl rfl rfl ?_ ?_
   ·intro F' _ f2 f3
    have hZ:=an7 f2<|f3;refine Bz1 ?_
    exact Zaq ⟨⟨_,rfl⟩,hx0⟩
   ·intro F' _ f0 f4 f5
    have hw:=ZGT (0 - ZDy 0 (List.drop 1 S))
    generalize ZDy 0 (List.drop 1 S)=v at *
    have dn:=hno _ hw
    have hdg:=ZAb _ hw.1 hw.2
    have hZ:=an7 f0<|an7 f4<|an7 f5<|d11;refine Bz1 ?_
    refine qcp (hdg _) fun k1=>?_
    have hZ:=an7 f0<|an7 f4<|an7 f5<|dn;refine Bz1 ?_
    exact Zaq ⟨⟨_,rfl⟩,hx0.bump⟩
  ·have d45:(((c.toNat:Nat):Int) == 45)=false:=by rw[beq_eq_false_iff_ne];omega
   have d01:((0:Int) == 1)=false:=rfl
   refine Zak hE cf29 (zaa rfl) fun Q qr qn=>?_
   have hZ:=an7 d20<|an7 dp<|an7 hz0<|an7 hb<|d45;refine Bz1 ?_
   refine ZB4 (k:=0) (s:=S) (zaA _) (by omega) rfl rfl rfl rfl ?_ ?_
   ·intro F' _ f2 f3
    have hZ:=an7 f2<|f3;refine Bz1 ?_
    exact Zaq ⟨⟨_,rfl⟩,hx0⟩
   ·intro F' _ f0 f4 f5
    have hw:=ZGj (List.drop 0 S) 0 z0
    generalize ZDy 0 (List.drop 0 S)=v at *
    have dn:=hno _ hw
    have hdg:=ZAb _ hw.1 hw.2
    have hZ:=an7 f0<|an7 f4<|an7 f5<|d01;refine Bz1 ?_
    refine qcp (hdg _) fun k1=>?_
    have hZ:=an7 f0<|an7 f4<|an7 f5<|dn;refine Bz1 ?_
    exact Zaq ⟨⟨_,rfl⟩,hx0.bump⟩
open Go.RowKit Go.Lib
def eDig (o:Option Nat):AV:=match o with
 | some n=>.tup [.i (n:Int),.b true]
 | none=>.tup [.i 0,.b false]
set_option maxHeartbeats 4000000 in
theorem ZFa (s:Tx) (H:Zaa) (hl:s.length<=100000):Zay Tryz.prog 79 [eS s] H (Pure H (eDig (ZBU s))):=by
 match s,hl with
 | [],_ =>
  have d:((((0:Nat):Int)) != 1)=true:=rfl
  refine Zak hE cf79 (zaa rfl) fun Q qr qn=>?_
  have hZ:=d;refine Bz5 ?_
  refine Zcm (by rfl)
 | [c],_ =>
  have d:((((1:Nat):Int)) != 1)=false:=rfl
  have dl:([c]:Tx).length=1:=rfl
  have hb:(⟨#[c]⟩:ByteArray)[0]?=some c:=rfl
  have hb2:=byte_at (l:=[c]) (k:=0) (by simp)
  have h256:c.toNat<256:=c.toNat_lt
  by_cases h1:c.toNat<48
  ·have d1:decide (((c.toNat:Nat):Int)<48)=true:=by simp;omega
   have hg:ZBU [c]=none:=by show(if 48<=c.toNat/\c.toNat<=57 then some (c.toNat - 48) else none)=none;rw[if_neg (by omega)]
   rw[hg]
   refine Zak hE cf79 (zaa rfl) fun Q qr qn=>?_
   have hZ:=an7 d<|an7 dl<|an7 d1<|an7 hb<|hb2;refine Bz1 ?_
   refine Zcm (by rfl)
  ·have d1:decide (((c.toNat:Nat):Int)<48)=false:=by simp;omega
   by_cases h2:c.toNat > 57
   ·have d2:decide (((c.toNat:Nat):Int) > 57)=true:=by simp;omega
    have hg:ZBU [c]=none:=by show(if 48<=c.toNat/\c.toNat<=57 then some (c.toNat - 48) else none)=none;rw[if_neg (by omega)]
    rw[hg]
    refine Zak hE cf79 (zaa rfl) fun Q qr qn=>?_
    have hZ:=an7 d<|an7 dl<|an7 d1<|an7 d2<|an7 hb<|hb2;refine Bz1 ?_
    refine Zcm (by rfl)
   ·have d2:decide (((c.toNat:Nat):Int) > 57)=false:=by simp;omega
    have hg:ZBU [c]=some (c.toNat - 48):=by show(if 48<=c.toNat/\c.toNat<=57 then some (c.toNat - 48) else none)=_;rw[if_pos (by omega)]
    rw[hg]
    have hs:=sub48 ⟨c.toNat,h256⟩ (by simp;omega)
    simp only at hs
    have hw:IntKind.i64.wrap ((c.toNat - 48:Nat):Int)=((c.toNat - 48:Nat):Int):=Zaw (by omega) (by omega)
    refine Zak hE cf79 (zaa rfl) fun Q qr qn=>?_
    have hZ:=an7 d<|an7 dl<|an7 d1<|an7 d2<|an7 hb<|an7 hb2<|an7 hs<|hw;refine Bz1 ?_
    refine Zcm (by rfl)
 | c :: e :: r,hl =>
  have d:(((r.length+1+1:Nat):Int) != 1)=true:=by simp;omega
  refine Zak hE cf79 (zaa rfl) fun Q qr qn=>?_
  have hZ:=d;refine Bz5 ?_
  refine Zcm (by rfl)
open Go.RowKit Go.Lib
def eCut (p:Tx×Option Tx):AV:=match p.2 with
 | some r=>.tup [eS p.1,eS r,.b true]
 | none=>.tup [eS p.1,eS [],.b false]
set_option maxHeartbeats 4000000 in
theorem ZEX (c:UInt8) (s:Tx) (H:Zaa) (hl:s.length<=100000):Zay Tryz.prog 112 [eS s,eS [c]] H (Pure H (eCut (ZyS c s))):=by
 have hi:∀H,Zay Tryz.prog 103 [eS s,eS [c]] H (Pure H (.i (indexByte s c))):=fun H=>by
  have h:=Same.pure (Zzs ⟨s.toArray⟩ c H)
  have e:(⟨s.toArray⟩:ByteArray).data.toList=s:=by show s.toArray.toList=s;rw[List.toList_toArray]
  rw[e]at h
  exact h
 rw[Zzm]at hi
 have heq:=ZzW c s
 unfold eCut
 cases hc:(ZyS c s).2 with
 | none =>
  rw[hc]at hi heq
  simp only[zaB]at heq
  have hi:∀H,Zay Tryz.prog 103 [eS s,eS [c]] H (Pure H (.i (-1))):=hi
  rw[<- heq]
  have d:decide ((-1:Int)≥0)=false:=by decide
  refine Zak hE cf112 (zaa rfl) fun Q qr qn=>?_
  refine Bz0 ?_
  refine qcp (hi _) fun k1=>?_
  have hZ:=d;refine Bz1 ?_
  refine Zcm (by rfl)
 | some r =>
  rw[hc]at hi heq
  generalize (ZyS c s).1=a at *
  have hi:∀H,Zay Tryz.prog 103 [eS s,eS [c]] H (Pure H (.i (a.length:Int))):=hi
  have heq:s=a++c :: r:=heq
  have hal:a.length+1<=s.length:=by rw[heq];simp
  have d:decide ((a.length:Int)≥0)=true:=by simp
  have hz:(0:Int)<=(a.length:Int):=by omega
  have hz1:(0:Int)<=((a.length+1:Nat):Int):=by omega
  have ht:((a.length:Int)).toNat=a.length:=by omega
  have ht1:(((a.length+1:Nat):Int)).toNat=a.length+1:=by omega
  have hw:IntKind.i64.wrap ((a.length:Int)+((1:Nat):Int))=((a.length+1:Nat):Int):=ZCE (by omega)
  have hw2:IntKind.i64.wrap ((a.length:Int)+1)=((a.length+1:Nat):Int):=ZCE (by omega)
  have dl:([c]:Tx).length=1:=rfl
  have b1:a.length<=s.length:=by omega
  have b0:0<=a.length:=zaA _
  have b2:s.length<=s.length:=zae _
  have e1:(⟨s.toArray⟩:ByteArray).extract 0 a.length=⟨a.toArray⟩:=by rw[ZCa,heq,zb5]
  have e2:(⟨s.toArray⟩:ByteArray).extract (a.length+1) s.length=⟨r.toArray⟩:=by rw[ZBP,heq,<- List.drop_drop,List.drop_left];rfl
  generalize a.length=n at *
  refine Zak hE cf112 (zaa rfl) fun Q qr qn=>?_
  refine Bz0 ?_
  refine qcp (hi _) fun k1=>?_
  ((have hd:=tv;repeat' first|(first|apply Zad|apply Zac|apply Zab)<;>intro hd<;>try simp only[hd]|simp(disch:=first|assumption|omega|simp only[nx]<;>omega|fail)only[hd,qr,qn,Zpf,↓YA,YY,sevalprocAttr,d,hz,hz1,ht,ht1,hw,hw2,dl,b0,b1,b2,hal,Zdi,e1,e2])<;>try revert hd;refine ttr ?_)
  refine Zcm (by rfl)
theorem ZEp (c:UInt8) (s:Tx) (H:Zaa) (hl:s.length<=100000):Zay Tryz.prog 73 [eS s,eS [c]] H (Pure H (eCut (ZyS c s))):=by
 have h:=fun H=>ZEX c s H hl
 unfold eCut at *
 cases hc:(ZyS c s).2 with
 | none =>
  rw[hc]at h
  simp only at h ⊢
  refine Zak hE cf73 (zaa rfl) fun Q qr qn=>?_
  refine Bz0 ?_
  refine qcp (h _) fun k1=>?_
  refine Bz0 ?_
  refine Zcm (by rfl)
 | some r =>
  rw[hc]at h
  simp only at h ⊢
  refine Zak hE cf73 (zaa rfl) fun Q qr qn=>?_
  refine Bz0 ?_
  refine qcp (h _) fun k1=>?_
  refine Bz0 ?_
  refine Zcm (by rfl)
open Go.RowKit Go.Lib
theorem ZEk (c:UInt8) (l a b:Tx):ZyA c l=[a,b] ↔ (ZyS c l).1=a/\(ZyS c l).2=some b/\(ZyS c b).2=none:=by
 rw[ZyM]
 cases h:(ZyS c l).2 with
 | none=>simp
 | some r =>
  simp only[zbx,zac]
  constructor
  ·rintro⟨h1,h2⟩
   rw[ZyM]at h2
   cases h3:(ZyS c r).2 with
   | none =>
    rw[h3]at h2
    simp only[zbx,and_true]at h2
    have:=ZzW c r
    rw[h3,zaB]at this
    refine⟨h1,?_,?_⟩
    ·rw[this,h2]
    ·rw[<- h2,<- this];exact h3
   | some q =>
    rw[h3]at h2
    simp only[zbx]at h2
    exact absurd h2.2 (Zzp c q)
  ·rintro⟨h1,rfl,h2⟩
   refine⟨h1,?_⟩
   rw[ZyM,h2]
   have:=ZzW c r
   rw[h2,zaB]at this
   rw[<- this]
theorem ZCw (c:UInt8):∀l:Tx,c ∉ l->ZyS c l=(l,none)
 | [],_=>rfl
 | x :: l,h=>by
  have hx:¬x=c:=fun e=>h (by rw[e];simp)
  have ih:=ZCw c l (fun e=>h (by simp[e]))
  rw[ZyS,if_neg hx,ih]
theorem ZFI:∀n:Fin 256,ZyJ (ZyR (UInt8.ofNat n.val / 16))=true/\ZyJ (ZyR (UInt8.ofNat n.val % 16))=true:=by decide +kernel
theorem ZCN (s:Tx):∀c∈ZyH s,ZyJ c=true\/c=37:=by
 intro c hc
 have hb:=bfb (ZyB s)
 rcases hb with hb|hb
 ·rw[ZyN hb]at hc
  unfold Zy7 at hc
  rcases zaq.1 hc with rfl|hc
  ·exact .inr rfl
  ·obtain⟨x,_,hx⟩:=List.mem_flatMap.1 hc
   have h:=ZFI ⟨x.toNat,x.toNat_lt⟩
   simp only[UInt8.ofNat_toNat]at h
   unfold hex2 at hx
   simp at hx
   rcases hx with rfl|rfl
   ·exact .inl h.1
   ·exact .inl h.2
 ·rw[ZyF hb]at hc
  unfold ZyB at hb
  rw[zay,zaF]at hb
  exact .inl (hb.1 c hc)
theorem ZDx {w u:Tx} (h:ZyG w=some u):∀c∈w,ZyJ c=true\/c=37:=by
 rw[<- Zzn h]
 exact ZCN u
theorem ZFN (n:Int):∀c∈itoa n,(48<=c.toNat/\c.toNat<=57)\/c=45:=by
 intro c hc
 unfold itoa at hc
 split at hc
 ·rcases zaq.1 hc with rfl|hc
  ·exact .inr rfl
  ·exact .inl (ZDb _ c hc)
 ·exact .inl (ZDb _ c hc)
open Go.RowKit Go.Lib
def numOf (s:Tx):Option Int:=match parseIntB 64 s with
 | .ok v=>if itoa v=s then some v else none
 | _=>none
theorem ZBW {s:Tx} {n:Int} (h:numOf s=some n):InI n/\itoa n=s:=by
 unfold numOf at h
 split at h
 ·rename_i v hv
  split at h
  ·rename_i he
   injection h with h
   subst h
   rw[parseIntB_64]at hv
   exact⟨atoiAll_bounds hv,he⟩
  ·cases h
 ·cases h
theorem ZCd {s:Tx} (h:numOf s=none):NoNum s:=by
 intro m hm he
 subst he
 unfold numOf at h
 rw[ZDu hm]at h
 simp at h
def numsOf:List Tx->Option (List Int)
 | []=>some []
 | w :: r=>match numOf w with
  | none=>none
  | some n=>(numsOf r).map (n :: ·)
def rowP (w:Tx):Option Tx:=match (ZyS 61 w).2 with
 | none=>none
 | some b=>match ZBm (ZyS 61 w).1 with
  | none=>none
  | some names=>if b=[] then some (names.flatMap ZA4) else match numsOf (ZyA 44 b)with
   | none=>none
   | some ns=>some (names.flatMap ZA4++ns.flatMap ZCF)
theorem ZCt (c:UInt8):∀l:Tx,ZAr (ZyA c l)<=l.length
 | []=>by simp[ZyA,ZAr]
 | x :: l=>by
  have ih:=ZCt c l
  obtain⟨p,ps,h⟩:=ZBd c l
  rw[h]at ih
  have e:∀(y:Tx) (r:List Tx),ZAr (y :: r)=y.length+ZAr r:=fun y r=>by simp[ZAr]
  rw[e]at ih
  by_cases hx:x=c
  ·subst hx
   rw[parts_eq x l h,e,e]
   simp only[List.length_nil,List.length_cons];omega
  ·rw[ZBv l hx h,e]
   simp only[List.length_cons];omega
theorem ts_len:∀{l:List Tx} {m:List Tx},tsB l=some m->m.length=l.length/\ZAr m<=ZAr l
 | [],m,h=>by injection h with h;subst h;simp[ZAr]
 | w :: r,m,h=>by
  unfold tsB at h
  split at h
  ·cases h
  ·rename_i u hu
   cases hr:tsB r with
   | none=>rw[hr]at h;cases h
   | some q =>
    rw[hr]at h
    injection h with h
    subst h
    obtain⟨h1,h2⟩:=ts_len hr
    have h3:=ZzT hu
    have e:∀(y:Tx) (r:List Tx),ZAr (y :: r)=y.length+ZAr r:=fun y r=>by simp[ZAr]
    rw[e,e]
    exact⟨by simp[h1],by omega⟩
theorem ZBR {s:Tx} {m:List Tx} (h:ZBm s=some m):m.length<=s.length+1/\ZAr m<=s.length:=by
 unfold ZBm at h
 split at h
 ·injection h with h;subst h;simp[ZAr]
 ·obtain⟨h1,h2⟩:=ts_len h
  have h3:=ZBo 44 s
  have h4:=ZCt 44 s
  exact⟨by omega,by omega⟩
end Go.Proofs.YtemmgefppobboaaGreatDoor
