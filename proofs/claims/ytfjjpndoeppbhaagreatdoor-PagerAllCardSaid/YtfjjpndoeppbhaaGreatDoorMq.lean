/- Texts of the walk. -/
import Derived.Test.YtfjjpndoeppbhaaGreatDoorMp
namespace Go.Proofs.YtfjjpndoeppbhaaGreatDoor
set_option linter.defProp false
set_option maxHeartbeats 64000000
set_option linter.unusedSimpArgs false
set_option linter.unusedVariables false
open Go.RowKit
def polC:BitVec 32:=0x82f63b78#32
def stC (n:BitVec 32):BitVec 32:=bif n.getLsbD 0 then (n >>> 1) ^^^ polC else n >>> 1
def haC (n:BitVec 32):BitVec 32:=stC (stC (stC (stC n)))
theorem xlc (a b c:BitVec 32):a ^^^ (b ^^^ c)=b ^^^ (a ^^^ c):=by rw[<- zbX,<- zbX,BitVec.xor_comm a b]
theorem xcc (a b:BitVec 32):a ^^^ (a ^^^ b)=b:=by rw[<- zbX,BitVec.xor_self,BitVec.zero_xor]
theorem stC_xor (a b:BitVec 32):stC (a ^^^ b)=stC a ^^^ stC b:=by
 unfold stC
 rw[BitVec.getLsbD_xor,BitVec.ushiftRight_xor_distrib]
 cases a.getLsbD 0<;>cases b.getLsbD 0<;>simp[zbX,BitVec.xor_comm,xlc,xcc]
theorem haC_xor (a b:BitVec 32):haC (a ^^^ b)=haC a ^^^ haC b:=by
 unfold haC
 simp only[stC_xor]
theorem ZNq {n:BitVec 32} (h:n.getLsbD 0=false):stC n=n >>> 1:=by
 unfold stC
 rw[h,cond_false]
theorem haC_high {n:BitVec 32} (h:∀i<4,n.getLsbD i=false):haC n=n >>> 4:=by
 unfold haC
 rw[ZNq (n:=n) (h 0 Xa),ZNq (n:=n >>> 1) (by rw[zbw];exact h 1 Xa),<- zbD,
  ZNq (n:=n >>> (1+1)) (by rw[zbw];exact h 2 Xa),<- zbD,ZNq (n:=n >>> (1+1+1)) (by rw[zbw];exact h 3 Xa),<- zbD]
theorem ZSa (n:BitVec 32):haC n=(n >>> 4) ^^^ haC (n &&& 15#32):=by
 have e:n=(n &&& ~~~ 15#32) ^^^ (n &&& 15#32):=by
  ext i hi
  simp only[BitVec.getElem_xor,BitVec.getElem_and,BitVec.getElem_not]
  cases n[i]<;>cases (15#32)[i]<;>rfl
 have hh:haC (n &&& ~~~ 15#32)=(n &&& ~~~ 15#32) >>> 4:=haC_high fun i hi=>by
  rw[BitVec.getLsbD_and,BitVec.getLsbD_not]
  have:(15#32).getLsbD i=true:=by
   have h4:i=0\/i=1\/i=2\/i=3:=Xa
   rcases h4 with rfl|rfl|rfl|rfl<;>decide
  simp[this]
 have hs:(n &&& ~~~ 15#32) >>> 4=n >>> 4:=by
  apply BitVec.eq_of_getLsbD_eq
  intro i hi
  rw[zbw,zbw,BitVec.getLsbD_and,BitVec.getLsbD_not]
  have:(15#32).getLsbD (4+i)=false:=by
   rw[BitVec.getLsbD_ofNat]
   rw[show Nat.testBit 15 (4+i)=false from zci (zaM (by decide:15<2 ^ 4) (zbt Xa Xa))]
   simp
  rw[this]
  by_cases h:4+i<32
  ·simp[h]
  ·rw[BitVec.getLsbD_of_ge _ _ Xa];rfl
 rw[<- hs,<- hh,<- haC_xor,<- e]
def b32 (b:UInt8):BitVec 32:=BitVec.ofNat 32 b.toNat
def byC (n:BitVec 32) (b:UInt8):BitVec 32:=haC (haC (n ^^^ b32 b))
def moC (n:BitVec 32) (s:Tx):BitVec 32 := ~~~ (s.foldl byC (~~~ n))
def taC (n:BitVec 32):Tx:=[UInt8.ofNat n.toNat,UInt8.ofNat (n.toNat / 256),UInt8.ofNat (n.toNat / 65536),UInt8.ofNat (n.toNat / 16777216)]
def suC (s:Tx):BitVec 32:=moC 0 s
def clC (s:Tx):Tx:=s++taC (suC s)
theorem ZSS (n:BitVec 32):(taC n).length=4:=rfl
theorem ZMN (s:Tx):(clC s).length=s.length+4:=by simp[clC,ZSS]
def opC (s:Tx):Option Tx:=if 4<=s.length/\taC (suC (s.take (s.length - 4)))=s.drop (s.length - 4) then some (s.take (s.length - 4)) else none
theorem ZQf (s:Tx):opC (clC s)=some s:=by
 have h:(clC s).length - 4=s.length:=by rw[ZMN];omega
 have h1:(clC s).take s.length=s:=by simp[clC]
 have h2:(clC s).drop s.length=taC (suC s):=by simp[clC]
 unfold opC
 rw[h,h1,h2,if_pos ⟨by rw[ZMN];omega,rfl⟩]
theorem ZQi {s b:Tx} (h:opC s=some b):s=clC b/\s.length=b.length+4:=by
 unfold opC at h
 split at h
 ·rename_i hc
  injection h with h
  have e:s=clC b:=by
   unfold clC
   rw[<- h,hc.2,zaS]
  exact⟨e,by rw[e,ZMN]⟩
 ·cases h
def biC (n v:BitVec 32):BitVec 32:=bif (n.getLsbD 0) != (v.getLsbD 0) then (n >>> 1) ^^^ polC else n >>> 1
theorem biC_st (n v:BitVec 32):biC n v ^^^ (v >>> 1)=stC (n ^^^ v):=by
 unfold biC stC
 rw[BitVec.getLsbD_xor,BitVec.ushiftRight_xor_distrib]
 cases n.getLsbD 0<;>cases v.getLsbD 0<;>simp[zbX,BitVec.xor_comm,xlc,xcc]
def bisC (n v:BitVec 32):Nat->BitVec 32
 | 0=>n
 | k+1=>biC (bisC n v k) (v >>> k)
def ZPA (n:BitVec 32):Nat->BitVec 32
 | 0=>n
 | k+1=>stC (ZPA n k)
theorem ZSl (n v:BitVec 32):∀k,bisC n v k ^^^ (v >>> k)=ZPA (n ^^^ v) k
 | 0=>by simp[bisC,ZPA]
 | k+1=>by
  have ih:=ZSl n v k
  simp only[bisC,ZPA]
  rw[zbD,biC_st,ih]
theorem bisC_by (n:BitVec 32) (b:UInt8):bisC n (b32 b) 8=byC n b:=by
 have h:=ZSl n (b32 b) 8
 have h8:b32 b >>> 8=0#32:=by
  apply zcq
  unfold b32
  have:=b.toNat_lt
  rw[zbz,za4,zaF Xa,zbH]
  simp
  omega
 rw[h8,BitVec.xor_zero]at h
 rw[h]
 rfl
abbrev u32 (x:BitVec 32):AV:=.sc (.int .u32 (x.toNat:Int))
theorem ZPh (x:BitVec 32):BitVec.ofInt 32 (x.toNat:Int)=x:=by
 apply zcq
 have:=x.isLt
 simp
theorem wrap_u32 (x:BitVec 32):IntKind.u32.wrap (x.toNat:Int)=(x.toNat:Int):=by
 have:=x.isLt
 unfold IntKind.wrap
 simp only[IntKind.bits,IntKind.signed]
 simp
 omega
theorem u_xor (x y:BitVec 32):IntKind.u32.wrap ((BitVec.ofInt IntKind.u32.bits (x.toNat:Int) ^^^ BitVec.ofInt IntKind.u32.bits (y.toNat:Int)).toNat:Int)=((x ^^^ y).toNat:Int):=by
 rw[show IntKind.u32.bits=32 from rfl,ZPh,ZPh,wrap_u32]
theorem u_and (x y:BitVec 32):IntKind.u32.wrap ((BitVec.ofInt IntKind.u32.bits (x.toNat:Int) &&& BitVec.ofInt IntKind.u32.bits (y.toNat:Int)).toNat:Int)=((x &&& y).toNat:Int):=by
 rw[show IntKind.u32.bits=32 from rfl,ZPh,ZPh,wrap_u32]
theorem u_not (x:BitVec 32):IntKind.u32.wrap ((BitVec.ofInt IntKind.u32.bits (if IntKind.u32.signed=true then -1 else IntKind.u32.max) ^^^ BitVec.ofInt IntKind.u32.bits (x.toNat:Int)).toNat:Int)=((~~~ x).toNat:Int):=by
 rw[show IntKind.u32.bits=32 from rfl,ZPh]
 rw[show(BitVec.ofInt 32 (if IntKind.u32.signed=true then -1 else IntKind.u32.max))=BitVec.allOnes 32 by decide,BitVec.allOnes_xor,wrap_u32]
theorem u_shr (x:BitVec 32) (k:Nat):Int.fdiv (x.toNat:Int) (2 ^ k)=((x >>> k).toNat:Int):=by
 rw[zbz,zbH]
 rw[zbY _ (Int.pow_nonneg Xb)]
 push_cast
 rfl
structure Dv where
 sec:List Tx
 puts:List (Nat×Tx)
 ZMg:Nat
 steps:Int
 off:Bool
def ZNk (sec:List Tx) (puts:List (Nat×Tx)) (i:Nat):Tx:=puts.foldl (fun s p=>if p.1=i then p.2 else s) (sec.getD i [])
def Dv.sho (d:Dv) (i:Nat):Tx:=ZNk d.sec d.puts i
def Dv.rdy (d:Dv) (i:Int):Int:=if d.off=true then 8 else if i<0\/(d.sec.length:Int)<=i then 9 else 0
def Dv.stp (d:Dv):Dv×Bool:=if d.ZMg=1 then ({ d with ZMg:=0,off:=true },false) else ({ d with ZMg:=d.ZMg - 1,steps:=IntKind.i64.wrap (d.steps+1) },true)
def Dv.wrt (d:Dv) (i:Int) (s:Tx):Dv×Int :=
 if d.rdy i≠0 then (d,d.rdy i) else if s.length≠128 then (d,2) else
 if d.stp.2=true then ({ d.stp.1 with puts:=d.puts++[(i.toNat,s)] },0) else (d.stp.1,8)
def Dv.all (d:Dv):List Tx:=(List.range d.sec.length).map d.sho
def Dv.syn (d:Dv):Dv×Int :=
 if d.off=true then (d,8) else if d.stp.2=true then ({ d.stp.1 with sec:=d.all,puts:=[] },0) else (d.stp.1,8)
def Dv.set (d:Dv) (n:Int):Dv×Int:=if d.off=true then (d,8) else if n<0 then (d,2) else ({ d with ZMg:=n.toNat },0)
def ZM6 (sec:List Tx) (keep:List Int) (torn:Int) (m:Nat):Nat->List (Nat×Tx)->List Tx
 | _,[]=>sec
 | i,p :: ps=>ZM6 (if (i:Int)∈keep then sec.set p.1 p.2 else if (i:Int)=torn then sec.set p.1 (p.2.take m++(sec.getD p.1 []).drop m) else sec) keep torn m (i+1) ps
def ZOS (n:Int):Nat:=(min (max n 0) 128).toNat
def Dv.cut (d:Dv) (keep:List Int) (torn bytes:Int):Dv:={ d with sec:=ZM6 d.sec keep torn (ZOS bytes) 0 d.puts,puts:=[],off:=true,ZMg:=0 }
def Dv.bot (d:Dv):Dv:={ d with puts:=[],off:=false,ZMg:=0 }
structure Dv.Ok (d:Dv):Prop where
 n:16<=d.sec.length/\d.sec.length<=4096
 s:∀x∈d.sec,x.length=128
 p:∀q∈d.puts,q.1<d.sec.length/\q.2.length=128
 f:d.ZMg<=9223372036854775807
theorem shoP_app (sec:List Tx) (puts:List (Nat×Tx)) (q:Nat×Tx) (i:Nat):ZNk sec (puts++[q]) i=if q.1=i then q.2 else ZNk sec puts i:=by
 unfold ZNk
 rw[zcg]
 rfl
theorem ZRx {sec:List Tx} {puts:List (Nat×Tx)} {i:Nat} {s:Tx} (hp:∀q∈puts,q.2.length=128) (hs:s.length=128):(puts.foldl (fun s p=>if p.1=i then p.2 else s) s).length=128:=by
 induction puts generalizing s with
 | nil=>exact hs
 | cons q ps ih =>
  refine ih (fun x hx=>hp x (zar _ hx)) ?_
  show(if q.1=i then q.2 else s).length=128
  split
  ·exact hp q zak
  ·exact hs
theorem Dv.Ok.sho {d:Dv} (h:d.Ok) {i:Nat} (hi:i<d.sec.length):(d.sho i).length=128 :=
 ZRx (sec:=d.sec) (fun q hq=>(h.p q hq).2) (by rw[zai,zab hi];exact h.s _ (zau hi))
theorem ZMz (d:Dv):d.stp.1.sec=d.sec/\d.stp.1.puts=d.puts/\(d.ZMg<=9223372036854775807->d.stp.1.ZMg<=9223372036854775807):=by
 unfold Dv.stp
 split
 ·exact⟨rfl,rfl,fun _=>by simp⟩
 ·exact⟨rfl,rfl,fun h=>by show d.ZMg - 1<=_;omega⟩
theorem Dv.Ok.stp {d:Dv} (h:d.Ok):d.stp.1.Ok:=by
 obtain⟨h1,h2,h3⟩:=ZMz d
 exact⟨by rw[h1];exact h.n,by rw[h1];exact h.s,by rw[h1,h2];exact h.p,h3 h.f⟩
theorem ZSy {d:Dv} {i:Int} (h:d.rdy i=0):d.off=false/\0<=i/\i<d.sec.length:=by
 unfold Dv.rdy at h
 split at h
 ·cases h
 ·rename_i ho
  split at h
  ·cases h
  ·exact⟨by simpa using ho,Xa,Xa⟩
theorem Dv.Ok.wrt {d:Dv} (h:d.Ok) (i:Int) (s:Tx):(d.wrt i s).1.Ok:=by
 unfold Dv.wrt
 split
 ·exact h
 ·rename_i hr
  split
  ·exact h
  ·rename_i hs
   split
   ·obtain⟨h1,h2,h3⟩:=ZMz d
    have hr:=ZSy (by simpa using hr)
    refine⟨by simp only[h1];exact h.n,by simp only[h1];exact h.s,fun q hq=>?_,h3 h.f⟩
    simp only[h1]at *
    rcases zaw.1 hq with hq|hq
    ·exact h.p q hq
    ·simp only[zbr]at hq
     subst hq
     exact⟨by simp only;omega,by simpa using hs⟩
   ·exact h.stp
theorem ZOE (d:Dv):d.all.length=d.sec.length:=by simp[Dv.all]
theorem Dv.Ok.syn {d:Dv} (h:d.Ok):d.syn.1.Ok:=by
 unfold Dv.syn
 split
 ·exact h
 ·split
  ·obtain⟨h1,h2,h3⟩:=ZMz d
   refine⟨by simp only[ZOE];exact h.n,fun x hx=>?_,Xc,h3 h.f⟩
   obtain⟨i,hi,rfl⟩:=zaH.1 hx
   exact h.sho (by simpa using hi)
  ·exact h.stp
theorem Dv.Ok.set {d:Dv} (h:d.Ok) (n:Int) (hn:n<=9223372036854775807):(d.set n).1.Ok:=by
 unfold Dv.set
 split
 ·exact h
 ·split
  ·exact h
  ·exact⟨h.n,h.s,h.p,by simp only;omega⟩
theorem ZPR {keep:List Int} {torn:Int} {m:Nat} (hm:m<=128):∀{ps:List (Nat×Tx)} {sec:List Tx} {i:Nat},(∀x∈sec,x.length=128)->(∀q∈ps,q.1<sec.length/\q.2.length=128)->(ZM6 sec keep torn m i ps).length=sec.length/\∀x∈ZM6 sec keep torn m i ps,x.length=128
 | [],sec,i,hs,hp=>⟨rfl,hs⟩
 | p :: ps,sec,i,hs,hp=>by
  obtain⟨hp1,hp2⟩:=hp p zak
  have hl:(sec.getD p.1 []).length=128:=by rw[zai,zab hp1];exact hs _ (zau hp1)
  have key:∀sec':List Tx,sec'.length=sec.length->(∀x∈sec',x.length=128)->(ZM6 sec' keep torn m (i+1) ps).length=sec.length/\∀x∈ZM6 sec' keep torn m (i+1) ps,x.length=128:=fun sec' h1 h2=>by
   have:=ZPR (keep:=keep) (torn:=torn) hm (ps:=ps) (sec:=sec') (i:=i+1) h2 (fun q hq=>by rw[h1];exact hp q (zar _ hq))
   rw[h1]at this
   exact this
  unfold ZM6
  split
  ·exact key _ Xc fun x hx=>(zbI hx).elim (hs x) fun e=>e ▸ hp2
  ·split
   ·refine key _ Xc fun x hx=>(zbI hx).elim (hs x) fun e=>?_
    rw[e,zac,zaj,zaq,hl,hp2]
    omega
   ·exact key _ rfl hs
theorem ZOH (n:Int):ZOS n<=128:=by unfold ZOS;omega
theorem Dv.Ok.cut {d:Dv} (h:d.Ok) (keep:List Int) (torn bytes:Int):(d.cut keep torn bytes).Ok:=by
 obtain⟨h1,h2⟩:=ZPR (keep:=keep) (torn:=torn) (ZOH bytes) (i:=0) h.s h.p
 have e:(d.cut keep torn bytes).sec.length=d.sec.length:=h1
 exact⟨by rw[e];exact h.n,h2,by simp[Dv.cut],by simp[Dv.cut]⟩
theorem Dv.Ok.bot {d:Dv} (h:d.Ok):d.bot.Ok:=⟨h.n,h.s,by simp[Dv.bot],by simp[Dv.bot]⟩
theorem lay_all:∀(puts:List (Nat×Tx)) (sec:List Tx),(∀q∈puts,q.1<sec.length)->puts.foldl (fun l p=>l.set p.1 p.2) sec=(List.range sec.length).map (ZNk sec puts)
 | [],sec,_=>by
  refine List.ext_getElem Xc fun i h1 h2=>?_
  have h1:i<sec.length:=h1
  simp[ZNk,zai,zab h1]
 | q :: ps,sec,hq=>by
  rw[List.foldl_cons,lay_all ps _ fun x hx=>by simpa using hq x (zar _ hx),List.length_set]
  refine zcy fun i hi=>?_
  have hi:i<sec.length:=by simpa using hi
  unfold ZNk
  rw[List.foldl_cons]
  congr 1
  rw[zai,List.getElem?_set]
  by_cases e:q.1=i
  ·subst e;simp[hi]
  ·simp[e]
def ZMD (n:Nat) (s:Tx):Tx:=s++List.replicate (n - s.length) 0
theorem ZNr {n:Nat} {s:Tx} (h:s.length<=n):(ZMD n s).length=n:=by simp[ZMD];omega
def pgB (k:UInt8) (ix:Nat) (s:Tx):Tx:=k :: UInt8.ofNat (ix / 65536) :: UInt8.ofNat (ix / 256) :: UInt8.ofNat ix :: UInt8.ofNat (s.length / 256) :: UInt8.ofNat s.length :: s
def pgP (k:UInt8) (ix:Nat) (s:Tx):Tx:=clC (ZMD 252 (pgB k ix s))
def ZBu (k:UInt8):Bool:=k == 67 || k == 78 || k == 77
def hdL:Tx->Nat
 | _ :: _ :: _ :: _ :: l1 :: l0 :: _=>l1.toNat * 256+l0.toNat
 | _=>0
def hdG:Tx->Nat
 | _ :: i2 :: i1 :: i0 :: _=>i2.toNat * 65536+i1.toNat * 256+i0.toNat
 | _=>0
def hdK:Tx->UInt8
 | k :: _=>k
 | _=>0
def hdS (p:Tx):Tx:=(p.drop 6).take (hdL p)
def pgT (p:Tx):Option (UInt8×Nat×Tx):=if p.length=256/\ZBu (hdK p)=true/\hdL p<=246/\pgP (hdK p) (hdG p) (hdS p)=p then some (hdK p,hdG p,hdS p) else none
theorem ZR3 (k:UInt8) (ix:Nat) (s:Tx):(pgB k ix s).length=s.length+6:=by simp[pgB]
theorem ZP2 {k:UInt8} {ix:Nat} {s:Tx} (h:s.length<=246):(pgP k ix s).length=256:=by
 unfold pgP
 rw[ZMN,ZNr (by rw[ZR3];omega)]
theorem ZQj {n:Nat} (h:n<65536):(UInt8.ofNat (n / 256)).toNat * 256+(UInt8.ofNat n).toNat=n:=by
 simp only[UInt8.toNat_ofNat']
 omega
theorem pgT_put {k:UInt8} {ix:Nat} {s:Tx} (hk:ZBu k=true) (hi:ix<16777216) (hs:s.length<=246):pgT (pgP k ix s)=some (k,ix,s):=by
 have h1:hdK (pgP k ix s)=k:=rfl
 have h2:hdG (pgP k ix s)=ix:=by
  show(UInt8.ofNat (ix / 65536)).toNat * 65536+(UInt8.ofNat (ix / 256)).toNat * 256+(UInt8.ofNat ix).toNat=ix
  simp only[UInt8.toNat_ofNat']
  omega
 have h3:hdL (pgP k ix s)=s.length:=ZQj (n:=s.length) Xa
 have h4:hdS (pgP k ix s)=s:=by
  unfold hdS
  rw[h3]
  show List.take s.length ((s++List.replicate (252 - (pgB k ix s).length) 0)++_)=s
  rw[zan,za1]
  rfl
 unfold pgT
 rw[h1,h2,h3,h4,if_pos ⟨ZP2 hs,hk,hs,rfl⟩]
theorem pgT_is {p:Tx} {k:UInt8} {ix:Nat} {s:Tx} (h:pgT p=some (k,ix,s)):p=pgP k ix s/\ZBu k=true/\s.length<=246/\p.length=256:=by
 unfold pgT at h
 split at h
 ·rename_i hc
  obtain⟨h1,h2,h3,h4⟩:=hc
  simp only[zaa,zaf]at h
  obtain⟨rfl,rfl,rfl⟩:=h
  refine⟨h4.symm,h2,?_,h1⟩
  unfold hdS
  rw[zaj]
  omega
 ·cases h
def pgI (p:Tx) (k:UInt8) (ix:Nat):Option Tx:=match pgT p with
 | some (k',ix',s)=>if k'=k/\ix'=ix then some s else none
 | none=>none
theorem pgI_put {k:UInt8} {ix:Nat} {s:Tx} (hk:ZBu k=true) (hi:ix<16777216) (hs:s.length<=246):pgI (pgP k ix s) k ix=some s:=by
 unfold pgI
 rw[pgT_put hk hi hs]
 simp
def ZLU (n:Int):Int:=if n<=0 then 0 else (n - 1) / 246+1
def ZL3 (n:Int):Int:=if n<=0 then 0 else (n - 1) / 122+1
def ZNE (k:UInt8) (first:Nat):Nat->Tx->List Tx
 | 0,_=>[]
 | n+1,s=>if s=[] then [] else pgP k first (s.take 246) :: ZNE k (first+1) n (s.drop 246)
def ZO1 (n:Nat):Tx:=[UInt8.ofNat (n / 256),UInt8.ofNat n]
def chP (next:Int) (l:List Int):Tx:=ZO1 ((max next (-1))+1).toNat++l.flatMap fun n=>ZO1 n.toNat
def ZMG:Tx->List Nat
 | a :: b :: r=>(a.toNat * 256+b.toNat) :: ZMG r
 | _=>[]
def chT (s:Tx):Option (Int×List Int):=match ZMG s with
 | n :: l=>if s.length % 2=0/\s.length<=246/\n<=2047/\(∀x∈l,x<2047) then some ((n:Int) - 1,l.map Int.ofNat) else none
 | []=>none
theorem ZQq (n:Nat) (h:n<65536) (r:Tx):ZMG (ZO1 n++r)=n :: ZMG r:=by
 show((UInt8.ofNat (n / 256)).toNat * 256+(UInt8.ofNat n).toNat) :: ZMG r=_
 rw[ZQj h]
theorem ZQK:∀(l:List Int),(∀x∈l,0<=x/\x<65536)->ZMG (l.flatMap fun n=>ZO1 n.toNat)=l.map Int.toNat
 | [],_=>rfl
 | a :: l,h=>by
  rw[zbu,ZQq _ (by have:=h a zak;omega),ZQK l fun x hx=>h x (zar _ hx)]
  rfl
theorem ZOY (next:Int) (l:List Int):(chP next l).length=2+2 * l.length:=by
 unfold chP
 rw[zac]
 have:∀l:List Int,(l.flatMap fun n=>ZO1 n.toNat).length=2 * l.length:=by
  intro l
  induction l with
  | nil=>rfl
  | cons a l ih=>rw[zbu,zac,ih,List.length_cons];show 2+_=_;omega
 rw[this]
 rfl
theorem chT_put {next:Int} {l:List Int} (hl:l.length<=122) (hn : -1<=next/\next<=2046) (h:∀x∈l,0<=x/\x<=2046):chT (chP next l)=some (next,l):=by
 have e:ZMG (chP next l)=(next+1).toNat :: l.map Int.toNat:=by
  unfold chP
  rw[ZQq _ Xa,ZQK l fun x hx=>by have:=h x hx;omega,show max next (-1)+1=next+1 by omega]
 unfold chT
 rw[e]
 simp only
 rw[ZOY,if_pos ⟨Xa,Xa,Xa,fun x hx=>by
  obtain⟨y,hy,rfl⟩:=zaH.1 hx
  have:=h y hy
  omega⟩]
 have:l.map (Int.ofNat ∘ Int.toNat)=l:=by
  rw[zcy (g:=id) fun x hx=>by have:=h x hx;simp only[id,Function.comp];exact zba this.1,List.map_id]
 rw[zb4]
 simp only[zaa,zaf]
 exact⟨Xa,this⟩
structure Rt where
 gen:Int
 pages:Int
 map:Int
 cat:Int
 nodes:Int
 top:Int
 deriving DecidableEq
def Rt.zero:Rt:=⟨0,0,0,0,0,0⟩
def Rt.ok (r:Rt):Bool:=decide (1<=r.gen/\r.gen<=1099511627776/\1<=r.cat/\r.cat<=1048576/\0<=r.nodes/\r.nodes<=1048576/\0<=r.top/\r.top<max r.nodes 1/\r.pages=ZLU r.cat+ZLU r.nodes/\r.pages<=2047/\0<=r.map/\r.map<=2046)
def slB (r:Rt):Tx:=86 :: (beB 6 r.gen.toNat++(ZA2 r.pages.toNat++(ZA2 r.map.toNat++(ZA2 r.cat.toNat++(ZA2 r.nodes.toNat++ZA2 r.top.toNat)))))
def slP (r:Rt):Tx:=clC (ZMD 118 (slB r))++beB 6 r.gen.toNat
noncomputable def gRt (b:Tx):Option ((Nat×Nat×Nat×Nat×Nat)×Tx) :=
 (gNum 2047 b).bind fun p=>(gNum 2047 p.2).bind fun m=>(gNum 1048576 m.2).bind fun c=>(gNum 1048576 c.2).bind fun n=>(gNum 1048576 n.2).map fun t=>((p.1,m.1,c.1,n.1,t.1),t.2)
def ZPe (g:Nat) (x:Nat×Nat×Nat×Nat×Nat):Rt:=⟨g,x.1,x.2.1,x.2.2.1,x.2.2.2.1,x.2.2.2.2⟩
structure Pg where
 root:Rt
 own:List Int
 list:List Int
def Pg.nil:Pg:=⟨Rt.zero,[],[]⟩
def Pg.used (p:Pg):List Int:=p.own++p.list
def ofP (n:Nat):Nat:=if n<16\/4096<n then 0 else (n - 2) / 2
noncomputable def slT (s:Tx):Option Rt:=match gRt ((s.drop 7).take 111)with
 | some (x,_)=>if (ZPe (beV ((s.drop 1).take 6)) x).ok=true/\slP (ZPe (beV ((s.drop 1).take 6)) x)=s then some (ZPe (beV ((s.drop 1).take 6)) x) else none
 | none=>none
noncomputable def staP (i:Int) (s:Tx):Option Rt:=(slT s).bind fun r=>if r.gen % 2=i then some r else none
noncomputable def choP (a b:Tx):Option Rt:=match staP 0 a,staP 1 b with
 | x,none=>x
 | none,some y=>some y
 | some x,some y=>if x.gen<y.gen then some y else some x
def ZMX (sh:Nat->Tx) (np:Nat) (n:Int):Option Tx:=if 0<=n/\n<np then some (sh (2+2 * n.toNat)++sh (3+2 * n.toNat)) else none
def isP (sh:Nat->Tx) (np:Nat) (n:Int) (k:UInt8) (ix:Nat):Option Tx:=(ZMX sh np n).bind fun p=>pgI p k ix
def ZMw (rd:Int->Nat->Option Tx) (pages:Int):Nat->Nat->Int->List Int->List Int->Option (List Int×List Int)
 | 0,_,_,own,list=>some (own,list)
 | m+1,i,a,own,list=>(rd a i).bind fun s=>(chT s).bind fun x =>
  if (x.2.length:Int)=min (pages - list.length) 122/\(m=0 ↔ x.1<0) then ZMw rd pages m (i+1) x.1 (own++[a]) (list++x.2) else none
def inP (np:Nat) (l:List Int):Prop:=l.Nodup/\∀x∈l,0<=x/\x<np
open Classical in
noncomputable def opeP (sh:Nat->Tx) (np:Nat):Option Pg:=match choP (sh 0) (sh 1)with
 | none=>some .nil
 | some r=>match ZMw (fun a i=>isP sh np a 77 i) r.pages (ZL3 r.pages).toNat 0 r.map [] []with
  | some (own,list)=>if inP np (own++list) then some ⟨r,own,list⟩ else none
  | none=>none
def Pg.page (p:Pg) (sh:Nat->Tx) (np:Nat) (i:Nat):Option Tx :=
 if ZLU p.root.cat<=i then isP sh np (p.list.getD i 0) 78 (i - (ZLU p.root.cat).toNat) else isP sh np (p.list.getD i 0) 67 i
def ZQs (pg:Nat->Option Tx) (first all a n:Nat):Nat->Nat->Option Tx
 | 0,_=>some []
 | m+1,i=>(pg (first+i)).bind fun s=>if s.length=min 246 (all - 246 * i) then (ZQs pg first all a n m (i+1)).map fun r=>((s.take (a+n - 246 * i)).drop (a - 246 * i))++r else none
def ZOF (a n:Nat):Nat:=if n=0 then 0 else (a+n - 1) / 246+1 - a / 246
def ZM5 (pg:Nat->Option Tx) (first all a n:Nat):Option Tx:=ZQs pg first all a n (ZOF a n) (a / 246)
def ZMh (c n:Int):Int:=ZLU c+ZLU n+ZL3 (ZLU c+ZLU n)
def lowP (used:List Int) (np n:Nat):List Int:=(((List.range np).map Int.ofNat).filter fun i=>decide (i ∉ used)).take n
def ZPB (own:List Int):Nat->Nat->List Int->List Tx
 | 0,_,_=>[]
 | m+1,i,l=>chP (if i+1<own.length then own.getD (i+1) 0 else -1) (l.take 122) :: ZPB own m (i+1) (l.drop 122)
def ZL7 (places:List Int) (pages:List Tx):List (Int×Tx):=(places.zip pages).flatMap fun p=>[(2+2 * p.1,p.2.take 128),(2+2 * p.1+1,p.2.drop 128)]
def Dv.ZL4 (d:Dv):List (Int×Tx)->Dv×Int
 | []=>(d,0)
 | q :: l=>if (d.wrt q.1 q.2).2=0 then (d.wrt q.1 q.2).1.ZL4 l else d.wrt q.1 q.2
def verP (p:Pg) (c n:Tx) (top:Int):Rt:=⟨p.root.gen+1,ZLU c.length+ZLU n.length,0,c.length,n.length,top⟩
def ZNx:Nat->List Tx->List Tx
 | _,[]=>[]
 | i,s :: l=>pgP 77 i s :: ZNx (i+1) l
def ZL6 (x:Dv×Int) (f:Dv->Dv×Int):Dv×Int:=if x.2=0 then f x.1 else x
def ZMT (d:Dv) (r:Rt) (own list:List Int) (data maps:List Tx):Dv×Int :=
 ZL6 (ZL6 (ZL6 (ZL6 (d.ZL4 (ZL7 list data)) fun d=>d.ZL4 (ZL7 own maps)) Dv.syn) fun d=>d.wrt (r.gen % 2) (slP r)) Dv.syn
def ZM4 (d:Dv) (p:Pg) (c n:Tx):List Int:=lowP p.used (ofP d.sec.length) (ZMh c.length n.length).toNat
def ZOk (d:Dv) (p:Pg) (c n:Tx) (top:Int):Rt:={ verP p c n top with map:=(ZM4 d p c n).headD 0 }
def ZMf (d:Dv) (p:Pg) (c n:Tx) (top:Int):Pg:=⟨ZOk d p c n top,(ZM4 d p c n).take (ZL3 (verP p c n top).pages).toNat,(ZM4 d p c n).drop (ZL3 (verP p c n top).pages).toNat⟩
def ZMF (c n:Tx):List Tx:=ZNE 67 0 c.length c++ZNE 78 0 n.length n
def ZM2 (own list:List Int):List Tx:=ZNx 0 (ZPB own own.length 0 list)
def ZOX (d:Dv) (p:Pg) (c n:Tx) (top:Int):Int :=
 if 1099511627776<p.root.gen+1 then 5 else if (ofP d.sec.length:Int) - p.used.length<ZMh c.length n.length then 7 else if (verP p c n top).ok=true then 0 else 2
def ZNv (d:Dv) (p:Pg) (c n:Tx) (top:Int):Dv×Int:=ZMT d (ZOk d p c n top) (ZMf d p c n top).own (ZMf d p c n top).list (ZMF c n) (ZM2 (ZMf d p c n top).own (ZMf d p c n top).list)
theorem u_lsb (x:BitVec 32):IntKind.u32.wrap ((BitVec.ofInt IntKind.u32.bits (x.toNat:Int) &&& BitVec.ofInt IntKind.u32.bits 1).toNat:Int)=((if x.getLsbD 0=true then 1 else 0:Nat):Int):=by
 have h:=u_and x 1#32
 have e:(((1#32).toNat:Nat):Int)=1:=rfl
 rw[e]at h
 rw[h]
 congr 1
 have:(x &&& 1#32).toNat=x.toNat % 2:=by
  rw[BitVec.toNat_and]
  exact zcB _
 rw[this]
 have hb:x.getLsbD 0=true ↔ x.toNat % 2=1:=by rw[BitVec.getLsbD,zb8]
 by_cases h:x.toNat % 2=1
 ·rw[if_pos (hb.2 h)];exact h
 ·rw[if_neg fun e=>h (hb.1 e)];omega
theorem u_poly (x:BitVec 32):IntKind.u32.wrap ((BitVec.ofInt IntKind.u32.bits (x.toNat:Int) ^^^ BitVec.ofInt IntKind.u32.bits 2197175160).toNat:Int)=((x ^^^ polC).toNat:Int):=u_xor x polC
theorem u_shr1 (x:BitVec 32):Int.fdiv (x.toNat:Int) (2 ^ min 1 IntKind.u32.bits)=((x >>> 1).toNat:Int):=u_shr x 1
theorem u_shr4 (x:BitVec 32):Int.fdiv (x.toNat:Int) (2 ^ min 4 IntKind.u32.bits)=((x >>> 4).toNat:Int):=u_shr x 4
@[simp] theorem stsC_zero (n:BitVec 32):ZPA n 0=n:=rfl
theorem ZrC (n:BitVec 32):stC n=if n.getLsbD 0=true then (n >>> 1) ^^^ polC else n >>> 1:=by
 unfold stC
 cases n.getLsbD 0<;>rfl
theorem ZoN (n:BitVec 32) (H:Zaa):Zay Tryz.prog 260 [u32 n] H (Pure H (u32 (haC n))):=by
 have hlaw:ZPA n 4=haC n:=rfl
 refine fnQ cf260 fun Q qr qn=>?_
 refine Bz0 ?_
 refine Zbs (N:=4) [] (σ:=Unit) (fun(k:Nat) s=>True) (fun k s=>[(0,u32 (ZPA n k))]) (fun k s=>[]) () (GStep.refl _ _) xV xW xW (by rfl) Xd ?_ xT xU ?_ ?_
 ·trivial
 ·(rintro k u G hk ht hG hn;try simp only[nx]at hn)
  have h1:=u_lsb (ZPA n k)
  have h2:=u_shr1 (ZPA n k)
  have h3:=u_poly (ZPA n k >>> 1)
  have hst:=ZrC (ZPA n k)
  have hss:ZPA n (k+1)=stC (ZPA n k):=rfl
  rw[hst]at hss
  have z1:¬((1:Int)<0):=Xb
  have t1:(1:Int).toNat=1:=rfl
  by_cases hb:(ZPA n k).getLsbD 0=true
  ·rw[if_pos hb]at hss h1
   generalize ZPA n k=x at *
   have d:((((1:Nat):Int)) == 1)=true:=rfl
   refine Bz1 (X6 h1 h2 h3 z1 t1 d) ?_
   exact⟨(),by rw[hss],by exact HXT⟩
  ·rw[if_neg hb]at hss h1
   generalize ZPA n k=x at *
   have d:((((0:Nat):Int)) == 1)=false:=rfl
   refine Bz1 (X6 h1 h2 h3 z1 t1 d) ?_
   exact⟨(),by rw[hss],by exact HXT⟩
 ·(rintro u G ht hG hn;try simp only[nx]at hn)
  rw[hlaw]
  refine Bz0 ?_
  exact Zcm rfl hG.ext
def tbC (k:Nat):List AV:=(List.range k).map (fun i=>u32 (haC (BitVec.ofNat 32 i)))++List.replicate (16 - k) (.sc (.int .u32 0))
theorem tbC_step {k:Nat} (hk:k<16):splice (tbC k) k [u32 (haC (BitVec.ofNat 32 k))]=tbC (k+1):=by
 unfold tbC splice
 rw[za1 Xc,show 16 - k=(16 - (k+1))+1 by omega,List.replicate_succ,List.length_singleton,<- za5,zbi Xc,List.range_succ,zb1]
 simp
theorem ZPF {k:Nat} (hk:k<=16):(tbC k).length=16:=by simp[tbC];omega
theorem tbC_get (x:BitVec 32):(tbC 16)[(x &&& 15#32).toNat]?=some (u32 (haC (x &&& 15#32))):=by
 have h:(x &&& 15#32).toNat<16:=by
  rw[BitVec.toNat_and]
  exact zbj Nat.and_le_right Xb
 unfold tbC
 rw[zaC (by rw[zam,List.length_range];exact h),zaO,List.getElem?_range h]
 simp
theorem ZPL (H:Zaa):Zay Tryz.prog 252 [] H (Pure H (.agg (tbC 16))):=by
 have h0:(List.replicate 16 (AV.sc (.int .u32 0)))=tbC 0:=rfl
 refine fnQ cf252 fun Q qr qn=>?_
 refine Bz0 ?_
 refine Zbs (N:=16) [0,1] (σ:=Unit) (fun(k:Nat) s=>True) (fun k s=>[]) (fun k s=>[(H.next+1,.cells (tbC k) 308)]) () (GStep.refl _ _) xV xW xW (by rfl) Xd ?_ xF ?_ ?_ ?_
 ·trivial
 ·rw[ZaP,ZaJ,and_true]
  exact Zaa.Zat rfl
 ·(rintro k u G hk ht hG hn;try simp only[nx]at hn)
  have hg:G.get (H.next+1)=some (.cells (tbC k) 308):=hG.o (H.next+1,_) Xc
  have hst:=tbC_step hk
  have hl:=ZPF (k:=k) Xa
  have hw:IntKind.u32.wrap (k:Int)=(((BitVec.ofNat 32 k).toNat:Nat):Int):=by
   have h1:(BitVec.ofNat 32 k).toNat=k:=by rw[za4];omega
   have h2:=wrap_u32 (BitVec.ofNat 32 k)
   rw[h1]at h2 ⊢
   exact h2
  have q1:(k:Int)<((16:Nat):Int):=Xa
  have q1b:(k:Int)<16:=Xa
  have q2:(0:Int)<=(k:Int):=Xa
  have q3:k+1<=16:=hk
  generalize hcs:tbC k=cs at *
  have hid:=Zaa.lt hg
  refine Bz1 (X1 hw) ?_
  refine qcp (ZoN (BitVec.ofNat 32 k) _) fun k1=>?_
  refine Bz1 (X6 hg q1 q1b q2 q3 hl) ?_
  exact⟨(),by rw[<- hst];exact hG.bump.put⟩
 ·(rintro u G ht hG hn;try simp only[nx]at hn)
  have hg:G.get (H.next+1)=some (.cells (tbC 16) 308):=hG.o (H.next+1,_) Xc
  have hl:=ZPF (k:=16) (zad _)
  have gz:=(hG.g H.next Xe Xc).trans ((Zaa.Zag Xe).trans Zaa.Zae)
  generalize tbC 16=cs at *
  have ht:List.take 16 cs=cs:=zav Xa
  have hid0:=Zaa.lt gz
  refine Bz1 (X4 hg hl gz ht) ?_
  exact Zc1 (.refl _) (Zaa.Ext.set (hG.ZdB (by exact AXT) Xc) (zad _))
theorem u_lo (x:BitVec 32):IntKind.u32.wrap ((BitVec.ofInt IntKind.u32.bits (x.toNat:Int) &&& BitVec.ofInt IntKind.u32.bits 15).toNat:Int)=((x &&& 15#32).toNat:Int):=u_and x 15#32
theorem lo_lt (x:BitVec 32):(x &&& 15#32).toNat<16:=by
 rw[BitVec.toNat_and]
 exact zbj Nat.and_le_right Xb
theorem u_byte (c:UInt8):IntKind.u32.wrap (c.toNat:Int)=((b32 c).toNat:Int):=by
 have h:(b32 c).toNat=c.toNat:=by
  unfold b32
  have:=c.toNat_lt
  rw[za4,zaF Xa]
 rw[<- h,wrap_u32]
theorem ZPi {α β:Type} (f:β->α->β) (b:β) {l:List α} {k:Nat} (h:k<l.length):(l.take (k+1)).foldl f b=f ((l.take k).foldl f b) l[k]:=by
 rw[zas h,zcg]
 rfl
theorem ZQQ (n:BitVec 32) (q:Tx) (H:Zaa) (hl:q.length<=10000000):Zay Tryz.prog 241 [u32 n,eS q] H (Pure H (u32 (moC n q))):=by
 have hend : ~~~ ((q.take q.length).foldl byC (~~~ n))=moC n q:=by rw[zaz];rfl
 have h0:(q.take 0).foldl byC (~~~ n) = ~~~ n:=rfl
 have hn0:=u_not n
 have hnot:=u_not
 have htl:=ZPF (k:=16) (zad _)
 have hget:=tbC_get
 have hx0:Zaa.Ext H H:=.refl _
 refine fnQ cf241 fun Q qr qn=>?_
 refine Bz0 ?_
 refine qcp (ZPL _) fun k1=>?_
 generalize tbC 16=cs at *
 have ht:List.take 16 cs=cs:=zav Xa
 have hd:List.drop 16 cs=[]:=zbg Xa
 refine Bz1 (X3 htl ht hn0) ?_
 refine Zbs [1,5,12] (σ:=Unit) (fun(k:Nat) s=>True) (fun k s=>[(6,u32 ((q.take k).foldl byC (~~~ n)))]) (fun k s=>[]) () (GStep.refl _ _) xV xW xW (by rfl) Xd ?_ xT xU ?_ ?_
 ·trivial
 ·(rintro k u G hk _ hG hn;try simp only[nx]at hn)
  have g5:=(hG.get (H.next+k1) Xe).trans (Zaa.Zat rfl)
  have hs:=byte_at hk
  have hf:=ZPi byC (~~~ n) hk
  have hk0:(0:Int)<=(k:Int):=Xa
  generalize q[k]=c at *
  have hb:byC ((q.take k).foldl byC (~~~ n)) c=haC (haC ((q.take k).foldl byC (~~~ n) ^^^ b32 c)):=rfl
  rw[hb]at hf
  clear hb
  generalize (q.take k).foldl byC (~~~ n)=x at *
  have e1:=u_byte c
  have e2:=u_xor x (b32 c)
  generalize x ^^^ b32 c=y at *
  have e3:=u_shr4 y
  have e4:=u_lo y
  have e5:=lo_lt y
  have e6:=hget y
  have e7:=u_xor (y >>> 4) (haC (y &&& 15#32))
  rw[<- ZSa y]at e7
  have e3':=u_shr4 (haC y)
  have e4':=u_lo (haC y)
  have e5':=lo_lt (haC y)
  have e6':=hget (haC y)
  have e7':=u_xor (haC y >>> 4) (haC (haC y &&& 15#32))
  rw[<- ZSa (haC y)]at e7'
  generalize haC (haC y &&& 15#32)=ta' at *
  generalize haC y &&& 15#32=lo' at *
  generalize haC y >>> 4=hi' at *
  generalize haC (haC y)=yy at *
  generalize haC (y &&& 15#32)=ta at *
  generalize y &&& 15#32=lo at *
  generalize y >>> 4=hi at *
  generalize haC y=y1 at *
  have b1:((lo.toNat:Int)<((16:Nat):Int)):=Xa
  have b1':((lo'.toNat:Int)<((16:Nat):Int)):=Xa
  have b2:(0:Int)<=(lo.toNat:Int):=Xa
  have b2':(0:Int)<=(lo'.toNat:Int):=Xa
  have z4:¬((4:Int)<0):=Xb
  have t4:(4:Int).toNat=4:=rfl
  refine Bz1 (X12 g5 hs hk0 e1 e2 e3 e4 e5 e6 e7 e3' (X10 e4' e5' e6' e7' b1 b1' b2 b2' z4 t4)) ?_
  exact⟨(),by rw[hf],by exact HXT⟩
 ·(rintro u G _ hG hn;try simp only[nx]at hn)
  have hno:=hnot ((q.take q.length).foldl byC (~~~ n))
  rw[hend]at hno
  generalize (q.take q.length).foldl byC (~~~ n)=x at *
  refine Bz1 (X1 hno) ?_
  exact Zcm rfl (Zaa.Ext.hxt (by exact AXT) hG)
theorem ZQF (q:Tx) (H:Zaa) (hl:q.length<=10000000):Zay Tryz.prog 206 [.sl .full [[eS q]]] H (Pure H (u32 (suC q))):=by
 have hx0:Zaa.Ext H H:=.refl _
 have hm:∀K,Zay Tryz.prog 241 [.sc (.int .u32 0),eS q] K (Pure K (u32 (suC q))):=fun K=>ZQQ 0 q K hl
 refine fnQ cf206 fun Q qr qn=>?_
 refine Bz0 ?_
 refine ZbJ (N:=1) (fun k F G=>Fr.get F 8=.i (k:Int)/\Fr.get F 7=.i ((1:Nat):Int)/\Fr.get F 6=.sl .full [[eS q]]/\Fr.get F 3=(if k=0 then .sc (.int .u32 0) else u32 (suC q))/\Zaa.Ext H G) Xd (fun k F G h=>⟨h.1,h.2.1⟩) (GStep.refl _ _) ⟨rfl,rfl,rfl,rfl,hx0⟩ ?_ ?_
 ·rintro k F G hk ⟨f8,f7,f6,f3,hx⟩
  obtain rfl:k=0:=Xa
  rw[if_pos rfl]at f3
  have z0:(0:Int)<=((0:Nat):Int):=Xb
  have hr:∀i:Nat,i=0->([[eS q]]:List (List AV))[i]?=some [eS q]:=fun i h=>by subst h;rfl
  have hr:=hr 0 rfl
  generalize hL:([[eS q]]:List (List AV))=L at *
  skip
  refine Bz1 (X6 f8 f7 f6 f3 z0 hr) ?_
  refine qcp (hm _) fun k1=>?_
  refine Bz1 (X4 f8 f7 f6 f3) ?_
  exact hx.bump
 ·rintro F G ⟨f8,f7,f6,f3,hx⟩
  rw[if_neg Xb]at f3
  skip
  refine Bz1 (X1 f3) ?_
  exact Zcm rfl
theorem u_sh {x:BitVec 32} (k m:Nat) (h:2 ^ k=m) (hk:k<=32):Int.fdiv (x.toNat:Int) (2 ^ min k IntKind.u32.bits)=((x.toNat / m:Nat):Int):=by
 rw[show min k IntKind.u32.bits=k from zaP hk,u_shr,zbz,zbH,h]
theorem ZOd (n:BitVec 32) (H:Zaa):Zay Tryz.prog 205 [u32 n] H (Pure H (eS (taC n))):=by
 have hx0:Zaa.Ext H H:=.refl _
 have s1:=u_sh (x:=n) 8 256 rfl Xb
 have s2:=u_sh (x:=n) 16 65536 rfl Xb
 have s3:=u_sh (x:=n) 24 16777216 rfl Xb
 have z1:¬((8:Int)<0):=Xb
 have z2:¬((16:Int)<0):=Xb
 have z3:¬((24:Int)<0):=Xb
 have t1:(8:Int).toNat=8:=rfl
 have t2:(16:Int).toNat=16:=rfl
 have t3:(24:Int).toNat=24:=rfl
 have c0:=ZRd n.toNat
 have c1:=ZRd (n.toNat / 256)
 have c2:=ZRd (n.toNat / 65536)
 have c3:=ZRd (n.toNat / 16777216)
 have hb:Zef [[.sc (.int .u8 ((UInt8.ofNat n.toNat).toNat:Int))],[.sc (.int .u8 ((UInt8.ofNat (n.toNat / 256)).toNat:Int))],[.sc (.int .u8 ((UInt8.ofNat (n.toNat / 65536)).toNat:Int))],[.sc (.int .u8 ((UInt8.ofNat (n.toNat / 16777216)).toNat:Int))]]=some ((taC n).map fun c=>(c.toNat:Int)):=ZyX (taC n)
 have hs:strOf ((taC n).map fun c=>(c.toNat:Int))=⟨(taC n).toArray⟩:=Zza _
 refine fnQ cf205 fun Q qr qn=>?_
 ((have hd:=tv;repeat' first|(first|apply Zad|apply Zac|apply Zab)<;>intro hd<;>try simp only[hd]|simp(disch:=first|assumption|omega|simp only[nx]<;>omega|fail)only[hd,qr,qn,ZK9,↓YA,YY,↓reduceIte,Nat.reduceEqDiff,Nat.reduceAdd,Nat.reduceMul,Nat.reduceLeDiff,Int.reduceToNat,Int.reduceLE,Int.reduceLT,Int.reduceGT,Int.reduceGE,Int.reduceAdd,Int.reduceSub,Int.reduceNeg,Int.reduceBEq,Int.reduceBNe,s1,s2,s3,z1,z2,z3,t1,t2,t3,c0,c1,c2,c3,hb,hs])<;>try revert hd;refine ttr ?_)
 exact Zcm rfl
theorem ZNJ (q:Tx) (H:Zaa) (hl:q.length<=1000000):Zay Tryz.prog 162 [eS q] H (Pure H (eS (clC q))):=by
 have hx0:Zaa.Ext H H:=.refl _
 have ho:=fun K=>ZQF q K Xa
 have e1:=Zz9 q (taC (suC q))
 have l1:q.length+(taC (suC q)).length<=maxLen:=by rw[ZSS];unfold maxLen;omega
 have ht:=fun K=>ZOd (suC q) K
 unfold clC
 generalize taC (suC q)=b at *
 generalize suC q=c at *
 refine fnQ cf162 fun Q qr qn=>?_
 refine Bz0 ?_
 refine qcp (ho _) fun k1=>?_
 refine Bz0 ?_
 refine qcp (ht _) fun k2=>?_
 refine Bz1 (X2 e1 l1) ?_
 exact Zcm rfl
def oTx (o:Option Tx):AV:=.tup [eS (o.getD []),.b o.isSome]
theorem ZOg (q:Tx) (H:Zaa) (hl:q.length<=1000000):Zay Tryz.prog 196 [eS q] H (Pure H (oTx (opC q))):=by
 have hx0:Zaa.Ext H H:=.refl _
 have hw0:IntKind.i64.wrap ((q.length:Int) - 4)=(q.length:Int) - 4:=Zaw Xa Xa
 unfold opC oTx
 by_cases h4:4<=q.length
 ·have d1:decide ((q.length:Int) - 4<0)=false:=decide_eq_false Xa
  have e4:(q.length:Int) - 4=((q.length - 4:Nat):Int):=Xa
  have hw:=hw0.trans e4
  rw[e4]at d1
  clear e4
  have l0:q.length - 4<=q.length:=Xa
  have z0:(0:Int)<=((q.length - 4:Nat):Int):=Xa
  have e1:(⟨q.toArray⟩:ByteArray).extract 0 (q.length - 4)=⟨(q.take (q.length - 4)).toArray⟩:=by rw[<- ZwX];simp
  have e2:(⟨q.toArray⟩:ByteArray).extract (q.length - 4) q.length=⟨(q.drop (q.length - 4)).toArray⟩:=by rw[<- ZwX];simp;rw[zav Xc]
  have ho:=fun K=>ZQF (q.take (q.length - 4)) K (by rw[zaj];omega)
  have ht:=fun K=>ZOd (suC (q.take (q.length - 4))) K
  generalize q.drop (q.length - 4)=dd at *
  generalize q.take (q.length - 4)=tt at *
  generalize hta:taC (suC tt)=ta at *
  generalize suC tt=su at *
  by_cases hc:ta=dd
  ·have d2:(!decide (ta=dd))=false:=by simp[hc]
   rw[if_pos ⟨h4,hc⟩]
   refine fnQ cf196 fun Q qr qn=>?_
   ((have hd:=tv;repeat' first|(first|apply Zad|apply Zac|apply Zab)<;>intro hd<;>try simp only[hd]|simp(disch:=first|assumption|omega|simp only[nx]<;>omega|fail)only[hd,qr,qn,ZNU,↓YA,YY,↓reduceIte,Nat.reduceEqDiff,Nat.reduceAdd,Nat.reduceMul,Nat.reduceLeDiff,Int.reduceToNat,Int.reduceLE,Int.reduceLT,Int.reduceGT,Int.reduceGE,Int.reduceAdd,Int.reduceSub,Int.reduceNeg,Int.reduceBEq,Int.reduceBNe,hw,d1,z0,l0,e1,e2,Zdi,zat])<;>try revert hd;refine ttr ?_)
   refine qcp (ho _) fun k1=>?_
   refine Bz0 ?_
   refine qcp (ht _) fun k2=>?_
   ((have hd:=tv;repeat' first|(first|apply Zad|apply Zac|apply Zab)<;>intro hd<;>try simp only[hd]|simp(disch:=first|assumption|omega|simp only[nx]<;>omega|fail)only[hd,qr,qn,ZNU,↓YA,YY,↓reduceIte,Nat.reduceEqDiff,Nat.reduceAdd,Nat.reduceMul,Nat.reduceLeDiff,Int.reduceToNat,Int.reduceLE,Int.reduceLT,Int.reduceGT,Int.reduceGE,Int.reduceAdd,Int.reduceSub,Int.reduceNeg,Int.reduceBEq,Int.reduceBNe,d2,z0,l0,e1,Zdi,zat])<;>try revert hd;refine ttr ?_)
   exact Zcm rfl
  ·have d2:(!decide (ta=dd))=true:=by simp[hc]
   rw[if_neg fun h=>hc h.2]
   refine fnQ cf196 fun Q qr qn=>?_
   ((have hd:=tv;repeat' first|(first|apply Zad|apply Zac|apply Zab)<;>intro hd<;>try simp only[hd]|simp(disch:=first|assumption|omega|simp only[nx]<;>omega|fail)only[hd,qr,qn,ZNU,↓YA,YY,↓reduceIte,Nat.reduceEqDiff,Nat.reduceAdd,Nat.reduceMul,Nat.reduceLeDiff,Int.reduceToNat,Int.reduceLE,Int.reduceLT,Int.reduceGT,Int.reduceGE,Int.reduceAdd,Int.reduceSub,Int.reduceNeg,Int.reduceBEq,Int.reduceBNe,hw,d1,z0,l0,e1,e2,Zdi,zat])<;>try revert hd;refine ttr ?_)
   refine qcp (ho _) fun k1=>?_
   refine Bz0 ?_
   refine qcp (ht _) fun k2=>?_
   ((have hd:=tv;repeat' first|(first|apply Zad|apply Zac|apply Zab)<;>intro hd<;>try simp only[hd]|simp(disch:=first|assumption|omega|simp only[nx]<;>omega|fail)only[hd,qr,qn,ZNU,↓YA,YY,↓reduceIte,Nat.reduceEqDiff,Nat.reduceAdd,Nat.reduceMul,Nat.reduceLeDiff,Int.reduceToNat,Int.reduceLE,Int.reduceLT,Int.reduceGT,Int.reduceGE,Int.reduceAdd,Int.reduceSub,Int.reduceNeg,Int.reduceBEq,Int.reduceBNe,d2])<;>try revert hd;refine ttr ?_)
   exact Zcm rfl
 ·have d1:decide ((q.length:Int) - 4<0)=true:=decide_eq_true Xa
  rw[if_neg fun h=>h4 h.1]
  refine fnQ cf196 fun Q qr qn=>?_
  ((have hd:=tv;repeat' first|(first|apply Zad|apply Zac|apply Zab)<;>intro hd<;>try simp only[hd]|simp(disch:=first|assumption|omega|simp only[nx]<;>omega|fail)only[hd,qr,qn,ZNU,↓YA,YY,↓reduceIte,Nat.reduceEqDiff,Nat.reduceAdd,Nat.reduceMul,Nat.reduceLeDiff,Int.reduceToNat,Int.reduceLE,Int.reduceLT,Int.reduceGT,Int.reduceGE,Int.reduceAdd,Int.reduceSub,Int.reduceNeg,Int.reduceBEq,Int.reduceBNe,hw0,d1])<;>try revert hd;refine ttr ?_)
  exact Zcm rfl
def lsbN (x:BitVec 32):Nat:=if x.getLsbD 0=true then 1 else 0
theorem u_mod2 (x:BitVec 32):Int.tmod (x.toNat:Int) 2=((lsbN x:Nat):Int):=by
 have hb:x.getLsbD 0=true ↔ x.toNat % 2=1:=by rw[BitVec.getLsbD,zb8]
 rw[zbx Xa]
 unfold lsbN
 by_cases h:x.toNat % 2=1
 ·rw[if_pos (hb.2 h)];omega
 ·rw[if_neg fun e=>h (hb.1 e)];omega
theorem u_half (x:BitVec 32):IntKind.u32.wrap (Int.tdiv (x.toNat:Int) 2)=((x >>> 1).toNat:Int):=by
 have e:Int.tdiv (x.toNat:Int) 2=((x >>> 1).toNat:Int):=by
  rw[za3 Xa,zbz,zbH]
  rfl
 rw[e,wrap_u32]
theorem lsb_ne (a b:BitVec 32):(((lsbN a:Nat):Int) != ((lsbN b:Nat):Int))=(a.getLsbD 0 != b.getLsbD 0):=by
 unfold lsbN
 cases a.getLsbD 0<;>cases b.getLsbD 0<;>rfl
theorem ZRF (x:BitVec 32) (H:Zaa):Zay Tryz.prog 261 [u32 x] H (Pure H (.sc (.int .u32 ((lsbN x:Nat):Int)))):=by
 have hx0:Zaa.Ext H H:=.refl _
 have e:=u_mod2 x
 have n2:((2:Int)=0)=False:=Xc
 refine fnQ cf261 fun Q qr qn=>?_
 refine Bz1 (X2 e n2) ?_
 exact Zcm rfl
@[simp] theorem bisC_zero (n v:BitVec 32):bisC n v 0=n:=rfl
@[simp] theorem shr_zero (v:BitVec 32):v >>> 0=v:=by
 apply zcq
 rw[zbz,Nat.shiftRight_zero]
theorem one_sound (n:BitVec 32) (c:UInt8) (H:Zaa):Zay Tryz.prog 253 [u32 n,u8 c] H (Pure H (u32 (byC n c))):=by
 have hx0:Zaa.Ext H H:=.refl _
 have e0:=u_byte c
 have hend:=bisC_by n c
 have hz:=fun x K=>ZRF x K
 have n2:((2:Int)=0)=False:=Xc
 generalize byC n c=R at *
 generalize b32 c=v at *
 refine fnQ cf253 fun Q qr qn=>?_
 refine Bz1 (X1 e0) ?_
 refine Zcw [] (σ:=Nat) (fun s=>s<=8) (fun s=>8 - s) (fun s=>[(0,u32 (bisC n v s)),(5,u32 (v >>> s)),(6,.i (s:Int))]) (fun s=>[]) 0 (GStep.refl _ _) xV ?_ xT xU ?_
 ·exact zat _
 ·(rintro s G hs hG hn;try simp only[nx]at hn)
  by_cases h8:s<8
  ·have d1:decide ((s:Int)<8)=true:=decide_eq_true Xa
   have hw:=ZCE (s:=s) Xa
   have hss:bisC n v (s+1)=biC (bisC n v s) (v >>> s):=rfl
   have hvs:v >>> (s+1)=(v >>> s) >>> 1:=zbD ..
   generalize bisC n v s=a at *
   generalize v >>> s=b at *
   have q1:=u_half a
   have q2:=u_half b
   have q3:=lsb_ne a b
   have q4:=u_poly (a >>> 1)
   unfold biC at hss
   rcases bfb (a.getLsbD 0 != b.getLsbD 0)with hc|hc
   ·rw[hc]at q3
    rw[hc,cond_false]at hss
    ((have hd:=tv;repeat' first|(first|apply Zad|apply Zac|apply Zab)<;>intro hd<;>try simp only[hd]|simp(disch:=first|assumption|omega|simp only[nx]<;>omega|fail)only[hd,qr,qn,ZPz,↓YA,YY,↓reduceIte,Nat.reduceEqDiff,Nat.reduceAdd,Nat.reduceMul,Nat.reduceLeDiff,Int.reduceToNat,Int.reduceLE,Int.reduceLT,Int.reduceGT,Int.reduceGE,Int.reduceAdd,Int.reduceSub,Int.reduceNeg,Int.reduceBEq,Int.reduceBNe,d1])<;>try revert hd;refine ttr ?_)
    refine qcp (hz _ _) fun k1=>?_
    refine Bz0 ?_
    refine qcp (hz _ _) fun k2=>?_
    refine Bz1 (X5 q1 q2 q3 hw n2) ?_
    exact⟨s+1,Xa,Xa,⟨by rw[hss],by rw[hvs],rfl⟩,by exact HXT⟩
   ·rw[hc]at q3
    rw[hc,cond_true]at hss
    ((have hd:=tv;repeat' first|(first|apply Zad|apply Zac|apply Zab)<;>intro hd<;>try simp only[hd]|simp(disch:=first|assumption|omega|simp only[nx]<;>omega|fail)only[hd,qr,qn,ZPz,↓YA,YY,↓reduceIte,Nat.reduceEqDiff,Nat.reduceAdd,Nat.reduceMul,Nat.reduceLeDiff,Int.reduceToNat,Int.reduceLE,Int.reduceLT,Int.reduceGT,Int.reduceGE,Int.reduceAdd,Int.reduceSub,Int.reduceNeg,Int.reduceBEq,Int.reduceBNe,d1])<;>try revert hd;refine ttr ?_)
    refine qcp (hz _ _) fun k1=>?_
    refine Bz0 ?_
    refine qcp (hz _ _) fun k2=>?_
    refine Bz1 (X6 q1 q2 q3 q4 hw n2) ?_
    exact⟨s+1,Xa,Xa,⟨by rw[hss],by rw[hvs],rfl⟩,by exact HXT⟩
  ·obtain rfl:s=8:=Xa
   have d1:decide (((8:Nat):Int)<8)=false:=rfl
   have d2:decide ((8:Int)<8)=false:=rfl
   rw[hend]
   ((have hd:=tv;repeat' first|(first|apply Zad|apply Zac|apply Zab)<;>intro hd<;>try simp only[hd]|simp(disch:=first|assumption|omega|simp only[nx]<;>omega|fail)only[hd,qr,qn,ZPz,↓YA,YY,↓reduceIte,Nat.reduceEqDiff,Nat.reduceAdd,Nat.reduceMul,Nat.reduceLeDiff,Int.reduceToNat,Int.reduceLE,Int.reduceLT,Int.reduceGT,Int.reduceGE,Int.reduceAdd,Int.reduceSub,Int.reduceNeg,Int.reduceBEq,Int.reduceBNe,d1,d2])<;>try revert hd;refine ttr ?_)
   exact Zcm rfl hG.ext
def taL (n:BitVec 32) (k:Nat):Tx:=(List.range k).map fun i=>UInt8.ofNat (n.toNat / 256 ^ i)
@[simp] theorem taL_zero (n:BitVec 32):taL n 0=[]:=rfl
theorem taL_all (n:BitVec 32):taL n 4=taC n:=by
 show[UInt8.ofNat (n.toNat / 1),UInt8.ofNat (n.toNat / 256),UInt8.ofNat (n.toNat / 65536),UInt8.ofNat (n.toNat / 16777216)]=_
 rw[Nat.div_one]
 rfl
end Go.Proofs.YtfjjpndoeppbhaaGreatDoor
