/- Texts of the walk. -/
import Derived.Test.YtfjjpndoeppbhaaGreatDoorMr
namespace Go.Proofs.YtfjjpndoeppbhaaGreatDoor
set_option linter.defProp false
set_option maxHeartbeats 64000000
set_option linter.unusedSimpArgs false
set_option linter.unusedVariables false
open Go.RowKit
def atI (l:List Int) (s:Int):Int:=if s∈l then (l.idxOf s:Int) else -1
theorem ZPp {l:List Int} {s:Int} {k:Nat} (h:k<l.length) (he:l[k]=s) (hn:s ∉ l.take k):atI l s=(k:Int):=by
 have hm:s∈l:=he ▸ zau h
 have e:l.idxOf s=k:=by
  have h1:l=l.take k++l[k] :: l.drop (k+1):=by rw[List.getElem_cons_drop,zaS]
  rw[h1,List.idxOf_append,if_neg hn,he,List.idxOf_cons_self,zaj]
  omega
 unfold atI
 rw[if_pos hm,e]
section
variable {D S:Nat} {t:Tok} {d:Dv} {rd:Int} {H G:Zaa}
theorem ZOh (t:Tok) (l:List Int) (q:Int) (H:Zaa) (hl:l.length<=9223372036854775807):Zay Tryz.prog 119 [.sl t (rI l),.i q] H (Pure H (.i (atI l q))):=by
 have hx0:Zaa.Ext H H:=.refl _
 refine fnQ cf119 fun Q qr qn=>?_
 refine Bz2 ?_
 refine ZbJ (N:=l.length) (fun k F G=>Fr.get F 8=.i (k:Int)/\Fr.get F 7=.i (l.length:Int)/\Fr.get F 0=.sl t (rI l)/\Fr.get F 1=.i q/\Zaa.Ext H G/\q ∉ l.take k) Xd (fun k F G h=>⟨h.1,h.2.1⟩) (GStep.refl _ _) ⟨rfl,rfl,rfl,rfl,hx0,Xc⟩ ?_ ?_
 ·rintro k F G hk ⟨f8,f7,f0,f1,hx,hn⟩
  have hz:(0:Int)<=(k:Int):=Xa
  have hr:(rI l)[k]?=some [.i l[k]]:=by simp[hk]
  by_cases he:l[k]=q
  ·have hat:=ZPp hk he hn
   have d:(q == l[k])=true:=by simpa using he.symm
   skip
   refine Bz1 (X7 f8 f7 f0 f1 hz hr d) ?_
   rw[hat]
   exact ZaW hx rfl
  ·have d:(q == l[k])=false:=by simpa using fun h=>he h.symm
   have hn2:q ∉ l.take (k+1):=by
    rw[zas hk,zaw,zbr]
    exact fun h=>h.elim hn fun h=>he h.symm
   skip
   refine Bz1 (X7 f8 f7 f0 f1 hz hr d) ?_
   exact⟨hx,hn2⟩
 ·rintro F G ⟨f8,f7,f0,f1,hx,hn⟩
  rw[zaz]at hn
  have hat:atI l q = -1:=by unfold atI;rw[if_neg hn]
  skip
  refine Bz0 ?_
  rw[hat]
  exact ZaW hx rfl
theorem ZRb (t:Tok) (l:List Int) (q:Int) (H:Zaa) (hl:l.length<=9223372036854775807):Zay Tryz.prog 71 [.sl t (rI l),.i q] H (Pure H (.b (decide (q∈l)))):=by
 have hs:=fun H=>ZOh t l q H hl
 have hx0:Zaa.Ext H H:=.refl _
 by_cases hq:q∈l
 ·have hat:atI l q=((l.idxOf q:Nat):Int):=by unfold atI;rw[if_pos hq]
  rw[hat]at hs
  rw[decide_eq_true hq]
  have d:decide (((l.idxOf q:Nat):Int)≥0)=true:=Xc
  refine fnQ cf71 fun Q qr qn=>?_
  refine Bz0 ?_
  refine qcp (hs _) fun k1=>?_
  refine Bz1 (X1 d) ?_
  exact ZaW hx0.bump rfl
 ·have hat:atI l q = -1:=by unfold atI;rw[if_neg hq]
  rw[hat]at hs
  rw[decide_eq_false hq]
  have d:decide ((-1:Int)≥0)=false:=Xb
  refine fnQ cf71 fun Q qr qn=>?_
  refine Bz0 ?_
  refine qcp (hs _) fun k1=>?_
  refine Bz1 (X1 d) ?_
  exact ZaW hx0.bump rfl
theorem ZM8 (s:Tx) (a b:Nat):(⟨s.toArray⟩:ByteArray).extract a b=⟨((s.drop a).take (b - a)).toArray⟩:=by
 rw[<- ZwX]
end
def tlZ:Tx->Tx
 | []=>[]
 | c :: r=>if c=0 then tlZ r else c :: r
def trZ (q:Tx):Tx:=(tlZ q.reverse).reverse
theorem tlZ_nil {q:Tx}:tlZ q=[] ↔ ∀x∈q,x=0:=by
 induction q with
 | nil=>simp[tlZ]
 | cons c r ih =>
  unfold tlZ
  by_cases h:c=0
  ·rw[if_pos h,ih]
   simp[h]
  ·rw[if_neg h]
   simp[h]
theorem tlZ_len (q:Tx):(tlZ q).length<=q.length:=by
 induction q with
 | nil=>simp[tlZ]
 | cons c r ih =>
  unfold tlZ
  split
  ·rw[List.length_cons];omega
  ·exact zad _
theorem trZ_snoc (q:Tx) (c:UInt8):trZ (q++[c])=if c=0 then trZ q else q++[c]:=by
 unfold trZ
 rw[List.reverse_append,List.reverse_singleton,List.singleton_append]
 unfold tlZ
 split
 ·rw[tlZ.eq_def]
 ·simp
theorem ZRB {q:Tx}:(∀x∈tlZ q,x=0) ↔ ∀x∈q,x=0:=by
 induction q with
 | nil=>simp[tlZ]
 | cons c r ih =>
  unfold tlZ
  by_cases h:c=0
  ·rw[if_pos h,ih]
   simp[h]
  ·rw[if_neg h]
theorem ZOP {q:Tx}:tlZ (trZ q)=[] ↔ ∀x∈q,x=0:=by
 rw[tlZ_nil]
 unfold trZ
 constructor
 ·intro h x hx
  exact(ZRB (q:=q.reverse)).1 (fun y hy=>h y (by simpa using hy)) x (by simpa using hx)
 ·intro h x hx
  exact(ZRB (q:=q.reverse)).2 (fun y hy=>h y (by simpa using hy)) x (by simpa using hx)
theorem ba_one (c:UInt8) (r:Tx):(⟨(c :: r).toArray⟩:ByteArray).extract 1 (r.length+1)=⟨r.toArray⟩:=by
 rw[ZM8]
 simp
theorem ba_init (q:Tx) (c:UInt8):(⟨(q++[c]).toArray⟩:ByteArray).extract 0 q.length=⟨q.toArray⟩:=by
 rw[ZM8]
 simp
theorem ZPQ (q:Tx) (H:Zaa) (hl:q.length<=1000000):Zay Tryz.prog 234 [eS q,u8 0] H (Pure H (eS (tlZ q))):=by
 have hx0:Zaa.Ext H H:=.refl _
 have e0:(u8 0)=.sc (.int .u8 0):=rfl
 rw[e0]
 generalize hR:tlZ q=R
 refine fnQ cf234 fun Q qr qn=>?_
 refine Bz0 ?_
 refine Zcw [1] (σ:=Tx) (fun s=>tlZ s=R/\s.length<=1000000) (fun s=>s.length) (fun s=>[(0,eS s)]) (fun s=>[]) q (GStep.refl _ _) xV ?_ xT xU ?_
 ·exact⟨hR,hl⟩
 ·(rintro w G ⟨hs,hwl⟩ hG hn;try simp only[nx]at hn)
  cases w with
  | nil =>
   have d1:decide ((([]:Tx).length:Int) > 0)=false:=rfl
   have d2:decide (((0:Nat):Int) > 0)=false:=rfl
   have d3:decide ((0:Int) > 0)=false:=rfl
   ((have hd:=tv;repeat' first|(first|apply Zad|apply Zac|apply Zab)<;>intro hd<;>try simp only[hd]|simp(disch:=first|assumption|omega|simp only[nx]<;>omega|fail)only[hd,qr,qn,ZPl,↓YA,YY,↓reduceIte,Nat.reduceEqDiff,Nat.reduceAdd,Nat.reduceMul,Nat.reduceLeDiff,Int.reduceToNat,Int.reduceLE,Int.reduceLT,Int.reduceGT,Int.reduceGE,Int.reduceAdd,Int.reduceSub,Int.reduceNeg,Int.reduceBEq,Int.reduceBNe,d1,d2,d3])<;>try revert hd;refine ttr ?_)
   exact Zcm (by rw[<- hs];rfl) hG.ext
  | cons c r =>
   have d1:decide ((((c :: r:Tx).length:Nat):Int) > 0)=true:=decide_eq_true (by rw[List.length_cons];omega)
   have d1':decide (((r.length+1:Nat):Int) > 0)=true:=decide_eq_true Xa
   have g0:(⟨(c :: r).toArray⟩:ByteArray)[0]?=some c:=by rw[Zy6];rfl
   have e1:=ba_one c r
   unfold tlZ at hs
   have b1:1<=r.length+1:=Xa
   by_cases hc:c=0
   ·rw[if_pos hc]at hs
    have d2:((c.toNat:Int) == 0)=true:=by subst hc;rfl
    ((have hd:=tv;repeat' first|(first|apply Zad|apply Zac|apply Zab)<;>intro hd<;>try simp only[hd]|simp(disch:=first|assumption|omega|simp only[nx]<;>omega|fail)only[hd,qr,qn,ZPl,↓YA,YY,↓reduceIte,Nat.reduceEqDiff,Nat.reduceAdd,Nat.reduceMul,Nat.reduceLeDiff,Int.reduceToNat,Int.reduceLE,Int.reduceLT,Int.reduceGT,Int.reduceGE,Int.reduceAdd,Int.reduceSub,Int.reduceNeg,Int.reduceBEq,Int.reduceBNe,d1,d1',d2,g0,e1,Zdi,b1,List.length_cons])<;>try revert hd;refine ttr ?_)
    exact⟨r,⟨hs,by rw[List.length_cons]at hwl;omega⟩,Xa,rfl,by exact HXT⟩
   ·rw[if_neg hc]at hs
    have d2:((c.toNat:Int) == 0)=false:=by
     simp only[beq_eq_false_iff_ne,ne_eq]
     intro h
     exact hc (UInt8.toNat_inj.1 (by have:(0:UInt8).toNat=0:=rfl;omega))
    ((have hd:=tv;repeat' first|(first|apply Zad|apply Zac|apply Zab)<;>intro hd<;>try simp only[hd]|simp(disch:=first|assumption|omega|simp only[nx]<;>omega|fail)only[hd,qr,qn,ZPl,↓YA,YY,↓reduceIte,Nat.reduceEqDiff,Nat.reduceAdd,Nat.reduceMul,Nat.reduceLeDiff,Int.reduceToNat,Int.reduceLE,Int.reduceLT,Int.reduceGT,Int.reduceGE,Int.reduceAdd,Int.reduceSub,Int.reduceNeg,Int.reduceBEq,Int.reduceBNe,d1,d1',d2,g0])<;>try revert hd;refine ttr ?_)
    exact Zcm (by rw[<- hs];rfl) hG.ext
theorem ZPa (q:Tx) (H:Zaa) (hl:q.length<=1000000):Zay Tryz.prog 235 [eS q,u8 0] H (Pure H (eS (trZ q))):=by
 have hx0:Zaa.Ext H H:=.refl _
 have e0:(u8 0)=.sc (.int .u8 0):=rfl
 rw[e0]
 generalize hR:trZ q=R
 refine fnQ cf235 fun Q qr qn=>?_
 refine Bz0 ?_
 refine Zcw [1] (σ:=Tx) (fun s=>trZ s=R/\s.length<=1000000) (fun s=>s.length) (fun s=>[(0,eS s)]) (fun s=>[]) q (GStep.refl _ _) xV ?_ xT xU ?_
 ·exact⟨hR,hl⟩
 ·(rintro w G ⟨hs,hwl⟩ hG hn;try simp only[nx]at hn)
  by_cases hw0:w=[]
  ·subst hw0
   have d1:decide ((([]:Tx).length:Int) > 0)=false:=rfl
   have d2:decide (((0:Nat):Int) > 0)=false:=rfl
   have d3:decide ((0:Int) > 0)=false:=rfl
   ((have hd:=tv;repeat' first|(first|apply Zad|apply Zac|apply Zab)<;>intro hd<;>try simp only[hd]|simp(disch:=first|assumption|omega|simp only[nx]<;>omega|fail)only[hd,qr,qn,ZPc,↓YA,YY,↓reduceIte,Nat.reduceEqDiff,Nat.reduceAdd,Nat.reduceMul,Nat.reduceLeDiff,Int.reduceToNat,Int.reduceLE,Int.reduceLT,Int.reduceGT,Int.reduceGE,Int.reduceAdd,Int.reduceSub,Int.reduceNeg,Int.reduceBEq,Int.reduceBNe,d1,d2,d3])<;>try revert hd;refine ttr ?_)
   exact Zcm (by rw[<- hs];rfl) hG.ext
  ·obtain⟨r,c,rfl⟩:∃r c,w=r++[c]:=⟨w.dropLast,w.getLast hw0,(List.dropLast_concat_getLast hw0).symm⟩
   have hrl:(r++[c]).length=r.length+1:=Xc
   have d1:decide (((r.length+1:Nat):Int) > 0)=true:=decide_eq_true Xa
   have g0:(⟨(r++[c]).toArray⟩:ByteArray)[r.length]?=some c:=by rw[Zy6];simp
   have e1:=ba_init r c
   have w1:IntKind.i64.wrap (((r.length+1:Nat):Int) - 1)=(r.length:Int):=by
    rw[Zaw Xa Xa];omega
   rw[trZ_snoc]at hs
   have z0:(0:Int)<=(r.length:Int):=Xa
   have b1:r.length<=r.length+1:=Xa
   by_cases hc:c=0
   ·rw[if_pos hc]at hs
    have d2:((c.toNat:Int) == 0)=true:=by subst hc;rfl
    generalize hw:r++[c]=w at *
    ((have hd:=tv;repeat' first|(first|apply Zad|apply Zac|apply Zab)<;>intro hd<;>try simp only[hd]|simp(disch:=first|assumption|omega|simp only[nx]<;>omega|fail)only[hd,qr,qn,ZPc,↓YA,YY,↓reduceIte,Nat.reduceEqDiff,Nat.reduceAdd,Nat.reduceMul,Nat.reduceLeDiff,Int.reduceToNat,Int.reduceLE,Int.reduceLT,Int.reduceGT,Int.reduceGE,Int.reduceAdd,Int.reduceSub,Int.reduceNeg,Int.reduceBEq,Int.reduceBNe,hrl,d1,d2,g0,e1,w1,z0,Zdi,b1,zat])<;>try revert hd;refine ttr ?_)
    exact⟨r,⟨hs,Xa⟩,Xa,rfl,by exact HXT⟩
   ·rw[if_neg hc]at hs
    have d2:((c.toNat:Int) == 0)=false:=by
     simp only[beq_eq_false_iff_ne,ne_eq]
     intro h
     exact hc (UInt8.toNat_inj.1 (by have:(0:UInt8).toNat=0:=rfl;omega))
    generalize hw:r++[c]=w at *
    ((have hd:=tv;repeat' first|(first|apply Zad|apply Zac|apply Zab)<;>intro hd<;>try simp only[hd]|simp(disch:=first|assumption|omega|simp only[nx]<;>omega|fail)only[hd,qr,qn,ZPc,↓YA,YY,↓reduceIte,Nat.reduceEqDiff,Nat.reduceAdd,Nat.reduceMul,Nat.reduceLeDiff,Int.reduceToNat,Int.reduceLE,Int.reduceLT,Int.reduceGT,Int.reduceGE,Int.reduceAdd,Int.reduceSub,Int.reduceNeg,Int.reduceBEq,Int.reduceBNe,hrl,d1,d2,g0,w1,z0])<;>try revert hd;refine ttr ?_)
    exact Zcm (by rw[<- hs];rfl) hG.ext
theorem trZ_len (q:Tx):(trZ q).length<=q.length:=by
 unfold trZ
 rw[List.length_reverse]
 exact zaG (tlZ_len _) Xc
set_option maxRecDepth 100000 in
theorem ZOe (q:Tx) (H:Zaa) (hl:q.length<=1000000):Zay Tryz.prog 200 [eS q,.sc (.string ⟨#[0]⟩)] H (Pure H (eS (tlZ (trZ q)))):=by
 have hx0:Zaa.Ext H H:=.refl _
 have h1:=fun K=>ZPa q K hl
 have hl2:(trZ q).length<=1000000:=zaG (trZ_len q) hl
 have h2:=fun K=>ZPQ (trZ q) K hl2
 have e0:(⟨#[0]⟩:ByteArray)=⟨([0]:Tx).toArray⟩:=rfl
 have g0:(⟨([0]:Tx).toArray⟩:ByteArray)[0]?=some 0:=by rw[Zy6];rfl
 have l0:([0]:Tx).length=1:=rfl
 have d0:decide (([0]:Tx)=[])=false:=rfl
 have t0:(0:UInt8).toNat=0:=rfl
 have d3:decide (((0:UInt8).toNat:Int)<128)=true:=by rw[t0];decide
 have d4:(((1:Nat):Int) == 1)=true:=rfl
 rw[e0]
 generalize hz:([0]:Tx)=z at *
 by_cases hq:q=[]
 ·have d1:decide (q=[])=true:=decide_eq_true hq
  subst hq
  refine fnQ cf200 fun Q qr qn=>?_
  ((have hd:=tv;repeat' first|(first|apply Zad|apply Zac|apply Zab)<;>intro hd<;>try simp only[hd]|simp(disch:=first|assumption|omega|simp only[nx]<;>omega|fail)only[hd,qr,qn,ZQB,↓YA,YY,↓reduceIte,Nat.reduceEqDiff,Nat.reduceAdd,Nat.reduceMul,Nat.reduceLeDiff,Int.reduceToNat,Int.reduceLE,Int.reduceLT,Int.reduceGT,Int.reduceGE,Int.reduceAdd,Int.reduceSub,Int.reduceNeg,Int.reduceBEq,Int.reduceBNe,d1])<;>try revert hd;refine ttr ?_)
  exact Zcm rfl
 ·have d1:decide (q=[])=false:=decide_eq_false hq
  refine fnQ cf200 fun Q qr qn=>?_
  ((have hd:=tv;repeat' first|(first|apply Zad|apply Zac|apply Zab)<;>intro hd<;>try simp only[hd]|simp(disch:=first|assumption|omega|simp only[nx]<;>omega|fail)only[hd,qr,qn,ZQB,↓YA,YY,↓reduceIte,Nat.reduceEqDiff,Nat.reduceAdd,Nat.reduceMul,Nat.reduceLeDiff,Int.reduceToNat,Int.reduceLE,Int.reduceLT,Int.reduceGT,Int.reduceGE,Int.reduceAdd,Int.reduceSub,Int.reduceNeg,Int.reduceBEq,Int.reduceBNe,d1,d0,l0,g0,d3,d4])<;>try revert hd;refine ttr ?_)
  refine qcp (h1 _) fun k1=>?_
  refine Bz0 ?_
  refine qcp (h2 _) fun k2=>?_
  refine Bz0 ?_
  exact Zcm rfl
theorem ZMW (a:Tx) (n:Nat):(⟨a.toArray⟩:ByteArray).extract 0 n=⟨(a.take n).toArray⟩:=by
 rw[ZM8,zby,Nat.sub_zero]
theorem ZMS (a:Tx) (n:Nat):(⟨a.toArray⟩:ByteArray).extract n a.length=⟨(a.drop n).toArray⟩:=by
 rw[ZM8,<- zaq,zaz]
def layS (sec:List Tx) (keep:List Int) (torn:Int) (m i:Nat) (p:Nat×Tx):List Tx:=if (i:Int)∈keep then sec.set p.1 p.2 else if (i:Int)=torn then sec.set p.1 (p.2.take m++(sec.getD p.1 []).drop m) else sec
theorem ZPy (keep:List Int) (torn:Int) (m:Nat) (p:Nat×Tx):∀(l:List (Nat×Tx)) (sec:List Tx) (i:Nat),ZM6 sec keep torn m i (l++[p])=layS (ZM6 sec keep torn m i l) keep torn m (i+l.length) p
 | [],sec,i=>rfl
 | q :: l,sec,i=>by
  rw[List.cons_append,ZM6,ZPy keep torn m p l,ZM6,List.length_cons,show i+1+l.length=i+(l.length+1) by omega]
theorem ZSe (sec:List Tx) (keep:List Int) (torn:Int) (m:Nat) {l:List (Nat×Tx)} {k:Nat} (hk:k<l.length):ZM6 sec keep torn m 0 (l.take (k+1))=layS (ZM6 sec keep torn m 0 (l.take k)) keep torn m k l[k]:=by
 rw[zas hk,ZPy,zaj,show 0+min k l.length=k by omega]
section
variable {D S:Nat} {t:Tok} {d:Dv} {rd:Int} {H G:Zaa}
theorem ZRg (h:ZL5 D S t d rd H) (tk:Tok) (keep:List Int) (torn bytes:Int) (hp:d.puts.length<=1000000) (hk:keep.length<=9223372036854775807):Zay Tryz.prog 14 [.ptr D 0,.sl tk (rI keep),.i torn,.i bytes] H (ZL0 D S t H (.i 0) (d.cut keep torn bytes)):=by
 have gD0:=h.gd
 have hn:=h.ok.n
 have hold:∀i,DFp D S t i->i<H.next:=fun _ hi=>h.old hi
 have hrl:(rP d.puts).length=d.puts.length:=Xc
 have hmm:(if (128:Int)<(if (0:Int) > bytes then 0 else bytes) then 128 else (if (0:Int) > bytes then 0 else bytes))=((ZOS bytes:Nat):Int):=by
  unfold ZOS
  split<;>split<;>omega
 have hm128:=ZOH bytes
 have hcon:∀(i:Nat) (K:Zaa),Zay Tryz.prog 71 [.sl tk (rI keep),.i (i:Int)] K (Pure K (.b (decide ((i:Int)∈keep)))):=fun i K=>ZRb tk keep i K hk
 have hpo:=h.ok.p
 unfold Dv.cut
 generalize ZOS bytes=m at *
 generalize rI keep=Rk at *
 refine fnQ cf14 fun Q qr qn=>?_
 refine Bz0 ?_
 refine qcp (ZLW h) fun k1=>?_
 refine Bz1 (X3 gD0 hrl hmm) ?_
 refine ZbJ (N:=d.puts.length) (fun k F G=>Fr.get F 22=.i (k:Int)/\Fr.get F 21=.i (d.puts.length:Int)/\Fr.get F 0=.ptr D 0/\Fr.get F 1=.sl tk Rk/\Fr.get F 2=.i torn/\Fr.get F 3=.i (m:Int)/\Fr.get F 20=.sl t (rP d.puts)/\∃u,ZL0 D S t H u { d with sec:=ZM6 d.sec keep torn m 0 (d.puts.take k) } u G) Xd (fun k F G h=>⟨h.1,h.2.1⟩) (GStep.refl _ _) ⟨rfl,rfl,rfl,rfl,rfl,rfl,rfl,.i 0,ZL0.same h k1⟩ ?_ ?_
 ·rintro k F K hk ⟨f22,f21,f0,f1,f2,f3,f20,u,_,⟨t3,rd3,h3,hs3⟩,kf3⟩
  have hk0:(0:Int)<=(k:Int):=Xa
  have hrow:(rP d.puts)[k]?=some [.i ((d.puts[k].1:Nat):Int),eS d.puts[k].2]:=by simp[hk]
  have hsn:=ZSe d.sec keep torn m hk
  obtain⟨hq1,hq2⟩:=hpo d.puts[k] (zau hk)
  have hso:=h3.ok.s
  have hls:=(ZPR (keep:=keep) (torn:=torn) hm128 (i:=0) h.ok.s (fun q hq=>hpo q (zaB (i:=k) hq))).1
  generalize d.puts[k]=q at *
  have hco:=hcon k
  have hold3:∀i,DFp D S t3 i->i<K.next:=fun _ hi=>h3.old hi
  generalize ZM6 d.sec keep torn m 0 (d.puts.take k)=sk at *
  have hlay:∀{K2:Zaa} {s:Tx},Zaa.Ext K K2->s.length=128->Zay Tryz.prog 72 [.ptr D 0,.agg [.i (q.1:Int),eS s]] K2 (ZL0 D S t3 K2 (.tup []) { d with sec:=sk.set q.1 s }):=fun hx hs=>ZOs (h3.ext hx) (by show q.1<sk.length;omega) hs
  unfold layS at hsn
  generalize rP d.puts=R0 at *
  by_cases hc:(k:Int)∈keep
  ·rw[if_pos hc]at hsn
   rw[decide_eq_true hc]at hco
   skip
   refine Bz1 (X9 f22 f21 f0 f1 f2 f3 f20 hk0 hrow) ?_
   refine qcp (hco _) fun k2=>?_
   refine Bz1 (X7 f22 f21 f0 f1 f2 f3 f20) ?_
   refine Zap.use (hlay (by exact AXT) hq2) ?_
   rintro r4 K4 h4
   have h5:=ZL0.pre hold3 (by exact AXT) h4
   refine Bz1 (X7 f22 f21 f0 f1 f2 f3 f20) ?_
   refine⟨.tup [],?_⟩
   rw[hsn]
   exact ZL0.val (ZL0.then hs3 kf3 h5)
  ·rw[if_neg hc]at hsn
   rw[decide_eq_false hc]at hco
   by_cases ht:(k:Int)=torn
   ·rw[if_pos ht]at hsn
    have d1:((k:Int) == torn)=true:=by simpa using ht
    have gD3:=h3.gd
    have gS3:=h3.gs
    have hlD:=Zaa.lt gD3
    have hlS:=Zaa.lt gS3
    have hqs:q.1<sk.length:=Xa
    have hgs:(cS sk)[q.1]?=some (eS sk[q.1]):=by simp[hqs]
    have hgd:sk.getD q.1 []=sk[q.1]:=by rw[zai,zab hqs];rfl
    rw[hgd]at hsn
    have hsl:sk[q.1].length=128:=hso _ (zau hqs)
    have hq0:(0:Int)<=(q.1:Int):=Xa
    have hm0:(0:Int)<=(m:Int):=Xa
    have hn1:((q.1:Int)<(sk.length:Int))=True:=by simp;exact hqs
    generalize sk[q.1]=z at *
    have e1:=ZMW q.2 m
    have e2:=ZMS z m
    have e3:=Zz9 (q.2.take m) (z.drop m)
    have l1:m<=q.2.length:=Xa
    have l2:m<=z.length:=Xa
    have l3:(q.2.take m).length+(z.drop m).length<=maxLen:=by
     rw[zaj,zaq];unfold maxLen;omega
    have l4:(q.2.take m++z.drop m).length=128:=by rw[zac,zaj,zaq];omega
    generalize hcs:cS sk=cs at *
    skip
    refine Bz1 (X9 f22 f21 f0 f1 f2 f3 f20 hk0 hrow) ?_
    refine qcp (hco _) fun k2=>?_
    ((have hd:=tv;repeat' first|(first|apply Zad|apply Zac|apply Zab)<;>intro hd<;>try simp only[hd]|simp(disch:=first|assumption|omega|simp only[nx]<;>omega|fail)only[hd,qr,qn,Zew,↓YA,YY,↓reduceIte,Nat.reduceEqDiff,Nat.reduceAdd,Nat.reduceMul,Nat.reduceLeDiff,Int.reduceToNat,Int.reduceLE,Int.reduceLT,Int.reduceGT,Int.reduceGE,Int.reduceAdd,Int.reduceSub,Int.reduceNeg,Int.reduceBEq,Int.reduceBNe,f22,f21,f0,f1,f2,f3,f20,d1,gD3,gS3,hgs,hq0,hqs,hn1,hm0,Zdi,e1,e2,e3,l1,l2,l3,zat])<;>try revert hd;refine ttr ?_)
    refine Zap.use (hlay (by exact AXT) l4) ?_
    rintro r4 K4 h4
    have h5:=ZL0.pre hold3 (by exact AXT) h4
    refine Bz1 (X7 f22 f21 f0 f1 f2 f3 f20) ?_
    refine⟨.tup [],?_⟩
    rw[hsn]
    exact ZL0.val (ZL0.then hs3 kf3 h5)
   ·rw[if_neg ht]at hsn
    have d1:((k:Int) == torn)=false:=by simpa using ht
    skip
    refine Bz1 (X9 f22 f21 f0 f1 f2 f3 f20 hk0 hrow) ?_
    refine qcp (hco _) fun k2=>?_
    ((have hd:=tv;repeat' first|(first|apply Zad|apply Zac|apply Zab)<;>intro hd<;>try simp only[hd]|simp(disch:=first|assumption|omega|simp only[nx]<;>omega|fail)only[hd,qr,qn,Zew,↓YA,YY,↓reduceIte,Nat.reduceEqDiff,Nat.reduceAdd,Nat.reduceMul,Nat.reduceLeDiff,Int.reduceToNat,Int.reduceLE,Int.reduceLT,Int.reduceGT,Int.reduceGE,Int.reduceAdd,Int.reduceSub,Int.reduceNeg,Int.reduceBEq,Int.reduceBNe,f22,f21,f0,f1,f2,f3,f20,d1])<;>try revert hd;refine ttr ?_)
    refine⟨.tup [],?_⟩
    rw[hsn]
    exact ZL0.grow (ZL0.then (v:=.tup []) (r:=.tup []) (d2:={ d with sec:=sk }) hs3 kf3 ⟨rfl,⟨t3,rd3,h3,fun _ hi=>.inl hi⟩,KF.refl _ _⟩) (by exact AXT)
 ·rintro F K ⟨f22,f21,f0,f1,f2,f3,f20,u,_,⟨t3,rd3,h3,hs3⟩,kf3⟩
  rw[zaz]at h3
  have gD3:=h3.gd
  have hcl:=h3.clr (f:=0) (o:=true) Xa (.i 0)
  have hlD:=Zaa.lt gD3
  skip
  ((have hd:=tv;repeat' first|(first|apply Zad|apply Zac|apply Zab)<;>intro hd<;>try simp only[hd]|simp(disch:=first|assumption|omega|simp only[nx]<;>omega|fail)only[hd,qr,qn,Zew,↓YA,YY,↓reduceIte,Nat.reduceEqDiff,Nat.reduceAdd,Nat.reduceMul,Nat.reduceLeDiff,Int.reduceToNat,Int.reduceLE,Int.reduceLT,Int.reduceGT,Int.reduceGE,Int.reduceAdd,Int.reduceSub,Int.reduceNeg,Int.reduceBEq,Int.reduceBNe,f0,gD3,ZMs])<;>try revert hd;refine ttr ?_)
  exact Zaq (ZL0.then hs3 kf3 hcl)
end
open Go.RowKit Go.Lib
def ZPv (e:Tx) (N s:Nat):List AV:=List.replicate s (eS e)++List.replicate (N - s) (eS [])
theorem repC_len {e:Tx} {N s:Nat} (h:s<=N):(ZPv e N s).length=N:=by simp[ZPv];omega
theorem ZPg (a:AV) (R:List AV):∀s,chunk 1 s (List.replicate s a++R)=List.replicate s [a]
 | 0=>rfl
 | s+1=>by
  rw[List.replicate_succ,List.cons_append]
  show[a] :: chunk 1 s (List.replicate s a++R)=_
  rw[ZPg a R s,List.replicate_succ]
theorem ZNz (a:AV):∀s,(List.replicate s [a]).flatten=List.replicate s a
 | 0=>rfl
 | s+1=>by rw[List.replicate_succ,List.flatten_cons,ZNz a s,List.replicate_succ];rfl
theorem ZSV {e:Tx} {N s:Nat} (h:s<=N):splice (ZPv e N s) s ((List.replicate s [eS e]).take (Nat.min s (N - s))).flatten=ZPv e N (s+Nat.min s (N - s)):=by
 have hm:Nat.min s (N - s)=min s (N - s):=rfl
 rw[hm,List.take_replicate,ZNz]
 unfold splice ZPv
 rw[za1 Xc,zaZ,<- za5,zbi Xc,List.drop_replicate,zcr]
 congr 2<;>omega
section
variable {D S:Nat} {t:Tok} {d:Dv} {rd:Int} {H G:Zaa}
def RepR (e:Tx) (n:Nat) (H:Zaa) (r:AV) (G:Zaa):Prop:=∃id,H.next<=id/\r=.arr id 0 n n/\G.get id=some (.cells (List.replicate n (eS e)) 9)/\Zaa.Ext H G
theorem cnvu {n:Nat} (h:n<18446744073709551616):IntKind.u64.wrap (n:Int)=(n:Int):=by
 unfold IntKind.wrap
 simp only[IntKind.bits,IntKind.signed]
 simp
 omega
theorem ZSR (e:Tx) (n:Nat) (H:Zaa) (h1:1<=n) (h2:n<=1000000):Zay Tryz.prog 48 [.sl .full [[eS e]],.i (n:Int)] H (RepR e n H):=by
 have d1:decide ((n:Int)<0)=false:=decide_eq_false Xa
 have w1:IntKind.u64.wrap 1=((1:Nat):Int):=rfl
 have w2:IntKind.u64.wrap (n:Int)=(n:Int):=cnvu Xa
 have hmul:=fun K=>ZSp 1 n Xa Xa K
 rw[show 1 * n / 18446744073709551616=0 by omega,show 1 * n % 18446744073709551616=n by omega]at hmul
 have d2:decide (((0:Nat):Int) > 0)=false:=rfl
 have d3:decide ((n:Int) > 9223372036854775807)=false:=decide_eq_false Xa
 have w3:IntKind.i64.wrap (n:Int)=(n:Int):=Zaw Xa Xa
 have hx0:Zaa.Ext H H:=.refl _
 refine fnQ cf48 fun Q qr qn=>?_
 ((have hd:=tv;repeat' first|(first|apply Zad|apply Zac|apply Zab)<;>intro hd<;>try simp only[hd]|simp(disch:=first|assumption|omega|simp only[nx]<;>omega|fail)only[hd,qr,qn,ZeF,↓YA,YY,↓reduceIte,Nat.reduceEqDiff,Nat.reduceAdd,Nat.reduceMul,Nat.reduceLeDiff,Int.reduceToNat,Int.reduceLE,Int.reduceLT,Int.reduceGT,Int.reduceGE,Int.reduceAdd,Int.reduceSub,Int.reduceNeg,Int.reduceBEq,Int.reduceBNe,d1,w1,w2])<;>try revert hd;refine ttr ?_)
 refine qcp (hmul _) fun k1=>?_
 ((have hd:=tv;repeat' first|(first|apply Zad|apply Zac|apply Zab)<;>intro hd<;>try simp only[hd]|simp(disch:=first|assumption|omega|simp only[nx]<;>omega|fail)only[hd,qr,qn,ZeF,↓YA,YY,↓reduceIte,Nat.reduceEqDiff,Nat.reduceAdd,Nat.reduceMul,Nat.reduceLeDiff,Int.reduceToNat,Int.reduceLE,Int.reduceLT,Int.reduceGT,Int.reduceGE,Int.reduceAdd,Int.reduceSub,Int.reduceNeg,Int.reduceBEq,Int.reduceBNe,d2,d3,w3])<;>try revert hd;refine ttr ?_)
 have d4:((n:Int)=0)=False:=by simp;omega
 have m1:n<=maxLen:=ZAp Xa
 have m2:n * 16<=140737488355328:=Xa
 have i1:((n:Int)<=(n:Int))=True:=Xc
 have hz:(List.replicate n [AV.sc (Value.string { data:=#[] })]).flatten=List.replicate n (eS []):=ZNz _ n
 have hmin:Nat.min 1 n=1:=by show min 1 n=1;omega
 have hall:ZaE 1 [[eS e]]=true:=rfl
 have hlen:(List.replicate n (eS [])).length=n:=Xc
 have h1n:1<=n:=h1
 have hsp:[[eS e]].flatten++List.drop [[eS e]].flatten.length (List.replicate n (eS []))=ZPv e n 1:=by
  show[eS e]++List.drop 1 (List.replicate n (eS []))=_
  rw[List.drop_replicate]
  rfl
 ((have hd:=tv;repeat' first|(first|apply Zad|apply Zac|apply Zab)<;>intro hd<;>try simp only[hd]|simp(disch:=first|assumption|omega|simp only[nx]<;>omega|fail)only[hd,qr,qn,ZeF,↓YA,YY,↓reduceIte,Nat.reduceEqDiff,Nat.reduceAdd,Nat.reduceMul,Nat.reduceLeDiff,Int.reduceToNat,Int.reduceLE,Int.reduceLT,Int.reduceGT,Int.reduceGE,Int.reduceAdd,Int.reduceSub,Int.reduceNeg,Int.reduceBEq,Int.reduceBNe,d1,w1,w2,d4,m1,m2,i1,hz,hmin,hall,hlen,h1n,hsp])<;>try revert hd;refine ttr ?_)
 refine Zcw [7] (σ:=Nat) (fun s=>1<=s/\s<=n) (fun s=>n - s) (fun s=>[(8,.i (s:Int))]) (fun s=>[(H.next+k1,.cells (ZPv e n s) 9)]) 1 (GStep.refl _ _) xV ?_ xT ?_ ?_
 ·exact⟨zad _,h1⟩
 ·rw[ZaP,ZaJ,and_true]
  exact Zaa.Zat rfl
 ·(rintro s G ⟨hs1,hs2⟩ hG hn;try simp only[nx]at hn)
  have hg:G.get (H.next+k1)=some (.cells (ZPv e n s) 9):=hG.o (H.next+k1,_) Xc
  have hid:=Zaa.lt hg
  have hput:∀{o':Zb3},HX [(H.next+k1,o')] _ (G.set (H.next+k1) o'):=fun {o'}=>hG.put
  by_cases hc:s<n
  ·have e1:decide ((s:Int)<(n:Int))=true:=decide_eq_true Xa
   have z0:(0:Int)<=(s:Int):=Xa
   have t0:((s:Int)).toNat=s:=Xa
   have hch:chunk 1 s (ZPv e n s)=List.replicate s [eS e]:=ZPg _ _ s
   have hrl:(List.replicate s [eS e]).length=s:=Xc
   have hal:ZaE 1 (List.replicate s [eS e])=true:=by simp[ZaE]
   have hcl:=repC_len (e:=e) hs2
   have hsp:List.take s (ZPv e n s)++(List.take (Nat.min s (n - s)) (List.replicate s [eS e])).flatten++List.drop (s+(List.take (Nat.min s (n - s)) (List.replicate s [eS e])).flatten.length) (ZPv e n s)=ZPv e n (s+Nat.min s (n - s)):=ZSV (e:=e) hs2
   have hmn:Nat.min s (n - s)=min s (n - s):=rfl
   have w9:IntKind.i64.wrap ((s:Int)+((Nat.min s (n - s):Nat):Int))=((s+Nat.min s (n - s):Nat):Int):=by
    rw[hmn,Zaw Xa Xa];omega
   have b1:s+Nat.min s (n - s)<=n:=by rw[hmn];omega
   have b2:s<=n:=hs2
   have b3:(n=s)=False:=by simp;omega
   have b4:(n=0)=False:=by simp;omega
   have fin:HX [(H.next+k1,.cells (ZPv e n (s+Nat.min s (n - s))) 9)] _ (G.set (H.next+k1) (.cells (ZPv e n (s+Nat.min s (n - s))) 9)):=hput
   generalize ZPv e n s=cs at *
   generalize List.replicate s [eS e]=rs at *
   generalize hcs2:ZPv e n (s+Nat.min s (n - s))=cs2 at *
   ((have hd:=tv;repeat' first|(first|apply Zad|apply Zac|apply Zab)<;>intro hd<;>try simp only[hd]|simp(disch:=first|assumption|omega|simp only[nx]<;>omega|fail)only[hd,qr,qn,ZeF,↓YA,YY,↓reduceIte,Nat.reduceEqDiff,Nat.reduceAdd,Nat.reduceMul,Nat.reduceLeDiff,Int.reduceToNat,Int.reduceLE,Int.reduceLT,Int.reduceGT,Int.reduceGE,Int.reduceAdd,Int.reduceSub,Int.reduceNeg,Int.reduceBEq,Int.reduceBNe,e1,z0,t0,hg,hch,hrl,hal,hcl,hsp,w9,b1,b2,b3,b4,Zdi,Nat.sub_zero,zat])<;>try revert hd;refine ttr ?_)
   exact⟨s+Nat.min s (n - s),⟨Xa,b1⟩,by rw[hmn];omega,rfl,by rw[hcs2];exact fin⟩
  ·have e1:decide ((s:Int)<(n:Int))=false:=decide_eq_false Xa
   have hsn:s=n:=Xa
   refine Bz1 (X1 e1) ?_
   refine Zaq ⟨H.next+k1,Xa,rfl,?_,?_⟩
   ·rw[hg,hsn,ZPv]
    simp
   ·exact hG.ZdB (by exact AXT) Xc
def ZO9:Tx:=List.replicate 128 0
set_option maxRecDepth 100000 in
theorem ZPC (H:Zaa):Zay Tryz.prog 49 [] H (Pure H (eS ZO9)):=by
 have h:=fun K=>Same.pure (Zwn ⟨#[0]⟩ 128 K Xb Xb)
 have e:(AV.sc (.string ⟨⟨repeatL (ByteArray.data ⟨#[0]⟩).toList 128⟩⟩))=eS ZO9:=rfl
 rw[e]at h
 have hx0:Zaa.Ext H H:=.refl _
 refine fnQ cf49 fun Q qr qn=>?_
 refine Bz0 ?_
 refine qcp (h _) fun k1=>?_
 refine Bz0 ?_
 exact Zcm rfl
def ZN6 (n:Nat):Dv:=⟨List.replicate n ZO9,[],0,0,false⟩
theorem ZSD {n:Nat} (h1:16<=n) (h2:n<=4096):(ZN6 n).Ok:=⟨by simp[ZN6];omega,fun x hx=>by
 obtain⟨_,rfl⟩:=zaY.1 hx
 rfl,fun q hq=>(by cases hq),by simp[ZN6]⟩
def NewR (n:Nat) (H:Zaa) (r:AV) (G:Zaa):Prop:=∃D S,r=.tup [.ptr D 0,.i 0]/\ZL5 D S .full (ZN6 n) 0 G/\H.next<=D/\H.next<=S/\Zaa.Ext H G
theorem ZOr (n:Nat) (H:Zaa) (h1:16<=n) (h2:n<=4096):Zay Tryz.prog 10 [.i (n:Int)] H (NewR n H):=by
 have hmay:∀K,Zay Tryz.prog 47 [.i (n:Int)] K (Pure K (.b true)):=by
  intro K
  have d1:decide ((16:Int)<=(n:Int))=true:=decide_eq_true Xa
  have d2:decide ((n:Int)<=4096)=true:=decide_eq_true Xa
  have hx0:Zaa.Ext K K:=.refl _
  refine fnQ cf47 fun Q qr qn=>?_
  ((have hd:=tv;repeat' first|(first|apply Zad|apply Zac|apply Zab)<;>intro hd<;>try simp only[hd]|simp(disch:=first|assumption|omega|simp only[nx]<;>omega|fail)only[hd,qr,qn,c47_0,↓YA,YY,↓reduceIte,Nat.reduceEqDiff,Nat.reduceAdd,Nat.reduceMul,Nat.reduceLeDiff,Int.reduceToNat,Int.reduceLE,Int.reduceLT,Int.reduceGT,Int.reduceGE,Int.reduceAdd,Int.reduceSub,Int.reduceNeg,Int.reduceBEq,Int.reduceBNe,d1,d2])<;>try revert hd;refine ttr ?_)
  exact Zcm rfl
 have hrep:=fun K=>ZSR ZO9 n K Xa Xa
 have hx0:Zaa.Ext H H:=.refl _
 refine fnQ cf10 fun Q qr qn=>?_
 refine Bz0 ?_
 refine qcp (hmay _) fun k1=>?_
 refine Bz0 ?_
 refine qcp (ZPC _) fun k2=>?_
 refine Bz0 ?_
 refine Zap.use (hrep _) ?_
 rintro _ G ⟨id,hid,rfl,hg,hx⟩
 refine Bz0 ?_
 have hlt:=Zaa.lt hg
 simp only[nx]at hid
 have hnl:(ZN6 n).sec.length=n:=by simp[ZN6]
 refine Zaq ⟨G.next,id,rfl,⟨?_,?_,.inl rfl,ZSD h1 h2⟩,?_,Xa,?_⟩
 ·rw[hnl]
  exact Zaa.Zae
 ·rw[Zaa.Zag Xa,hg]
  simp[ZN6]
 ·have:=hx.next
  simp only[nx]at this
  omega
 ·have hx2:Zaa.Ext ((H.bump k1).bump k2) (G.alloc (.cells [.arr id 0 n n,.sl .full [],.i 0,.i 0,.i 0,.b false] 100)):=hx.alloc
  exact Zaa.Ext.trans (Zaa.Ext.refl _).bump.bump hx2
end
end Go.Proofs.YtfjjpndoeppbhaaGreatDoor
