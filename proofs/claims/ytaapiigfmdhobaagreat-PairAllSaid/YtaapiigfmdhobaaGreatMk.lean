/- Texts of the walk, joined: Hf H1 H2 H3 H4 H5. -/
import Derived.Test.YtaapiigfmdhobaaGreatMj
namespace Go.Proofs.YtaapiigfmdhobaaGreat
set_option linter.unusedSimpArgs false
set_option linter.unusedVariables false
open Go.RowKit
abbrev Fct:=List Int×Ag
def ZcI (f:Fct):List AV:=.sl .no (rI f.1) :: eAg f.2
abbrev rF (fs:List Fct):List (List AV):=fs.map ZcI
theorem Znt (fs:List Fct):ZaE 11 (rF fs)=true:=ZaU (f:=ZcI) (fun _=>rfl) fs
abbrev Tx:=List UInt8
abbrev eS (l:List UInt8):AV:=.sc (.string ⟨l.toArray⟩)
abbrev rS (l:List Tx):List (List AV):=l.map fun s=>[eS s]
def kS (l:List UInt8):Value:=.string ⟨l.toArray⟩
theorem Zev (a b:List UInt8):kEq (kS a) (kS b)=decide (a=b):=by
 rw[zbc,decide_eq_true_eq]
 show(a.toArray == b.toArray)=true ↔ _
 rw[beq_iff_eq]
 exact⟨fun h=>by simpa using congrArg Array.toList h,fun h=>by rw[h]⟩
theorem kS_of (l:List UInt8):KK.of (.one .str) (eS l)=some (kS l):=rfl
structure Tr where
 name:Tx
 terms:List Tx
 up:List Int
structure Dm where
 name:Tx
 tiers:List Tr
structure Sc where
 dims:List Dm
 meas:List Tx
def eTr (t:Tr):List AV:=[eS t.name,.sl .no (rS t.terms),.sl .no (rI t.up)]
abbrev rT (l:List Tr):List (List AV):=l.map eTr
def eDm (d:Dm):List AV:=[eS d.name,.sl .no (rT d.tiers)]
abbrev rD (l:List Dm):List (List AV):=l.map eDm
def eSc (s:Sc):List AV:=[.sl .no (rD s.dims),.sl .no (rS s.meas)]
theorem bfb (b:Bool):b=false∨b=true:=by cases b<;>simp
theorem Zhg {α:Type} {l:List α} {p:α->Bool} {k:Nat} (h:k<l.length):(l.take (k+1)).all p=((l.take k).all p&&p l[k]):=by
 rw[zaq h,List.all_append];simp
theorem Zjc {α:Type} {l:List α} {p:α->Bool} {k:Nat} (h:k<l.length) (hp:p l[k]=false):l.all p=false:=by
 rw[List.all_eq_false]
 exact⟨l[k],zam h,by simp[hp]⟩
theorem Zh9 {l:List UInt8} {k:Nat} (h:k<l.length):(⟨l.toArray⟩:ByteArray)[k]?=some l[k]:=by
 show(if h:k<l.toArray.size then some _ else none)=_
 rw[dif_pos (by simpa using h)]
 rfl
def ZcS (c:UInt8):Bool:=(decide ((97:Int)<=c.toNat)&&decide ((c.toNat:Int)<=122)) || (decide ((48:Int)<=c.toNat)&&decide ((c.toNat:Int)<=57)) || ((c.toNat:Int) == 95)
def ZbK (s:Tx):Bool:=!decide (s=[])&&!decide ((s.length:Int) > 12)&&s.all ZcS
set_option maxHeartbeats 1000000 in
theorem ZgA (q:Tx) (H:Zaa):Zay Tryz.prog 130 [eS q] H (Pure H (.i (if ZbK q=true then 0 else 2))):=by
 refine Zak hE cf130 (zac rfl) fun Q qr qn=>?_
 by_cases h0:q=[]
 ·subst h0
  ((have hd:=tv;repeat' first|(first|apply Zad|apply Zac|apply Zab)<;>intro hd<;>try simp only[hd]|simp(disch:=first|assumption|omega|simp only[nx]<;>omega|fail)only[hd,qr,qn,Zgs,↓YA,YY,sevalprocAttr])<;>try revert hd;refine ttr ?_)
  refine Zaz (by rfl)
 have d0:decide (q=[])=false:=decide_eq_false h0
 by_cases h1:(q.length:Int) > 12
 ·have d1:decide ((q.length:Int) > 12)=true:=decide_eq_true h1
  ((have hd:=tv;repeat' first|(first|apply Zad|apply Zac|apply Zab)<;>intro hd<;>try simp only[hd]|simp(disch:=first|assumption|omega|simp only[nx]<;>omega|fail)only[hd,qr,qn,Zgs,↓YA,YY,sevalprocAttr,d0,d1])<;>try revert hd;refine ttr ?_)
  refine Zaz (by simp[ZbK,h1])
 have d1:decide ((q.length:Int) > 12)=false:=decide_eq_false h1
 have hbad:∀k (hk:k<q.length),ZcS q[k]=false->(2:Int)=if ZbK q=true then 0 else 2:=fun k hk h=>by
  rw[if_neg]
  rw[ZbK,Zjc hk h];simp
 have hgood:q.all ZcS=true->(0:Int)=if ZbK q=true then 0 else 2:=fun h=>by
  rw[if_pos]
  rw[ZbK,h,d0,d1];rfl
 ((have hd:=tv;repeat' first|(first|apply Zad|apply Zac|apply Zab)<;>intro hd<;>try simp only[hd]|simp(disch:=first|assumption|omega|simp only[nx]<;>omega|fail)only[hd,qr,qn,Zgs,↓YA,YY,sevalprocAttr,d0,d1])<;>try revert hd;refine ttr ?_)
 refine Zbs [0,13] (σ:=Unit) (fun(k:Nat) s=>(q.take k).all ZcS=true) (fun k s=>[]) (fun k s=>[]) () (GStep.refl _ _) (by simp only[ZaA,Zav,Fr.put,Fr.get,↓reduceIte,Nat.reduceEqDiff];rfl) (by intro k s;rfl) (by intro k s;rfl) (by rfl) (by unfold maxLen;omega) ?_ (by simp only[ZaF]) (by simp only[ZaJ]) ?_ ?_
 ·rfl
 ·(rintro k u G hk ht hG hn;try simp only[nx]at hn)
  have hs:=Zh9 hk
  have hb:=hbad k hk
  have hsn:=Zhg (p:=ZcS) hk
  rw[ht,za2]at hsn
  generalize q[k]=c at *
  clear hbad hgood
  ((have hd:=tv;repeat' first|(first|apply Zad|apply Zac|apply Zab)<;>intro hd<;>try simp only[hd]|simp(disch:=first|assumption|omega|simp only[nx]<;>omega|fail)only[hd,qr,qn,Zgs,↓YA,YY,sevalprocAttr,hs])<;>try revert hd;refine ttr ?_)
  all_goals first
   | (refine Zaz (hb ?_);clear hb hsn;unfold ZcS;first|(simp_all;done)|grind)
   | (refine⟨(),?_,by exact HXT⟩;rw[hsn];clear hb hsn;unfold ZcS;first|(simp_all;done)|grind)
 ·(rintro u G ht hG hn;try simp only[nx]at hn)
  rw[zaN]at ht
  ((have hd:=tv;repeat' first|(first|apply Zad|apply Zac|apply Zab)<;>intro hd<;>try simp only[hd]|simp(disch:=first|assumption|omega|simp only[nx]<;>omega|fail)only[hd,qr,qn,Zgs,↓YA,YY,sevalprocAttr])<;>try revert hd;refine ttr ?_)
  refine Zaz (by exact hgood ht)
theorem Zjx {s:Tx} (h:ZbK s=false) (H:Zaa):Zay Tryz.prog 130 [eS s] H (Pure H (.i 2)):=by
 have:=ZgA s H
 rw[h]at this
 exact this
theorem Zg8 {s:Tx} (h:ZbK s=true) (H:Zaa):Zay Tryz.prog 130 [eS s] H (Pure H (.i 0)):=by
 have:=ZgA s H
 rw[h]at this
 exact this
def isT (s:Tx):Bool:=decide ((s.length:Int)≥1)&&decide ((s.length:Int)<=16)
theorem Zhs (s:Tx) (H:Zaa):Zay Tryz.prog 170 [eS s] H (Pure H (.i (if isT s=true then 0 else 2))):=by
 unfold isT
 cases s with
 | nil =>
  refine Zak hE cf170 (zac rfl) fun Q qr qn=>?_
  ((have hd:=tv;repeat' first|(first|apply Zad|apply Zac|apply Zab)<;>intro hd<;>try simp only[hd]|simp(disch:=first|assumption|omega|simp only[nx]<;>omega|fail)only[hd,qr,qn,Zln,↓YA,YY,sevalprocAttr])<;>try revert hd;refine ttr ?_)
  refine Zaz (by rfl)
 | cons a r =>
  have d0:decide (a :: r=[])=false:=by simp
  refine Zak hE cf170 (zac rfl) fun Q qr qn=>?_
  ((have hd:=tv;repeat' first|(first|apply Zad|apply Zac|apply Zab)<;>intro hd<;>try simp only[hd]|simp(disch:=first|assumption|omega|simp only[nx]<;>omega|fail)only[hd,qr,qn,Zln,↓YA,YY,sevalprocAttr,d0])<;>try revert hd;refine ttr ?_)
  ·refine Zaz (by rw[if_neg];simp at hd ⊢;omega)
  ·refine Zaz (by rw[if_pos];simp at hd ⊢;omega)
def geT (w:Option Tx) (s:Tx):Bool:=match w with
 | some q=>!decide (q<s)
 | none=>false
def Zgt:Option Tx->List Tx->Int
 | _,[]=>0
 | w,s :: r=>if isT s=false then 2 else if geT w s=true then 4 else Zgt (some s) r
theorem Zhp (w:Option Tx) (s:Tx) (r:List Tx):Zgt w (s :: r)=if isT s=false then 2 else if geT w s=true then 4 else Zgt (some s) r:=by simp only[Zgt]
def Ze4 (l:List Tx) (k:Nat):Option Tx:=match k with
 | 0=>none
 | k+1=>l[k]?
set_option maxHeartbeats 1000000 in
theorem ZkS (t:Tok) (l:List Tx) (H:Zaa) (hl:l.length<=1000000):Zay Tryz.prog 157 [.sl t (rS l)] H (Pure H (.i (Zgt none l))):=by
 refine Zak hE cf157 (zac rfl) fun Q qr qn=>?_
 ((have hd:=tv;repeat' first|(first|apply Zad|apply Zac|apply Zab)<;>intro hd<;>try simp only[hd]|simp(disch:=first|assumption|omega|simp only[nx]<;>omega|fail)only[hd,qr,qn,ZdN,↓YA,YY,sevalprocAttr,zaa])<;>try revert hd;refine ttr ?_)
 generalize hT:Zgt none l=T at *
 refine Zbs [0,6,7] (σ:=Unit) (fun(k:Nat) s=>T=Zgt (Ze4 l k) (l.drop k)) (fun k s=>[]) (fun k s=>[]) () (GStep.refl _ _) (by simp only[ZaA,Zav,Fr.put,Fr.get,↓reduceIte,Nat.reduceEqDiff];rfl) (by intro k s;rfl) (by intro k s;rfl) (by rfl) (by unfold maxLen;omega) ?_ (by simp only[ZaF]) (by simp only[ZaJ]) ?_ ?_
 ·exact hT.symm
 ·(rintro k s G hk ht hG hn;try simp only[nx]at hn)
  rw[zan hk,Zhp]at ht
  have hC:=Zhs l[k]
  have hb:=bfb (isT l[k])
  rcases hb with hb|hb
  ·rw[hb]at hC ht
   simp only[zbQ,if_false,if_true]at hC ht
   ((have hd:=tv;repeat' first|(first|apply Zad|apply Zac|apply Zab)<;>intro hd<;>try simp only[hd]|simp(disch:=first|assumption|omega|simp only[nx]<;>omega|fail)only[hd,qr,qn,ZdN,↓YA,YY,sevalprocAttr,zaa])<;>try revert hd;refine ttr ?_)
   (refine Zap.use (hC _) ?_;rintro _ _ ⟨rfl,k1,rfl⟩)
   ((have hd:=tv;repeat' first|(first|apply Zad|apply Zac|apply Zab)<;>intro hd<;>try simp only[hd]|simp(disch:=first|assumption|omega|simp only[nx]<;>omega|fail)only[hd,qr,qn,ZdN,↓YA,YY,sevalprocAttr,show((2:Int) != 0)=true from by decide])<;>try revert hd;refine ttr ?_)
   refine Zaz (by rw[ht])
  ·rw[hb]at hC ht
   simp only[Bool.true_eq_false,if_false,if_true]at hC ht
   cases k with
   | zero =>
    have d1:decide (((0:Nat):Int) > 0)=false:=by decide
    ((have hd:=tv;repeat' first|(first|apply Zad|apply Zac|apply Zab)<;>intro hd<;>try simp only[hd]|simp(disch:=first|assumption|omega|simp only[nx]<;>omega|fail)only[hd,qr,qn,ZdN,↓YA,YY,sevalprocAttr,zaa])<;>try revert hd;refine ttr ?_)
    (refine Zap.use (hC _) ?_;rintro _ _ ⟨rfl,k1,rfl⟩)
    ((have hd:=tv;repeat' first|(first|apply Zad|apply Zac|apply Zab)<;>intro hd<;>try simp only[hd]|simp(disch:=first|assumption|omega|simp only[nx]<;>omega|fail)only[hd,qr,qn,ZdN,↓YA,YY,sevalprocAttr,d1,zaa])<;>try revert hd;refine ttr ?_)
    refine⟨(),by rw[ht];simp[Ze4,hk,geT],by exact HXT⟩
   | succ j =>
    have d1:decide (((j+1:Nat):Int) > 0)=true:=decide_eq_true (by omega)
    have hj:j<l.length:=by omega
    have hw:IntKind.i64.wrap (((j+1:Nat):Int) - 1)=(j:Int):=by rw[show((j+1:Nat):Int) - 1=(j:Int) by omega];exact Zaw (by omega) (by omega)
    have hp:Ze4 l (j+1)=some l[j]:=by simp[Ze4,hj]
    have hp2:Ze4 l (j+1+1)=some l[j+1]:=by simp[Ze4,hk]
    rw[hp]at ht
    simp only[geT]at ht
    have hlt:=bfb (decide (l[j]<l[j+1]))
    rcases hlt with hlt|hlt
    ·((have hd:=tv;repeat' first|(first|apply Zad|apply Zac|apply Zab)<;>intro hd<;>try simp only[hd]|simp(disch:=first|assumption|omega|simp only[nx]<;>omega|fail)only[hd,qr,qn,ZdN,↓YA,YY,sevalprocAttr,zaa])<;>try revert hd;refine ttr ?_)
     (refine Zap.use (hC _) ?_;rintro _ _ ⟨rfl,k1,rfl⟩)
     ((have hd:=tv;repeat' first|(first|apply Zad|apply Zac|apply Zab)<;>intro hd<;>try simp only[hd]|simp(disch:=first|assumption|omega|simp only[nx]<;>omega|fail)only[hd,qr,qn,ZdN,↓YA,YY,sevalprocAttr,d1,hw,hlt,hj,hk,zaa])<;>try revert hd;refine ttr ?_)
     refine Zaz (by rw[ht];simp[hlt])
    ·((have hd:=tv;repeat' first|(first|apply Zad|apply Zac|apply Zab)<;>intro hd<;>try simp only[hd]|simp(disch:=first|assumption|omega|simp only[nx]<;>omega|fail)only[hd,qr,qn,ZdN,↓YA,YY,sevalprocAttr,zaa])<;>try revert hd;refine ttr ?_)
     (refine Zap.use (hC _) ?_;rintro _ _ ⟨rfl,k1,rfl⟩)
     ((have hd:=tv;repeat' first|(first|apply Zad|apply Zac|apply Zab)<;>intro hd<;>try simp only[hd]|simp(disch:=first|assumption|omega|simp only[nx]<;>omega|fail)only[hd,qr,qn,ZdN,↓YA,YY,sevalprocAttr,d1,hw,hlt,hj,hk,zaa])<;>try revert hd;refine ttr ?_)
     refine⟨(),by rw[ht,hp2];simp[hlt],by exact HXT⟩
 ·(rintro s G ht hG hn;try simp only[nx]at hn)
  rw[zaT]at ht
  ((have hd:=tv;repeat' first|(first|apply Zad|apply Zac|apply Zab)<;>intro hd<;>try simp only[hd]|simp(disch:=first|assumption|omega|simp only[nx]<;>omega|fail)only[hd,qr,qn,ZdN,↓YA,YY,sevalprocAttr])<;>try revert hd;refine ttr ?_)
  refine Zaz (by rw[ht];rfl)
def Zg2 (l:List Int):List (Int×Int):=l.foldl (fun M n=>ZbU n 1 M) []
theorem ZlD {l:List Int} {k:Nat} (h:k<l.length):Zg2 (l.take (k+1))=ZbU l[k] 1 (Zg2 (l.take k)):=by
 rw[zaq h,Zg2,zbU];rfl
theorem ZmZ {K V:Type} [DecidableEq K] (k:K) (v:V) (M:List (K×V)):(ZbU k v M).length<=M.length+1:=by
 rw[ZjW];split<;>omega
theorem ZjE (l:List Int):(Zg2 l).length<=l.length:=by
 suffices ∀(l:List Int) (M:List (Int×Int)),(l.foldl (fun M n=>ZbU n 1 M) M).length<=M.length+l.length from by simpa [Zg2] using this l []
 intro l
 induction l with
 | nil=>intro M;simp
 | cons a r ih =>
  intro M
  rw[List.foldl_cons]
  have h1:=ih (ZbU a 1 M)
  have h2:=ZmZ a (1:Int) M
  simp only[List.length_cons]
  omega
def inU (a n:Int):Bool:=!decide (n<0)&&!decide (n≥a)
def ZdD (up:List Int) (members above:Int):Bool :=
 if above<=0 then ((up.length:Int) == 0) else if (up.length:Int)≠members then false else up.all (inU above)&&(((Zg2 up).length:Int) == above)
set_option maxHeartbeats 1000000 in
theorem ZkI (t:Tok) (up:List Int) (members above:Int) (H:Zaa) (hl:up.length<=1000000):Zay Tryz.prog 158 [.sl t (rI up),.i members,.i above] H (Pure H (.b (ZdD up members above))):=by
 refine Zak hE cf158 (zac rfl) fun Q qr qn=>?_
 by_cases h1:above<=0
 ·have d1:decide (above<=0)=true:=decide_eq_true h1
  ((have hd:=tv;repeat' first|(first|apply Zad|apply Zac|apply Zab)<;>intro hd<;>try simp only[hd]|simp(disch:=first|assumption|omega|simp only[nx]<;>omega|fail)only[hd,qr,qn,ZeY,↓YA,YY,sevalprocAttr,d1,zaa])<;>try revert hd;refine ttr ?_)
  refine ZbC (by rw[ZdD,if_pos h1])
 have d1:decide (above<=0)=false:=decide_eq_false h1
 by_cases h2:(up.length:Int)≠members
 ·have d2:((up.length:Int) != members)=true:=by simpa using h2
  ((have hd:=tv;repeat' first|(first|apply Zad|apply Zac|apply Zab)<;>intro hd<;>try simp only[hd]|simp(disch:=first|assumption|omega|simp only[nx]<;>omega|fail)only[hd,qr,qn,ZeY,↓YA,YY,sevalprocAttr,d1,d2,zaa])<;>try revert hd;refine ttr ?_)
  refine ZbC (by rw[ZdD,if_neg h1,if_pos h2])
 have d2:((up.length:Int) != members)=false:=by simpa using h2
 have hv:ZdD up members above=(up.all (inU above)&&(((Zg2 up).length:Int) == above)):=by rw[ZdD,if_neg h1,if_neg h2]
 ((have hd:=tv;repeat' first|(first|apply Zad|apply Zac|apply Zab)<;>intro hd<;>try simp only[hd]|simp(disch:=first|assumption|omega|simp only[nx]<;>omega|fail)only[hd,qr,qn,ZeY,↓YA,YY,sevalprocAttr,d1,d2,zaa])<;>try revert hd;refine ttr ?_)
 refine Zbs [2,7,20,21] (σ:=Unit) (fun(k:Nat) s=>(up.take k).all (inU above)=true) (fun k s=>[]) (fun k s=>[(H.next,.map (.one (.int .i64)) (Zgf kI AV.i (Zg2 (up.take k))) false)]) () (GStep.refl _ _) (by simp only[ZaA,Zav,Fr.put,Fr.get,↓reduceIte,Nat.reduceEqDiff];rfl) (by intro k s;rfl) (by intro k s;rfl) (by rfl) (by unfold maxLen;omega) ?_ (by simp only[ZaF]) ?_ ?_ ?_
 ·rfl
 ·rw[ZaP];exact⟨Zaa.Zae (H:=H),by simp[Zc5]⟩
 ·(rintro k s G hk ht hG hn;try simp only[nx]at hn)
  have ho:=hG.o (_,_) (zas.2 rfl)
  have hlo:=Zaa.lt ho
  have hs:=Zhg (p:=inU above) hk
  rw[ht,za2]at hs
  have hb:=bfb (inU above up[k])
  rcases hb with hb|hb
  ·have hf:(false:Bool)=ZdD up members above:=by rw[hv,Zjc hk hb];rfl
   have hc:=hb
   unfold inU at hc
   by_cases c1:up[k]<0
   ·have e1:decide (up[k]<0)=true:=decide_eq_true c1
    ((have hd:=tv;repeat' first|(first|apply Zad|apply Zac|apply Zab)<;>intro hd<;>try simp only[hd]|simp(disch:=first|assumption|omega|simp only[nx]<;>omega|fail)only[hd,qr,qn,ZeY,↓YA,YY,sevalprocAttr,e1,zaa])<;>try revert hd;refine ttr ?_)
    exact ZbC hf (hG.ZdB (Zaa.Ext.refl H).alloc (by simp))
   ·have e1:decide (up[k]<0)=false:=decide_eq_false c1
    rw[e1]at hc
    have e2:decide (up[k]≥above)=true:=by simpa using hc
    ((have hd:=tv;repeat' first|(first|apply Zad|apply Zac|apply Zab)<;>intro hd<;>try simp only[hd]|simp(disch:=first|assumption|omega|simp only[nx]<;>omega|fail)only[hd,qr,qn,ZeY,↓YA,YY,sevalprocAttr,e1,e2,zaa])<;>try revert hd;refine ttr ?_)
    exact ZbC hf (hG.ZdB (Zaa.Ext.refl H).alloc (by simp))
  ·have hc:=hb
   unfold inU at hc
   simp only[zaB,zbL]at hc
   obtain⟨e1,e2⟩:=hc
   have hset:=ZcH (vf:=AV.i) ZkH up[k] 1 (Zg2 (up.take k))
   have hof:=kI_of up[k]
   ((have hd:=tv;repeat' first|(first|apply Zad|apply Zac|apply Zab)<;>intro hd<;>try simp only[hd]|simp(disch:=first|assumption|omega|simp only[nx]<;>omega|fail)only[hd,qr,qn,ZeY,↓YA,YY,sevalprocAttr,e1,e2,ho,hof,hset,zaa])<;>try revert hd;refine ttr ?_)
   exact⟨(),by rw[hs,hb],by rw[ZlD hk];exact hG.put⟩
 ·(rintro s G ht hG hn;try simp only[nx]at hn)
  have ho:=hG.o (_,_) (zas.2 rfl)
  rw[zaN]at ht ho
  have hlen:(Zgf kI AV.i (Zg2 up)).length=(Zg2 up).length:=by rw[Zgf,zaa]
  ((have hd:=tv;repeat' first|(first|apply Zad|apply Zac|apply Zab)<;>intro hd<;>try simp only[hd]|simp(disch:=first|assumption|omega|simp only[nx]<;>omega|fail)only[hd,qr,qn,ZeY,↓YA,YY,sevalprocAttr,ho,hlen])<;>try revert hd;refine ttr ?_)
  exact ZbC (by rw[hv,ht];rfl) (hG.ZdB (Zaa.Ext.refl H).alloc (by simp))
def ZbO (t:Tr) (above:Int):Int :=
 if ZbK t.name=false then 2 else if (t.terms.length:Int)<1∨(t.terms.length:Int) > 200 then 5 else if Zgt none t.terms≠0 then Zgt none t.terms else if ZdD t.up t.terms.length above=false then 14 else 0
theorem Zba (t:Tr):(eTr t).length=3/\(eTr t)[0]?=some (eS t.name)/\(eTr t)[1]?=some (.sl .no (rS t.terms))/\(eTr t)[2]?=some (.sl .no (rI t.up))/\(eTr t).take 3=eTr t:=⟨rfl,rfl,rfl,rfl,rfl⟩
set_option maxHeartbeats 1000000 in
theorem ZkD (t:Tr) (above:Int) (H:Zaa) (hu:t.up.length<=1000000):Zay Tryz.prog 131 [.agg (eTr t),.i above] H (Pure H (.i (ZbO t above))):=by
 obtain⟨f0,f1,f2,f3,f4⟩:=Zba t
 have hx:Zaa.Ext H (H.alloc (.cells (eTr t) 107)):=(Zaa.Ext.refl H).alloc
 have hb:=bfb (ZbK t.name)
 rcases hb with hb|hb
 ·have hv:ZbO t above=2:=by rw[ZbO,if_pos hb]
  have hN:=fun G=>Zjx hb G
  rw[hv]
  refine Zak hE cf131 (zac rfl) fun Q qr qn=>?_
  ((have hd:=tv;repeat' first|(first|apply Zad|apply Zac|apply Zab)<;>intro hd<;>try simp only[hd]|simp(disch:=first|assumption|omega|simp only[nx]<;>omega|fail)only[hd,qr,qn,Zds,↓YA,YY,sevalprocAttr,f1])<;>try revert hd;refine ttr ?_)
  (refine Zap.use (hN _) ?_;rintro _ _ ⟨rfl,k1,rfl⟩)
  ((have hd:=tv;repeat' first|(first|apply Zad|apply Zac|apply Zab)<;>intro hd<;>try simp only[hd]|simp(disch:=first|assumption|omega|simp only[nx]<;>omega|fail)only[hd,qr,qn,Zds,↓YA,YY,sevalprocAttr])<;>try revert hd;refine ttr ?_)
  refine Zaz (by rfl)
 have hN:=fun G=>Zg8 hb G
 by_cases h1:(t.terms.length:Int)<1∨(t.terms.length:Int) > 200
 ·have hv:ZbO t above=5:=by rw[ZbO,if_neg (by simp[hb]),if_pos h1]
  rw[hv]
  refine Zak hE cf131 (zac rfl) fun Q qr qn=>?_
  ((have hd:=tv;repeat' first|(first|apply Zad|apply Zac|apply Zab)<;>intro hd<;>try simp only[hd]|simp(disch:=first|assumption|omega|simp only[nx]<;>omega|fail)only[hd,qr,qn,Zds,↓YA,YY,sevalprocAttr,f1])<;>try revert hd;refine ttr ?_)
  (refine Zap.use (hN _) ?_;rintro _ _ ⟨rfl,k1,rfl⟩)
  ((have hd:=tv;repeat' first|(first|apply Zad|apply Zac|apply Zab)<;>intro hd<;>try simp only[hd]|simp(disch:=first|assumption|omega|simp only[nx]<;>omega|fail)only[hd,qr,qn,Zds,↓YA,YY,sevalprocAttr,f1,f2,zaa])<;>try revert hd;refine ttr ?_)
  all_goals first
   | (exfalso;simp_all;omega;done)
   | refine Zaz (by rfl)
 have hR:=fun G=>ZkS .no t.terms G (by omega)
 have e1:decide ((t.terms.length:Int)<1)=false:=by simp;omega
 have e2:decide ((t.terms.length:Int) > 200)=false:=by simp;omega
 by_cases h2:Zgt none t.terms≠0
 ·have hv:ZbO t above=Zgt none t.terms:=by rw[ZbO,if_neg (by simp[hb]),if_neg h1,if_pos h2]
  have e3:(Zgt none t.terms != 0)=true:=by simpa using h2
  rw[hv]
  refine Zak hE cf131 (zac rfl) fun Q qr qn=>?_
  ((have hd:=tv;repeat' first|(first|apply Zad|apply Zac|apply Zab)<;>intro hd<;>try simp only[hd]|simp(disch:=first|assumption|omega|simp only[nx]<;>omega|fail)only[hd,qr,qn,Zds,↓YA,YY,sevalprocAttr,f1])<;>try revert hd;refine ttr ?_)
  (refine Zap.use (hN _) ?_;rintro _ _ ⟨rfl,k1,rfl⟩)
  ((have hd:=tv;repeat' first|(first|apply Zad|apply Zac|apply Zab)<;>intro hd<;>try simp only[hd]|simp(disch:=first|assumption|omega|simp only[nx]<;>omega|fail)only[hd,qr,qn,Zds,↓YA,YY,sevalprocAttr,f1,f2,zaa,e1,e2])<;>try revert hd;refine ttr ?_)
  (refine Zap.use (hR _) ?_;rintro _ _ ⟨rfl,k2,rfl⟩)
  ((have hd:=tv;repeat' first|(first|apply Zad|apply Zac|apply Zab)<;>intro hd<;>try simp only[hd]|simp(disch:=first|assumption|omega|simp only[nx]<;>omega|fail)only[hd,qr,qn,Zds,↓YA,YY,sevalprocAttr,e3])<;>try revert hd;refine ttr ?_)
  refine Zaz (by rfl)
 have e3:(Zgt none t.terms != 0)=false:=by simpa using h2
 have hT:=fun G=>ZkI .no t.up t.terms.length above G hu
 have hv:ZbO t above=if ZdD t.up t.terms.length above=false then 14 else 0:=by rw[ZbO,if_neg (by simp[hb]),if_neg h1,if_neg h2]
 rw[hv]
 have hb2:=bfb (ZdD t.up t.terms.length above)
 rcases hb2 with hb2|hb2<;>rw[hb2]at hT ⊢
 all_goals
  refine Zak hE cf131 (zac rfl) fun Q qr qn=>?_
  ((have hd:=tv;repeat' first|(first|apply Zad|apply Zac|apply Zab)<;>intro hd<;>try simp only[hd]|simp(disch:=first|assumption|omega|simp only[nx]<;>omega|fail)only[hd,qr,qn,Zds,↓YA,YY,sevalprocAttr,f1])<;>try revert hd;refine ttr ?_)
  (refine Zap.use (hN _) ?_;rintro _ _ ⟨rfl,k1,rfl⟩)
  ((have hd:=tv;repeat' first|(first|apply Zad|apply Zac|apply Zab)<;>intro hd<;>try simp only[hd]|simp(disch:=first|assumption|omega|simp only[nx]<;>omega|fail)only[hd,qr,qn,Zds,↓YA,YY,sevalprocAttr,f1,f2,zaa,e1,e2])<;>try revert hd;refine ttr ?_)
  (refine Zap.use (hR _) ?_;rintro _ _ ⟨rfl,k2,rfl⟩)
  ((have hd:=tv;repeat' first|(first|apply Zad|apply Zac|apply Zab)<;>intro hd<;>try simp only[hd]|simp(disch:=first|assumption|omega|simp only[nx]<;>omega|fail)only[hd,qr,qn,Zds,↓YA,YY,sevalprocAttr,e3,f2,f3,zaa])<;>try revert hd;refine ttr ?_)
  (refine Zap.use (hT _) ?_;rintro _ _ ⟨rfl,k3,rfl⟩)
  ((have hd:=tv;repeat' first|(first|apply Zad|apply Zac|apply Zab)<;>intro hd<;>try simp only[hd]|simp(disch:=first|assumption|omega|simp only[nx]<;>omega|fail)only[hd,qr,qn,Zds,↓YA,YY,sevalprocAttr])<;>try revert hd;refine ttr ?_)
  refine Zaz (by rfl)
def ZbR:List Tr->Int
 | []=>0
 | u :: _=>(u.terms.length:Int)
theorem Za7 (d:Dm):(eDm d).length=2/\(eDm d)[0]?=some (eS d.name)/\(eDm d)[1]?=some (.sl .no (rT d.tiers))/\(eDm d).take 2=eDm d:=⟨rfl,rfl,rfl,rfl⟩
theorem Zdh {l:List Tr} {k:Nat} (h:k<l.length):(rT l)[k]?=some (eTr l[k]):=by simp[h]
theorem ZjQ {l:List Dm} {k:Nat} (h:k<l.length):(rD l)[k]?=some (eDm l[k]):=by simp[h]
theorem Zjn (d:Dm) (k:Nat) (H:Zaa) (hk:k<d.tiers.length) (hl:d.tiers.length<=1000000):Zay Tryz.prog 132 [.agg (eDm d),.i (k:Int)] H (Pure H (.i (ZbR (d.tiers.drop (k+1))))):=by
 obtain⟨f0,f1,f2,f3⟩:=Za7 d
 have hw:IntKind.i64.wrap ((k:Int)+1)=((k+1:Nat):Int):=by rw[show(k:Int)+1=((k+1:Nat):Int) by omega];exact Zaw (by omega) (by omega)
 refine Zak hE cf132 (zac rfl) fun Q qr qn=>?_
 by_cases h:k+1<d.tiers.length
 ·have d1:decide (((k+1:Nat):Int)<(d.tiers.length:Int))=true:=by simp;omega
  rw[zan h]at qr qn
  have hg:=Zdh h
  obtain⟨g0,g1,g2,g3,g4⟩:=Zba d.tiers[k+1]
  ((have hd:=tv;repeat' first|(first|apply Zad|apply Zac|apply Zab)<;>intro hd<;>try simp only[hd]|simp(disch:=first|assumption|omega|simp only[nx]<;>omega|fail)only[hd,qr,qn,ZmU,↓YA,YY,sevalprocAttr,f2,hw,d1,zaa,h,g0,g2])<;>try revert hd;refine ttr ?_)
  refine Zaz (by rfl)
 ·have d1:decide (((k+1:Nat):Int)<(d.tiers.length:Int))=false:=by simp;omega
  rw[zbB (by omega)]at qr qn
  ((have hd:=tv;repeat' first|(first|apply Zad|apply Zac|apply Zab)<;>intro hd<;>try simp only[hd]|simp(disch:=first|assumption|omega|simp only[nx]<;>omega|fail)only[hd,qr,qn,ZmU,↓YA,YY,sevalprocAttr,f2,hw,d1,zaa])<;>try revert hd;refine ttr ?_)
  refine Zaz (by rfl)
def Zmw (M:List (Tx×Int)) (seen:List Tx):Prop:=∀n,Zcz n M=if n∈seen then some 1 else none
theorem Zmw.nil:Zmw [] []:=fun n=>by simp[Zcz]
theorem Zmw.snoc {M:List (Tx×Int)} {seen:List Tx} (h:Zmw M seen) (n:Tx):Zmw (ZbU n 1 M) (seen++[n]):=fun m=>by
 rw[Zeg,h m]
 by_cases e:m=n
 ·subst e;simp
 ·rw[if_neg e]
  by_cases hm:m∈seen<;>simp[hm,e]
abbrev mpT (M:List (Tx×Int)):Zb3:=.map (.one .str) (Zgf kS AV.i M) false
def Zkb (seen:List Tx):List Tr->Int
 | []=>0
 | t :: r=>if ZbO t (ZbR r)≠0 then ZbO t (ZbR r) else if t.name∈seen then 11 else Zkb (seen++[t.name]) r
def Zdv (d:Dm):Int:=if ZbK d.name=false then 2 else if (d.tiers.length:Int)<1∨(d.tiers.length:Int) > 4 then 5 else Zkb [] d.tiers
def Zgr (t:Tr):Prop:=t.up.length<=1000000
theorem ZcR {α β:Type} {f:α->β} {l:List α} {k:Nat} (h:k<l.length):(l.take (k+1)).map f=(l.take k).map f++[f l[k]]:=by
 rw[zaq h,za9];rfl
set_option maxHeartbeats 2000000 in
theorem Zlf (d:Dm) (H:Zaa) (hs:∀t∈d.tiers,Zgr t):Zay Tryz.prog 88 [.agg (eDm d)] H (Pure H (.i (Zdv d))):=by
 obtain⟨f0,f1,f2,f3⟩:=Za7 d
 have hb:=bfb (ZbK d.name)
 rcases hb with hb|hb
 ·have hv:Zdv d=2:=by rw[Zdv,if_pos hb]
  have hN:=fun G=>Zjx hb G
  rw[hv]
  refine Zak hE cf88 (zac rfl) fun Q qr qn=>?_
  ((have hd:=tv;repeat' first|(first|apply Zad|apply Zac|apply Zab)<;>intro hd<;>try simp only[hd]|simp(disch:=first|assumption|omega|simp only[nx]<;>omega|fail)only[hd,qr,qn,ZdA,↓YA,YY,sevalprocAttr,f1])<;>try revert hd;refine ttr ?_)
  (refine Zap.use (hN _) ?_;rintro _ _ ⟨rfl,k1,rfl⟩)
  ((have hd:=tv;repeat' first|(first|apply Zad|apply Zac|apply Zab)<;>intro hd<;>try simp only[hd]|simp(disch:=first|assumption|omega|simp only[nx]<;>omega|fail)only[hd,qr,qn,ZdA,↓YA,YY,sevalprocAttr])<;>try revert hd;refine ttr ?_)
  refine Zaz (by rfl)
 have hN:=fun G=>Zg8 hb G
 by_cases h1:(d.tiers.length:Int)<1∨(d.tiers.length:Int) > 4
 ·have hv:Zdv d=5:=by rw[Zdv,if_neg (by simp[hb]),if_pos h1]
  rw[hv]
  refine Zak hE cf88 (zac rfl) fun Q qr qn=>?_
  ((have hd:=tv;repeat' first|(first|apply Zad|apply Zac|apply Zab)<;>intro hd<;>try simp only[hd]|simp(disch:=first|assumption|omega|simp only[nx]<;>omega|fail)only[hd,qr,qn,ZdA,↓YA,YY,sevalprocAttr,f1])<;>try revert hd;refine ttr ?_)
  (refine Zap.use (hN _) ?_;rintro _ _ ⟨rfl,k1,rfl⟩)
  ((have hd:=tv;repeat' first|(first|apply Zad|apply Zac|apply Zab)<;>intro hd<;>try simp only[hd]|simp(disch:=first|assumption|omega|simp only[nx]<;>omega|fail)only[hd,qr,qn,ZdA,↓YA,YY,sevalprocAttr,f1,f2,zaa])<;>try revert hd;refine ttr ?_)
  all_goals first
   | (exfalso;simp_all;omega;done)
   | refine Zaz (by rfl)
 have e1:decide ((d.tiers.length:Int)<1)=false:=by simp;omega
 have e2:decide ((d.tiers.length:Int) > 4)=false:=by simp;omega
 have hv:Zdv d=Zkb [] d.tiers:=by rw[Zdv,if_neg (by simp[hb]),if_neg h1]
 rw[hv]
 generalize hT:Zkb [] d.tiers=T
 refine Zak hE cf88 (zac rfl) fun Q qr qn=>?_
 ((have hd:=tv;repeat' first|(first|apply Zad|apply Zac|apply Zab)<;>intro hd<;>try simp only[hd]|simp(disch:=first|assumption|omega|simp only[nx]<;>omega|fail)only[hd,qr,qn,ZdA,↓YA,YY,sevalprocAttr,f1])<;>try revert hd;refine ttr ?_)
 (refine Zap.use (hN _) ?_;rintro _ _ ⟨rfl,k1,rfl⟩)
 ((have hd:=tv;repeat' first|(first|apply Zad|apply Zac|apply Zab)<;>intro hd<;>try simp only[hd]|simp(disch:=first|assumption|omega|simp only[nx]<;>omega|fail)only[hd,qr,qn,ZdA,↓YA,YY,sevalprocAttr,f1,f2,zaa,e1,e2])<;>try revert hd;refine ttr ?_)
 have g1:(((H.alloc (.cells (eDm d) 102)).bump k1).alloc (.map (.one .str) [] false)).get H.next=some (.cells (eDm d) 102):=by
  rw[Zaa.Zag (by simp only[nx];omega)];exact Zaa.Zae (H:=H)
 have g2:(((H.alloc (.cells (eDm d) 102)).bump k1).alloc (.map (.one .str) [] false)).get (H.next+1+k1)=some (mpT []):=Zaa.Zae (H:=(H.alloc _).bump k1)
 have hx0:Zaa.Ext H (((H.alloc (.cells (eDm d) 102)).bump k1).alloc (.map (.one .str) [] false)):=by exact AXT
 have hne:((H.alloc (.cells (eDm d) 102)).bump k1).next=H.next+1+k1:=rfl
 generalize ((H.alloc (.cells (eDm d) 102)).bump k1).alloc (.map (.one .str) [] false)=G0 at *
 have l1:=Zaa.lt g1
 have l2:=Zaa.lt g2
 refine Zbs [1,4,26,27] (σ:=List (Tx×Int)) (fun(k:Nat) s=>Zmw s ((d.tiers.take k).map (·.name))/\T=Zkb ((d.tiers.take k).map (·.name)) (d.tiers.drop k)) (fun k s=>[]) (fun k s=>[(H.next+1+k1,mpT s)]) [] (GStep.refl _ _) (by simp only[ZaA,Zav,Fr.put,Fr.get,↓reduceIte,Nat.reduceEqDiff];rfl) (by intro k s;rfl) (by intro k s;rfl) (by rfl) (by unfold maxLen;omega) ?_ (by simp only[ZaF]) ?_ ?_ ?_
 ·exact⟨Zmw.nil,hT.symm⟩
 ·rw[ZaP];exact⟨g2,by simp[Zc5]⟩
 ·(rintro k M G hk ⟨hM,ht⟩ hG hn;try simp only[nx]at hn)
  have ho:=hG.o (_,_) (zas.2 rfl)
  have hc:=(hG.g _ l1 (by simp;omega)).trans g1
  have lc:=Zaa.lt hc
  have lo:=Zaa.lt ho
  rw[zan hk,Zkb]at ht
  have hA:=fun G=>Zjn d k G hk (by omega)
  have hC:=fun G=>ZkD d.tiers[k] (ZbR (d.tiers.drop (k+1))) G (hs _ (zam hk))
  have htk:=Zdh hk
  obtain⟨q0,q1,q2,q3,q4⟩:=Zba d.tiers[k]
  have hsn:=ZcR (f:=Tr.name) hk
  by_cases c1:ZbO d.tiers[k] (ZbR (d.tiers.drop (k+1)))≠0
  ·have e3:(ZbO d.tiers[k] (ZbR (d.tiers.drop (k+1))) != 0)=true:=by simpa using c1
   rw[if_pos c1]at ht
   generalize ZbO d.tiers[k] (ZbR (d.tiers.drop (k+1)))=E at *
   generalize ZbR (d.tiers.drop (k+1))=A at *
   ((have hd:=tv;repeat' first|(first|apply Zad|apply Zac|apply Zab)<;>intro hd<;>try simp only[hd]|simp(disch:=first|assumption|omega|simp only[nx]<;>omega|fail)only[hd,qr,qn,ZdA,↓YA,YY,sevalprocAttr,hk,q0,q4,hc,f0,f3,zaa])<;>try revert hd;refine ttr ?_)
   (refine Zap.use (hA _) ?_;rintro _ _ ⟨rfl,k2,rfl⟩)
   ((have hd:=tv;repeat' first|(first|apply Zad|apply Zac|apply Zab)<;>intro hd<;>try simp only[hd]|simp(disch:=first|assumption|omega|simp only[nx]<;>omega|fail)only[hd,qr,qn,ZdA,↓YA,YY,sevalprocAttr,hk,q0,q4,hc,f0,f3,zaa])<;>try revert hd;refine ttr ?_)
   (refine Zap.use (hC _) ?_;rintro _ _ ⟨rfl,k3,rfl⟩)
   ((have hd:=tv;repeat' first|(first|apply Zad|apply Zac|apply Zab)<;>intro hd<;>try simp only[hd]|simp(disch:=first|assumption|omega|simp only[nx]<;>omega|fail)only[hd,qr,qn,ZdA,↓YA,YY,sevalprocAttr,e3])<;>try revert hd;refine ttr ?_)
   refine Zaz ht.symm ?_
   exact(Zaa.Ext.alloc (hG.ZdB hx0 (by simp;omega))).bump.bump
  ·have c1':ZbO d.tiers[k] (ZbR (d.tiers.drop (k+1)))=0:=by simpa using c1
   have e3:(ZbO d.tiers[k] (ZbR (d.tiers.drop (k+1))) != 0)=false:=by simp[c1']
   rw[if_neg c1]at ht
   generalize ZbO d.tiers[k] (ZbR (d.tiers.drop (k+1)))=E at *
   generalize ZbR (d.tiers.drop (k+1))=A at *
   have hof:=kS_of d.tiers[k].name
   have hgn:=hM d.tiers[k].name
   have hfn:=ZbV (vf:=AV.i) Zev d.tiers[k].name M
   by_cases c2:d.tiers[k].name∈(d.tiers.take k).map (·.name)
   ·rw[if_pos c2]at ht hgn
    rw[hgn,Option.map_some]at hfn
    have hset:=ZcH (vf:=AV.i) Zev d.tiers[k].name 2 M
    have hfn2:=ZbV (vf:=AV.i) Zev d.tiers[k].name (ZbU d.tiers[k].name 2 M)
    rw[ZdP,Option.map_some]at hfn2
    have e4:decide ((2:Int) > 1)=true:=by decide
    have hw:IntKind.i64.wrap (1+1)=2:=by decide
    ((have hd:=tv;repeat' first|(first|apply Zad|apply Zac|apply Zab)<;>intro hd<;>try simp only[hd]|simp(disch:=first|assumption|omega|simp only[nx]<;>omega|fail)only[hd,qr,qn,ZdA,↓YA,YY,sevalprocAttr,hk,q0,q4,hc,f0,f3,zaa])<;>try revert hd;refine ttr ?_)
    (refine Zap.use (hA _) ?_;rintro _ _ ⟨rfl,k2,rfl⟩)
    ((have hd:=tv;repeat' first|(first|apply Zad|apply Zac|apply Zab)<;>intro hd<;>try simp only[hd]|simp(disch:=first|assumption|omega|simp only[nx]<;>omega|fail)only[hd,qr,qn,ZdA,↓YA,YY,sevalprocAttr,hk,q0,q4,hc,f0,f3,zaa])<;>try revert hd;refine ttr ?_)
    (refine Zap.use (hC _) ?_;rintro _ _ ⟨rfl,k3,rfl⟩)
    ((have hd:=tv;repeat' first|(first|apply Zad|apply Zac|apply Zab)<;>intro hd<;>try simp only[hd]|simp(disch:=first|assumption|omega|simp only[nx]<;>omega|fail)only[hd,qr,qn,ZdA,↓YA,YY,sevalprocAttr,e3,q1,ho,hof,hfn,hset,hfn2,hw,e4])<;>try revert hd;refine ttr ?_)
    refine Zaz ht.symm ?_
    exact Zaa.Ext.set ((Zaa.Ext.alloc (hG.ZdB hx0 (by simp;omega))).bump.bump) (by omega)
   ·rw[if_neg c2]at ht hgn
    rw[hgn,Option.map_none]at hfn
    have hset:=ZcH (vf:=AV.i) Zev d.tiers[k].name 1 M
    have hfn2:=ZbV (vf:=AV.i) Zev d.tiers[k].name (ZbU d.tiers[k].name 1 M)
    rw[ZdP,Option.map_some]at hfn2
    have e4:decide ((1:Int) > 1)=false:=by decide
    have hw:IntKind.i64.wrap (0+1)=1:=by decide
    ((have hd:=tv;repeat' first|(first|apply Zad|apply Zac|apply Zab)<;>intro hd<;>try simp only[hd]|simp(disch:=first|assumption|omega|simp only[nx]<;>omega|fail)only[hd,qr,qn,ZdA,↓YA,YY,sevalprocAttr,hk,q0,q4,hc,f0,f3,zaa])<;>try revert hd;refine ttr ?_)
    (refine Zap.use (hA _) ?_;rintro _ _ ⟨rfl,k2,rfl⟩)
    ((have hd:=tv;repeat' first|(first|apply Zad|apply Zac|apply Zab)<;>intro hd<;>try simp only[hd]|simp(disch:=first|assumption|omega|simp only[nx]<;>omega|fail)only[hd,qr,qn,ZdA,↓YA,YY,sevalprocAttr,hk,q0,q4,hc,f0,f3,zaa])<;>try revert hd;refine ttr ?_)
    (refine Zap.use (hC _) ?_;rintro _ _ ⟨rfl,k3,rfl⟩)
    ((have hd:=tv;repeat' first|(first|apply Zad|apply Zac|apply Zab)<;>intro hd<;>try simp only[hd]|simp(disch:=first|assumption|omega|simp only[nx]<;>omega|fail)only[hd,qr,qn,ZdA,↓YA,YY,sevalprocAttr,e3,q1,ho,hof,hfn,hset,hfn2,hw,e4])<;>try revert hd;refine ttr ?_)
    refine⟨ZbU d.tiers[k].name 1 M,⟨by rw[hsn];exact hM.snoc _,by rw[hsn];exact ht⟩,?_⟩
    exact hG.alloc.bump.bump.put
 ·(rintro M G ⟨hM,ht⟩ hG hn;try simp only[nx]at hn)
  rw[zaT]at ht
  ((have hd:=tv;repeat' first|(first|apply Zad|apply Zac|apply Zab)<;>intro hd<;>try simp only[hd]|simp(disch:=first|assumption|omega|simp only[nx]<;>omega|fail)only[hd,qr,qn,ZdA,↓YA,YY,sevalprocAttr])<;>try revert hd;refine ttr ?_)
  exact Zaz (by rw[ht];rfl) (hG.ZdB hx0 (by simp;omega))
def ZgL (mid:Nat) (b:Bool) (M:List (Tx×Int)) (H:Zaa) (r:AV) (H':Zaa):Prop:=r=.b b/\HX [(mid,mpT M)] H H'
theorem HX.one {id:Nat} {o:Zb3} {H:Zaa} (h:H.get id=some o):HX [(id,o)] H H:=HX.ini (by rw[ZaP];exact⟨h,by simp[Zc5]⟩)
theorem HX.o1 {a:Nat} {x:Zb3} {O:List (Nat×Zb3)} {H G:Zaa} (h:HX ((a,x) :: O) H G):G.get a=some x:=h.o (a,x) (by simp)
theorem HX.o2 {a:Nat} {x:Zb3} {p:Nat×Zb3} {O:List (Nat×Zb3)} {H G:Zaa} (h:HX (p :: (a,x) :: O) H G):G.get a=some x:=h.o (a,x) (by simp)
theorem HX.put2 {a b:Nat} {x x' y y':Zb3} {H G:Zaa} (h:HX [(a,x),(b,y)] H G) (hne:a≠b):HX [(a,x'),(b,y')] H ((G.set b y').set a x'):=by
 have ha:=Zaa.lt h.o1
 have hb:=Zaa.lt h.o2
 refine⟨h.n,?_,fun i hi hn=>?_⟩
 ·rw[ZaP,ZaP]
  exact⟨Zaa.Zal ha,(Zaa.Zah (zbH hne)).trans (Zaa.Zal hb),by simp[Zc5]⟩
 ·have hn':a≠i/\b≠i:=by simpa using hn
  rw[Zaa.Zah (zbH hn'.1),Zaa.Zah (zbH hn'.2)]
  exact h.g i hi (by simpa using hn)
theorem HX.thn {a:Nat} {x x':Zb3} {H G G1:Zaa} (h:HX [(a,x)] H G) (k:HX [(a,x')] G G1):HX [(a,x')] H G1:=by
 refine⟨zaQ h.n k.n,?_,fun i hi hn=>(k.g i (zbk hi h.n) (by simpa using hn)).trans (h.g i hi (by simpa using hn))⟩
 rw[ZaP]
 exact⟨k.o (a,x') (by simp),by simp[Zc5]⟩
theorem ZjJ {mid:Nat} {M:List (Tx×Int)} {s:Tx} {H:Zaa} (hm:H.get mid=some (mpT M)) (hg:Zcz s M=none):Zay Tryz.prog 89 [.mp mid,eS s] H (ZgL mid true (ZbU s 1 M) H):=by
 have lm:=Zaa.lt hm
 have hof:=kS_of s
 have hfn:=ZbV (vf:=AV.i) Zev s M
 rw[hg,Option.map_none]at hfn
 have hset:=ZcH (vf:=AV.i) Zev s 1 M
 have hfn2:=ZbV (vf:=AV.i) Zev s (ZbU s 1 M)
 rw[ZdP,Option.map_some]at hfn2
 have hw:IntKind.i64.wrap (0+1)=1:=by decide
 refine Zak hE cf89 (zac rfl) fun Q qr qn=>?_
 ((have hd:=tv;repeat' first|(first|apply Zad|apply Zac|apply Zab)<;>intro hd<;>try simp only[hd]|simp(disch:=first|assumption|omega|simp only[nx]<;>omega|fail)only[hd,qr,qn,c89_0,↓YA,YY,sevalprocAttr,hm,hof,hfn,hset,hfn2,hw])<;>try revert hd;refine ttr ?_)
 exact Zaq ⟨rfl,(HX.one hm).put⟩
theorem ZhX {mid:Nat} {M:List (Tx×Int)} {s:Tx} {H:Zaa} (hm:H.get mid=some (mpT M)) (hg:Zcz s M=some 1):Zay Tryz.prog 89 [.mp mid,eS s] H (ZgL mid false (ZbU s 2 M) H):=by
 have lm:=Zaa.lt hm
 have hof:=kS_of s
 have hfn:=ZbV (vf:=AV.i) Zev s M
 rw[hg,Option.map_some]at hfn
 have hset:=ZcH (vf:=AV.i) Zev s 2 M
 have hfn2:=ZbV (vf:=AV.i) Zev s (ZbU s 2 M)
 rw[ZdP,Option.map_some]at hfn2
 have hw:IntKind.i64.wrap (1+1)=2:=by decide
 have e1:((2:Int) == 1)=false:=by decide
 refine Zak hE cf89 (zac rfl) fun Q qr qn=>?_
 ((have hd:=tv;repeat' first|(first|apply Zad|apply Zac|apply Zab)<;>intro hd<;>try simp only[hd]|simp(disch:=first|assumption|omega|simp only[nx]<;>omega|fail)only[hd,qr,qn,c89_0,↓YA,YY,sevalprocAttr,hm,hof,hfn,hset,hfn2,hw,e1])<;>try revert hd;refine ttr ?_)
 exact Zaq ⟨rfl,(HX.one hm).put⟩
def Zgh (seen:List Tx):List Tx->Int
 | []=>0
 | s :: r=>if ZbK s=false then 2 else if s∈seen then 11 else Zgh (seen++[s]) r
def Zd8 (l:List Tx):Int:=if (l.length:Int)<1∨(l.length:Int) > 3 then 5 else Zgh [] l
theorem ZlO {α:Type} {l:List α} {k:Nat} (h:k<l.length):l.take (k+1)=l.take k++[l[k]]:=zaq h
set_option maxHeartbeats 2000000 in
theorem Zk2 (t:Tok) (l:List Tx) (H:Zaa):Zay Tryz.prog 90 [.sl t (rS l)] H (Pure H (.i (Zd8 l))):=by
 by_cases h1:(l.length:Int)<1∨(l.length:Int) > 3
 ·have hv:Zd8 l=5:=by rw[Zd8,if_pos h1]
  rw[hv]
  refine Zak hE cf90 (zac rfl) fun Q qr qn=>?_
  ((have hd:=tv;repeat' first|(first|apply Zad|apply Zac|apply Zab)<;>intro hd<;>try simp only[hd]|simp(disch:=first|assumption|omega|simp only[nx]<;>omega|fail)only[hd,qr,qn,Ze1,↓YA,YY,sevalprocAttr,zaa])<;>try revert hd;refine ttr ?_)
  all_goals first
   | (exfalso;simp_all;omega;done)
   | refine Zaz (by rfl)
 have e1:decide ((l.length:Int)<1)=false:=by simp;omega
 have e2:decide ((l.length:Int) > 3)=false:=by simp;omega
 have hv:Zd8 l=Zgh [] l:=by rw[Zd8,if_neg h1]
 rw[hv]
 generalize hT:Zgh [] l=T
 refine Zak hE cf90 (zac rfl) fun Q qr qn=>?_
 ((have hd:=tv;repeat' first|(first|apply Zad|apply Zac|apply Zab)<;>intro hd<;>try simp only[hd]|simp(disch:=first|assumption|omega|simp only[nx]<;>omega|fail)only[hd,qr,qn,Ze1,↓YA,YY,sevalprocAttr,zaa,e1,e2])<;>try revert hd;refine ttr ?_)
 refine Zbs [3,16,17] (σ:=List (Tx×Int)) (fun(k:Nat) s=>Zmw s (l.take k)/\T=Zgh (l.take k) (l.drop k)) (fun k s=>[]) (fun k s=>[(H.next,mpT s)]) [] (GStep.refl _ _) (by simp only[ZaA,Zav,Fr.put,Fr.get,↓reduceIte,Nat.reduceEqDiff];rfl) (by intro k s;rfl) (by intro k s;rfl) (by rfl) (by unfold maxLen;omega) ?_ (by simp only[ZaF]) ?_ ?_ ?_
 ·exact⟨Zmw.nil,hT.symm⟩
 ·rw[ZaP];exact⟨Zaa.Zae (H:=H),by simp[Zc5]⟩
 ·(rintro k M G hk ⟨hM,ht⟩ hG hn;try simp only[nx]at hn)
  have ho:=hG.o (_,_) (zas.2 rfl)
  rw[zan hk,Zgh]at ht
  have hsn:=ZlO hk
  have hgn:=hM l[k]
  have hb:=bfb (ZbK l[k])
  rcases hb with hb|hb
  ·have hN:=fun G=>Zjx hb G
   rw[if_pos hb]at ht
   ((have hd:=tv;repeat' first|(first|apply Zad|apply Zac|apply Zab)<;>intro hd<;>try simp only[hd]|simp(disch:=first|assumption|omega|simp only[nx]<;>omega|fail)only[hd,qr,qn,Ze1,↓YA,YY,sevalprocAttr,hk,zaa])<;>try revert hd;refine ttr ?_)
   (refine Zap.use (hN _) ?_;rintro _ _ ⟨rfl,k1,rfl⟩)
   ((have hd:=tv;repeat' first|(first|apply Zad|apply Zac|apply Zab)<;>intro hd<;>try simp only[hd]|simp(disch:=first|assumption|omega|simp only[nx]<;>omega|fail)only[hd,qr,qn,Ze1,↓YA,YY,sevalprocAttr])<;>try revert hd;refine ttr ?_)
   exact Zaz ht.symm ((hG.ZdB (Zaa.Ext.refl H).alloc (by simp)).bump)
  ·have hN:=fun G=>Zg8 hb G
   rw[if_neg (by simp[hb])]at ht
   by_cases c2:l[k]∈l.take k
   ·rw[if_pos c2]at ht hgn
    have hF:∀G,G.get H.next=some (mpT M)->Zay Tryz.prog 89 [.mp H.next,eS l[k]] G (ZgL H.next false (ZbU l[k] 2 M) G):=fun G h=>ZhX h hgn
    ((have hd:=tv;repeat' first|(first|apply Zad|apply Zac|apply Zab)<;>intro hd<;>try simp only[hd]|simp(disch:=first|assumption|omega|simp only[nx]<;>omega|fail)only[hd,qr,qn,Ze1,↓YA,YY,sevalprocAttr,hk,zaa])<;>try revert hd;refine ttr ?_)
    (refine Zap.use (hN _) ?_;rintro _ _ ⟨rfl,k1,rfl⟩)
    ((have hd:=tv;repeat' first|(first|apply Zad|apply Zac|apply Zab)<;>intro hd<;>try simp only[hd]|simp(disch:=first|assumption|omega|simp only[nx]<;>omega|fail)only[hd,qr,qn,Ze1,↓YA,YY,sevalprocAttr,hk,zaa])<;>try revert hd;refine ttr ?_)
    refine Zap.use (hF _ ho) ?_
    rintro _ G2 ⟨rfl,hx2⟩
    ((have hd:=tv;repeat' first|(first|apply Zad|apply Zac|apply Zab)<;>intro hd<;>try simp only[hd]|simp(disch:=first|assumption|omega|simp only[nx]<;>omega|fail)only[hd,qr,qn,Ze1,↓YA,YY,sevalprocAttr])<;>try revert hd;refine ttr ?_)
    exact Zaz ht.symm (((hG.bump (k:=k1)).thn hx2).ZdB (Zaa.Ext.refl H).alloc (by simp))
   ·rw[if_neg c2]at ht hgn
    have hF:∀G,G.get H.next=some (mpT M)->Zay Tryz.prog 89 [.mp H.next,eS l[k]] G (ZgL H.next true (ZbU l[k] 1 M) G):=fun G h=>ZjJ h hgn
    ((have hd:=tv;repeat' first|(first|apply Zad|apply Zac|apply Zab)<;>intro hd<;>try simp only[hd]|simp(disch:=first|assumption|omega|simp only[nx]<;>omega|fail)only[hd,qr,qn,Ze1,↓YA,YY,sevalprocAttr,hk,zaa])<;>try revert hd;refine ttr ?_)
    (refine Zap.use (hN _) ?_;rintro _ _ ⟨rfl,k1,rfl⟩)
    ((have hd:=tv;repeat' first|(first|apply Zad|apply Zac|apply Zab)<;>intro hd<;>try simp only[hd]|simp(disch:=first|assumption|omega|simp only[nx]<;>omega|fail)only[hd,qr,qn,Ze1,↓YA,YY,sevalprocAttr,hk,zaa])<;>try revert hd;refine ttr ?_)
    refine Zap.use (hF _ ho) ?_
    rintro _ G2 ⟨rfl,hx2⟩
    ((have hd:=tv;repeat' first|(first|apply Zad|apply Zac|apply Zab)<;>intro hd<;>try simp only[hd]|simp(disch:=first|assumption|omega|simp only[nx]<;>omega|fail)only[hd,qr,qn,Ze1,↓YA,YY,sevalprocAttr])<;>try revert hd;refine ttr ?_)
    exact⟨ZbU l[k] 1 M,⟨by rw[hsn];exact hM.snoc _,by rw[hsn];exact ht⟩,(hG.bump (k:=k1)).thn hx2⟩
 ·(rintro M G ⟨hM,ht⟩ hG hn;try simp only[nx]at hn)
  rw[zaT]at ht
  ((have hd:=tv;repeat' first|(first|apply Zad|apply Zac|apply Zab)<;>intro hd<;>try simp only[hd]|simp(disch:=first|assumption|omega|simp only[nx]<;>omega|fail)only[hd,qr,qn,Ze1,↓YA,YY,sevalprocAttr])<;>try revert hd;refine ttr ?_)
  exact Zaz (by rw[ht];rfl) (hG.ZdB (Zaa.Ext.refl H).alloc (by simp))
def Zd1 (seen:List Tx):List Dm->Int
 | []=>0
 | d :: r=>if Zdv d≠0 then Zdv d else if d.name∈seen then 11 else Zd1 (seen++[d.name]) r
def scE (s:Sc):Int:=if (s.dims.length:Int)<1∨(s.dims.length:Int) > 16 then 5 else if Zd1 [] s.dims≠0 then Zd1 [] s.dims else Zd8 s.meas
theorem ZbB (s:Sc):(eSc s).length=2/\(eSc s)[0]?=some (.sl .no (rD s.dims))/\(eSc s)[1]?=some (.sl .no (rS s.meas))/\(eSc s).take 2=eSc s:=⟨rfl,rfl,rfl,rfl⟩
def Zh1 (s:Sc):Prop:=∀d∈s.dims,∀t∈d.tiers,Zgr t
set_option maxHeartbeats 2000000 in
theorem Zc9 (S:Sc) (H:Zaa) (hs:Zh1 S):Zay Tryz.prog 48 [.agg (eSc S)] H (Pure H (.i (scE S))):=by
 obtain⟨f0,f1,f2,f3⟩:=ZbB S
 by_cases h1:(S.dims.length:Int)<1∨(S.dims.length:Int) > 16
 ·have hv:scE S=5:=by rw[scE,if_pos h1]
  rw[hv]
  refine Zak hE cf48 (zac rfl) fun Q qr qn=>?_
  ((have hd:=tv;repeat' first|(first|apply Zad|apply Zac|apply Zab)<;>intro hd<;>try simp only[hd]|simp(disch:=first|assumption|omega|simp only[nx]<;>omega|fail)only[hd,qr,qn,ZeF,↓YA,YY,sevalprocAttr,f1,zaa])<;>try revert hd;refine ttr ?_)
  all_goals first
   | (exfalso;simp_all;omega;done)
   | refine Zaz (by rfl)
 have e1:decide ((S.dims.length:Int)<1)=false:=by simp;omega
 have e2:decide ((S.dims.length:Int) > 16)=false:=by simp;omega
 have hv:scE S=if Zd1 [] S.dims≠0 then Zd1 [] S.dims else Zd8 S.meas:=by rw[scE,if_neg h1]
 rw[hv]
 generalize hT:Zd1 [] S.dims=T
 refine Zak hE cf48 (zac rfl) fun Q qr qn=>?_
 ((have hd:=tv;repeat' first|(first|apply Zad|apply Zac|apply Zab)<;>intro hd<;>try simp only[hd]|simp(disch:=first|assumption|omega|simp only[nx]<;>omega|fail)only[hd,qr,qn,ZeF,↓YA,YY,sevalprocAttr,f1,f2,zaa,e1,e2])<;>try revert hd;refine ttr ?_)
 have g1:((H.alloc (.cells (eSc S) 25)).alloc (.map (.one .str) [] false)).get H.next=some (.cells (eSc S) 25):=by
  rw[Zaa.Zag (by simp only[nx];omega)];exact Zaa.Zae (H:=H)
 have g2:((H.alloc (.cells (eSc S) 25)).alloc (.map (.one .str) [] false)).get (H.next+1)=some (mpT []):=Zaa.Zae (H:=H.alloc _)
 have hx0:Zaa.Ext H ((H.alloc (.cells (eSc S) 25)).alloc (.map (.one .str) [] false)):=by exact AXT
 have hne:((H.alloc (.cells (eSc S) 25)).alloc (.map (.one .str) [] false)).next=H.next+2:=rfl
 generalize (H.alloc (.cells (eSc S) 25)).alloc (.map (.one .str) [] false)=G0 at *
 have l1:=Zaa.lt g1
 have l2:=Zaa.lt g2
 refine Zbs [1,3,19,20] (σ:=List (Tx×Int)) (fun(k:Nat) s=>Zmw s ((S.dims.take k).map (·.name))/\T=Zd1 ((S.dims.take k).map (·.name)) (S.dims.drop k)) (fun k s=>[]) (fun k s=>[(H.next+1,mpT s)]) [] (GStep.refl _ _) (by simp only[ZaA,Zav,Fr.put,Fr.get,↓reduceIte,Nat.reduceEqDiff];rfl) (by intro k s;rfl) (by intro k s;rfl) (by rfl) (by unfold maxLen;omega) ?_ (by simp only[ZaF]) ?_ ?_ ?_
 ·exact⟨Zmw.nil,hT.symm⟩
 ·rw[ZaP];exact⟨g2,by simp[Zc5]⟩
 ·(rintro k M G hk ⟨hM,ht⟩ hG hn;try simp only[nx]at hn)
  have ho:=hG.o (_,_) (zas.2 rfl)
  have hc:=(hG.g _ l1 (by simp)).trans g1
  have lc:=Zaa.lt hc
  have lo:=Zaa.lt ho
  rw[zan hk,Zd1]at ht
  have hC:=fun G=>Zlf S.dims[k] G (hs _ (zam hk))
  obtain⟨q0,q1,q2,q3⟩:=Za7 S.dims[k]
  have hsn:=ZcR (f:=Dm.name) hk
  have hgn:=hM S.dims[k].name
  by_cases c1:Zdv S.dims[k]≠0
  ·have e3:(Zdv S.dims[k] != 0)=true:=by simpa using c1
   rw[if_pos c1]at ht
   generalize Zdv S.dims[k]=E at *
   rw[ht,if_pos c1]at qr qn
   ((have hd:=tv;repeat' first|(first|apply Zad|apply Zac|apply Zab)<;>intro hd<;>try simp only[hd]|simp(disch:=first|assumption|omega|simp only[nx]<;>omega|fail)only[hd,qr,qn,ZeF,↓YA,YY,sevalprocAttr,hk,q0,q3,zaa])<;>try revert hd;refine ttr ?_)
   (refine Zap.use (hC _) ?_;rintro _ _ ⟨rfl,k3,rfl⟩)
   ((have hd:=tv;repeat' first|(first|apply Zad|apply Zac|apply Zab)<;>intro hd<;>try simp only[hd]|simp(disch:=first|assumption|omega|simp only[nx]<;>omega|fail)only[hd,qr,qn,ZeF,↓YA,YY,sevalprocAttr,e3])<;>try revert hd;refine ttr ?_)
   refine Zaz rfl ?_
   exact(Zaa.Ext.alloc (hG.ZdB hx0 (by simp))).bump
  ·have e3:(Zdv S.dims[k] != 0)=false:=by simpa using c1
   rw[if_neg c1]at ht
   generalize Zdv S.dims[k]=E at *
   by_cases c2:S.dims[k].name∈(S.dims.take k).map (·.name)
   ·rw[if_pos c2]at ht hgn
    have hF:∀G,G.get (H.next+1)=some (mpT M)->Zay Tryz.prog 89 [.mp (H.next+1),eS S.dims[k].name] G (ZgL (H.next+1) false (ZbU S.dims[k].name 2 M) G):=fun G h=>ZhX h hgn
    ((have hd:=tv;repeat' first|(first|apply Zad|apply Zac|apply Zab)<;>intro hd<;>try simp only[hd]|simp(disch:=first|assumption|omega|simp only[nx]<;>omega|fail)only[hd,qr,qn,ZeF,↓YA,YY,sevalprocAttr,hk,q0,q3,zaa])<;>try revert hd;refine ttr ?_)
    (refine Zap.use (hC _) ?_;rintro _ _ ⟨rfl,k3,rfl⟩)
    ((have hd:=tv;repeat' first|(first|apply Zad|apply Zac|apply Zab)<;>intro hd<;>try simp only[hd]|simp(disch:=first|assumption|omega|simp only[nx]<;>omega|fail)only[hd,qr,qn,ZeF,↓YA,YY,sevalprocAttr,e3,q1,zaa])<;>try revert hd;refine ttr ?_)
    refine Zap.use (hF _ (by simp only[Zaa.ZaB];rw[Zaa.Zag (by omega)];exact ho)) ?_
    rintro _ G2 ⟨rfl,hx2⟩
    ((have hd:=tv;repeat' first|(first|apply Zad|apply Zac|apply Zab)<;>intro hd<;>try simp only[hd]|simp(disch:=first|assumption|omega|simp only[nx]<;>omega|fail)only[hd,qr,qn,ZeF,↓YA,YY,sevalprocAttr])<;>try revert hd;refine ttr ?_)
    refine Zaz (by rw[ht];rfl) ?_
    exact((hG.alloc.bump (k:=k3)).thn hx2).ZdB hx0 (by simp)
   ·rw[if_neg c2]at ht hgn
    have hF:∀G,G.get (H.next+1)=some (mpT M)->Zay Tryz.prog 89 [.mp (H.next+1),eS S.dims[k].name] G (ZgL (H.next+1) true (ZbU S.dims[k].name 1 M) G):=fun G h=>ZjJ h hgn
    ((have hd:=tv;repeat' first|(first|apply Zad|apply Zac|apply Zab)<;>intro hd<;>try simp only[hd]|simp(disch:=first|assumption|omega|simp only[nx]<;>omega|fail)only[hd,qr,qn,ZeF,↓YA,YY,sevalprocAttr,hk,q0,q3,zaa])<;>try revert hd;refine ttr ?_)
    (refine Zap.use (hC _) ?_;rintro _ _ ⟨rfl,k3,rfl⟩)
    ((have hd:=tv;repeat' first|(first|apply Zad|apply Zac|apply Zab)<;>intro hd<;>try simp only[hd]|simp(disch:=first|assumption|omega|simp only[nx]<;>omega|fail)only[hd,qr,qn,ZeF,↓YA,YY,sevalprocAttr,e3,q1,zaa])<;>try revert hd;refine ttr ?_)
    refine Zap.use (hF _ (by simp only[Zaa.ZaB];rw[Zaa.Zag (by omega)];exact ho)) ?_
    rintro _ G2 ⟨rfl,hx2⟩
    ((have hd:=tv;repeat' first|(first|apply Zad|apply Zac|apply Zab)<;>intro hd<;>try simp only[hd]|simp(disch:=first|assumption|omega|simp only[nx]<;>omega|fail)only[hd,qr,qn,ZeF,↓YA,YY,sevalprocAttr])<;>try revert hd;refine ttr ?_)
    exact⟨ZbU S.dims[k].name 1 M,⟨by rw[hsn];exact hM.snoc _,by rw[hsn];exact ht⟩,(hG.alloc.bump (k:=k3)).thn hx2⟩
 ·(rintro M G ⟨hM,ht⟩ hG hn;try simp only[nx]at hn)
  rw[zaT]at ht
  have hc:=(hG.g _ l1 (by simp)).trans g1
  have h0:T=0:=by rw[ht];rfl
  have hMs:=fun G=>Zk2 .no S.meas G
  rw[h0]at qr qn
  ((have hd:=tv;repeat' first|(first|apply Zad|apply Zac|apply Zab)<;>intro hd<;>try simp only[hd]|simp(disch:=first|assumption|omega|simp only[nx]<;>omega|fail)only[hd,qr,qn,ZeF,↓YA,YY,sevalprocAttr,hc,f2,zaa])<;>try revert hd;refine ttr ?_)
  (refine Zap.use (hMs _) ?_;rintro _ _ ⟨rfl,k3,rfl⟩)
  ((have hd:=tv;repeat' first|(first|apply Zad|apply Zac|apply Zab)<;>intro hd<;>try simp only[hd]|simp(disch:=first|assumption|omega|simp only[nx]<;>omega|fail)only[hd,qr,qn,ZeF,↓YA,YY,sevalprocAttr])<;>try revert hd;refine ttr ?_)
  exact Zaz (by simp) ((hG.ZdB hx0 (by simp)).bump)
def szT (t:Tr):Int:=(t.terms.length:Int)
theorem ZlN {l:List Int} {n:Int}:rI l++[[.i n]]=rI (l++[n]):=by simp
set_option maxHeartbeats 1000000 in
theorem Zi2 (d:Dm) (H:Zaa) (hl:d.tiers.length<=1000000):Zay Tryz.prog 91 [.agg (eDm d)] H (Pure H (.sl .no (rI (d.tiers.map szT)))):=by
 obtain⟨f0,f1,f2,f3⟩:=Za7 d
 refine Zak hE cf91 (zac rfl) fun Q qr qn=>?_
 ((have hd:=tv;repeat' first|(first|apply Zad|apply Zac|apply Zab)<;>intro hd<;>try simp only[hd]|simp(disch:=first|assumption|omega|simp only[nx]<;>omega|fail)only[hd,qr,qn,c91_0,↓YA,YY,sevalprocAttr,f2,zaa])<;>try revert hd;refine ttr ?_)
 have hx0:Zaa.Ext H (H.alloc (.cells (eDm d) 102)):=by exact AXT
 have hn0:(H.alloc (.cells (eDm d) 102)).next=H.next+1:=rfl
 generalize H.alloc (.cells (eDm d) 102)=G0 at *
 refine Zbs [7,8] (σ:=Unit) (fun(k:Nat) s=>True) (fun k s=>[(3,.sl (.own G0.next) (rI ((d.tiers.take k).map szT)))]) (fun k s=>[(G0.next,.tok k 3 1)]) () (GStep.tok 3 3 1 rfl) (by simp only[ZaA,Zav,Fr.put,Fr.get,↓reduceIte,Nat.reduceEqDiff];rfl) (by intro k s;rfl) (by intro k s;rfl) (by rfl) (by unfold maxLen;omega) ?_ (by simp only[ZaF,ZaX,Fr.put,Fr.get,↓reduceIte,Nat.reduceEqDiff,and_self]<;>simp) ?_ ?_ ?_
 ·trivial
 ·rw[ZaP]
  exact⟨Zaa.Zae (H:=G0),by simp[Zc5]⟩
 ·(rintro k s G hk ht hG hn;try simp only[nx]at hn)
  have ho:=hG.o (_,_) (zas.2 rfl)
  have lo:=Zaa.lt ho
  obtain⟨q0,q1,q2,q3,q4⟩:=Zba d.tiers[k]
  have hsn:rI ((d.tiers.take k).map szT)++[[.i (szT d.tiers[k])]]=rI ((d.tiers.take (k+1)).map szT):=by rw[ZcR hk];exact ZlN
  have la1:=Zfq ((d.tiers.take k).map szT)
  have la2:ZaE 1 [[AV.i (d.tiers[k].terms.length:Int)]]=true:=rfl
  have lm1:k+1<=maxLen:=by unfold maxLen;omega
  have lm2:(k+1) * 8<=140737488355328:=by omega
  have hrl:(rI ((d.tiers.take k).map szT)).length=k:=by simp;omega
  ((have hd:=tv;repeat' first|(first|apply Zad|apply Zac|apply Zab)<;>intro hd<;>try simp only[hd]|simp(disch:=first|assumption|omega|simp only[nx]<;>omega|fail)only[hd,qr,qn,c91_0,↓YA,YY,sevalprocAttr,hk,q0,q2,q4,ho,la1,la2,lm1,lm2,hrl,ZaL,rowsOf,zaa,List.length_singleton])<;>try revert hd;refine ttr ?_)
  exact⟨(),congrArg (AV.sl _) hsn,hG.alloc.put⟩
 ·(rintro s G ht hG hn;try simp only[nx]at hn)
  ((have hd:=tv;repeat' first|(first|apply Zad|apply Zac|apply Zab)<;>intro hd<;>try simp only[hd]|simp(disch:=first|assumption|omega|simp only[nx]<;>omega|fail)only[hd,qr,qn,c91_0,↓YA,YY,sevalprocAttr,zaN])<;>try revert hd;refine ttr ?_)
  exact Zcm rfl (hG.ZdB hx0.alloc (by simp;omega))
def Za3 (S:Sc):Shp:=⟨S.dims.map fun d=>d.tiers.map szT,S.meas.length⟩
theorem Zfm (t:Tok) (rows:List (List AV)):Wkn (.sl t rows) (.sl .no rows):=.sl t rows rows rfl (fun i r r' h h'=>by rw[h]at h';injection h' with h';rw[h']) (fun i r r' j x y h h' hx hy=>by
 rw[h]at h';injection h' with h';subst h';rw[hx]at hy;injection hy with hy;rw[hy];exact .refl _)
theorem wkn_shp (t:Tok) (x:Shp):Wkn (.agg [.sl t (rII x.sizes),.i x.measures]) (.agg (Zc3 x)):=by
 refine .agg _ _ rfl (fun i a b ha hb=>?_)
 rw[ZgU]at hb
 match i with
 | 0=>simp at ha hb;subst ha hb;exact Zfm _ _
 | 1=>simp at ha hb;subst ha hb;exact .refl _
 | i+2=>simp at ha
set_option maxHeartbeats 2000000 in
theorem ZiK (S:Sc) (H:Zaa) (hl:S.dims.length<=1000000) (hl2:∀d∈S.dims,d.tiers.length<=1000000):Zay Tryz.prog 49 [.agg (eSc S)] H (Pure H (.agg (Zc3 (Za3 S)))):=by
 obtain⟨f0,f1,f2,f3⟩:=ZbB S
 refine Zak hE cf49 (zac rfl) fun Q qr qn=>?_
 ((have hd:=tv;repeat' first|(first|apply Zad|apply Zac|apply Zab)<;>intro hd<;>try simp only[hd]|simp(disch:=first|assumption|omega|simp only[nx]<;>omega|fail)only[hd,qr,qn,ZmE,↓YA,YY,sevalprocAttr,f1,f2,zaa])<;>try revert hd;refine ttr ?_)
 have hx0:Zaa.Ext H ((((H.alloc (.cells (eSc S) 25)).alloc (.cells [.sl .full [],.i 0] 37)).alloc (.cells [.sl .full [],.i (S.meas.length:Int)] 37))):=by exact AXT
 have g1:((((H.alloc (.cells (eSc S) 25)).alloc (.cells [.sl .full [],.i 0] 37)).alloc (.cells [.sl .full [],.i (S.meas.length:Int)] 37))).get (H.next+1+1)=some (.cells [.sl .full [],.i (S.meas.length:Int)] 37):=Zaa.Zae (H:=(H.alloc _).alloc _)
 have g2:((((H.alloc (.cells (eSc S) 25)).alloc (.cells [.sl .full [],.i 0] 37)).alloc (.cells [.sl .full [],.i (S.meas.length:Int)] 37))).get (H.next+1)=some (.cells [.sl .full [],.i 0] 37):=by
  rw[Zaa.Zag (by simp only[nx];omega)]
  exact Zaa.Zae (H:=H.alloc _)
 have hn0:((((H.alloc (.cells (eSc S) 25)).alloc (.cells [.sl .full [],.i 0] 37)).alloc (.cells [.sl .full [],.i (S.meas.length:Int)] 37))).next=H.next+3:=rfl
 generalize (((H.alloc (.cells (eSc S) 25)).alloc (.cells [.sl .full [],.i 0] 37)).alloc (.cells [.sl .full [],.i (S.meas.length:Int)] 37))=G0 at *
 have l1:=Zaa.lt g1
 have l2:=Zaa.lt g2
 refine Zbs [2,3,11,12] (σ:=Unit) (fun(k:Nat) s=>True) (fun k s=>[]) (fun k s=>[(H.next+1+1,.cells [.sl (.own G0.next) (rII ((S.dims.take k).map fun d=>d.tiers.map szT)),.i (S.meas.length:Int)] 37),(G0.next,.tok k 57 1)]) () (GStep.ZdO (H.next+1+1) 0 37 57 1 g1 rfl) (by simp only[ZaA,Zav,Fr.put,Fr.get,↓reduceIte,Nat.reduceEqDiff];rfl) (by intro k s;rfl) (by intro k s;rfl) (by rfl) (by unfold maxLen;omega) ?_ (by simp only[ZaF]) ?_ ?_ ?_
 ·trivial
 ·rw[ZaP,ZaP]
  refine⟨?_,Zaa.Zae (H:=G0.set _ _),by simp[Zc5]⟩
  rw[Zaa.Zag (by simp only[nx];omega)]
  exact Zaa.Zal l1
 ·(rintro k s G hk ht hG hn;try simp only[nx]at hn)
  have ho1:=hG.o1
  have ho2:=hG.o2
  have lo1:=Zaa.lt ho1
  have lo2:=Zaa.lt ho2
  obtain⟨q0,q1,q2,q3⟩:=Za7 S.dims[k]
  have hC:=fun G=>Zi2 S.dims[k] G (hl2 _ (zam hk))
  have hsn:rII ((S.dims.take k).map fun d=>d.tiers.map szT)++[[.sl .no (rI (S.dims[k].tiers.map szT))]]=rII ((S.dims.take (k+1)).map fun d=>d.tiers.map szT):=by rw[ZcR hk];simp
  have la1:=ZdQ ((S.dims.take k).map fun d=>d.tiers.map szT)
  have la2:ZaE 1 [[AV.sl .no (rI (S.dims[k].tiers.map szT))]]=true:=rfl
  have lm1:k+1<=maxLen:=by unfold maxLen;omega
  have lm2:(k+1) * 24<=140737488355328:=by omega
  have hrl:(rII ((S.dims.take k).map fun d=>d.tiers.map szT)).length=k:=by simp;omega
  ((have hd:=tv;repeat' first|(first|apply Zad|apply Zac|apply Zab)<;>intro hd<;>try simp only[hd]|simp(disch:=first|assumption|omega|simp only[nx]<;>omega|fail)only[hd,qr,qn,ZmE,↓YA,YY,sevalprocAttr,hk,q0,q3,ho1,ho2,zaa])<;>try revert hd;refine ttr ?_)
  (refine Zap.use (hC _) ?_;rintro _ _ ⟨rfl,k1,rfl⟩)
  ((have hd:=tv;repeat' first|(first|apply Zad|apply Zac|apply Zab)<;>intro hd<;>try simp only[hd]|simp(disch:=first|assumption|omega|simp only[nx]<;>omega|fail)only[hd,qr,qn,ZmE,↓YA,YY,sevalprocAttr,hk,q0,q3,ho1,ho2,la1,la2,lm1,lm2,hrl,ZaL,rowsOf,zaa,List.length_singleton])<;>try revert hd;refine ttr ?_)
  rw[hsn]
  exact⟨(),hG.alloc.bump.put2 (by omega)⟩
 ·(rintro s G ht hG hn;try simp only[nx]at hn)
  have ho1:=hG.o1
  have hc:=(hG.g (H.next+1) (by simp only[nx];omega) (by simp;omega)).trans ((Zaa.Zag (by simp only[nx];omega)).trans ((Zaa.Zah (by omega)).trans g2))
  have lo1:=Zaa.lt ho1
  have lc:=Zaa.lt hc
  rw[zaN]at ho1
  ((have hd:=tv;repeat' first|(first|apply Zad|apply Zac|apply Zab)<;>intro hd<;>try simp only[hd]|simp(disch:=first|assumption|omega|simp only[nx]<;>omega|fail)only[hd,qr,qn,ZmE,↓YA,YY,sevalprocAttr,ho1,hc])<;>try revert hd;refine ttr ?_)
  exact Zc1 (wkn_shp _ (Za3 S)) ((hG.ZdB ((hx0.set (by omega)).alloc) (by simp;omega)).set (by omega))
def Zgz (a b:Int):Int:=if a<b then -1 else if a > b then 1 else 0
theorem Zgj (a b:Int) (H:Zaa):Zay Tryz.prog 139 [.i a,.i b] H (Pure H (.i (Zgz a b))):=by
 have hN:∀n H,Zay Tryz.prog 162 [.i n] H (Pure H (.b false)):=fun n H=>by
  refine Zak hE cf162 (zac rfl) fun Q qr qn=>?_
  ((have hd:=tv;repeat' first|(first|apply Zad|apply Zac|apply Zab)<;>intro hd<;>try simp only[hd]|simp(disch:=first|assumption|omega|simp only[nx]<;>omega|fail)only[hd,qr,qn,c162_0,↓YA,YY,sevalprocAttr])<;>try revert hd;refine ttr ?_)
  refine ZbC (by rfl)
 refine Zak hE cf139 (zac rfl) fun Q qr qn=>?_
 ((have hd:=tv;repeat' first|(first|apply Zad|apply Zac|apply Zab)<;>intro hd<;>try simp only[hd]|simp(disch:=first|assumption|omega|simp only[nx]<;>omega|fail)only[hd,qr,qn,Zka,↓YA,YY,sevalprocAttr])<;>try revert hd;refine ttr ?_)
 (refine Zap.use (hN _ _) ?_;rintro _ _ ⟨rfl,k1,rfl⟩)
 ((have hd:=tv;repeat' first|(first|apply Zad|apply Zac|apply Zab)<;>intro hd<;>try simp only[hd]|simp(disch:=first|assumption|omega|simp only[nx]<;>omega|fail)only[hd,qr,qn,Zka,↓YA,YY,sevalprocAttr])<;>try revert hd;refine ttr ?_)
 (refine Zap.use (hN _ _) ?_;rintro _ _ ⟨rfl,k2,rfl⟩)
 ((have hd:=tv;repeat' first|(first|apply Zad|apply Zac|apply Zab)<;>intro hd<;>try simp only[hd]|simp(disch:=first|assumption|omega|simp only[nx]<;>omega|fail)only[hd,qr,qn,Zka,↓YA,YY,sevalprocAttr])<;>try revert hd;refine ttr ?_)
 ·refine Zaz (by unfold Zgz;grind)
 ·refine Zaz (by unfold Zgz;grind)
 ·refine Zaz (by unfold Zgz;grind)
def cmpL:List Int->List Int->Int
 | [],[]=>0
 | [],_ :: _ => -1
 | _ :: _,[]=>1
 | a :: r,b :: t=>if Zgz a b≠0 then Zgz a b else cmpL r t
set_option maxHeartbeats 1000000 in
theorem Zkl (t u:Tok) (a b:List Int) (H:Zaa) (hl:a.length<=1000000):Zay Tryz.prog 134 [.sl t (rI a),.sl u (rI b)] H (Pure H (.i (cmpL a b))):=by
 generalize hT:cmpL a b=T
 refine Zak hE cf134 (zac rfl) fun Q qr qn=>?_
 ((have hd:=tv;repeat' first|(first|apply Zad|apply Zac|apply Zab)<;>intro hd<;>try simp only[hd]|simp(disch:=first|assumption|omega|simp only[nx]<;>omega|fail)only[hd,qr,qn,Zed,↓YA,YY,sevalprocAttr,zaa])<;>try revert hd;refine ttr ?_)
 refine Zbs [0,1,9,10] (σ:=Unit) (fun(k:Nat) s=>T=cmpL (a.drop k) (b.drop k)/\k<=b.length) (fun k s=>[]) (fun k s=>[]) () (GStep.refl _ _) (by simp only[ZaA,Zav,Fr.put,Fr.get,↓reduceIte,Nat.reduceEqDiff];rfl) (by intro k s;rfl) (by intro k s;rfl) (by rfl) (by unfold maxLen;omega) ?_ (by simp only[ZaF]) (by simp only[ZaJ]) ?_ ?_
 ·exact⟨hT.symm,zaG _⟩
 ·(rintro k s G hk ⟨ht,hb⟩ hG hn;try simp only[nx]at hn)
  rw[zan hk]at ht
  by_cases h1:k<b.length
  ·have d1:decide ((k:Int)≥(b.length:Int))=false:=decide_eq_false (by omega)
   rw[zan h1,cmpL]at ht
   have hC:=fun G=>Zgj a[k] b[k] G
   generalize Zgz a[k] b[k]=c at *
   by_cases h2:c≠0
   ·have d2:(c != 0)=true:=by simpa using h2
    rw[if_pos h2]at ht
    ((have hd:=tv;repeat' first|(first|apply Zad|apply Zac|apply Zab)<;>intro hd<;>try simp only[hd]|simp(disch:=first|assumption|omega|simp only[nx]<;>omega|fail)only[hd,qr,qn,Zed,↓YA,YY,sevalprocAttr,hk,h1,d1,zaa])<;>try revert hd;refine ttr ?_)
    (refine Zap.use (hC _) ?_;rintro _ _ ⟨rfl,k1,rfl⟩)
    ((have hd:=tv;repeat' first|(first|apply Zad|apply Zac|apply Zab)<;>intro hd<;>try simp only[hd]|simp(disch:=first|assumption|omega|simp only[nx]<;>omega|fail)only[hd,qr,qn,Zed,↓YA,YY,sevalprocAttr,d2])<;>try revert hd;refine ttr ?_)
    refine Zaz (by rw[ht])
   ·have d2:(c != 0)=false:=by simpa using h2
    rw[if_neg h2]at ht
    ((have hd:=tv;repeat' first|(first|apply Zad|apply Zac|apply Zab)<;>intro hd<;>try simp only[hd]|simp(disch:=first|assumption|omega|simp only[nx]<;>omega|fail)only[hd,qr,qn,Zed,↓YA,YY,sevalprocAttr,hk,h1,d1,zaa])<;>try revert hd;refine ttr ?_)
    (refine Zap.use (hC _) ?_;rintro _ _ ⟨rfl,k1,rfl⟩)
    ((have hd:=tv;repeat' first|(first|apply Zad|apply Zac|apply Zab)<;>intro hd<;>try simp only[hd]|simp(disch:=first|assumption|omega|simp only[nx]<;>omega|fail)only[hd,qr,qn,Zed,↓YA,YY,sevalprocAttr,d2])<;>try revert hd;refine ttr ?_)
    refine⟨(),by exact⟨ht,by omega⟩,by exact HXT⟩
  ·have d1:decide ((k:Int)≥(b.length:Int))=true:=decide_eq_true (by omega)
   have e0:b.drop k=[]:=zbB (by omega)
   rw[e0]at ht
   simp only[cmpL]at ht
   ((have hd:=tv;repeat' first|(first|apply Zad|apply Zac|apply Zab)<;>intro hd<;>try simp only[hd]|simp(disch:=first|assumption|omega|simp only[nx]<;>omega|fail)only[hd,qr,qn,Zed,↓YA,YY,sevalprocAttr,hk,d1,zaa])<;>try revert hd;refine ttr ?_)
   refine Zaz (by rw[ht])
 ·(rintro s G ⟨ht,hb⟩ hG hn;try simp only[nx]at hn)
  rw[zaT]at ht
  by_cases h1:a.length<b.length
  ·have d1:decide ((a.length:Int)<(b.length:Int))=true:=decide_eq_true (by omega)
   rw[zan h1,cmpL]at ht
   ((have hd:=tv;repeat' first|(first|apply Zad|apply Zac|apply Zab)<;>intro hd<;>try simp only[hd]|simp(disch:=first|assumption|omega|simp only[nx]<;>omega|fail)only[hd,qr,qn,Zed,↓YA,YY,sevalprocAttr,d1,zaa])<;>try revert hd;refine ttr ?_)
   refine Zaz (by rw[ht])
  ·have d1:decide ((a.length:Int)<(b.length:Int))=false:=decide_eq_false (by omega)
   have e0:b.drop a.length=[]:=zbB (by omega)
   rw[e0]at ht
   simp only[cmpL]at ht
   ((have hd:=tv;repeat' first|(first|apply Zad|apply Zac|apply Zab)<;>intro hd<;>try simp only[hd]|simp(disch:=first|assumption|omega|simp only[nx]<;>omega|fail)only[hd,qr,qn,Zed,↓YA,YY,sevalprocAttr,d1,zaa])<;>try revert hd;refine ttr ?_)
   refine Zaz (by rw[ht])
end Go.Proofs.YtaapiigfmdhobaaGreat
