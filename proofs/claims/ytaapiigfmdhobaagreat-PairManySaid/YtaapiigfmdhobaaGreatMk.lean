/- Texts of the walk. -/
import Derived.Test.YtaapiigfmdhobaaGreatMi
import Derived.Shelf.SlicesE.Clone
import Derived.Shelf.SlSortCmp.WholeK
import Derived.Ground.SlsfProg
import Derived.Test.YtaapiigfmdhobaaGreatProg
import Derived.Test.YtaapiigfmdhobaaGreatChecked
import Derived.Lib.RowBridge
import Derived.Test.YtaapiigfmdhobaaGreatMf
namespace Go.Proofs.YtaapiigfmdhobaaGreat
set_option linter.defProp false
set_option linter.unusedSimpArgs false
set_option linter.unusedVariables false
open Go.RowKit
abbrev Fct:=List Int×Ag
def ZcI (f:Fct):List AV:=.sl .no (rI f.1) :: eAg f.2
abbrev rF (fs:List Fct):List (List AV):=fs.map ZcI
theorem Znt (fs:List Fct):ZaE 11 (rF fs)=true:=ZaU (f:=ZcI) (fun _=>rfl) fs
abbrev Tx:=List UInt8
abbrev eS (l:List UInt8):AV:=.sc (.string ⟨l.toArray⟩)
abbrev rS (l:List Tx):List (List AV):=l.map fun s=>[eS s]
def kS (l:List UInt8):Value:=.string ⟨l.toArray⟩
theorem Zev (a b:List UInt8):kEq (kS a) (kS b)=decide (a=b):=by
 rw[za8,decide_eq_true_eq]
 show(a.toArray == b.toArray)=true ↔ _
 rw[beq_iff_eq]
 exact⟨fun h=>by simpa using congrArg Array.toList h,fun h=>by rw[h]⟩
theorem kS_of (l:List UInt8):KK.of (.one .str) (eS l)=some (kS l):=rfl
structure Tr where
 name:Tx
 terms:List Tx
 up:List Int
structure Dm where
 name:Tx
 tiers:List Tr
structure Sc where
 dims:List Dm
 meas:List Tx
def eTr (t:Tr):List AV:=[eS t.name,.sl .no (rS t.terms),.sl .no (rI t.up)]
abbrev rT (l:List Tr):List (List AV):=l.map eTr
def eDm (d:Dm):List AV:=[eS d.name,.sl .no (rT d.tiers)]
abbrev rD (l:List Dm):List (List AV):=l.map eDm
def eSc (s:Sc):List AV:=[.sl .no (rD s.dims),.sl .no (rS s.meas)]
theorem bfb (b:Bool):b=false\/b=true:=by cases b<;>simp
theorem Zhg {α:Type} {l:List α} {p:α->Bool} {k:Nat} (h:k<l.length):(l.take (k+1)).all p=((l.take k).all p&&p l[k]):=by
 rw[zar h,List.all_append];simp
theorem Zjc {α:Type} {l:List α} {p:α->Bool} {k:Nat} (h:k<l.length) (hp:p l[k]=false):l.all p=false:=by
 rw[List.all_eq_false]
 exact⟨l[k],zaq h,by simp[hp]⟩
theorem Zh9 {l:List UInt8} {k:Nat} (h:k<l.length):(⟨l.toArray⟩:ByteArray)[k]?=some l[k]:=by
 show(if h:k<l.toArray.size then some _ else none)=_
 rw[dif_pos (by simpa using h)]
 rfl
def ZcS (c:UInt8):Bool:=(decide ((97:Int)<=c.toNat)&&decide ((c.toNat:Int)<=122)) || (decide ((48:Int)<=c.toNat)&&decide ((c.toNat:Int)<=57)) || ((c.toNat:Int) == 95)
def ZbK (s:Tx):Bool:=!decide (s=[])&&!decide ((s.length:Int) > 12)&&s.all ZcS
set_option maxHeartbeats 1000000 in
theorem ZgA (q:Tx) (H:Zaa):Zay Tryz.prog 130 [eS q] H (Pure H (.i (if ZbK q=true then 0 else 2))):=by
 refine Zak hE cf130 (zab rfl) fun Q qr qn=>?_
 by_cases h0:q=[]
 ·subst h0
  refine Bz0 ?_
  refine Zaz (by rfl)
 have d0:decide (q=[])=false:=decide_eq_false h0
 by_cases h1:(q.length:Int) > 12
 ·have d1:decide ((q.length:Int) > 12)=true:=decide_eq_true h1
  have hZ:=an7 d0<|d1;refine Bz1 ?_
  refine Zaz (by simp[ZbK,h1])
 have d1:decide ((q.length:Int) > 12)=false:=decide_eq_false h1
 have hbad:∀k (hk:k<q.length),ZcS q[k]=false->(2:Int)=if ZbK q=true then 0 else 2:=fun k hk h=>by
  rw[if_neg]
  rw[ZbK,Zjc hk h];simp
 have hgood:q.all ZcS=true->(0:Int)=if ZbK q=true then 0 else 2:=fun h=>by
  rw[if_pos]
  rw[ZbK,h,d0,d1];rfl
 have hZ:=an7 d0<|d1;refine Bz1 ?_
 refine Zbs [0,13] (σ:=Unit) (fun(k:Nat) s=>(q.take k).all ZcS=true) (fun k s=>[]) (fun k s=>[]) () (GStep.refl _ _) (by simp only[ZaA,Zav,Fr.put,Fr.get,↓reduceIte,Nat.reduceEqDiff];rfl) (by intro k s;rfl) (by intro k s;rfl) (by rfl) (by unfold maxLen;omega) ?_ (by simp only[ZaF]) (by simp only[ZaJ]) ?_ ?_
 ·rfl
 ·(rintro k u G hk ht hG hn;try simp only[nx]at hn)
  have hs:=Zh9 hk
  have hb:=hbad k hk
  have hsn:=Zhg (p:=ZcS) hk
  rw[ht,zaY]at hsn
  generalize q[k]=c at *
  clear hbad hgood
  ((have hd:=tv;repeat' first|(first|apply Zad|apply Zac|apply Zab)<;>intro hd<;>try simp only[hd]|simp(disch:=first|assumption|omega|simp only[nx]<;>omega|fail)only[hd,qr,qn,Zgs,↓YA,YY,sevalprocAttr,hs])<;>try revert hd;refine ttr ?_)
  all_goals first
   | (refine Zaz (hb ?_);clear hb hsn;unfold ZcS;first|(simp_all;done)|grind)
   | (refine⟨(),?_,by exact HXT⟩;rw[hsn];clear hb hsn;unfold ZcS;first|(simp_all;done)|grind)
 ·(rintro u G ht hG hn;try simp only[nx]at hn)
  rw[zaK]at ht
  refine Bz0 ?_
  refine Zaz (by exact hgood ht)
theorem Zjx {s:Tx} (h:ZbK s=false) (H:Zaa):Zay Tryz.prog 130 [eS s] H (Pure H (.i 2)):=by
 have:=ZgA s H
 rw[h]at this
 exact this
theorem Zg8 {s:Tx} (h:ZbK s=true) (H:Zaa):Zay Tryz.prog 130 [eS s] H (Pure H (.i 0)):=by
 have:=ZgA s H
 rw[h]at this
 exact this
def isT (s:Tx):Bool:=decide ((s.length:Int)≥1)&&decide ((s.length:Int)<=16)
theorem Zhs (s:Tx) (H:Zaa):Zay Tryz.prog 170 [eS s] H (Pure H (.i (if isT s=true then 0 else 2))):=by
 unfold isT
 cases s with
 | nil =>
  refine Zak hE cf170 (zab rfl) fun Q qr qn=>?_
  refine Bz0 ?_
  refine Zaz (by rfl)
 | cons a r =>
  have d0:decide (a :: r=[])=false:=by simp
  refine Zak hE cf170 (zab rfl) fun Q qr qn=>?_
  ((have hd:=tv;repeat' first|(first|apply Zad|apply Zac|apply Zab)<;>intro hd<;>try simp only[hd]|simp(disch:=first|assumption|omega|simp only[nx]<;>omega|fail)only[hd,qr,qn,Zln,↓YA,YY,sevalprocAttr,d0])<;>try revert hd;refine ttr ?_)
  ·refine Zaz (by rw[if_neg];simp at hd ⊢;omega)
  ·refine Zaz (by rw[if_pos];simp at hd ⊢;omega)
def geT (w:Option Tx) (s:Tx):Bool:=match w with
 | some q=>!decide (q<s)
 | none=>false
def Zgt:Option Tx->List Tx->Int
 | _,[]=>0
 | w,s :: r=>if isT s=false then 2 else if geT w s=true then 4 else Zgt (some s) r
theorem Zhp (w:Option Tx) (s:Tx) (r:List Tx):Zgt w (s :: r)=if isT s=false then 2 else if geT w s=true then 4 else Zgt (some s) r:=by simp only[Zgt]
def Ze4 (l:List Tx) (k:Nat):Option Tx:=match k with
 | 0=>none
 | k+1=>l[k]?
set_option maxHeartbeats 1000000 in
theorem ZkS (t:Tok) (l:List Tx) (H:Zaa) (hl:l.length<=1000000):Zay Tryz.prog 157 [.sl t (rS l)] H (Pure H (.i (Zgt none l))):=by
 refine Zak hE cf157 (zab rfl) fun Q qr qn=>?_
 refine Bz2 ?_
 generalize hT:Zgt none l=T at *
 refine Zbs [0,6,7] (σ:=Unit) (fun(k:Nat) s=>T=Zgt (Ze4 l k) (l.drop k)) (fun k s=>[]) (fun k s=>[]) () (GStep.refl _ _) (by simp only[ZaA,Zav,Fr.put,Fr.get,↓reduceIte,Nat.reduceEqDiff];rfl) (by intro k s;rfl) (by intro k s;rfl) (by rfl) (by unfold maxLen;omega) ?_ (by simp only[ZaF]) (by simp only[ZaJ]) ?_ ?_
 ·exact hT.symm
 ·(rintro k s G hk ht hG hn;try simp only[nx]at hn)
  rw[zao hk,Zhp]at ht
  have hC:=Zhs l[k]
  have hb:=bfb (isT l[k])
  rcases hb with hb|hb
  ·rw[hb]at hC ht
   simp only[zbX,if_false,if_true]at hC ht
   refine Bz2 ?_
   refine qcp (hC _) fun k1=>?_
   ((have hd:=tv;repeat' first|(first|apply Zad|apply Zac|apply Zab)<;>intro hd<;>try simp only[hd]|simp(disch:=first|assumption|omega|simp only[nx]<;>omega|fail)only[hd,qr,qn,ZdN,↓YA,YY,sevalprocAttr,show((2:Int) != 0)=true from by decide])<;>try revert hd;refine ttr ?_)
   refine Zaz (by rw[ht])
  ·rw[hb]at hC ht
   simp only[zch,if_false,if_true]at hC ht
   cases k with
   | zero =>
    have d1:decide (((0:Nat):Int) > 0)=false:=by decide
    refine Bz2 ?_
    refine qcp (hC _) fun k1=>?_
    have hZ:=d1;refine Bz3 ?_
    refine⟨(),by rw[ht];simp[Ze4,hk,geT],by exact HXT⟩
   | succ j =>
    have d1:decide (((j+1:Nat):Int) > 0)=true:=decide_eq_true (by omega)
    have hj:j<l.length:=by omega
    have hw:IntKind.i64.wrap (((j+1:Nat):Int) - 1)=(j:Int):=by rw[show((j+1:Nat):Int) - 1=(j:Int) by omega];exact Zaw (by omega) (by omega)
    have hp:Ze4 l (j+1)=some l[j]:=by simp[Ze4,hj]
    have hp2:Ze4 l (j+1+1)=some l[j+1]:=by simp[Ze4,hk]
    rw[hp]at ht
    simp only[geT]at ht
    have hlt:=bfb (decide (l[j]<l[j+1]))
    rcases hlt with hlt|hlt
    ·refine Bz2 ?_
     refine qcp (hC _) fun k1=>?_
     have hZ:=an7 d1<|an7 hw<|an7 hlt<|an7 hj<|hk;refine Bz3 ?_
     refine Zaz (by rw[ht];simp[hlt])
    ·refine Bz2 ?_
     refine qcp (hC _) fun k1=>?_
     have hZ:=an7 d1<|an7 hw<|an7 hlt<|an7 hj<|hk;refine Bz3 ?_
     refine⟨(),by rw[ht,hp2];simp[hlt],by exact HXT⟩
 ·(rintro s G ht hG hn;try simp only[nx]at hn)
  rw[zaP]at ht
  refine Bz0 ?_
  refine Zaz (by rw[ht];rfl)
def Zg2 (l:List Int):List (Int×Int):=l.foldl (fun M n=>ZbU n 1 M) []
theorem ZlD {l:List Int} {k:Nat} (h:k<l.length):Zg2 (l.take (k+1))=ZbU l[k] 1 (Zg2 (l.take k)):=by
 rw[zar h,Zg2,zcq];rfl
theorem ZmZ {K V:Type} [DecidableEq K] (k:K) (v:V) (M:List (K×V)):(ZbU k v M).length<=M.length+1:=by
 rw[ZjW];split<;>omega
theorem ZjE (l:List Int):(Zg2 l).length<=l.length:=by
 suffices ∀(l:List Int) (M:List (Int×Int)),(l.foldl (fun M n=>ZbU n 1 M) M).length<=M.length+l.length from by simpa [Zg2] using this l []
 intro l
 induction l with
 | nil=>intro M;simp
 | cons a r ih =>
  intro M
  rw[List.foldl_cons]
  have h1:=ih (ZbU a 1 M)
  have h2:=ZmZ a (1:Int) M
  simp only[List.length_cons]
  omega
def inU (a n:Int):Bool:=!decide (n<0)&&!decide (n≥a)
def ZdD (up:List Int) (members above:Int):Bool :=
 if above<=0 then ((up.length:Int) == 0) else if (up.length:Int)≠members then false else up.all (inU above)&&(((Zg2 up).length:Int) == above)
set_option maxHeartbeats 1000000 in
theorem ZkI (t:Tok) (up:List Int) (members above:Int) (H:Zaa) (hl:up.length<=1000000):Zay Tryz.prog 158 [.sl t (rI up),.i members,.i above] H (Pure H (.b (ZdD up members above))):=by
 refine Zak hE cf158 (zab rfl) fun Q qr qn=>?_
 by_cases h1:above<=0
 ·have d1:decide (above<=0)=true:=decide_eq_true h1
  have hZ:=d1;refine Bz3 ?_
  refine ZbC (by rw[ZdD,if_pos h1])
 have d1:decide (above<=0)=false:=decide_eq_false h1
 by_cases h2:(up.length:Int)≠members
 ·have d2:((up.length:Int) != members)=true:=by simpa using h2
  have hZ:=an7 d1<|d2;refine Bz3 ?_
  refine ZbC (by rw[ZdD,if_neg h1,if_pos h2])
 have d2:((up.length:Int) != members)=false:=by simpa using h2
 have hv:ZdD up members above=(up.all (inU above)&&(((Zg2 up).length:Int) == above)):=by rw[ZdD,if_neg h1,if_neg h2]
 have hZ:=an7 d1<|d2;refine Bz3 ?_
 refine Zbs [2,7,20,21] (σ:=Unit) (fun(k:Nat) s=>(up.take k).all (inU above)=true) (fun k s=>[]) (fun k s=>[(H.next,.map (.one (.int .i64)) (Zgf kI AV.i (Zg2 (up.take k))) false)]) () (GStep.refl _ _) (by simp only[ZaA,Zav,Fr.put,Fr.get,↓reduceIte,Nat.reduceEqDiff];rfl) (by intro k s;rfl) (by intro k s;rfl) (by rfl) (by unfold maxLen;omega) ?_ (by simp only[ZaF]) ?_ ?_ ?_
 ·rfl
 ·rw[ZaP];exact⟨Zaa.Zae (H:=H),by simp[Zc5]⟩
 ·(rintro k s G hk ht hG hn;try simp only[nx]at hn)
  have ho:=hG.o (_,_) (zam.2 rfl)
  have hlo:=Zaa.lt ho
  have hs:=Zhg (p:=inU above) hk
  rw[ht,zaY]at hs
  have hb:=bfb (inU above up[k])
  rcases hb with hb|hb
  ·have hf:(false:Bool)=ZdD up members above:=by rw[hv,Zjc hk hb];rfl
   have hc:=hb
   unfold inU at hc
   by_cases c1:up[k]<0
   ·have e1:decide (up[k]<0)=true:=decide_eq_true c1
    have hZ:=e1;refine Bz3 ?_
    exact ZbC hf (hG.ZdB (Zaa.Ext.refl H).alloc (by simp))
   ·have e1:decide (up[k]<0)=false:=decide_eq_false c1
    rw[e1]at hc
    have e2:decide (up[k]≥above)=true:=by simpa using hc
    have hZ:=an7 e1<|e2;refine Bz3 ?_
    exact ZbC hf (hG.ZdB (Zaa.Ext.refl H).alloc (by simp))
  ·have hc:=hb
   unfold inU at hc
   simp only[zax,zbQ]at hc
   obtain⟨e1,e2⟩:=hc
   have hset:=ZcH (vf:=AV.i) ZkH up[k] 1 (Zg2 (up.take k))
   have hof:=ZrS up[k]
   have hZ:=an7 e1<|an7 e2<|an7 ho<|an7 hof<|hset;refine Bz3 ?_
   exact⟨(),by rw[hs,hb],by rw[ZlD hk];exact hG.put⟩
 ·(rintro s G ht hG hn;try simp only[nx]at hn)
  have ho:=hG.o (_,_) (zam.2 rfl)
  rw[zaK]at ht ho
  have hlen:(Zgf kI AV.i (Zg2 up)).length=(Zg2 up).length:=by rw[Zgf,zaj]
  have hZ:=an7 ho<|hlen;refine Bz1 ?_
  exact ZbC (by rw[hv,ht];rfl) (hG.ZdB (Zaa.Ext.refl H).alloc (by simp))
def ZbO (t:Tr) (above:Int):Int :=
 if ZbK t.name=false then 2 else if (t.terms.length:Int)<1\/(t.terms.length:Int) > 200 then 5 else if Zgt none t.terms≠0 then Zgt none t.terms else if ZdD t.up t.terms.length above=false then 14 else 0
theorem Zba (t:Tr):(eTr t).length=3/\(eTr t)[0]?=some (eS t.name)/\(eTr t)[1]?=some (.sl .no (rS t.terms))/\(eTr t)[2]?=some (.sl .no (rI t.up))/\(eTr t).take 3=eTr t:=⟨rfl,rfl,rfl,rfl,rfl⟩
set_option maxHeartbeats 1000000 in
theorem ZkD (t:Tr) (above:Int) (H:Zaa) (hu:t.up.length<=1000000):Zay Tryz.prog 131 [.agg (eTr t),.i above] H (Pure H (.i (ZbO t above))):=by
 obtain⟨f0,f1,f2,f3,f4⟩:=Zba t
 have hx:Zaa.Ext H (H.alloc (.cells (eTr t) 107)):=(Zaa.Ext.refl H).alloc
 have hb:=bfb (ZbK t.name)
 rcases hb with hb|hb
 ·have hv:ZbO t above=2:=by rw[ZbO,if_pos hb]
  have hN:=fun G=>Zjx hb G
  rw[hv]
  refine Zak hE cf131 (zab rfl) fun Q qr qn=>?_
  have hZ:=f1;refine Bz1 ?_
  refine qcp (hN _) fun k1=>?_
  refine Bz0 ?_
  refine Zaz (by rfl)
 have hN:=fun G=>Zg8 hb G
 by_cases h1:(t.terms.length:Int)<1\/(t.terms.length:Int) > 200
 ·have hv:ZbO t above=5:=by rw[ZbO,if_neg (by simp[hb]),if_pos h1]
  rw[hv]
  refine Zak hE cf131 (zab rfl) fun Q qr qn=>?_
  have hZ:=f1;refine Bz1 ?_
  refine qcp (hN _) fun k1=>?_
  ((have hd:=tv;repeat' first|(first|apply Zad|apply Zac|apply Zab)<;>intro hd<;>try simp only[hd]|simp(disch:=first|assumption|omega|simp only[nx]<;>omega|fail)only[hd,qr,qn,Zds,↓YA,YY,sevalprocAttr,f1,f2,zaj])<;>try revert hd;refine ttr ?_)
  all_goals first
   | (exfalso;simp_all;omega;done)
   | refine Zaz (by rfl)
 have hR:=fun G=>ZkS .no t.terms G (by omega)
 have e1:decide ((t.terms.length:Int)<1)=false:=by simp;omega
 have e2:decide ((t.terms.length:Int) > 200)=false:=by simp;omega
 by_cases h2:Zgt none t.terms≠0
 ·have hv:ZbO t above=Zgt none t.terms:=by rw[ZbO,if_neg (by simp[hb]),if_neg h1,if_pos h2]
  have e3:(Zgt none t.terms != 0)=true:=by simpa using h2
  rw[hv]
  refine Zak hE cf131 (zab rfl) fun Q qr qn=>?_
  have hZ:=f1;refine Bz1 ?_
  refine qcp (hN _) fun k1=>?_
  have hZ:=an7 f1<|an7 f2<|an7 e1<|e2;refine Bz3 ?_
  refine qcp (hR _) fun k2=>?_
  have hZ:=e3;refine Bz1 ?_
  refine Zaz (by rfl)
 have e3:(Zgt none t.terms != 0)=false:=by simpa using h2
 have hT:=fun G=>ZkI .no t.up t.terms.length above G hu
 have hv:ZbO t above=if ZdD t.up t.terms.length above=false then 14 else 0:=by rw[ZbO,if_neg (by simp[hb]),if_neg h1,if_neg h2]
 rw[hv]
 have hb2:=bfb (ZdD t.up t.terms.length above)
 rcases hb2 with hb2|hb2<;>rw[hb2]at hT ⊢
 all_goals
  refine Zak hE cf131 (zab rfl) fun Q qr qn=>?_
  have hZ:=f1;refine Bz1 ?_
  refine qcp (hN _) fun k1=>?_
  have hZ:=an7 f1<|an7 f2<|an7 e1<|e2;refine Bz3 ?_
  refine qcp (hR _) fun k2=>?_
  have hZ:=an7 e3<|an7 f2<|f3;refine Bz3 ?_
  refine qcp (hT _) fun k3=>?_
  refine Bz0 ?_
  refine Zaz (by rfl)
def ZbR:List Tr->Int
 | []=>0
 | u :: _=>(u.terms.length:Int)
theorem Za7 (d:Dm):(eDm d).length=2/\(eDm d)[0]?=some (eS d.name)/\(eDm d)[1]?=some (.sl .no (rT d.tiers))/\(eDm d).take 2=eDm d:=⟨rfl,rfl,rfl,rfl⟩
theorem Zdh {l:List Tr} {k:Nat} (h:k<l.length):(rT l)[k]?=some (eTr l[k]):=by simp[h]
theorem ZjQ {l:List Dm} {k:Nat} (h:k<l.length):(rD l)[k]?=some (eDm l[k]):=by simp[h]
theorem Zjn (d:Dm) (k:Nat) (H:Zaa) (hk:k<d.tiers.length) (hl:d.tiers.length<=1000000):Zay Tryz.prog 132 [.agg (eDm d),.i (k:Int)] H (Pure H (.i (ZbR (d.tiers.drop (k+1))))):=by
 obtain⟨f0,f1,f2,f3⟩:=Za7 d
 have hw:IntKind.i64.wrap ((k:Int)+1)=((k+1:Nat):Int):=by rw[show(k:Int)+1=((k+1:Nat):Int) by omega];exact Zaw (by omega) (by omega)
 refine Zak hE cf132 (zab rfl) fun Q qr qn=>?_
 by_cases h:k+1<d.tiers.length
 ·have d1:decide (((k+1:Nat):Int)<(d.tiers.length:Int))=true:=by simp;omega
  rw[zao h]at qr qn
  have hg:=Zdh h
  obtain⟨g0,g1,g2,g3,g4⟩:=Zba d.tiers[k+1]
  have hZ:=an7 f2<|an7 hw<|an7 d1<|an7 h<|an7 g0<|g2;refine Bz3 ?_
  refine Zaz (by rfl)
 ·have d1:decide (((k+1:Nat):Int)<(d.tiers.length:Int))=false:=by simp;omega
  rw[zbw (by omega)]at qr qn
  have hZ:=an7 f2<|an7 hw<|d1;refine Bz3 ?_
  refine Zaz (by rfl)
def Zmw (M:List (Tx×Int)) (seen:List Tx):Prop:=∀n,Zcz n M=if n∈seen then some 1 else none
theorem Zmw.nil:Zmw [] []:=fun n=>by simp[Zcz]
theorem Zmw.snoc {M:List (Tx×Int)} {seen:List Tx} (h:Zmw M seen) (n:Tx):Zmw (ZbU n 1 M) (seen++[n]):=fun m=>by
 rw[Zeg,h m]
 by_cases e:m=n
 ·subst e;simp
 ·rw[if_neg e]
  by_cases hm:m∈seen<;>simp[hm,e]
abbrev mpT (M:List (Tx×Int)):Zb3:=.map (.one .str) (Zgf kS AV.i M) false
def Zkb (seen:List Tx):List Tr->Int
 | []=>0
 | t :: r=>if ZbO t (ZbR r)≠0 then ZbO t (ZbR r) else if t.name∈seen then 11 else Zkb (seen++[t.name]) r
def Zdv (d:Dm):Int:=if ZbK d.name=false then 2 else if (d.tiers.length:Int)<1\/(d.tiers.length:Int) > 4 then 5 else Zkb [] d.tiers
def Zgr (t:Tr):Prop:=t.up.length<=1000000
theorem ZcR {α β:Type} {f:α->β} {l:List α} {k:Nat} (h:k<l.length):(l.take (k+1)).map f=(l.take k).map f++[f l[k]]:=by
 rw[zar h,zaV];rfl
set_option maxHeartbeats 2000000 in
theorem Zlf (d:Dm) (H:Zaa) (hs:∀t∈d.tiers,Zgr t):Zay Tryz.prog 88 [.agg (eDm d)] H (Pure H (.i (Zdv d))):=by
 obtain⟨f0,f1,f2,f3⟩:=Za7 d
 have hb:=bfb (ZbK d.name)
 rcases hb with hb|hb
 ·have hv:Zdv d=2:=by rw[Zdv,if_pos hb]
  have hN:=fun G=>Zjx hb G
  rw[hv]
  refine Zak hE cf88 (zab rfl) fun Q qr qn=>?_
  have hZ:=f1;refine Bz1 ?_
  refine qcp (hN _) fun k1=>?_
  refine Bz0 ?_
  refine Zaz (by rfl)
 have hN:=fun G=>Zg8 hb G
 by_cases h1:(d.tiers.length:Int)<1\/(d.tiers.length:Int) > 4
 ·have hv:Zdv d=5:=by rw[Zdv,if_neg (by simp[hb]),if_pos h1]
  rw[hv]
  refine Zak hE cf88 (zab rfl) fun Q qr qn=>?_
  have hZ:=f1;refine Bz1 ?_
  refine qcp (hN _) fun k1=>?_
  ((have hd:=tv;repeat' first|(first|apply Zad|apply Zac|apply Zab)<;>intro hd<;>try simp only[hd]|simp(disch:=first|assumption|omega|simp only[nx]<;>omega|fail)only[hd,qr,qn,ZdA,↓YA,YY,sevalprocAttr,f1,f2,zaj])<;>try revert hd;refine ttr ?_)
  all_goals first
   | (exfalso;simp_all;omega;done)
   | refine Zaz (by rfl)
 have e1:decide ((d.tiers.length:Int)<1)=false:=by simp;omega
 have e2:decide ((d.tiers.length:Int) > 4)=false:=by simp;omega
 have hv:Zdv d=Zkb [] d.tiers:=by rw[Zdv,if_neg (by simp[hb]),if_neg h1]
 rw[hv]
 generalize hT:Zkb [] d.tiers=T
 refine Zak hE cf88 (zab rfl) fun Q qr qn=>?_
 have hZ:=f1;refine Bz1 ?_
 refine qcp (hN _) fun k1=>?_
 have hZ:=an7 f1<|an7 f2<|an7 e1<|e2;refine Bz3 ?_
 have g1:(((H.alloc (.cells (eDm d) 102)).bump k1).alloc (.map (.one .str) [] false)).get H.next=some (.cells (eDm d) 102):=by
  rw[Zaa.Zag (by simp only[nx];omega)];exact Zaa.Zae (H:=H)
 have g2:(((H.alloc (.cells (eDm d) 102)).bump k1).alloc (.map (.one .str) [] false)).get (H.next+1+k1)=some (mpT []):=Zaa.Zae (H:=(H.alloc _).bump k1)
 have hx0:Zaa.Ext H (((H.alloc (.cells (eDm d) 102)).bump k1).alloc (.map (.one .str) [] false)):=by exact AXT
 have hne:((H.alloc (.cells (eDm d) 102)).bump k1).next=H.next+1+k1:=rfl
 generalize ((H.alloc (.cells (eDm d) 102)).bump k1).alloc (.map (.one .str) [] false)=G0 at *
 have l1:=Zaa.lt g1
 have l2:=Zaa.lt g2
 refine Zbs [1,4,26,27] (σ:=List (Tx×Int)) (fun(k:Nat) s=>Zmw s ((d.tiers.take k).map (·.name))/\T=Zkb ((d.tiers.take k).map (·.name)) (d.tiers.drop k)) (fun k s=>[]) (fun k s=>[(H.next+1+k1,mpT s)]) [] (GStep.refl _ _) (by simp only[ZaA,Zav,Fr.put,Fr.get,↓reduceIte,Nat.reduceEqDiff];rfl) (by intro k s;rfl) (by intro k s;rfl) (by rfl) (by unfold maxLen;omega) ?_ (by simp only[ZaF]) ?_ ?_ ?_
 ·exact⟨Zmw.nil,hT.symm⟩
 ·rw[ZaP];exact⟨g2,by simp[Zc5]⟩
 ·(rintro k M G hk ⟨hM,ht⟩ hG hn;try simp only[nx]at hn)
  have ho:=hG.o (_,_) (zam.2 rfl)
  have hc:=(hG.g _ l1 (by simp;omega)).trans g1
  have lc:=Zaa.lt hc
  have lo:=Zaa.lt ho
  rw[zao hk,Zkb]at ht
  have hA:=fun G=>Zjn d k G hk (by omega)
  have hC:=fun G=>ZkD d.tiers[k] (ZbR (d.tiers.drop (k+1))) G (hs _ (zaq hk))
  have htk:=Zdh hk
  obtain⟨q0,q1,q2,q3,q4⟩:=Zba d.tiers[k]
  have hsn:=ZcR (f:=Tr.name) hk
  by_cases c1:ZbO d.tiers[k] (ZbR (d.tiers.drop (k+1)))≠0
  ·have e3:(ZbO d.tiers[k] (ZbR (d.tiers.drop (k+1))) != 0)=true:=by simpa using c1
   rw[if_pos c1]at ht
   generalize ZbO d.tiers[k] (ZbR (d.tiers.drop (k+1)))=E at *
   generalize ZbR (d.tiers.drop (k+1))=A at *
   have hZ:=an7 hk<|an7 q0<|an7 q4<|an7 hc<|an7 f0<|f3;refine Bz3 ?_
   refine qcp (hA _) fun k2=>?_
   have hZ:=an7 hk<|an7 q0<|an7 q4<|an7 hc<|an7 f0<|f3;refine Bz3 ?_
   refine qcp (hC _) fun k3=>?_
   have hZ:=e3;refine Bz1 ?_
   refine Zaz ht.symm ?_
   exact(Zaa.Ext.alloc (hG.ZdB hx0 (by simp;omega))).bump.bump
  ·have c1':ZbO d.tiers[k] (ZbR (d.tiers.drop (k+1)))=0:=by simpa using c1
   have e3:(ZbO d.tiers[k] (ZbR (d.tiers.drop (k+1))) != 0)=false:=by simp[c1']
   rw[if_neg c1]at ht
   generalize ZbO d.tiers[k] (ZbR (d.tiers.drop (k+1)))=E at *
   generalize ZbR (d.tiers.drop (k+1))=A at *
   have hof:=kS_of d.tiers[k].name
   have hgn:=hM d.tiers[k].name
   have hfn:=ZbV (vf:=AV.i) Zev d.tiers[k].name M
   by_cases c2:d.tiers[k].name∈(d.tiers.take k).map (·.name)
   ·rw[if_pos c2]at ht hgn
    rw[hgn,Option.map_some]at hfn
    have hset:=ZcH (vf:=AV.i) Zev d.tiers[k].name 2 M
    have hfn2:=ZbV (vf:=AV.i) Zev d.tiers[k].name (ZbU d.tiers[k].name 2 M)
    rw[ZdP,Option.map_some]at hfn2
    have e4:decide ((2:Int) > 1)=true:=by decide
    have hw:IntKind.i64.wrap (1+1)=2:=by decide
    have hZ:=an7 hk<|an7 q0<|an7 q4<|an7 hc<|an7 f0<|f3;refine Bz3 ?_
    refine qcp (hA _) fun k2=>?_
    have hZ:=an7 hk<|an7 q0<|an7 q4<|an7 hc<|an7 f0<|f3;refine Bz3 ?_
    refine qcp (hC _) fun k3=>?_
    have hZ:=an7 e3<|an7 q1<|an7 ho<|an7 hof<|an7 hfn<|an7 hset<|an7 hfn2<|an7 hw<|e4;refine Bz1 ?_
    refine Zaz ht.symm ?_
    exact Zaa.Ext.set ((Zaa.Ext.alloc (hG.ZdB hx0 (by simp;omega))).bump.bump) (by omega)
   ·rw[if_neg c2]at ht hgn
    rw[hgn,Option.map_none]at hfn
    have hset:=ZcH (vf:=AV.i) Zev d.tiers[k].name 1 M
    have hfn2:=ZbV (vf:=AV.i) Zev d.tiers[k].name (ZbU d.tiers[k].name 1 M)
    rw[ZdP,Option.map_some]at hfn2
    have e4:decide ((1:Int) > 1)=false:=by decide
    have hw:IntKind.i64.wrap (0+1)=1:=by decide
    have hZ:=an7 hk<|an7 q0<|an7 q4<|an7 hc<|an7 f0<|f3;refine Bz3 ?_
    refine qcp (hA _) fun k2=>?_
    have hZ:=an7 hk<|an7 q0<|an7 q4<|an7 hc<|an7 f0<|f3;refine Bz3 ?_
    refine qcp (hC _) fun k3=>?_
    have hZ:=an7 e3<|an7 q1<|an7 ho<|an7 hof<|an7 hfn<|an7 hset<|an7 hfn2<|an7 hw<|e4;refine Bz1 ?_
    refine⟨ZbU d.tiers[k].name 1 M,⟨by rw[hsn];exact hM.snoc _,by rw[hsn];exact ht⟩,?_⟩
    exact hG.alloc.bump.bump.put
 ·(rintro M G ⟨hM,ht⟩ hG hn;try simp only[nx]at hn)
  rw[zaP]at ht
  refine Bz0 ?_
  exact Zaz (by rw[ht];rfl) (hG.ZdB hx0 (by simp;omega))
def ZgL (mid:Nat) (b:Bool) (M:List (Tx×Int)) (H:Zaa) (r:AV) (H':Zaa):Prop:=r=.b b/\HX [(mid,mpT M)] H H'
theorem HX.one {id:Nat} {o:Zb3} {H:Zaa} (h:H.get id=some o):HX [(id,o)] H H:=HX.ini (by rw[ZaP];exact⟨h,by simp[Zc5]⟩)
theorem HX.o1 {a:Nat} {x:Zb3} {O:List (Nat×Zb3)} {H G:Zaa} (h:HX ((a,x) :: O) H G):G.get a=some x:=h.o (a,x) (by simp)
theorem HX.o2 {a:Nat} {x:Zb3} {p:Nat×Zb3} {O:List (Nat×Zb3)} {H G:Zaa} (h:HX (p :: (a,x) :: O) H G):G.get a=some x:=h.o (a,x) (by simp)
theorem HX.put2 {a b:Nat} {x x' y y':Zb3} {H G:Zaa} (h:HX [(a,x),(b,y)] H G) (hne:a≠b):HX [(a,x'),(b,y')] H ((G.set b y').set a x'):=by
 have ha:=Zaa.lt h.o1
 have hb:=Zaa.lt h.o2
 refine⟨h.n,?_,fun i hi hn=>?_⟩
 ·rw[ZaP,ZaP]
  exact⟨Zaa.Zal ha,(Zaa.Zah (zbC hne)).trans (Zaa.Zal hb),by simp[Zc5]⟩
 ·have hn':a≠i/\b≠i:=by simpa using hn
  rw[Zaa.Zah (zbC hn'.1),Zaa.Zah (zbC hn'.2)]
  exact h.g i hi (by simpa using hn)
theorem HX.thn {a:Nat} {x x':Zb3} {H G G1:Zaa} (h:HX [(a,x)] H G) (k:HX [(a,x')] G G1):HX [(a,x')] H G1:=by
 refine⟨zaB h.n k.n,?_,fun i hi hn=>(k.g i (zbf hi h.n) (by simpa using hn)).trans (h.g i hi (by simpa using hn))⟩
 rw[ZaP]
 exact⟨k.o (a,x') (by simp),by simp[Zc5]⟩
theorem ZjJ {mid:Nat} {M:List (Tx×Int)} {s:Tx} {H:Zaa} (hm:H.get mid=some (mpT M)) (hg:Zcz s M=none):Zay Tryz.prog 89 [.mp mid,eS s] H (ZgL mid true (ZbU s 1 M) H):=by
 have lm:=Zaa.lt hm
 have hof:=kS_of s
 have hfn:=ZbV (vf:=AV.i) Zev s M
 rw[hg,Option.map_none]at hfn
 have hset:=ZcH (vf:=AV.i) Zev s 1 M
 have hfn2:=ZbV (vf:=AV.i) Zev s (ZbU s 1 M)
 rw[ZdP,Option.map_some]at hfn2
 have hw:IntKind.i64.wrap (0+1)=1:=by decide
 refine Zak hE cf89 (zab rfl) fun Q qr qn=>?_
 have hZ:=an7 hm<|an7 hof<|an7 hfn<|an7 hset<|an7 hfn2<|hw;refine Bz1 ?_
 exact Zaq ⟨rfl,(HX.one hm).put⟩
theorem ZhX {mid:Nat} {M:List (Tx×Int)} {s:Tx} {H:Zaa} (hm:H.get mid=some (mpT M)) (hg:Zcz s M=some 1):Zay Tryz.prog 89 [.mp mid,eS s] H (ZgL mid false (ZbU s 2 M) H):=by
 have lm:=Zaa.lt hm
 have hof:=kS_of s
 have hfn:=ZbV (vf:=AV.i) Zev s M
 rw[hg,Option.map_some]at hfn
 have hset:=ZcH (vf:=AV.i) Zev s 2 M
 have hfn2:=ZbV (vf:=AV.i) Zev s (ZbU s 2 M)
 rw[ZdP,Option.map_some]at hfn2
 have hw:IntKind.i64.wrap (1+1)=2:=by decide
 have e1:((2:Int) == 1)=false:=by decide
 refine Zak hE cf89 (zab rfl) fun Q qr qn=>?_
 have hZ:=an7 hm<|an7 hof<|an7 hfn<|an7 hset<|an7 hfn2<|an7 hw<|e1;refine Bz1 ?_
 exact Zaq ⟨rfl,(HX.one hm).put⟩
def Zgh (seen:List Tx):List Tx->Int
 | []=>0
 | s :: r=>if ZbK s=false then 2 else if s∈seen then 11 else Zgh (seen++[s]) r
def Zd8 (l:List Tx):Int:=if (l.length:Int)<1\/(l.length:Int) > 3 then 5 else Zgh [] l
theorem ZlO {α:Type} {l:List α} {k:Nat} (h:k<l.length):l.take (k+1)=l.take k++[l[k]]:=zar h
set_option maxHeartbeats 2000000 in
theorem Zk2 (t:Tok) (l:List Tx) (H:Zaa):Zay Tryz.prog 90 [.sl t (rS l)] H (Pure H (.i (Zd8 l))):=by
 by_cases h1:(l.length:Int)<1\/(l.length:Int) > 3
 ·have hv:Zd8 l=5:=by rw[Zd8,if_pos h1]
  rw[hv]
  refine Zak hE cf90 (zab rfl) fun Q qr qn=>?_
  ((have hd:=tv;repeat' first|(first|apply Zad|apply Zac|apply Zab)<;>intro hd<;>try simp only[hd]|simp(disch:=first|assumption|omega|simp only[nx]<;>omega|fail)only[hd,qr,qn,Ze1,↓YA,YY,sevalprocAttr,zaj])<;>try revert hd;refine ttr ?_)
  all_goals first
   | (exfalso;simp_all;omega;done)
   | refine Zaz (by rfl)
 have e1:decide ((l.length:Int)<1)=false:=by simp;omega
 have e2:decide ((l.length:Int) > 3)=false:=by simp;omega
 have hv:Zd8 l=Zgh [] l:=by rw[Zd8,if_neg h1]
 rw[hv]
 generalize hT:Zgh [] l=T
 refine Zak hE cf90 (zab rfl) fun Q qr qn=>?_
 have hZ:=an7 e1<|e2;refine Bz3 ?_
 refine Zbs [3,16,17] (σ:=List (Tx×Int)) (fun(k:Nat) s=>Zmw s (l.take k)/\T=Zgh (l.take k) (l.drop k)) (fun k s=>[]) (fun k s=>[(H.next,mpT s)]) [] (GStep.refl _ _) (by simp only[ZaA,Zav,Fr.put,Fr.get,↓reduceIte,Nat.reduceEqDiff];rfl) (by intro k s;rfl) (by intro k s;rfl) (by rfl) (by unfold maxLen;omega) ?_ (by simp only[ZaF]) ?_ ?_ ?_
 ·exact⟨Zmw.nil,hT.symm⟩
 ·rw[ZaP];exact⟨Zaa.Zae (H:=H),by simp[Zc5]⟩
 ·(rintro k M G hk ⟨hM,ht⟩ hG hn;try simp only[nx]at hn)
  have ho:=hG.o (_,_) (zam.2 rfl)
  rw[zao hk,Zgh]at ht
  have hsn:=ZlO hk
  have hgn:=hM l[k]
  have hb:=bfb (ZbK l[k])
  rcases hb with hb|hb
  ·have hN:=fun G=>Zjx hb G
   rw[if_pos hb]at ht
   have hZ:=hk;refine Bz3 ?_
   refine qcp (hN _) fun k1=>?_
   refine Bz0 ?_
   exact Zaz ht.symm ((hG.ZdB (Zaa.Ext.refl H).alloc (by simp)).bump)
  ·have hN:=fun G=>Zg8 hb G
   rw[if_neg (by simp[hb])]at ht
   by_cases c2:l[k]∈l.take k
   ·rw[if_pos c2]at ht hgn
    have hF:∀G,G.get H.next=some (mpT M)->Zay Tryz.prog 89 [.mp H.next,eS l[k]] G (ZgL H.next false (ZbU l[k] 2 M) G):=fun G h=>ZhX h hgn
    have hZ:=hk;refine Bz3 ?_
    refine qcp (hN _) fun k1=>?_
    have hZ:=hk;refine Bz3 ?_
    refine Zap.use (hF _ ho) ?_
    rintro _ G2 ⟨rfl,hx2⟩
    refine Bz0 ?_
    exact Zaz ht.symm (((hG.bump (k:=k1)).thn hx2).ZdB (Zaa.Ext.refl H).alloc (by simp))
   ·rw[if_neg c2]at ht hgn
    have hF:∀G,G.get H.next=some (mpT M)->Zay Tryz.prog 89 [.mp H.next,eS l[k]] G (ZgL H.next true (ZbU l[k] 1 M) G):=fun G h=>ZjJ h hgn
    have hZ:=hk;refine Bz3 ?_
    refine qcp (hN _) fun k1=>?_
    have hZ:=hk;refine Bz3 ?_
    refine Zap.use (hF _ ho) ?_
    rintro _ G2 ⟨rfl,hx2⟩
    refine Bz0 ?_
    exact⟨ZbU l[k] 1 M,⟨by rw[hsn];exact hM.snoc _,by rw[hsn];exact ht⟩,(hG.bump (k:=k1)).thn hx2⟩
 ·(rintro M G ⟨hM,ht⟩ hG hn;try simp only[nx]at hn)
  rw[zaP]at ht
  refine Bz0 ?_
  exact Zaz (by rw[ht];rfl) (hG.ZdB (Zaa.Ext.refl H).alloc (by simp))
def Zd1 (seen:List Tx):List Dm->Int
 | []=>0
 | d :: r=>if Zdv d≠0 then Zdv d else if d.name∈seen then 11 else Zd1 (seen++[d.name]) r
def scE (s:Sc):Int:=if (s.dims.length:Int)<1\/(s.dims.length:Int) > 16 then 5 else if Zd1 [] s.dims≠0 then Zd1 [] s.dims else Zd8 s.meas
theorem ZbB (s:Sc):(eSc s).length=2/\(eSc s)[0]?=some (.sl .no (rD s.dims))/\(eSc s)[1]?=some (.sl .no (rS s.meas))/\(eSc s).take 2=eSc s:=⟨rfl,rfl,rfl,rfl⟩
def Zh1 (s:Sc):Prop:=∀d∈s.dims,∀t∈d.tiers,Zgr t
set_option maxHeartbeats 2000000 in
theorem Zc9 (S:Sc) (H:Zaa) (hs:Zh1 S):Zay Tryz.prog 48 [.agg (eSc S)] H (Pure H (.i (scE S))):=by
 obtain⟨f0,f1,f2,f3⟩:=ZbB S
 by_cases h1:(S.dims.length:Int)<1\/(S.dims.length:Int) > 16
 ·have hv:scE S=5:=by rw[scE,if_pos h1]
  rw[hv]
  refine Zak hE cf48 (zab rfl) fun Q qr qn=>?_
  ((have hd:=tv;repeat' first|(first|apply Zad|apply Zac|apply Zab)<;>intro hd<;>try simp only[hd]|simp(disch:=first|assumption|omega|simp only[nx]<;>omega|fail)only[hd,qr,qn,ZeF,↓YA,YY,sevalprocAttr,f1,zaj])<;>try revert hd;refine ttr ?_)
  all_goals first
   | (exfalso;simp_all;omega;done)
   | refine Zaz (by rfl)
 have e1:decide ((S.dims.length:Int)<1)=false:=by simp;omega
 have e2:decide ((S.dims.length:Int) > 16)=false:=by simp;omega
 have hv:scE S=if Zd1 [] S.dims≠0 then Zd1 [] S.dims else Zd8 S.meas:=by rw[scE,if_neg h1]
 rw[hv]
 generalize hT:Zd1 [] S.dims=T
 refine Zak hE cf48 (zab rfl) fun Q qr qn=>?_
 have hZ:=an7 f1<|an7 f2<|an7 e1<|e2;refine Bz3 ?_
 have g1:((H.alloc (.cells (eSc S) 25)).alloc (.map (.one .str) [] false)).get H.next=some (.cells (eSc S) 25):=by
  rw[Zaa.Zag (by simp only[nx];omega)];exact Zaa.Zae (H:=H)
 have g2:((H.alloc (.cells (eSc S) 25)).alloc (.map (.one .str) [] false)).get (H.next+1)=some (mpT []):=Zaa.Zae (H:=H.alloc _)
 have hx0:Zaa.Ext H ((H.alloc (.cells (eSc S) 25)).alloc (.map (.one .str) [] false)):=by exact AXT
 have hne:((H.alloc (.cells (eSc S) 25)).alloc (.map (.one .str) [] false)).next=H.next+2:=rfl
 generalize (H.alloc (.cells (eSc S) 25)).alloc (.map (.one .str) [] false)=G0 at *
 have l1:=Zaa.lt g1
 have l2:=Zaa.lt g2
 refine Zbs [1,3,19,20] (σ:=List (Tx×Int)) (fun(k:Nat) s=>Zmw s ((S.dims.take k).map (·.name))/\T=Zd1 ((S.dims.take k).map (·.name)) (S.dims.drop k)) (fun k s=>[]) (fun k s=>[(H.next+1,mpT s)]) [] (GStep.refl _ _) (by simp only[ZaA,Zav,Fr.put,Fr.get,↓reduceIte,Nat.reduceEqDiff];rfl) (by intro k s;rfl) (by intro k s;rfl) (by rfl) (by unfold maxLen;omega) ?_ (by simp only[ZaF]) ?_ ?_ ?_
 ·exact⟨Zmw.nil,hT.symm⟩
 ·rw[ZaP];exact⟨g2,by simp[Zc5]⟩
 ·(rintro k M G hk ⟨hM,ht⟩ hG hn;try simp only[nx]at hn)
  have ho:=hG.o (_,_) (zam.2 rfl)
  have hc:=(hG.g _ l1 (by simp)).trans g1
  have lc:=Zaa.lt hc
  have lo:=Zaa.lt ho
  rw[zao hk,Zd1]at ht
  have hC:=fun G=>Zlf S.dims[k] G (hs _ (zaq hk))
  obtain⟨q0,q1,q2,q3⟩:=Za7 S.dims[k]
  have hsn:=ZcR (f:=Dm.name) hk
  have hgn:=hM S.dims[k].name
  by_cases c1:Zdv S.dims[k]≠0
  ·have e3:(Zdv S.dims[k] != 0)=true:=by simpa using c1
   rw[if_pos c1]at ht
   generalize Zdv S.dims[k]=E at *
   rw[ht,if_pos c1]at qr qn
   have hZ:=an7 hk<|an7 q0<|q3;refine Bz3 ?_
   refine qcp (hC _) fun k3=>?_
   have hZ:=e3;refine Bz1 ?_
   refine Zaz rfl ?_
   exact(Zaa.Ext.alloc (hG.ZdB hx0 (by simp))).bump
  ·have e3:(Zdv S.dims[k] != 0)=false:=by simpa using c1
   rw[if_neg c1]at ht
   generalize Zdv S.dims[k]=E at *
   by_cases c2:S.dims[k].name∈(S.dims.take k).map (·.name)
   ·rw[if_pos c2]at ht hgn
    have hF:∀G,G.get (H.next+1)=some (mpT M)->Zay Tryz.prog 89 [.mp (H.next+1),eS S.dims[k].name] G (ZgL (H.next+1) false (ZbU S.dims[k].name 2 M) G):=fun G h=>ZhX h hgn
    have hZ:=an7 hk<|an7 q0<|q3;refine Bz3 ?_
    refine qcp (hC _) fun k3=>?_
    have hZ:=an7 e3<|q1;refine Bz3 ?_
    refine Zap.use (hF _ (by simp only[Zaa.ZaB];rw[Zaa.Zag (by omega)];exact ho)) ?_
    rintro _ G2 ⟨rfl,hx2⟩
    refine Bz0 ?_
    refine Zaz (by rw[ht];rfl) ?_
    exact((hG.alloc.bump (k:=k3)).thn hx2).ZdB hx0 (by simp)
   ·rw[if_neg c2]at ht hgn
    have hF:∀G,G.get (H.next+1)=some (mpT M)->Zay Tryz.prog 89 [.mp (H.next+1),eS S.dims[k].name] G (ZgL (H.next+1) true (ZbU S.dims[k].name 1 M) G):=fun G h=>ZjJ h hgn
    have hZ:=an7 hk<|an7 q0<|q3;refine Bz3 ?_
    refine qcp (hC _) fun k3=>?_
    have hZ:=an7 e3<|q1;refine Bz3 ?_
    refine Zap.use (hF _ (by simp only[Zaa.ZaB];rw[Zaa.Zag (by omega)];exact ho)) ?_
    rintro _ G2 ⟨rfl,hx2⟩
    refine Bz0 ?_
    exact⟨ZbU S.dims[k].name 1 M,⟨by rw[hsn];exact hM.snoc _,by rw[hsn];exact ht⟩,(hG.alloc.bump (k:=k3)).thn hx2⟩
 ·(rintro M G ⟨hM,ht⟩ hG hn;try simp only[nx]at hn)
  rw[zaP]at ht
  have hc:=(hG.g _ l1 (by simp)).trans g1
  have h0:T=0:=by rw[ht];rfl
  have hMs:=fun G=>Zk2 .no S.meas G
  rw[h0]at qr qn
  have hZ:=an7 hc<|f2;refine Bz3 ?_
  refine qcp (hMs _) fun k3=>?_
  refine Bz0 ?_
  exact Zaz (by simp) ((hG.ZdB hx0 (by simp)).bump)
def szT (t:Tr):Int:=(t.terms.length:Int)
theorem ZlN {l:List Int} {n:Int}:rI l++[[.i n]]=rI (l++[n]):=by simp
set_option maxHeartbeats 1000000 in
theorem Zi2 (d:Dm) (H:Zaa) (hl:d.tiers.length<=1000000):Zay Tryz.prog 91 [.agg (eDm d)] H (Pure H (.sl .no (rI (d.tiers.map szT)))):=by
 obtain⟨f0,f1,f2,f3⟩:=Za7 d
 refine Zak hE cf91 (zab rfl) fun Q qr qn=>?_
 have hZ:=f2;refine Bz3 ?_
 have hx0:Zaa.Ext H (H.alloc (.cells (eDm d) 102)):=by exact AXT
 have hn0:(H.alloc (.cells (eDm d) 102)).next=H.next+1:=rfl
 generalize H.alloc (.cells (eDm d) 102)=G0 at *
 refine Zbs [7,8] (σ:=Unit) (fun(k:Nat) s=>True) (fun k s=>[(3,.sl (.own G0.next) (rI ((d.tiers.take k).map szT)))]) (fun k s=>[(G0.next,.tok k 3 1)]) () (GStep.tok 3 3 1 rfl) (by simp only[ZaA,Zav,Fr.put,Fr.get,↓reduceIte,Nat.reduceEqDiff];rfl) (by intro k s;rfl) (by intro k s;rfl) (by rfl) (by unfold maxLen;omega) ?_ (by simp only[ZaF,ZaX,Fr.put,Fr.get,↓reduceIte,Nat.reduceEqDiff,and_self]<;>simp) ?_ ?_ ?_
 ·trivial
 ·rw[ZaP]
  exact⟨Zaa.Zae (H:=G0),by simp[Zc5]⟩
 ·(rintro k s G hk ht hG hn;try simp only[nx]at hn)
  have ho:=hG.o (_,_) (zam.2 rfl)
  have lo:=Zaa.lt ho
  obtain⟨q0,q1,q2,q3,q4⟩:=Zba d.tiers[k]
  have hsn:rI ((d.tiers.take k).map szT)++[[.i (szT d.tiers[k])]]=rI ((d.tiers.take (k+1)).map szT):=by rw[ZcR hk];exact ZlN
  have la1:=Zfq ((d.tiers.take k).map szT)
  have la2:ZaE 1 [[AV.i (d.tiers[k].terms.length:Int)]]=true:=rfl
  have lm1:k+1<=maxLen:=by unfold maxLen;omega
  have lm2:(k+1) * 8<=140737488355328:=by omega
  have hrl:(rI ((d.tiers.take k).map szT)).length=k:=by simp;omega
  have hZ:=an7 hk<|an7 q0<|an7 q2<|an7 q4<|an7 ho<|an7 la1<|an7 la2<|an7 lm1<|an7 lm2<|hrl;refine Bz5 ?_
  exact⟨(),congrArg (AV.sl _) hsn,hG.alloc.put⟩
 ·(rintro s G ht hG hn;try simp only[nx]at hn)
  refine Bz4 ?_
  exact Zcm rfl (hG.ZdB hx0.alloc (by simp;omega))
def Za3 (S:Sc):Shp:=⟨S.dims.map fun d=>d.tiers.map szT,S.meas.length⟩
theorem Zfm (t:Tok) (rows:List (List AV)):Wkn (.sl t rows) (.sl .no rows):=.sl t rows rows rfl (fun i r r' h h'=>by rw[h]at h';injection h' with h';rw[h']) (fun i r r' j x y h h' hx hy=>by
 rw[h]at h';injection h' with h';subst h';rw[hx]at hy;injection hy with hy;rw[hy];exact .refl _)
theorem wkn_shp (t:Tok) (x:Shp):Wkn (.agg [.sl t (rII x.sizes),.i x.measures]) (.agg (Zc3 x)):=by
 refine .agg _ _ rfl (fun i a b ha hb=>?_)
 rw[ZgU]at hb
 match i with
 | 0=>simp at ha hb;subst ha hb;exact Zfm _ _
 | 1=>simp at ha hb;subst ha hb;exact .refl _
 | i+2=>simp at ha
set_option maxHeartbeats 2000000 in
theorem ZiK (S:Sc) (H:Zaa) (hl:S.dims.length<=1000000) (hl2:∀d∈S.dims,d.tiers.length<=1000000):Zay Tryz.prog 49 [.agg (eSc S)] H (Pure H (.agg (Zc3 (Za3 S)))):=by
 obtain⟨f0,f1,f2,f3⟩:=ZbB S
 refine Zak hE cf49 (zab rfl) fun Q qr qn=>?_
 have hZ:=an7 f1<|f2;refine Bz3 ?_
 have hx0:Zaa.Ext H ((((H.alloc (.cells (eSc S) 25)).alloc (.cells [.sl .full [],.i 0] 37)).alloc (.cells [.sl .full [],.i (S.meas.length:Int)] 37))):=by exact AXT
 have g1:((((H.alloc (.cells (eSc S) 25)).alloc (.cells [.sl .full [],.i 0] 37)).alloc (.cells [.sl .full [],.i (S.meas.length:Int)] 37))).get (H.next+1+1)=some (.cells [.sl .full [],.i (S.meas.length:Int)] 37):=Zaa.Zae (H:=(H.alloc _).alloc _)
 have g2:((((H.alloc (.cells (eSc S) 25)).alloc (.cells [.sl .full [],.i 0] 37)).alloc (.cells [.sl .full [],.i (S.meas.length:Int)] 37))).get (H.next+1)=some (.cells [.sl .full [],.i 0] 37):=by
  rw[Zaa.Zag (by simp only[nx];omega)]
  exact Zaa.Zae (H:=H.alloc _)
 have hn0:((((H.alloc (.cells (eSc S) 25)).alloc (.cells [.sl .full [],.i 0] 37)).alloc (.cells [.sl .full [],.i (S.meas.length:Int)] 37))).next=H.next+3:=rfl
 generalize (((H.alloc (.cells (eSc S) 25)).alloc (.cells [.sl .full [],.i 0] 37)).alloc (.cells [.sl .full [],.i (S.meas.length:Int)] 37))=G0 at *
 have l1:=Zaa.lt g1
 have l2:=Zaa.lt g2
 refine Zbs [2,3,11,12] (σ:=Unit) (fun(k:Nat) s=>True) (fun k s=>[]) (fun k s=>[(H.next+1+1,.cells [.sl (.own G0.next) (rII ((S.dims.take k).map fun d=>d.tiers.map szT)),.i (S.meas.length:Int)] 37),(G0.next,.tok k 57 1)]) () (GStep.ZdO (H.next+1+1) 0 37 57 1 g1 rfl) (by simp only[ZaA,Zav,Fr.put,Fr.get,↓reduceIte,Nat.reduceEqDiff];rfl) (by intro k s;rfl) (by intro k s;rfl) (by rfl) (by unfold maxLen;omega) ?_ (by simp only[ZaF]) ?_ ?_ ?_
 ·trivial
 ·rw[ZaP,ZaP]
  refine⟨?_,Zaa.Zae (H:=G0.set _ _),by simp[Zc5]⟩
  rw[Zaa.Zag (by simp only[nx];omega)]
  exact Zaa.Zal l1
 ·(rintro k s G hk ht hG hn;try simp only[nx]at hn)
  have ho1:=hG.o1
  have ho2:=hG.o2
  have lo1:=Zaa.lt ho1
  have lo2:=Zaa.lt ho2
  obtain⟨q0,q1,q2,q3⟩:=Za7 S.dims[k]
  have hC:=fun G=>Zi2 S.dims[k] G (hl2 _ (zaq hk))
  have hsn:rII ((S.dims.take k).map fun d=>d.tiers.map szT)++[[.sl .no (rI (S.dims[k].tiers.map szT))]]=rII ((S.dims.take (k+1)).map fun d=>d.tiers.map szT):=by rw[ZcR hk];simp
  have la1:=ZdQ ((S.dims.take k).map fun d=>d.tiers.map szT)
  have la2:ZaE 1 [[AV.sl .no (rI (S.dims[k].tiers.map szT))]]=true:=rfl
  have lm1:k+1<=maxLen:=by unfold maxLen;omega
  have lm2:(k+1) * 24<=140737488355328:=by omega
  have hrl:(rII ((S.dims.take k).map fun d=>d.tiers.map szT)).length=k:=by simp;omega
  have hZ:=an7 hk<|an7 q0<|an7 q3<|an7 ho1<|ho2;refine Bz3 ?_
  refine qcp (hC _) fun k1=>?_
  have hZ:=an7 hk<|an7 q0<|an7 q3<|an7 ho1<|an7 ho2<|an7 la1<|an7 la2<|an7 lm1<|an7 lm2<|hrl;refine Bz5 ?_
  rw[hsn]
  exact⟨(),hG.alloc.bump.put2 (by omega)⟩
 ·(rintro s G ht hG hn;try simp only[nx]at hn)
  have ho1:=hG.o1
  have hc:=(hG.g (H.next+1) (by simp only[nx];omega) (by simp;omega)).trans ((Zaa.Zag (by simp only[nx];omega)).trans ((Zaa.Zah (by omega)).trans g2))
  have lo1:=Zaa.lt ho1
  have lc:=Zaa.lt hc
  rw[zaK]at ho1
  have hZ:=an7 ho1<|hc;refine Bz1 ?_
  exact Zc1 (wkn_shp _ (Za3 S)) ((hG.ZdB ((hx0.set (by omega)).alloc) (by simp;omega)).set (by omega))
def Zgz (a b:Int):Int:=if a<b then -1 else if a > b then 1 else 0
theorem Zgj (a b:Int) (H:Zaa):Zay Tryz.prog 139 [.i a,.i b] H (Pure H (.i (Zgz a b))):=by
 have hN:∀n H,Zay Tryz.prog 162 [.i n] H (Pure H (.b false)):=fun n H=>by
  refine Zak hE cf162 (zab rfl) fun Q qr qn=>?_
  refine Bz0 ?_
  refine ZbC (by rfl)
 refine Zak hE cf139 (zab rfl) fun Q qr qn=>?_
 refine Bz0 ?_
 refine qcp (hN _ _) fun k1=>?_
 refine Bz0 ?_
 refine qcp (hN _ _) fun k2=>?_
 ((have hd:=tv;repeat' first|(first|apply Zad|apply Zac|apply Zab)<;>intro hd<;>try simp only[hd]|simp(disch:=first|assumption|omega|simp only[nx]<;>omega|fail)only[hd,qr,qn,Zka,↓YA,YY,sevalprocAttr])<;>try revert hd;refine ttr ?_)
 ·refine Zaz (by unfold Zgz;grind)
 ·refine Zaz (by unfold Zgz;grind)
 ·refine Zaz (by unfold Zgz;grind)
def cmpL:List Int->List Int->Int
 | [],[]=>0
 | [],_ :: _ => -1
 | _ :: _,[]=>1
 | a :: r,b :: t=>if Zgz a b≠0 then Zgz a b else cmpL r t
set_option maxHeartbeats 1000000 in
theorem Zkl (t u:Tok) (a b:List Int) (H:Zaa) (hl:a.length<=1000000):Zay Tryz.prog 134 [.sl t (rI a),.sl u (rI b)] H (Pure H (.i (cmpL a b))):=by
 generalize hT:cmpL a b=T
 refine Zak hE cf134 (zab rfl) fun Q qr qn=>?_
 refine Bz2 ?_
 refine Zbs [0,1,9,10] (σ:=Unit) (fun(k:Nat) s=>T=cmpL (a.drop k) (b.drop k)/\k<=b.length) (fun k s=>[]) (fun k s=>[]) () (GStep.refl _ _) (by simp only[ZaA,Zav,Fr.put,Fr.get,↓reduceIte,Nat.reduceEqDiff];rfl) (by intro k s;rfl) (by intro k s;rfl) (by rfl) (by unfold maxLen;omega) ?_ (by simp only[ZaF]) (by simp only[ZaJ]) ?_ ?_
 ·exact⟨hT.symm,zaD _⟩
 ·(rintro k s G hk ⟨ht,hb⟩ hG hn;try simp only[nx]at hn)
  rw[zao hk]at ht
  by_cases h1:k<b.length
  ·have d1:decide ((k:Int)≥(b.length:Int))=false:=decide_eq_false (by omega)
   rw[zao h1,cmpL]at ht
   have hC:=fun G=>Zgj a[k] b[k] G
   generalize Zgz a[k] b[k]=c at *
   by_cases h2:c≠0
   ·have d2:(c != 0)=true:=by simpa using h2
    rw[if_pos h2]at ht
    have hZ:=an7 hk<|an7 h1<|d1;refine Bz3 ?_
    refine qcp (hC _) fun k1=>?_
    have hZ:=d2;refine Bz1 ?_
    refine Zaz (by rw[ht])
   ·have d2:(c != 0)=false:=by simpa using h2
    rw[if_neg h2]at ht
    have hZ:=an7 hk<|an7 h1<|d1;refine Bz3 ?_
    refine qcp (hC _) fun k1=>?_
    have hZ:=d2;refine Bz1 ?_
    refine⟨(),by exact⟨ht,by omega⟩,by exact HXT⟩
  ·have d1:decide ((k:Int)≥(b.length:Int))=true:=decide_eq_true (by omega)
   have e0:b.drop k=[]:=zbw (by omega)
   rw[e0]at ht
   simp only[cmpL]at ht
   have hZ:=an7 hk<|d1;refine Bz3 ?_
   refine Zaz (by rw[ht])
 ·(rintro s G ⟨ht,hb⟩ hG hn;try simp only[nx]at hn)
  rw[zaP]at ht
  by_cases h1:a.length<b.length
  ·have d1:decide ((a.length:Int)<(b.length:Int))=true:=decide_eq_true (by omega)
   rw[zao h1,cmpL]at ht
   have hZ:=d1;refine Bz3 ?_
   refine Zaz (by rw[ht])
  ·have d1:decide ((a.length:Int)<(b.length:Int))=false:=decide_eq_false (by omega)
   have e0:b.drop a.length=[]:=zbw (by omega)
   rw[e0]at ht
   simp only[cmpL]at ht
   have hZ:=d1;refine Bz3 ?_
   refine Zaz (by rw[ht])
theorem Zbu (f:Fct):(ZcI f).length=11/\(ZcI f)[0]?=some (.sl .no (rI f.1))/\((ZcI f).drop 1).take 10=eAg f.2/\(ZcI f).take 11=ZcI f:=⟨rfl,rfl,rfl,rfl⟩
theorem ZjV {l:List Fct} {k:Nat} (h:k<l.length):(rF l)[k]?=some (ZcI l[k]):=by simp[h]
theorem ZkR (f g:Fct) (H:Zaa) (hl:f.1.length<=1000000):Zay Tryz.prog 93 [.agg (ZcI f),.agg (ZcI g)] H (Pure H (.i (cmpL f.1 g.1))):=by
 obtain⟨f0,f1,f2,f3⟩:=Zbu f
 obtain⟨g0,g1,g2,g3⟩:=Zbu g
 have hC:=fun G=>Zkl .no .no f.1 g.1 G hl
 refine Zak hE cf93 (zab rfl) fun Q qr qn=>?_
 have hZ:=an7 f1<|g1;refine Bz1 ?_
 refine qcp (hC _) fun k1=>?_
 refine Bz0 ?_
 refine Zaz (by rfl)
def Zdr:List Int->List (List Int)->Int
 | [],_=>0
 | _ :: _,[]=>13
 | k :: ks,s :: ss=>if s.length=0\/k<0\/k≥s.headD 0 then 13 else Zdr ks ss
def Zb8 (x:Shp) (f:Fct):Int:=if f.1.length≠x.sizes.length then 2 else if Zdr f.1 x.sizes≠0 then Zdr f.1 x.sizes else if Zbw x.measures f.2=false then 2 else 0
theorem Zc6 (x:Shp):(Zc3 x).length=2/\(Zc3 x)[0]?=some (.sl .no (rII x.sizes))/\(Zc3 x)[1]?=some (.i x.measures)/\(Zc3 x).take 2=Zc3 x:=⟨rfl,rfl,rfl,rfl⟩
set_option maxHeartbeats 2000000 in
theorem ZhP (x:Shp) (f:Fct) (H:Zaa) (hxl:x.sizes.length<=1000000):Zay Tryz.prog 92 [.agg (Zc3 x),.agg (ZcI f)] H (Pure H (.i (Zb8 x f))):=by
 obtain⟨f0,f1,f2,f3⟩:=Zbu f
 obtain⟨x0,x1,x2,x3⟩:=Zc6 x
 by_cases h1:f.1.length≠x.sizes.length
 ·have hv:Zb8 x f=2:=by rw[Zb8,if_pos h1]
  have d1:((f.1.length:Int) != (x.sizes.length:Int))=true:=by simp;omega
  rw[hv]
  refine Zak hE cf92 (zab rfl) fun Q qr qn=>?_
  have hZ:=an7 f1<|an7 x1<|d1;refine Bz3 ?_
  refine Zaz (by rfl)
 have h1':f.1.length=x.sizes.length:=by simpa using h1
 have hl:f.1.length<=1000000:=by omega
 have d1:((f.1.length:Int) != (x.sizes.length:Int))=false:=by simp;omega
 have hv:Zb8 x f=if Zdr f.1 x.sizes≠0 then Zdr f.1 x.sizes else if Zbw x.measures f.2=false then 2 else 0:=by rw[Zb8,if_neg h1]
 rw[hv]
 generalize hT:Zdr f.1 x.sizes=T
 refine Zak hE cf92 (zab rfl) fun Q qr qn=>?_
 have hZ:=an7 f1<|an7 x1<|d1;refine Bz3 ?_
 have hx0:Zaa.Ext H ((H.alloc (.cells (Zc3 x) 37)).alloc (.cells (ZcI f) 88)):=by exact AXT
 have g1:((H.alloc (.cells (Zc3 x) 37)).alloc (.cells (ZcI f) 88)).get H.next=some (.cells (Zc3 x) 37):=by
  rw[Zaa.Zag (by simp only[nx];omega)];exact Zaa.Zae (H:=H)
 have g2:((H.alloc (.cells (Zc3 x) 37)).alloc (.cells (ZcI f) 88)).get (H.next+1)=some (.cells (ZcI f) 88):=Zaa.Zae (H:=H.alloc _)
 generalize (H.alloc (.cells (Zc3 x) 37)).alloc (.cells (ZcI f) 88)=G0 at *
 have l1:=Zaa.lt g1
 have l2:=Zaa.lt g2
 refine Zbs [2,3,15,16] (σ:=Unit) (fun(k:Nat) s=>T=Zdr (f.1.drop k) (x.sizes.drop k)) (fun k s=>[]) (fun k s=>[]) () (GStep.refl _ _) (by simp only[ZaA,Zav,Fr.put,Fr.get,↓reduceIte,Nat.reduceEqDiff];rfl) (by intro k s;rfl) (by intro k s;rfl) (by rfl) (by unfold maxLen;omega) ?_ (by simp only[ZaF]) (by simp only[ZaJ]) ?_ ?_
 ·exact hT.symm
 ·(rintro k s G hk ht hG hn;try simp only[nx]at hn)
  have hc1:=(hG.get _ l1).trans g1
  have hc2:=(hG.get _ l2).trans g2
  have lc1:=Zaa.lt hc1
  have lc2:=Zaa.lt hc2
  have hk2:k<x.sizes.length:=by omega
  rw[zao hk,zao hk2,Zdr]at ht
  by_cases c:x.sizes[k].length=0\/f.1[k]<0\/f.1[k]≥x.sizes[k].headD 0
  ·rw[if_pos c]at ht
   cases hs:x.sizes[k]with
   | nil =>
    have e1:(((x.sizes[k].length:Nat):Int) == 0)=true:=by rw[hs];rfl
    have hZ:=an7 hc1<|an7 hc2<|an7 x1<|an7 f1<|an7 hk<|an7 hk2<|e1;refine Bz3 ?_
    refine Zaz (by rw[ht];rfl)
   | cons z zs =>
    have e1:(((x.sizes[k].length:Nat):Int) == 0)=false:=by rw[hs,beq_eq_false_iff_ne];simp;omega
    have ez:(rI x.sizes[k])[0]?=some [.i z]:=by rw[hs];rfl
    rw[hs]at c
    by_cases c2:f.1[k]<0
    ·have e2:decide (f.1[k]<0)=true:=decide_eq_true c2
     have hZ:=an7 hc1<|an7 hc2<|an7 x1<|an7 f1<|an7 hk<|an7 hk2<|an7 e1<|e2;refine Bz3 ?_
     refine Zaz (by rw[ht];rfl)
    ·have e2:decide (f.1[k]<0)=false:=decide_eq_false c2
     have e3:decide (f.1[k]≥z)=true:=decide_eq_true (by simpa [c2] using c)
     have hZ:=an7 hc1<|an7 hc2<|an7 x1<|an7 f1<|an7 hk<|an7 hk2<|an7 e1<|an7 e2<|an7 ez<|e3;refine Bz3 ?_
     refine Zaz (by rw[ht];rfl)
  ·rw[if_neg c]at ht
   cases hs:x.sizes[k]with
   | nil=>exact absurd (.inl (by rw[hs];rfl)) c
   | cons z zs =>
    have e1:(((x.sizes[k].length:Nat):Int) == 0)=false:=by rw[hs,beq_eq_false_iff_ne];simp;omega
    have ez:(rI x.sizes[k])[0]?=some [.i z]:=by rw[hs];rfl
    rw[hs]at c
    simp only[List.headD_cons,not_or]at c
    have e2:decide (f.1[k]<0)=false:=decide_eq_false c.2.1
    have e3:decide (f.1[k]≥z)=false:=decide_eq_false c.2.2
    have hZ:=an7 hc1<|an7 hc2<|an7 x1<|an7 f1<|an7 hk<|an7 hk2<|an7 e1<|an7 e2<|an7 ez<|e3;refine Bz3 ?_
    refine⟨(),by exact ht,by exact HXT⟩
 ·(rintro s G ht hG hn;try simp only[nx]at hn)
  have hc1:=(hG.get _ l1).trans g1
  have hc2:=(hG.get _ l2).trans g2
  rw[zaP]at ht
  have h0:T=0:=by rw[ht];simp[Zdr]
  have hM:=fun G=>Zgm x.measures f.2 G
  have hb:=bfb (Zbw x.measures f.2)
  rcases hb with hb|hb<;>rw[hb]at hM
  ·have hZ:=an7 hc1<|an7 hc2<|an7 x2<|an7 f0<|f2;refine Bz1 ?_
   refine qcp (hM _) fun k1=>?_
   refine Bz0 ?_
   refine Zaz (by rw[h0,hb];rfl)
  ·have hZ:=an7 hc1<|an7 hc2<|an7 x2<|an7 f0<|f2;refine Bz1 ?_
   refine qcp (hM _) fun k1=>?_
   refine Bz0 ?_
   refine Zaz (by rw[h0,hb];rfl)
def geF (w:Option Fct) (f:Fct):Bool:=match w with
 | some q=>decide (cmpL q.1 f.1≥0)
 | none=>false
def Zd7 (x:Shp):Option Fct->List Fct->Int
 | _,[]=>0
 | w,f :: r=>if Zb8 x f≠0 then Zb8 x f else if geF w f=true then 4 else Zd7 x (some f) r
theorem Zf5 (x:Shp) (w:Option Fct) (f:Fct) (r:List Fct):Zd7 x w (f :: r)=if Zb8 x f≠0 then Zb8 x f else if geF w f=true then 4 else Zd7 x (some f) r:=by simp only[Zd7]
def Ze2 (l:List Fct) (k:Nat):Option Fct:=match k with
 | 0=>none
 | k+1=>l[k]?
set_option maxHeartbeats 2000000 in
theorem Zde (t:Tok) (x:Shp) (l:List Fct) (H:Zaa) (hl:l.length<=1000000) (hxl:x.sizes.length<=1000000):Zay Tryz.prog 50 [.agg (Zc3 x),.sl t (rF l)] H (Pure H (.i (Zd7 x none l))):=by
 obtain⟨x0,x1,x2,x3⟩:=Zc6 x
 generalize hT:Zd7 x none l=T
 refine Zak hE cf50 (zab rfl) fun Q qr qn=>?_
 refine Bz2 ?_
 have hx0:Zaa.Ext H (H.alloc (.cells (Zc3 x) 37)):=by exact AXT
 have g1:(H.alloc (.cells (Zc3 x) 37)).get H.next=some (.cells (Zc3 x) 37):=Zaa.Zae (H:=H)
 generalize H.alloc (.cells (Zc3 x) 37)=G0 at *
 have l1:=Zaa.lt g1
 refine Zbs [1,2,8,9] (σ:=Unit) (fun(k:Nat) s=>T=Zd7 x (Ze2 l k) (l.drop k)/\∀f∈l.take k,f.1.length=x.sizes.length) (fun k s=>[]) (fun k s=>[]) () (GStep.refl _ _) (by simp only[ZaA,Zav,Fr.put,Fr.get,↓reduceIte,Nat.reduceEqDiff];rfl) (by intro k s;rfl) (by intro k s;rfl) (by rfl) (by unfold maxLen;omega) ?_ (by simp only[ZaF]) (by simp only[ZaJ]) ?_ ?_
 ·exact⟨hT.symm,by simp⟩
 ·(rintro k s G hk ⟨ht,hpre⟩ hG hn;try simp only[nx]at hn)
  have hc1:=(hG.get _ l1).trans g1
  have lc1:=Zaa.lt hc1
  rw[zao hk,Zf5]at ht
  have hC:=fun G=>ZhP x l[k] G hxl
  have hnx:¬Zb8 x l[k]≠0->∀f∈l.take (k+1),f.1.length=x.sizes.length:=fun h f hf=>by
   rw[zar hk]at hf
   rcases zav.1 hf with hf|hf
   ·exact hpre f hf
   ·rw[zam.1 hf]
    have h:=zaQ.1 h
    unfold Zb8 at h
    split at h
    ·omega
    ·omega
  obtain⟨f0,f1,f2,f3⟩:=Zbu l[k]
  by_cases c1:Zb8 x l[k]≠0
  ·have d1:(Zb8 x l[k] != 0)=true:=by simpa using c1
   rw[if_pos c1]at ht
   generalize Zb8 x l[k]=E at *
   have hZ:=an7 hc1<|an7 hk<|an7 x0<|an7 x3<|an7 f0<|f3;refine Bz3 ?_
   refine qcp (hC _) fun k1=>?_
   have hZ:=d1;refine Bz1 ?_
   refine Zaz (by rw[ht])
  ·have d1:(Zb8 x l[k] != 0)=false:=by simpa using c1
   rw[if_neg c1]at ht
   generalize Zb8 x l[k]=E at *
   cases k with
   | zero =>
    have d2:decide (((0:Nat):Int) > 0)=false:=by decide
    have hZ:=an7 hc1<|an7 hk<|an7 x0<|an7 x3<|an7 f0<|f3;refine Bz3 ?_
    refine qcp (hC _) fun k1=>?_
    have hZ:=an7 d1<|an7 d2<|an7 hc1<|an7 hk<|an7 x0<|an7 x3<|an7 f0<|f3;refine Bz3 ?_
    refine⟨(),by exact⟨by rw[ht];simp[Ze2,hk,geF],hnx c1⟩,by exact HXT⟩
   | succ j =>
    have d2:decide (((j+1:Nat):Int) > 0)=true:=decide_eq_true (by omega)
    have hj:j<l.length:=by omega
    have hw:IntKind.i64.wrap (((j+1:Nat):Int) - 1)=(j:Int):=by rw[show((j+1:Nat):Int) - 1=(j:Int) by omega];exact Zaw (by omega) (by omega)
    have hp:Ze2 l (j+1)=some l[j]:=by simp[Ze2,hj]
    have hp2:Ze2 l (j+1+1)=some l[j+1]:=by simp[Ze2,hk]
    obtain⟨j0,j1,j2,j3⟩:=Zbu l[j]
    have hK:=fun G=>ZkR l[j] l[j+1] G (by rw[hpre l[j] (by rw[zby];exact⟨j,by omega,rfl⟩)];exact hxl)
    rw[hp]at ht
    have hb0:=bfb (geF (some l[j]) l[j+1])
    rcases hb0 with hb0|hb0
    ·rw[if_neg (by rw[hb0];decide)]at ht
     have hb:decide (cmpL l[j].1 l[j+1].1≥0)=false:=hb0
     have hZ:=an7 hc1<|an7 hk<|an7 x0<|an7 x3<|an7 f0<|f3;refine Bz3 ?_
     refine qcp (hC _) fun k1=>?_
     have hZ:=an7 d1<|an7 d2<|an7 hw<|an7 hc1<|an7 hk<|an7 hj<|an7 x0<|an7 x3<|an7 f0<|an7 f3<|an7 j0<|j3;refine Bz3 ?_
     refine qcp (hK _) fun k2=>?_
     have hZ:=an7 hb<|an7 d1<|an7 d2<|an7 hw<|an7 hc1<|an7 hk<|an7 hj<|an7 x0<|an7 x3<|an7 f0<|an7 f3<|an7 j0<|j3;refine Bz3 ?_
     refine⟨(),by exact⟨by rw[hp2];exact ht,hnx c1⟩,by exact HXT⟩
    ·rw[if_pos hb0]at ht
     have hb:decide (cmpL l[j].1 l[j+1].1≥0)=true:=hb0
     have hZ:=an7 hc1<|an7 hk<|an7 x0<|an7 x3<|an7 f0<|f3;refine Bz3 ?_
     refine qcp (hC _) fun k1=>?_
     have hZ:=an7 d1<|an7 d2<|an7 hw<|an7 hc1<|an7 hk<|an7 hj<|an7 x0<|an7 x3<|an7 f0<|an7 f3<|an7 j0<|j3;refine Bz3 ?_
     refine qcp (hK _) fun k2=>?_
     have hZ:=an7 hb<|an7 d1<|an7 d2<|an7 hw<|an7 hc1<|an7 hk<|an7 hj<|an7 x0<|an7 x3<|an7 f0<|an7 f3<|an7 j0<|j3;refine Bz3 ?_
     refine Zaz (by rw[ht])
 ·(rintro s G ⟨ht,hpre⟩ hG hn;try simp only[nx]at hn)
  rw[zaP]at ht
  refine Bz0 ?_
  refine Zaz (by rw[ht];simp[Zd7])
def Zdj (t:Tr) (i:Int):Int:=if i<0\/i≥(t.up.length:Int) then -1 else t.up.getD i.toNat 0
theorem ZkM (t:Tr) (i:Int) (H:Zaa):Zay Tryz.prog 159 [.agg (eTr t),.i i] H (Pure H (.i (Zdj t i))):=by
 obtain⟨f0,f1,f2,f3,f4⟩:=Zba t
 by_cases h1:i<0
 ·have d1:decide (i<0)=true:=decide_eq_true h1
  have hv:Zdj t i = -1:=by rw[Zdj,if_pos (.inl h1)]
  rw[hv]
  refine Zak hE cf159 (zab rfl) fun Q qr qn=>?_
  have hZ:=d1;refine Bz1 ?_
  refine Zaz (by rfl)
 have d1:decide (i<0)=false:=decide_eq_false h1
 by_cases h2:i≥(t.up.length:Int)
 ·have d2:decide (i≥(t.up.length:Int))=true:=decide_eq_true h2
  have hv:Zdj t i = -1:=by rw[Zdj,if_pos (.inr h2)]
  rw[hv]
  refine Zak hE cf159 (zab rfl) fun Q qr qn=>?_
  have hZ:=an7 d1<|an7 d2<|f3;refine Bz3 ?_
  refine Zaz (by rfl)
 have d2:decide (i≥(t.up.length:Int))=false:=decide_eq_false h2
 obtain⟨n,rfl⟩:∃n:Nat,i=n:=⟨i.toNat,by omega⟩
 have hn:n<t.up.length:=by omega
 have hv:Zdj t n=t.up[n]:=by rw[Zdj,if_neg (by omega)];simp[hn]
 rw[hv]
 refine Zak hE cf159 (zab rfl) fun Q qr qn=>?_
 have hZ:=an7 d1<|an7 d2<|an7 f3<|hn;refine Bz3 ?_
 refine Zaz (by rfl)
theorem Zes (d:Dm) (k:Int) (H:Zaa):Zay Tryz.prog 135 [.agg (eDm d),.i k] H (Pure H (.b (decide (k≥0)&&decide (k<(d.tiers.length:Int))))):=by
 obtain⟨f0,f1,f2,f3⟩:=Za7 d
 have hb:=bfb (decide (k≥0))
 rcases hb with hb|hb<;>rw[hb]
 ·refine Zak hE cf135 (zab rfl) fun Q qr qn=>?_
  have hZ:=hb;refine Bz1 ?_
  refine ZbC (by rfl)
 ·refine Zak hE cf135 (zab rfl) fun Q qr qn=>?_
  have hZ:=an7 hb<|f2;refine Bz3 ?_
  refine ZbC (by rfl)
def ups:List Tr->Int->Int
 | [],i=>i
 | t :: r,i=>if i≥0 then ups r (Zdj t i) else i
def bot (v:Int):Int:=if (-1:Int) > v then -1 else v
def n0 (d:Dm):Nat:=((d.tiers[0]?).map (·.terms.length)).getD 0
def Zdo (d:Dm) (to:Nat) (i:Nat):Int:=bot (ups (d.tiers.take to) i)
set_option maxHeartbeats 2000000 in
theorem Zkn (d:Dm) (to i:Nat) (H:Zaa) (ht:to<d.tiers.length) (hi:i<n0 d) (hl:d.tiers.length<=1000000):Zay Tryz.prog 136 [.agg (eDm d),.i 0,.i (to:Int),.i (i:Int)] H (Pure H (.i (Zdo d to i))):=by
 obtain⟨f0,f1,f2,f3⟩:=Za7 d
 have h0:0<d.tiers.length:=by omega
 have hn:n0 d=d.tiers[0].terms.length:=by simp[n0,h0]
 have hH1:∀G,Zay Tryz.prog 135 [.agg (eDm d),.i 0] G (Pure G (.b true)):=fun G=>by
  have:=Zes d 0 G
  rw[show(decide ((0:Int)≥0)&&decide ((0:Int)<(d.tiers.length:Int)))=true by simp;omega]at this
  exact this
 have hH2:∀G,Zay Tryz.prog 135 [.agg (eDm d),.i (to:Int)] G (Pure G (.b true)):=fun G=>by
  have:=Zes d to G
  rw[show(decide ((to:Int)≥0)&&decide ((to:Int)<(d.tiers.length:Int)))=true by simp;omega]at this
  exact this
 have d1:decide ((0:Int) > (to:Int))=false:=decide_eq_false (by omega)
 have d2:decide ((i:Int)<0)=false:=decide_eq_false (by omega)
 have d3:decide ((i:Int)≥(d.tiers[0].terms.length:Int))=false:=decide_eq_false (by omega)
 obtain⟨q0,q1,q2,q3,q4⟩:=Zba d.tiers[0]
 have hg0:(rT d.tiers)[0]?=some (eTr d.tiers[0]):=Zdh h0
 unfold Zdo
 generalize hT:ups (d.tiers.take to) i=T
 refine Zak hE cf136 (zab rfl) fun Q qr qn=>?_
 have hZ:=an7 f3<|f0;refine Bz3 ?_
 refine qcp (hH1 _) fun k1=>?_
 have hZ:=an7 f3<|f0;refine Bz3 ?_
 refine qcp (hH2 _) fun k2=>?_
 have hZ:=an7 f3<|an7 f0<|an7 f2<|an7 d1<|an7 d2<|an7 d3<|an7 hg0<|an7 q0<|an7 q2<|h0;refine Bz3 ?_
 have hx0:Zaa.Ext H (((H.alloc (.cells (eDm d) 102)).bump k1).bump k2):=by exact AXT
 have g1:(((H.alloc (.cells (eDm d) 102)).bump k1).bump k2).get H.next=some (.cells (eDm d) 102):=Zaa.Zae (H:=H)
 generalize ((H.alloc (.cells (eDm d) 102)).bump k1).bump k2=G0 at *
 have l1:=Zaa.lt g1
 clear hH1 hH2 d1 d2 d3
 refine Zcw [2,4] (σ:=Nat×Int) (fun s=>s.1<=to/\T=ups ((d.tiers.take to).drop s.1) s.2) (fun s=>to - s.1) (fun s=>[(3,.i s.2),(9,.i (s.1:Int))]) (fun s=>[]) ((0:Nat),(i:Int)) (GStep.refl _ _) (by simp only[ZaA,Zav,Fr.put,Fr.get,↓reduceIte,Nat.reduceEqDiff];rfl) ?_ (by simp only[ZaF,ZaX,Fr.put,Fr.get,↓reduceIte,Nat.reduceEqDiff,and_self]<;>simp) (by simp only[ZaJ]) ?_
 ·exact⟨zaD _,hT.symm⟩
 ·(rintro s G ⟨hs,hT⟩ hG hn1;try simp only[nx]at hn1)
  obtain⟨k,v⟩:=s
  simp only at hs hT hG
  have hc:=(hG.get _ l1).trans g1
  have lc:=Zaa.lt hc
  by_cases c1:k<to
  ·have e1:decide ((k:Int)<(to:Int))=true:=decide_eq_true (by omega)
   have hk:k<(d.tiers.take to).length:=by rw[za9];omega
   have hk2:k<d.tiers.length:=by omega
   rw[zao hk,ups,zcO]at hT
   by_cases c2:v≥0
   ·have e2:decide (v≥0)=true:=decide_eq_true c2
    rw[if_pos c2]at hT
    have hO:=fun G=>ZkM d.tiers[k] v G
    obtain⟨p0,p1,p2,p3,p4⟩:=Zba d.tiers[k]
    have hw:IntKind.i64.wrap ((k:Int)+1)=((k+1:Nat):Int):=by rw[show(k:Int)+1=((k+1:Nat):Int) by omega];exact Zaw (by omega) (by omega)
    have hZ:=an7 e1<|an7 e2<|an7 hc<|an7 f2<|an7 hk2<|an7 p0<|p4;refine Bz3 ?_
    refine qcp (hO _) fun k3=>?_
    have hZ:=hw;refine Bz1 ?_
    exact⟨(k+1,Zdj d.tiers[k] v),⟨by omega,hT⟩,by omega,by simp,by exact HXT⟩
   ·have e2:decide (v≥0)=false:=decide_eq_false c2
    rw[if_neg c2]at hT
    have hZ:=an7 e1<|e2;refine Bz1 ?_
    refine Zaz (by rw[hT];rfl)
  ·have e1:decide ((k:Int)<(to:Int))=false:=decide_eq_false (by omega)
   have hd:(d.tiers.take to).drop k=[]:=zbw (by rw[za9];omega)
   rw[hd,ups]at hT
   have hZ:=e1;refine Bz1 ?_
   refine Zaz (by rw[hT];rfl)
def mapD (d:Dm) (k:Nat):List Int:=(List.range (n0 d)).map fun i=>Zdo d k i
theorem Zgv {n k:Nat} (h:k<n) {α:Type} (f:Nat->α):((List.range n).take (k+1)).map f=((List.range n).take k).map f++[f k]:=by
 rw[zar (by simpa using h),zaV];simp
set_option maxHeartbeats 2000000 in
theorem ZlG (d:Dm) (k:Nat) (H:Zaa) (ht:k<d.tiers.length) (hl:d.tiers.length<=1000000) (hn:n0 d<=1000000):Zay Tryz.prog 96 [.agg (eDm d),.i 0,.i (k:Int)] H (Pure H (.sl .no (rI (mapD d k)))):=by
 obtain⟨f0,f1,f2,f3⟩:=Za7 d
 have h0:0<d.tiers.length:=by omega
 have hn0:n0 d=d.tiers[0].terms.length:=by simp[n0,h0]
 have hH1:∀G,Zay Tryz.prog 135 [.agg (eDm d),.i 0] G (Pure G (.b true)):=fun G=>by
  have:=Zes d 0 G
  rw[show(decide ((0:Int)≥0)&&decide ((0:Int)<(d.tiers.length:Int)))=true by simp;omega]at this
  exact this
 have hH2:∀G,Zay Tryz.prog 135 [.agg (eDm d),.i (k:Int)] G (Pure G (.b true)):=fun G=>by
  have:=Zes d k G
  rw[show(decide ((k:Int)≥0)&&decide ((k:Int)<(d.tiers.length:Int)))=true by simp;omega]at this
  exact this
 have d1:decide ((0:Int) > (k:Int))=false:=decide_eq_false (by omega)
 obtain⟨q0,q1,q2,q3,q4⟩:=Zba d.tiers[0]
 have hg0:(rT d.tiers)[0]?=some (eTr d.tiers[0]):=Zdh h0
 unfold mapD
 refine Zak hE cf96 (zab rfl) fun Q qr qn=>?_
 have hZ:=an7 f3<|f0;refine Bz3 ?_
 refine qcp (hH1 _) fun k1=>?_
 have hZ:=an7 f3<|f0;refine Bz3 ?_
 refine qcp (hH2 _) fun k2=>?_
 have hZ:=an7 f3<|an7 f0<|an7 f2<|an7 d1<|an7 hg0<|an7 q0<|an7 q2<|h0;refine Bz3 ?_
 have hx0:Zaa.Ext H (((H.alloc (.cells (eDm d) 102)).bump k1).bump k2):=by exact AXT
 have g1:(((H.alloc (.cells (eDm d) 102)).bump k1).bump k2).get H.next=some (.cells (eDm d) 102):=Zaa.Zae (H:=H)
 generalize ((H.alloc (.cells (eDm d) 102)).bump k1).bump k2=G0 at *
 have l1:=Zaa.lt g1
 clear hH1 hH2 d1
 rw[<- hn0]
 have hL:=fun G i h=>Zkn d k i G ht h hl
 generalize n0 d=N at *
 generalize Zdo d k=L at *
 refine Zbs [1,2,3,30] (σ:=Unit) (fun(k:Nat) s=>True) (fun k s=>[(7,.sl (.own G0.next) (rI (((List.range N).take k).map fun i=>L i)))]) (fun k s=>[(G0.next,.tok k 3 1)]) () (GStep.tok 7 3 1 rfl) (by simp only[ZaA,Zav,Fr.put,Fr.get,↓reduceIte,Nat.reduceEqDiff];rfl) (by intro k s;rfl) (by intro k s;rfl) (by rfl) (by unfold maxLen;omega) ?_ (by simp only[ZaF,ZaX,Fr.put,Fr.get,↓reduceIte,Nat.reduceEqDiff,and_self]<;>simp) ?_ ?_ ?_
 ·trivial
 ·rw[ZaP]
  exact⟨Zaa.Zae (H:=G0),by simp[Zc5]⟩
 ·(rintro j s G hk ht1 hG hn;try simp only[nx]at hn)
  have ho:=hG.o1
  have lo:=Zaa.lt ho
  have hc:=(hG.g _ (by simp only[nx];omega) (by simp;omega)).trans ((Zaa.Zag (by omega)).trans g1)
  have lc:=Zaa.lt hc
  have hC:=fun G=>hL G j hk
  have hsn:rI (((List.range N).take j).map fun i=>L i)++[[.i (L j)]]=rI (((List.range N).take (j+1)).map fun i=>L i):=by rw[Zgv hk];exact ZlN
  have la1:=Zfq (((List.range N).take j).map fun i=>L i)
  have la2:ZaE 1 [[AV.i (L j)]]=true:=rfl
  have lm1:j+1<=maxLen:=by unfold maxLen;omega
  have lm2:(j+1) * 8<=140737488355328:=by omega
  have hrl:(rI (((List.range N).take j).map fun i=>L i)).length=j:=by simp;omega
  have hZ:=an7 hc<|an7 f0<|f3;refine Bz1 ?_
  refine qcp (hC _) fun k3=>?_
  have hZ:=an7 ho<|an7 la1<|an7 la2<|an7 lm1<|an7 lm2<|hrl;refine Bz5 ?_
  exact⟨(),congrArg (AV.sl _) hsn,hG.bump.put⟩
 ·(rintro s G ht1 hG hn;try simp only[nx]at hn)
  refine Bz0 ?_
  have e:(List.range N).take N=List.range N:=zaG (by simp)
  rw[e]
  exact Zcm rfl (hG.ZdB hx0.alloc (by simp;omega))
abbrev rIII (l:List (List (List Int))):List (List AV):=l.map fun m=>[.sl .no (rII m)]
abbrev rIIt (ts:List (Tok×List (List Int))):List (List AV):=ts.map fun p=>[.sl p.1 (rII p.2)]
theorem ZiQ (l:List (Tok×List (List Int))):ZaE 1 (rIIt l)=true:=ZaU (f:=fun p:Tok×List (List Int)=>[AV.sl p.1 (rII p.2)]) (fun _=>rfl) l
theorem wkn_rIII (t:Tok) (ts:List (Tok×List (List Int))):Wkn (.sl t (rIIt ts)) (.sl .no (rIII (ts.map (·.2)))):=by
 refine .sl _ _ _ (by simp) (fun i r r' h h'=>?_) (fun i r r' j x y h h' hx hy=>?_)
 ·simp only[zaL,zbt]at h h'
  cases hi:ts[i]? with
  | none=>rw[hi]at h;cases h
  | some p=>rw[hi]at h h';simp at h h';subst h h';rfl
 ·simp only[zaL,zbt]at h h'
  cases hi:ts[i]? with
  | none=>rw[hi]at h;cases h
  | some p =>
   rw[hi]at h h'
   simp at h h'
   subst h h'
   cases j with
   | zero=>simp at hx hy;subst hx hy;exact Zfm _ _
   | succ j=>simp at hx
theorem HX.over {a b:Nat} {x y o:Zb3} {H G1 G2:Zaa} (h:HX [(a,x)] H G1) (k:HX [(b,y)] (G1.alloc o) G2) (hb:b=G1.next):HX [(a,x)] H G2:=by
 have la:=Zaa.lt h.o1
 have kn:=k.n
 have hn:=h.n
 simp only[nx]at kn
 refine⟨by omega,?_,fun i hi hne=>?_⟩
 ·rw[ZaP]
  exact⟨(k.g a (by simp only[nx];omega) (by simp;omega)).trans ((Zaa.Zag (by omega)).trans h.o1),by simp[Zc5]⟩
 ·exact(k.g i (by simp only[nx];omega) (by simp;omega)).trans ((Zaa.Zag (by omega)).trans (h.g i hi hne))
def Zct (d:Dm):List (List Int):=(List.range d.tiers.length).map fun k=>mapD d k
def Zan (S:Sc):List (List (List Int)):=S.dims.map Zct
set_option maxHeartbeats 4000000 in
theorem Zjk (S:Sc) (H:Zaa) (hl:S.dims.length<=1000000) (hl2:∀d∈S.dims,d.tiers.length<=1000000/\n0 d<=1000000):Zay Tryz.prog 52 [.agg (eSc S)] H (Pure H (.sl .no (rIII (Zan S)))):=by
 obtain⟨f0,f1,f2,f3⟩:=ZbB S
 refine Zak hE cf52 (zab rfl) fun Q qr qn=>?_
 have hZ:=f1;refine Bz3 ?_
 have hx0:Zaa.Ext H (H.alloc (.cells (eSc S) 25)):=by exact AXT
 have hn0:(H.alloc (.cells (eSc S) 25)).next=H.next+1:=rfl
 generalize H.alloc (.cells (eSc S) 25)=G0 at *
 refine Zbs [9,10] (σ:=List (Tok×List (List Int))) (fun(k:Nat) s=>s.map (·.2)=(S.dims.take k).map Zct) (fun k s=>[(3,.sl (.own G0.next) (rIIt s))]) (fun k s=>[(G0.next,.tok k 35 1)]) [] (GStep.tok 3 35 1 rfl) (by simp only[ZaA,Zav,Fr.put,Fr.get,↓reduceIte,Nat.reduceEqDiff];rfl) (by intro k s;rfl) (by intro k s;rfl) (by rfl) (by unfold maxLen;omega) ?_ (by simp only[ZaF,ZaX,Fr.put,Fr.get,↓reduceIte,Nat.reduceEqDiff,and_self]<;>simp) ?_ ?_ ?_
 ·simp
 ·rw[ZaP]
  exact⟨Zaa.Zae (H:=G0),by simp[Zc5]⟩
 ·(rintro k ts G hk ht hG hn;try simp only[nx]at hn)
  have ho:=hG.o1
  have lo:=Zaa.lt ho
  obtain⟨q0,q1,q2,q3⟩:=Za7 S.dims[k]
  obtain⟨b1,b2⟩:=hl2 _ (zaq hk)
  have hM:=ZlG S.dims[k]
  have hZ:=an7 hk<|an7 q0<|an7 q2<|q3;refine Bz3 ?_
  have hG1:HX [(G0.next,.tok k 35 1)] (G0.alloc (.tok 0 35 1)) (G.alloc (.cells (eDm S.dims[k]) 102)):=hG.alloc
  have g1:(G.alloc (.cells (eDm S.dims[k]) 102)).get G.next=some (.cells (eDm S.dims[k]) 102):=Zaa.Zae (H:=G)
  have hn1:(G.alloc (.cells (eDm S.dims[k]) 102)).next=G.next+1:=rfl
  generalize G.alloc (.cells (eDm S.dims[k]) 102)=G1 at *
  have l1:=Zaa.lt g1
  have hlen:ts.length=k:=by
   have:=congrArg List.length ht
   simp at this;omega
  generalize hD:S.dims[k]=D at *
  refine Zbs [3,5,9,10,11,17] (σ:=Unit) (fun(k:Nat) s=>True) (fun k s=>[(6,.sl (.own G1.next) (rII (((List.range D.tiers.length).take k).map fun j=>mapD D j)))]) (fun k s=>[(G1.next,.tok k 57 1)]) () (GStep.tok 6 57 1 rfl) (by simp only[ZaA,Zav,Fr.put,Fr.get,↓reduceIte,Nat.reduceEqDiff];rfl) (by intro k s;rfl) (by intro k s;rfl) (by rfl) (by unfold maxLen;omega) ?_ (by simp only[ZaF,ZaX,Fr.put,Fr.get,↓reduceIte,Nat.reduceEqDiff,and_self]<;>simp) ?_ ?_ ?_
  ·trivial
  ·rw[ZaP]
   exact⟨Zaa.Zae (H:=G1),by simp[Zc5]⟩
  ·(rintro j u G2 hj ht1 hG2 hn2;try simp only[nx]at hn2)
   have ho2:=hG2.o1
   have lo2:=Zaa.lt ho2
   have hc:=(hG2.g _ (by simp only[nx];omega) (by simp;omega)).trans ((Zaa.Zag (by omega)).trans g1)
   have lc:=Zaa.lt hc
   have hC:=fun G=>hM j G hj b1 b2
   have hsn:rII (((List.range D.tiers.length).take j).map fun j=>mapD D j)++[[.sl .no (rI (mapD D j))]]=rII (((List.range D.tiers.length).take (j+1)).map fun j=>mapD D j):=by rw[Zgv hj];simp
   have la1:=ZdQ (((List.range D.tiers.length).take j).map fun j=>mapD D j)
   have la2:ZaE 1 [[AV.sl .no (rI (mapD D j))]]=true:=rfl
   have lm1:j+1<=maxLen:=by unfold maxLen;omega
   have lm2:(j+1) * 24<=140737488355328:=by omega
   have hrl:(rII (((List.range D.tiers.length).take j).map fun j=>mapD D j)).length=j:=by simp;omega
   have hZ:=an7 hc<|an7 q0<|q3;refine Bz1 ?_
   refine qcp (hC _) fun k3=>?_
   have hZ:=an7 ho2<|an7 la1<|an7 la2<|an7 lm1<|an7 lm2<|hrl;refine Bz5 ?_
   exact⟨(),congrArg (AV.sl _) hsn,hG2.bump.put⟩
  ·(rintro u G2 ht1 hG2 hn2;try simp only[nx]at hn2)
   have e:(List.range D.tiers.length).take D.tiers.length=List.range D.tiers.length:=zaG (by simp)
   have ho1:G2.get G0.next=some (.tok k 35 1):=(hG2.g _ (by simp only[nx];omega) (by simp;omega)).trans ((Zaa.Zag (by omega)).trans hG1.o1)
   have lo1:=Zaa.lt ho1
   have la1:=ZiQ ts
   have la2:ZaE 1 [[AV.sl (.own G1.next) (rII (Zct D))]]=true:=rfl
   have lm1:k+1<=maxLen:=by unfold maxLen;omega
   have lm2:(k+1) * 24<=140737488355328:=by omega
   have hrl:(rIIt ts).length=k:=by simp;omega
   have hv:rII ((List.range D.tiers.length).map fun j=>mapD D j)=rII (Zct D):=rfl
   rw[e,hv]
   have hZ:=an7 ho1<|an7 la1<|an7 la2<|an7 lm1<|an7 lm2<|hrl;refine Bz5 ?_
   refine⟨ts++[(.own G1.next,Zct D)],by rw[ZcR hk,zaV,ht,hD];rfl,by simp,?_⟩
   exact(hG1.over hG2 rfl).put
 ·(rintro ts G ht hG hn;try simp only[nx]at hn)
  refine Bz0 ?_
  have e:rIII (Zan S)=rIII (ts.map (·.2)):=by rw[ht,zaK];rfl
  rw[e]
  exact Zc1 (wkn_rIII _ ts) (hG.ZdB hx0.alloc (by simp;omega))
def e8 (b:UInt8):AV:=.sc (.int .u8 (b.toNat:Int))
abbrev r8 (l:List UInt8):List (List AV):=l.map fun b=>[e8 b]
theorem Zlp (l:List UInt8):ZaE 1 (r8 l)=true:=ZaU (f:=fun b:UInt8=>[e8 b]) (fun _=>rfl) l
theorem Zgp:∀l:List UInt8,Zef (r8 l)=some (l.map fun b=>(b.toNat:Int))
 | []=>rfl
 | b :: l=>by
  rw[r8,zas,Zef,show List.map (fun b=>[e8 b]) l=r8 l from rfl,Zgp l]
  rfl
theorem ZgO:∀(l:List UInt8) (a:Array UInt8),(l.map fun b=>(b.toNat:Int)).foldl (fun(r:ByteArray) n=>r.push (UInt8.ofNat n.toNat)) ⟨a⟩=⟨a++l.toArray⟩
 | [],a=>by simp
 | b :: l,a=>by
  rw[zas,List.foldl_cons,show(ByteArray.push ⟨a⟩ (UInt8.ofNat ((b.toNat:Int)).toNat))=⟨a.push b⟩ by simp[ByteArray.push],ZgO l]
  simp
theorem Zma (l:List UInt8):strOf (l.map fun b=>(b.toNat:Int))=⟨l.toArray⟩:=by
 have h:=ZgO l #[]
 rw[strOf];refine Eq.trans ?_ (h.trans (by simp));rfl
theorem wrap_u8 (m:Nat):IntKind.u8.wrap (m:Int)=((UInt8.ofNat (m % 256)).toNat:Int):=by
 rw[UInt8.toNat_ofNat',zcv (zcD _ (by omega))]
 simp[IntKind.wrap,IntKind.bits,IntKind.signed]
def b2 (i:Nat):List UInt8:=[UInt8.ofNat (i / 256 % 256),UInt8.ofNat (i % 256)]
def nmP (at_:Nat) (part:List Nat):List UInt8:=UInt8.ofNat (at_ % 256) :: part.flatMap b2
abbrev rP (part:List Nat):List (List AV):=part.map fun i:Nat=>[AV.i (i:Int)]
theorem nmP_snoc {a:Nat} {l:List Nat} {k:Nat} (h:k<l.length):nmP a (l.take (k+1))=nmP a (l.take k)++b2 l[k]:=by
 rw[nmP,nmP,zar h,zcK];simp
theorem nmP_len {a:Nat} {l:List Nat}:(nmP a l).length=2 * l.length+1:=by
 rw[nmP,List.length_cons]
 congr 1
 induction l with
 | nil=>rfl
 | cons x r ih=>rw[zbj,zai,ih,List.length_cons];simp[b2];omega
set_option maxHeartbeats 2000000 in
theorem Zjy (a:Nat) (t:Tok) (l:List Nat) (H:Zaa) (ha:a<256) (hl:l.length<=1000000) (hi:∀i∈l,i<65536):Zay Tryz.prog 97 [.i (a:Int),.sl t (rP l)] H (Pure H (eS (nmP a l))):=by
 have w1:IntKind.i64.wrap (2 * (l.length:Int))=((2 * l.length:Nat):Int):=by rw[show(2:Int) * (l.length:Int)=((2 * l.length:Nat):Int) by omega];exact Zaw (by omega) (by omega)
 have w2:IntKind.i64.wrap (((2 * l.length:Nat):Int)+1)=((2 * l.length+1:Nat):Int):=by rw[show((2 * l.length:Nat):Int)+1=((2 * l.length+1:Nat):Int) by omega];exact Zaw (by omega) (by omega)
 have c1:(0:Int)<=((2 * l.length+1:Nat):Int):=by omega
 have c2:2 * l.length+1<=maxLen:=by unfold maxLen;omega
 have c3:2 * l.length+1<=140737488355328:=by omega
 have c4:¬((2 * l.length+1:Nat):Int)=0:=by omega
 have c5:¬(0:Int)=((2 * l.length+1:Nat):Int):=by omega
 have w3:=wrap_u8 a
 have la1:ZaE 1 ([]:List (List AV))=true:=rfl
 have la2:ZaE 1 [[AV.sc (.int .u8 ((UInt8.ofNat (a % 256)).toNat:Int))]]=true:=rfl
 have lm:1<=maxLen:=by unfold maxLen;omega
 refine Zak hE cf97 (zab rfl) fun Q qr qn=>?_
 have hZ:=an7 w1<|an7 w2<|an7 c1<|an7 c2<|an7 c3<|an7 c4<|an7 c5<|an7 w3<|an7 la1<|an7 la2<|lm;refine Bz5 ?_
 have e0:[[AV.sc (.int .u8 ((UInt8.ofNat (a % 256)).toNat:Int))]]=r8 (nmP a (l.take 0)):=rfl
 rw[e0]
 clear e0 w1 w2 c1 c2 c3 c4 c5 w3 la1 la2 lm
 refine Zbs [18,19] (σ:=Unit) (fun(k:Nat) s=>True) (fun k s=>[(5,.sl (.own H.next) (r8 (nmP a (l.take k))))]) (fun k s=>[(H.next,.tok (2 * k+1) 5 1)]) () (GStep.refl _ _) (by simp only[ZaA,Zav,Fr.put,Fr.get,↓reduceIte,Nat.reduceEqDiff];rfl) (by intro k s;rfl) (by intro k s;rfl) (by rfl) (by unfold maxLen;omega) ?_ (by simp only[ZaF,ZaX,Fr.put,Fr.get,↓reduceIte,Nat.reduceEqDiff,and_self]<;>simp) ?_ ?_ ?_
 ·trivial
 ·rw[ZaP]
  exact⟨Zaa.Zae (H:=H),by simp[Zc5]⟩
 ·(rintro k s G hk ht hG hn;try simp only[nx]at hn)
  have ho:=hG.o1
  have lo:=Zaa.lt ho
  have h6:=hi _ (zaq hk)
  generalize hlk:l[k]=n at *
  have w1:IntKind.u8.wrap ((n:Int).fdiv 256)=((UInt8.ofNat (n / 256 % 256)).toNat:Int):=by
   rw[show(n:Int).fdiv 256=((n / 256:Nat):Int)from by rw[Int.fdiv_eq_ediv_of_nonneg _ (by omega)];rfl]
   exact wrap_u8 _
  have w0:(2:Int) ^ min 8 IntKind.i64.bits=256:=by decide
  have w2:=wrap_u8 n
  have hsn:r8 (nmP a (l.take k))++[[AV.sc (.int .u8 ((UInt8.ofNat (n / 256 % 256)).toNat:Int))],[.sc (.int .u8 ((UInt8.ofNat (n % 256)).toNat:Int))]]=r8 (nmP a (l.take (k+1))):=by rw[nmP_snoc hk,hlk];simp[b2,e8]
  have la1:=Zlp (nmP a (l.take k))
  have la2:ZaE 1 [[AV.sc (.int .u8 ((UInt8.ofNat (n / 256 % 256)).toNat:Int))],[.sc (.int .u8 ((UInt8.ofNat (n % 256)).toNat:Int))]]=true:=rfl
  have lm1:2 * k+1+2<=maxLen:=by unfold maxLen;omega
  have lm2:2 * k+1+2<=140737488355328:=by omega
  have hrl:(r8 (nmP a (l.take k))).length=2 * k+1:=by rw[zaj,nmP_len,za9];omega
  have hZ:=an7 hlk<|an7 hk<|an7 ho<|an7 w0<|an7 w1<|an7 w2<|an7 la1<|an7 la2<|an7 lm1<|an7 lm2<|hrl;refine Bz5 ?_
  exact⟨(),congrArg (AV.sl _) hsn,by rw[show 2 * (k+1)+1=2 * k+1+2 by omega];exact hG.put⟩
 ·(rintro s G ht hG hn;try simp only[nx]at hn)
  have ho:=hG.o1
  have hb:=Zgp (nmP a l)
  have hs:=Zma (nmP a l)
  have hZ:=an7 hb<|hs;refine Bz5 ?_
  exact Zcm rfl (hG.ZdB (Zaa.Ext.refl H).alloc (by simp))
open Go.Shelf
def ZmP:Go.Shelf.Ren:=⟨fun|6=>137|15=>161|14=>160|28=>179|29=>180|20=>171|21=>172|22=>173|23=>174|24=>175|25=>176|26=>177|27=>178|46=>181|47=>182|48=>183|49=>184|50=>185|57=>186|n=>n,fun|22=>173|24=>176|25=>224|3=>3|39=>220|0=>0|53=>258|55=>260|4=>4|46=>252|45=>251|50=>172|5=>5|9=>9|66=>261|70=>265|76=>267|77=>268|n=>n,fun|n=>n⟩
theorem sortG:Go.Proofs.SlLaysF0.n6 Tryz.prog ZmP:={
 mixed:=by kernel_rfl
 f6:=⟨Tryz.f137.name,by decide,Tryz.func137.trans (congrArg some (by kernel_rfl))⟩
 f14:=⟨Tryz.f160.name,by decide,Tryz.func160.trans (congrArg some (by kernel_rfl))⟩
 f15:=Tryz.func161.trans (congrArg some (by kernel_rfl))
 f20:=⟨Tryz.f171.name,by decide,Tryz.func171.trans (congrArg some (by kernel_rfl))⟩
 f21:=⟨Tryz.f172.name,by decide,Tryz.func172.trans (congrArg some (by kernel_rfl))⟩
 f22:=⟨Tryz.f173.name,by decide,Tryz.func173.trans (congrArg some (by kernel_rfl))⟩
 f23:=⟨Tryz.f174.name,by decide,Tryz.func174.trans (congrArg some (by kernel_rfl))⟩
 f24:=⟨Tryz.f175.name,by decide,Tryz.func175.trans (congrArg some (by kernel_rfl))⟩
 f25:=⟨Tryz.f176.name,by decide,Tryz.func176.trans (congrArg some (by kernel_rfl))⟩
 f26:=⟨Tryz.f177.name,by decide,Tryz.func177.trans (congrArg some (by kernel_rfl))⟩
 f27:=⟨Tryz.f178.name,by decide,Tryz.func178.trans (congrArg some (by kernel_rfl))⟩
 f28:=Tryz.func179.trans (congrArg some (by kernel_rfl))
 f29:=Tryz.func180.trans (congrArg some (by kernel_rfl))
 f46:=⟨Tryz.f181.name,by decide,Tryz.func181.trans (congrArg some (by kernel_rfl))⟩
 f47:=Tryz.func182.trans (congrArg some (by kernel_rfl))
 f48:=Tryz.func183.trans (congrArg some (by kernel_rfl))
 f49:=⟨Tryz.f184.name,by decide,Tryz.func184.trans (congrArg some (by kernel_rfl))⟩
 f50:=⟨Tryz.f185.name,by decide,Tryz.func185.trans (congrArg some (by kernel_rfl))⟩
 f57:=⟨Tryz.f186.name,by decide,Tryz.func186.trans (congrArg some (by kernel_rfl))⟩
 t0:=Tryz.underlying0
 a0:=Tryz.isAgg0
 z0:=Tryz.sizeOf0
 v0:=Tryz.zeroValue0
 t3:=Tryz.underlying3
 a3:=Tryz.isAgg3
 z3:=Tryz.sizeOf3
 v3:=Tryz.zeroValue3
 t4:=Tryz.underlying4
 a4:=Tryz.isAgg4
 z4:=Tryz.sizeOf4
 v4:=Tryz.zeroValue4
 t5:=Tryz.underlying5
 a5:=Tryz.isAgg5
 z5:=Tryz.sizeOf5
 v5:=Tryz.zeroValue5
 t9:=Tryz.underlying9
 a9:=Tryz.isAgg9
 z9:=Tryz.sizeOf9
 v9:=Tryz.zeroValue9
 t22:=Tryz.underlying173
 a22:=Tryz.isAgg173
 z22:=Tryz.sizeOf173
 v22:=Tryz.zeroValue173
 t25:=Tryz.underlying224
 a25:=Tryz.isAgg224
 z25:=Tryz.sizeOf224
 v25:=Tryz.zeroValue224
 t39:=Tryz.underlying220
 a39:=Tryz.isAgg220
 z39:=Tryz.sizeOf220
 v39:=Tryz.zeroValue220
 t45:=Tryz.underlying251
 a45:=Tryz.isAgg251
 z45:=Tryz.sizeOf251
 v45:=Tryz.zeroValue251
 t46:=Tryz.underlying252
 a46:=Tryz.isAgg252
 z46:=Tryz.sizeOf252
 v46:=Tryz.zeroValue252
 t50:=Tryz.underlying172
 a50:=Tryz.isAgg172
 z50:=Tryz.sizeOf172
 v50:=Tryz.zeroValue172
 t53:=Tryz.underlying258
 a53:=Tryz.isAgg258
 z53:=Tryz.sizeOf258
 v53:=Tryz.zeroValue258
 t55:=Tryz.underlying260
 a55:=Tryz.isAgg260
 z55:=Tryz.sizeOf260
 v55:=Tryz.zeroValue260
 t66:=Tryz.underlying261
 a66:=Tryz.isAgg261
 z66:=Tryz.sizeOf261
 v66:=Tryz.zeroValue261
 t70:=Tryz.underlying265
 a70:=Tryz.isAgg265
 z70:=Tryz.sizeOf265
 v70:=Tryz.zeroValue265
 t76:=Tryz.underlying267
 a76:=Tryz.isAgg267
 z76:=Tryz.sizeOf267
 v76:=Tryz.zeroValue267
 t77:=Tryz.underlying268
 a77:=Tryz.isAgg268
 z77:=Tryz.sizeOf268
 v77:=Tryz.zeroValue268 }
open Go.RowKit Go.Shelf Go.Sort
theorem Zlw (x:Int) (W:World):Calls Tryz.prog 162 #[.int .i64 x] W fun e w'=>e=.returned (.bool false)/\w'=W:=by
 go_enter Tryz.func162,Tryz.ntmps162
 go_wp2
 go_ret
 exact⟨by simp,rfl⟩
set_option maxHeartbeats 1000000 in
theorem Zmz (x y:Int) (W:World):Calls Tryz.prog 139 #[.int .i64 x,.int .i64 y] W fun e w'=>e=.returned (.int .i64 (Zgz x y))/\w'=W:=by
 have hn:=fun x W=>Zlw x W
 unfold Zgz
 by_cases h1:x<y
 ·rw[if_pos h1]
  go_enter Tryz.func139,Tryz.ntmps139
  go_wp2_with (go_at_call 162;refine(hn _ _).mono ?_;rintro e w' ⟨rfl,rfl⟩)
  go_ret
  exact⟨rfl,rfl⟩
 ·rw[if_neg h1]
  by_cases h2:x > y
  ·rw[if_pos h2]
   go_enter Tryz.func139,Tryz.ntmps139
   go_wp2_with (go_at_call 162;refine(hn _ _).mono ?_;rintro e w' ⟨rfl,rfl⟩)
   go_ret
   exact⟨rfl,rfl⟩
  ·rw[if_neg h2]
   go_enter Tryz.func139,Tryz.ntmps139
   go_wp2_with (go_at_call 162;refine(hn _ _).mono ?_;rintro e w' ⟨rfl,rfl⟩)
   go_ret
   exact⟨rfl,rfl⟩
def One:Type:={ v:Value // v.oneCell'=true }
abbrev EG:=Int×One
instance:Inhabited EG:=⟨(0,⟨.int .i64 0,rfl⟩)⟩
def Zhm (x:EG):List Value:=[.int .i64 x.1,x.2.1]
def cfG (x y:EG):Int:=Zgz x.1 y.1
set_option maxHeartbeats 1000000 in
theorem Zkz (x y:EG) (W:World):Calls Tryz.prog 138 #[.agg #[.int .i64 x.1,x.2.1],.agg #[.int .i64 y.1,y.2.1]] W fun e w'=>e=.returned (.int .i64 (cfG x y))/\∃q os',w'=grow (W.drewN q) os':=by
 have hcon:=fun W'=>Zmz x.1 y.1 W'
 unfold cfG
 generalize Zgz x.1 y.1=r at hcon ⊢
 obtain⟨a,⟨v,hv⟩⟩:=x
 obtain⟨b,⟨u,hu⟩⟩:=y
 go_enter Tryz.func138,Tryz.ntmps138
 go_wp2_with (go_at_call 139;refine(hcon _).mono ?_;rintro e w' ⟨rfl,rfl⟩)
 go_ret
 exact⟨rfl,0,_,by rw[alloc_eq_grow,alloc_eq_grow,grow_grow];rfl⟩
theorem Zj9 (x y:EG):ltOf cfG x y=decide (x.1<y.1):=by
 unfold ltOf cfG Zgz
 by_cases h1:x.1<y.1
 ·simp[h1]
 ·by_cases h2:x.1 > y.1<;>simp[h1,h2]
theorem swoG:SWO (ltOf cfG) where
 irrefl x:=by rw[Zj9];simp
 trans x y z h1 h2:=by rw[Zj9]at *;simp at *;omega
 ntrans x y z h1 h2:=by rw[Zj9]at *;simp at *;omega
inductive ZeK {α β:Type} (R:α->β->Prop):List α->List β->Prop
 | nil:ZeK R [] []
 | cons {a:α} {b:β} {l:List α} {m:List β} (h:R a b) (t:ZeK R l m):ZeK R (a :: l) (b :: m)
theorem ZeK.length {α β:Type} {R:α->β->Prop} {l:List α} {m:List β} (h:ZeK R l m):l.length=m.length:=by
 induction h with
 | nil=>rfl
 | cons _ _ ih=>simp[ih]
theorem ZeK.imp {α β:Type} {R S:α->β->Prop} (hi:∀a b,R a b->S a b) {l:List α} {m:List β} (h:ZeK R l m):ZeK S l m:=by
 induction h with
 | nil=>exact .nil
 | cons h _ ih=>exact .cons (hi _ _ h) ih
theorem ZeK.get {α β:Type} {R:α->β->Prop}:∀{l:List α} {m:List β},ZeK R l m->∀i (hi:i<l.length),∃h:i<m.length,R l[i] m[i]
 | _,_,.cons h _,0,_=>⟨by simp,h⟩
 | _,_,.cons _ t,i+1,hi=>by
  obtain⟨h1,h2⟩:=ZeK.get t i (by simpa using hi)
  exact⟨by simpa using h1,by simpa using h2⟩
theorem Zif {α β:Type} {R:α->β->Prop} {z z':List β} (h:z.Perm z'):∀{g:List α},ZeK R g z->∃g',g.Perm g'/\ZeK R g' z':=by
 induction h with
 | nil=>intro g hg;exact⟨g,.refl _,hg⟩
 | cons x _ ih =>
  intro g hg
  cases hg with
  | cons h t =>
   obtain⟨g',h1,h2⟩:=ih t
   exact⟨_,h1.cons _,.cons h h2⟩
 | swap x y l =>
  intro g hg
  cases hg with
  | cons h t =>
   cases t with
   | cons h2 t2=>exact⟨_,.swap _ _ _,.cons h2 (.cons h t2)⟩
 | trans _ _ ih1 ih2 =>
  intro g hg
  obtain⟨g1,h1,h2⟩:=ih1 hg
  obtain⟨g2,h3,h4⟩:=ih2 h2
  exact⟨g2,h1.trans h3,h4⟩
abbrev PG:=Int×AV
abbrev flG (gs:List PG):List AV:=gs.flatMap fun p=>[.i p.1,p.2]
abbrev flV (zs:List EG):List Value:=zs.flatMap Zhm
section
variable {g:Gh} {H:Zaa} {w:World}
def RelG (g:Gh) (w:World) (p:PG) (z:EG):Prop:=z.1=p.1/\VR g w p.2 z.2.1
theorem Zmt:∀{gs:List PG} {tail:List AV} {L:List Value},(∀p∈gs,p.2.one=true)->VRs g w (flG gs++tail) L->∃zs rest,L=flV zs++rest/\ZeK (RelG g w) gs zs/\VRs g w tail rest
 | [],tail,L,_,h=>⟨[],L,rfl,.nil,h⟩
 | p :: gs,tail,L,ho,h=>by
  match L,h with
  | [],h=>have:=h.1;simp at this
  | [a],h=>have:=h.1;simp at this
  | a :: v :: L',h =>
   have h0:=h.2 0 _ _ rfl rfl
   have h1:=h.2 1 _ _ rfl rfl
   have h0:VR g w (.i p.1) a:=h0
   have h1:VR g w p.2 v:=h1
   cases h0
   have hv:v.oneCell'=true:=h1.one (ho p zae)
   have ht:VRs g w (flG gs++tail) L':=⟨by have:=h.1;simp at this ⊢;omega,fun i x u hx hu=>h.2 (i+2) x u (by simpa using hx) (by simpa using hu)⟩
   obtain⟨zs,rest,e1,e2,e3⟩:=Zmt (fun q hq=>ho q (zad _ hq)) ht
   exact⟨(p.1,⟨v,hv⟩) :: zs,rest,by rw[e1];rfl,.cons ⟨rfl,h1⟩ e2,e3⟩
theorem join_G:∀{gs:List PG} {zs:List EG} {tail:List AV} {rest:List Value},ZeK (RelG g w) gs zs->VRs g w tail rest->VRs g w (flG gs++tail) (flV zs++rest)
 | _,_,_,_,.nil,h=>h
 | _,_,_,_,.cons (a:=p) (b:=z) h t,hr=>by
  have ih:=join_G t hr
  obtain⟨z1,z2⟩:=z
  obtain⟨h1,h2⟩:=h
  simp only at h1
  subst h1
  exact(ih.cons h2).cons (.sc _)
theorem Zlk:∀(zs:List EG) (t:Nat),t<zs.length * 2->(flV zs)[t]?=some ((Zhm zs.toArray[t / 2]!)[t % 2]!)
 | [],t,h=>by simp at h
 | z :: zs,0,_=>rfl
 | z :: zs,1,_=>rfl
 | z :: zs,t+2,h=>by
  have ih:=Zlk zs t (by simp at h;omega)
  have e1:(t+2) / 2=t / 2+1:=by omega
  have e2:(t+2) % 2=t % 2:=by omega
  have hl:t / 2<zs.length:=by simp at h;omega
  rw[e1,e2]
  show(z.1 |> fun _=>(Zhm z++flV zs))[t+2]?=_
  rw[show(Zhm z++flV zs)[t+2]?=(flV zs)[t]? from rfl,ih]
  congr 3
  simp[hl]
theorem Zix (zs:List EG):(flV zs).length=zs.length * 2:=by
 induction zs with
 | nil=>rfl
 | cons z zs ih=>rw[flV,zbj,zai,show(zs.flatMap Zhm).length=_ from ih,List.length_cons];simp[Zhm];omega
theorem ZjG (zs:List EG):flatK Zhm 2 zs.toArray=(flV zs).toArray:=by
 refine Array.ext (by rw[size_flatK,zb3,zb3,Zix]) fun t h1 h2=>?_
 have ht:t<zs.length * 2:=by simpa using h1
 have e:=Zlk zs t ht
 have e2:t<(flV zs).length:=by rw[Zix];exact ht
 rw[zaa e2]at e
 injection e with e
 have e3:=get_flatK Zhm 2 zs.toArray t (by simpa using ht)
 rw[getElem!_pos _ t h1]at e3
 rw[e3,<- e]
 simp
theorem ZlT {w:World} {b:Nat} {f:Array Value->Array Value} {c:Array Value} {E:TypeId} {fr:Nat×Nat} (h:w.heap[b]?=some (.cells c E fr)):(mapBlock w b f).heap[b]?=some (.cells (f c) E fr):=by
 unfold mapBlock
 simp only[zb7,if_true,h,Option.map_some,onCells]
theorem Zhv {w:World} {b b':Nat} {f:Array Value->Array Value} (h:b'≠b):(mapBlock w b f).heap[b']?=w.heap[b']?:=by
 unfold mapBlock
 simp only[zb7]
 rw[if_neg (fun e=>h e.symm)]
theorem Zkp (hW:WR g H w):∀(l:List Obj),∃g',WR g' H (grow w l.toArray)/\Stp g H w g' H (grow w l.toArray):=by
 intro l
 induction l generalizing g w with
 | nil=>exact⟨g,by rw[show([]:List Obj).toArray=#[]from rfl,grow_empty];exact hW,by rw[show([]:List Obj).toArray=#[]from rfl,grow_empty];exact .refl _ _ _⟩
 | cons o l ih =>
  obtain⟨h1,h2⟩:=ZgV hW o
  obtain⟨g',h3,h4⟩:=ih h1
  have e:grow w (o :: l).toArray=grow (w.alloc o) l.toArray:=by
   rw[alloc_eq_grow,grow_grow]
   congr 1
   simp
  rw[e]
  exact⟨g',h3,h2.trans h4⟩
theorem Zg4 (F c:Array Value) (L rest:List Value) (hc:c.toList=L++rest) (hl:L.length=F.size):(putCells (id:Value->Value) 0 F c).toList=F.toList++rest:=by
 apply zb2
 intro i
 have hc2:∀j:Nat,c[j]?=(L++rest)[j]?:=fun j=>by rw[<- hc];simp
 simp only[putCells,Array.getElem?_toList,Array.getElem?_mapIdx,zaD,true_and,zaH,Nat.sub_zero,hc2]
 by_cases hi:i<F.size
 ·rw[zaC (by omega),zaC (by simpa using hi),zaa (by omega)]
  simp[hi]
 ·rw[zaN (by omega),zaN (by simp;omega),hl]
  simp only[Array.length_toList]
  cases rest[i - F.size]? with
  | none=>rfl
  | some y=>simp[hi]
theorem Zmv {g:Gh} {w:World}:∀{gs:List PG} {zs:List EG},ZeK (RelG g w) gs zs->(∀i j:Nat,i<j->∀hj:j<zs.length,(zs[i]!).1<=(zs[j]).1)->gs.Pairwise fun p q=>p.1<=q.1
 | _,_,.nil,_=>.nil
 | _,_,.cons (a:=p) (b:=z) (l:=l) (m:=m) h t,hs=>by
  refine .cons (fun q hq=>?_) (Zmv t fun i j hij hj=>?_)
  ·obtain⟨i,hi,rfl⟩:=List.mem_iff_getElem.1 hq
   obtain⟨h1,h2⟩:=ZeK.get t i hi
   have:=hs 0 (i+1) (by omega) (by simp;exact h1)
   simp at this
   rw[<- h.1,<- h2.1]
   exact this
  ·have:=hs (i+1) (j+1) (by omega) (by simp;exact hj)
   simpa using this
theorem Zhr:Zmq Tryz.prog 137:=⟨_,Tryz.func137,by kernel_rfl,by kernel_rfl⟩
theorem Zi4 {oid cap:Nat} {E:TypeId} {gs:List PG} {tail:List AV} {H:Zaa} (hget:H.get oid=some (.cells (flG gs++tail) E)) (hone:∀p∈gs,p.2.one=true) (hn:gs.length<4611686018427387904) :
  Zay Tryz.prog 137 [.arr oid 0 gs.length cap,.fn 138 [] []] H fun r H'=>r=.tup []/\∃gs',gs.Perm gs'/\gs'.Pairwise (fun p q=>p.1<=q.1)/\H'=H.set oid (.cells (flG gs'++tail) E):=by
 refine⟨Zhr,fun g w vs hW hV=>?_⟩
 obtain⟨v0,v1,rfl⟩:∃v0 v1,vs=[v0,v1]:=by
  match vs,hV.1 with
  | [v0,v1],_=>exact⟨v0,v1,rfl⟩
 have h1:=hV.2 0 _ _ rfl rfl
 have h2:=hV.2 1 _ _ rfl rfl
 cases h2 with
 | fn _ _ _ vf vc hl1 hl2 _ _ =>
 have hvf:vf=#[]:=zbI hl1.symm
 have hvc:vc=#[]:=zbI hl2.symm
 subst hvf hvc
 cases h1 with
 | arr _ _ _ _ b hb hc hm =>
  obtain⟨b',carr,k1,k2,k3,k4,k5⟩:=hW.obj oid _ hget
  obtain rfl:b'=b:=zbZ (k1.symm.trans hb)
  have hlt:b'<w.heap.size:=(zaz.1 k2).1
  obtain⟨zs,rest,e1,e2,e3⟩:=Zmt hone k3
  have hzl:=e2.length
  have hH:HoldsK Zhm 2 w b' 0 zs.toArray:=by
   unfold HoldsK
   rw[ZjG]
   intro j hj
   have hj':j<(flV zs).length:=by simpa using hj
   have hcj:carr[j]?=some (flV zs)[j]:=by
    have:carr.toList[j]?=some (flV zs)[j]:=by rw[e1,zaC hj',zaa hj']
    simpa using this
   refine⟨?_,?_⟩
   ·unfold World.cell?
    simp only[zaH,k2]
    rw[hcj]
    simp[zaa hj']
   ·unfold World.frozen?
    simp[k2]
  have eg:∀args w,(callFunc 138 args).run Tryz.prog w=.ok (.enter 138 args) w:=enters_of Tryz.func138 (by kernel_rfl) rfl
  have hcmp:CmpLays Tryz.prog 138 #[] Zhm 2 cfG b' 0 zs.toArray.size w:=fun _ _ _ _ x y=>Zkz x y _
  have hcon:=AnyQ.slices_SortFunc sortG 2 Tryz.isAgg176 Tryz.sizeOf176 Zhm (fun _=>rfl) (fun x v hv=>by
   simp[Zhm]at hv
   rcases hv with rfl|rfl
   ·rfl
   ·exact x.2.2) cfG swoG 138 #[] b' 0 cap zs.toArray w eg hcmp hH hlt (by simpa [<- hzl] using hn)
  have hargs:([Value.slice (some ⟨b',0,none⟩) gs.length cap,Value.func (.func 138) #[] #[]]:List Value).toArray=#[.slice (some ⟨b',0,none⟩) zs.toArray.size cap,.func (.func 138) #[] #[]]:=by simp[hzl]
  rw[hargs]
  refine hcon.mono fun e w' ⟨he,d',n,os,hp,hs,hw'⟩=>?_
  have hds:d'.size=zs.length:=by simpa using hp.1
  have hperm:d'.toList.Perm zs:=by
   have:=hp.2.2
   rw[Array.extract_eq_self_of_le (by rw[hds];simp)]at this
   rw[Array.extract_eq_self_of_le (by simp)]at this
   simpa using this
  obtain⟨gs',q1,q2⟩:=Zif hperm.symm e2
  have hdl:d'.toList.length=zs.length:=by simpa using hds
  have hrow:flatK Zhm 2 d'=(flV d'.toList).toArray:=by
   have:=ZjG d'.toList
   simpa using this
  have hset:=ZfL (g:=g) (w':=putRow id (Go.Sort.ahead w n) b' 0 (flatK Zhm 2 d')) (o':=.cells (flG gs'++tail) E) hW hget hb (fun _=>zak) (fun b2 hb2=>by unfold putRow;rw[Zhv hb2];rfl) (by simp[putRow,mapBlock,Go.Sort.ahead]) rfl rfl rfl (fun j hj=>absurd hj (k5 j)) (fun hle=>by
   refine⟨b',putCells id 0 (flatK Zhm 2 d') carr,hb,by unfold putRow;exact ZlT k2,?_,fun x hx=>?_,k5⟩
   ·have hcl:=Zg4 (flatK Zhm 2 d') carr (flV zs) rest e1 (by rw[Zix,size_flatK,hds])
    have q3:=q2.imp (S:=RelG _ _) fun p z ⟨h1,h2⟩=>⟨h1,h2.mono hle⟩
    have e4:=e3.mono hle
    rw[hcl,show(flatK Zhm 2 d').toList=flV d'.toList by rw[hrow]]
    exact join_G q3 e4
   ·rcases zav.1 hx with h|h
    ·obtain⟨p,hp,hxp⟩:=zbo.1 h
     rcases zal.1 hxp with rfl|hxp
     ·rfl
     ·rw[zam.1 hxp]
      exact hone p (q1.mem_iff.2 hp)
    ·exact k4 x (zbp _ h))
  obtain⟨r1,r2⟩:=hset
  obtain⟨g',r3,r4⟩:=Zkp r1 os.toList
  have hwe:w'=grow (putRow id (Go.Sort.ahead w n) b' 0 (flatK Zhm 2 d')) os.toList.toArray:=by
   rw[hw'];simp[sortWorldK,putRowK]
  rw[<- hwe]at r3 r4
  refine .inl ⟨_,.tup [],_,g',he,⟨rfl,gs',q1,?_,rfl⟩,.tup [] #[] rfl (fun i x u h=>by simp at h),r3,r2.trans r4⟩
  refine Zmv q2 ?_
  intro i j hij hj
  have hj2:j<d'.size:=by simpa using hj
  have h:=hs i j (zaD _) hij (by simp only[zaH,zb3,<- hds];exact hj2)
  rw[Zj9]at h
  simpa [getElem!_pos d' i (Nat.lt_trans hij hj2),getElem!_pos d' j hj2,zaw (Nat.lt_trans hij hj2)] using h
end
abbrev Grp:=List (Int×(Nat×List Nat))
abbrev eG (p:Nat×List Nat):AV:=.sl (.own p.1) (rP p.2)
abbrev mpG (M:Grp):Zb3:=.map (.one (.int .i64)) (Zgf kI eG M) false
def tokG (M:Grp):List (Nat×Zb3):=M.map fun e=>(e.2.1,.tok e.2.2.length 3 1)
def grs (key:Nat->Int) (n:Nat) (part:List Nat):List (Int×List Nat):=(List.range n).filterMap fun k:Nat=>if part.filter (fun i=>decide (key i=(k:Int)))=[] then none else some ((k:Int),part.filter fun i=>decide (key i=(k:Int)))
theorem Zll:∀{l m:List (Int×List Nat)},l.Pairwise (fun p q=>p.1<q.1)->m.Pairwise (fun p q=>p.1<q.1)->(∀x,x∈l ↔ x∈m)->l=m
 | [],[],_,_,_=>rfl
 | [],b :: m,_,_,h=>absurd ((h b).2 zae) (by simp)
 | a :: l,[],_,_,h=>absurd ((h a).1 zae) (by simp)
 | a :: l,b :: m,hl,hm,h=>by
  have hl':=zaR.1 hl
  have hm':=zaR.1 hm
  have hab:a=b:=by
   rcases zal.1 ((h a).1 zae)with h1|h1
   ·exact h1
   rcases zal.1 ((h b).2 zae)with h2|h2
   ·exact h2.symm
   have:=hm'.1 a h1
   have:=hl'.1 b h2
   omega
  subst hab
  congr 1
  refine Zll hl'.2 hm'.2 fun x=>⟨fun hx=>?_,fun hx=>?_⟩
  ·rcases zal.1 ((h x).1 (zad _ hx))with h1|h1
   ·subst h1;have:=hl'.1 _ hx;omega
   ·exact h1
  ·rcases zal.1 ((h x).2 (zad _ hx))with h1|h1
   ·subst h1;have:=hm'.1 _ hx;omega
   ·exact h1
def Zkq (key:Nat->Int) (l:List Nat):List (Int×List Nat):=l.foldl (fun M i=>ZbU (key i) ((Zcz (key i) M).getD []++[i]) M) []
theorem Zlt (key:Nat->Int) {l:List Nat} {k:Nat} (h:k<l.length):Zkq key (l.take (k+1))=ZbU (key l[k]) ((Zcz (key l[k]) (Zkq key (l.take k))).getD []++[l[k]]) (Zkq key (l.take k)):=by
 rw[zar h,Zkq,zcq];rfl
theorem ZgW {K V W:Type} [DecidableEq K] (f:V->W) (k:K):∀M:List (K×V),Zcz k (M.map fun e=>(e.1,f e.2))=(Zcz k M).map f
 | []=>rfl
 | (k',v) :: M=>by
  simp only[zas,Zcz,ZgW f k M]
  split<;>rfl
theorem Zhf {K V W:Type} [DecidableEq K] (f:V->W) (k:K) (v:V):∀M:List (K×V),ZbU k (f v) (M.map fun e=>(e.1,f e.2))=(ZbU k v M).map fun e=>(e.1,f e.2)
 | []=>rfl
 | (k',u) :: M=>by
  have ih:=Zhf f k v M
  simp only[zas,ZbU,ih]
  split<;>rfl
theorem Zeh {K V:Type} [DecidableEq K] {k:K} {v:V}:∀{M:List (K×V)},Zcz k M=some v->(k,v)∈M
 | (k',u) :: M,h=>by
  unfold Zcz at h
  split at h
  ·rename_i e;injection h with h;subst e h;exact zae
  ·exact zad _ (Zeh h)
theorem Ze7 {K V:Type} [DecidableEq K] {k:K} {v:V}:∀{M:List (K×V)} {e:K×V},(M.map (·.1)).Nodup->e∈ZbU k v M->e=(k,v)\/(e∈M/\e.1≠k)
 | [],e,_,h=>by simp[ZbU]at h;exact .inl h
 | (k',u) :: M,e,hn,h=>by
  simp only[zas,zbg]at hn
  unfold ZbU at h
  split at h
  ·rename_i hk
   subst hk
   rcases zal.1 h with rfl|h
   ·exact .inl rfl
   ·refine .inr ⟨zad _ h,fun he=>hn.1 ?_⟩
    rw[<- he]
    exact zat.2 ⟨e,h,rfl⟩
  ·rename_i hk
   rcases zal.1 h with rfl|h
   ·exact .inr ⟨zae,fun he=>hk he.symm⟩
   ·rcases Ze7 hn.2 h with h|⟨h1,h2⟩
    ·exact .inl h
    ·exact .inr ⟨zad _ h1,h2⟩
theorem ZfE {K V:Type} [DecidableEq K] {k:K} {v:V}:∀{M:List (K×V)},(M.map (·.1)).Nodup->((ZbU k v M).map (·.1)).Nodup
 | [],_=>by simp[ZbU]
 | (k',u) :: M,hn=>by
  simp only[zas,zbg]at hn
  unfold ZbU
  split
  ·rename_i hk;subst hk;simpa using hn
  ·rename_i hk
   simp only[zas,zbg]
   refine⟨fun hm=>?_,ZfE hn.2⟩
   obtain⟨e,he,h1⟩:=zat.1 hm
   rcases Ze7 hn.2 he with rfl|⟨h2,_⟩
   ·exact hk h1
   ·exact hn.1 (zat.2 ⟨e,h2,h1⟩)
structure GrpI (M:Grp) (b:Nat):Prop where
 keys:(M.map (·.1)).Nodup
 toks:(M.map (·.2.1)).Nodup
 lo:∀e∈M,b<=e.2.1
theorem grp_tok {M:Grp} (h:(M.map (·.2.1)).Nodup) {e f:Int×(Nat×List Nat)} (he:e∈M) (hf:f∈M) (ht:e.2.1=f.2.1):e=f:=by
 induction M with
 | nil=>cases he
 | cons x M ih =>
  simp only[zas,zbg]at h
  rcases zal.1 he with he1|he1<;>rcases zal.1 hf with hf1|hf1
  ·rw[he1,hf1]
  ·exact(h.1 (zat.2 ⟨f,hf1,by rw[<- he1];exact ht.symm⟩)).elim
  ·exact(h.1 (zat.2 ⟨e,he1,by rw[<- hf1];exact ht⟩)).elim
  ·exact ih h.2 he1 hf1
theorem ZhZ {k:Int} {t:Nat} {p q:List Nat}:∀{M:Grp},Zcz k M=some (t,p)->(ZbU k (t,q) M).map (·.2.1)=M.map (·.2.1)
 | (k',u) :: M,h=>by
  unfold Zcz at h
  unfold ZbU
  split at h
  ·rename_i e;injection h with h;subst e h;simp
  ·rename_i hk;rw[if_neg hk,zas,zas,ZhZ (M:=M) h]
theorem Zj6 {K V:Type} [DecidableEq K] {k:K} {v:V}:∀{M:List (K×V)},Zcz k M=none->ZbU k v M=M++[(k,v)]
 | [],_=>rfl
 | (k',u) :: M,h=>by
  unfold Zcz at h
  unfold ZbU
  split at h
  ·cases h
  ·rename_i hk;rw[if_neg hk,Zj6 h];rfl
theorem Zco {K V:Type} [DecidableEq K] {k:K} {v:V}:∀{M:List (K×V)},(M.map (·.1)).Nodup->(k,v)∈M->Zcz k M=some v
 | (k',u) :: M,hn,h=>by
  simp only[zas,zbg]at hn
  unfold Zcz
  rcases zal.1 h with h|h
  ·injection h with h1 h2;rw[if_pos h1,h2]
  ·have hne:k≠k':=fun e=>hn.1 (by rw[<- e];exact zat.2 ⟨_,h,rfl⟩)
   rw[if_neg hne,Zco hn.2 h]
theorem Zir {K V:Type} [DecidableEq K] {k:K} {v:V} {e:K×V} (hne:e.1≠k):∀{M:List (K×V)},e∈M->e∈ZbU k v M
 | (k',u) :: M,h=>by
  unfold ZbU
  split
  ·rename_i hk
   rcases zal.1 h with rfl|h
   ·exact absurd hk.symm hne
   ·exact zad _ h
  ·rcases zal.1 h with rfl|h
   ·exact zae
   ·exact zad _ (Zir hne h)
theorem GrpI.new {M:Grp} {mid b:Nat} {k:Int} {i:Nat} {H1 G:Zaa} (hI:GrpI M b) (hG:HX ((mid,mpG M) :: tokG M) H1 G) (hb:b<=G.next) (hm:mid<b) (hn:Zcz k M=none) :
  GrpI (ZbU k (G.next,[i]) M) b/\HX ((mid,mpG (ZbU k (G.next,[i]) M)) :: tokG (ZbU k (G.next,[i]) M)) H1 ((G.alloc (.tok 1 3 1)).set mid (mpG (ZbU k (G.next,[i]) M))):=by
 have htk:∀e∈M,G.get e.2.1=some (.tok e.2.2.length 3 1):=fun e he=>hG.o (e.2.1,_) (zad _ (zat.2 ⟨e,he,rfl⟩))
 have hmg:=Zaa.lt hG.o1
 have hkk:=ZfE (k:=k) (v:=(G.next,[i])) hI.keys
 rw[Zj6 hn]at hkk ⊢
 refine⟨⟨hkk,?_,fun e he=>?_⟩,zaB hG.n (by simp only[nx];omega),fun p hp=>?_,fun j hj hne=>?_⟩
 ·rw[zaV,zcP]
  refine⟨hI.toks,by simp,fun a ha c hc hac=>?_⟩
  obtain⟨e,he,rfl⟩:=zat.1 ha
  have:=Zaa.lt (htk e he)
  simp at hc
  omega
 ·rcases zav.1 he with he|he
  ·exact hI.lo e he
  ·rw[zam.1 he];exact hb
 ·rcases zal.1 hp with rfl|hp
  ·exact Zaa.Zal (by simp only[nx];omega)
  ·obtain⟨e,he,rfl⟩:=zat.1 hp
   rcases zav.1 he with he|he
   ·have h1:=hI.lo e he
    have h2:=Zaa.lt (htk e he)
    rw[Zaa.Zah (by simp only;omega),Zaa.Zag (by simp only;omega)]
    exact htk e he
   ·rw[zam.1 he]
    rw[Zaa.Zah (by simp only;omega)]
    exact Zaa.Zae (H:=G)
 ·have h3:HX ((mid,mpG M) :: tokG M) H1 G:=hG
  rw[zbk]at hne
  have hm':j≠mid:=fun e=>by have:=hne (mid,_) zae;simp[e]at this
  rw[Zaa.Zah hm',Zaa.Zag (by have:=hG.n;omega)]
  refine hG.g j hj ?_
  rw[zbk]
  intro p hp
  rcases zal.1 hp with rfl|hp
  ·simp;exact fun e=>hm' e.symm
  ·obtain⟨e,he,rfl⟩:=zat.1 hp
   have:=hne (e.2.1,.tok e.2.2.length 3 1) (zad _ (zat.2 ⟨e,zba _ he,rfl⟩))
   exact this
theorem GrpI.old {M:Grp} {mid b tk:Nat} {k:Int} {p:List Nat} {i:Nat} {H1 G:Zaa} (hI:GrpI M b) (hG:HX ((mid,mpG M) :: tokG M) H1 G) (hm:mid<b) (hn:Zcz k M=some (tk,p)) :
  GrpI (ZbU k (tk,p++[i]) M) b/\HX ((mid,mpG (ZbU k (tk,p++[i]) M)) :: tokG (ZbU k (tk,p++[i]) M)) H1 ((G.set tk (.tok (p.length+1) 3 1)).set mid (mpG (ZbU k (tk,p++[i]) M))):=by
 have htk:∀e∈M,G.get e.2.1=some (.tok e.2.2.length 3 1):=fun e he=>hG.o (e.2.1,_) (zad _ (zat.2 ⟨e,he,rfl⟩))
 have hmg:=Zaa.lt hG.o1
 have hmem:=Zeh hn
 have htt:=htk _ hmem
 have hlt:=Zaa.lt htt
 have hlo:=hI.lo _ hmem
 simp only at htt hlt hlo
 refine⟨⟨ZfE hI.keys,by rw[ZhZ hn];exact hI.toks,fun e he=>?_⟩,zaB hG.n (by simp only[nx];omega),fun q hq=>?_,fun j hj hne=>?_⟩
 ·rcases Ze7 hI.keys he with rfl|⟨he,_⟩
  ·exact hlo
  ·exact hI.lo e he
 ·rcases zal.1 hq with rfl|hq
  ·exact Zaa.Zal (by simp only[nx];omega)
  ·obtain⟨e,he,rfl⟩:=zat.1 hq
   rcases Ze7 hI.keys he with rfl|⟨he,hne⟩
   ·rw[Zaa.Zah (by simp only;omega),Zaa.Zal hlt]
    simp
   ·have h1:=hI.lo e he
    have h2:e.2.1≠tk:=fun h=>hne (by rw[grp_tok hI.toks he hmem h])
    rw[Zaa.Zah (by simp only;omega),Zaa.Zah h2]
    exact htk e he
 ·rw[zbk]at hne
  have hm':j≠mid:=fun e=>by have:=hne (mid,_) zae;simp[e]at this
  have htj:j≠tk:=fun e=>by
   have hmm:(tk,Zb3.tok (p.length+1) 3 1)∈tokG (ZbU k (tk,p++[i]) M):=by
    have:=Zeh (ZdP k (tk,p++[i]) M)
    exact zat.2 ⟨_,this,by simp⟩
   have:=hne _ (zad _ hmm)
   simp[e]at this
  rw[Zaa.Zah hm',Zaa.Zah htj]
  refine hG.g j hj ?_
  rw[zbk]
  intro q hq
  rcases zal.1 hq with rfl|hq
  ·simp;exact fun e=>hm' e.symm
  ·obtain⟨e,he,rfl⟩:=zat.1 hq
   by_cases hek:e.2.1=tk
   ·simp;exact fun h=>htj (h.symm.trans hek)
   ·have hmm:e∈ZbU k (tk,p++[i]) M:=by
     have hne2:e.1≠k:=fun h=>hek (by
      obtain⟨e1,e2,e3⟩:=e
      simp only at h
      subst h
      have:=Zco hI.keys he
      rw[hn]at this
      injection this with this
      injection this with this _
      exact this.symm)
     exact Zir hne2 he
    exact hne (e.2.1,.tok e.2.2.length 3 1) (zad _ (zat.2 ⟨e,hmm,rfl⟩))
theorem ZjO (key:Nat->Int) (k:Int):∀(l:List Nat) (M:List (Int×List Nat)),Zcz k (l.foldl (fun M i=>ZbU (key i) ((Zcz (key i) M).getD []++[i]) M) M)=if Zcz k M=none/\l.filter (fun i=>decide (key i=k))=[] then none else some ((Zcz k M).getD []++l.filter fun i=>decide (key i=k))
 | [],M=>by
  cases h:Zcz k M<;>simp[h]
 | i :: l,M=>by
  rw[List.foldl_cons,ZjO key k l,Zeg]
  by_cases e:k=key i
  ·subst e
   simp
  ·have e2:¬key i=k:=fun h=>e h.symm
   rw[if_neg e,List.filter_cons_of_neg (by simpa using e2)]
theorem Zhl (key:Nat->Int) (k:Int) (l:List Nat):Zcz k (Zkq key l)=if l.filter (fun i=>decide (key i=k))=[] then none else some (l.filter fun i=>decide (key i=k)):=by
 have:=ZjO key k l []
 simpa [Zcz,Zkq] using this
theorem grpA_len {key:Nat->Int} {k:Int} {l:List Nat} {p:List Nat} (h:Zcz k (Zkq key l)=some p):p.length<=l.length:=by
 rw[Zhl]at h
 split at h
 ·cases h
 ·injection h with h;rw[<- h];exact zb8 _ _
theorem Zjb (key:Nat->Int) (l:List Nat):(Zkq key l).length<=l.length:=by
 suffices ∀(l:List Nat) (M:List (Int×List Nat)),(l.foldl (fun M i=>ZbU (key i) ((Zcz (key i) M).getD []++[i]) M) M).length<=M.length+l.length from by simpa [Zkq] using this l []
 intro l
 induction l with
 | nil=>intro M;simp
 | cons a r ih =>
  intro M
  rw[List.foldl_cons]
  have h1:=ih (ZbU (key a) ((Zcz (key a) M).getD []++[a]) M)
  have h2:=ZmZ (key a) ((Zcz (key a) M).getD []++[a]) M
  simp only[List.length_cons]
  omega
theorem grs_mem {key:Nat->Int} {n:Nat} {part:List Nat} (hk:∀i∈part,0<=key i/\key i<n) (x:Int×List Nat):x∈grs key n part ↔ Zcz x.1 (Zkq key part)=some x.2:=by
 rw[Zhl]
 unfold grs
 simp only[zbA,zbD]
 constructor
 ·rintro⟨k,hkn,h⟩
  split at h
  ·cases h
  ·rename_i hne
   injection h with h
   subst h
   simp only
   rw[if_neg hne]
 ·intro h
  split at h
  ·cases h
  ·rename_i hne
   injection h with h
   obtain⟨i,hi⟩:=zbz _ hne
   obtain⟨hi,hik⟩:=za7.1 hi
   have hik:key i=x.1:=by simpa using hik
   obtain⟨h1,h2⟩:=hk i hi
   have e:((x.1.toNat:Nat):Int)=x.1:=by omega
   refine⟨x.1.toNat,by omega,?_⟩
   rw[e,if_neg hne,h]
theorem Ze9 (key:Nat->Int) (n:Nat) (part:List Nat):(grs key n part).Pairwise fun p q=>p.1<q.1:=by
 unfold grs
 rw[List.pairwise_filterMap]
 refine List.Pairwise.imp ?_ (List.pairwise_lt_range)
 intro a b hab p hp q hq
 split at hp
 ·cases hp
 split at hq
 ·cases hq
 injection hp with hp
 injection hq with hq
 subst hp hq
 simp only
 omega
theorem nxtk_use {H:Zaa} {id mid n:Nat} {seen:List Value} {kk:SK} {es:List (Value×AV)} {K:AV->Zaa->Prop} (hi:H.get id=some (.iter mid n seen)) (hm:H.get mid=some (.map (.one kk) es false)) (hn:es.length=n)
  (h0:Zgc es seen=[]->K (.tup [.b false]) H) (h1:∀p∈Zgc es seen,K (.tup [.b true,.sc p.1,p.2]) (H.set id (.iter mid n (seen++[p.1])))):Zj7 H false (.ptr id 0) K:=by
 unfold Zj7
 simp only[hi,hm]
 exact⟨hn,h0,h1⟩
abbrev ZgS (outs:Grp):List Value:=outs.map fun e=>kI e.1
def inK (outs:Grp) (k:Int):Bool:=outs.any fun o=>decide (o.1=k)
theorem Zl0 {outs:Grp} {k:Int}:inK outs k=true ↔ k∈outs.map (·.1):=by
 unfold inK
 rw[zcw]
 constructor
 ·rintro⟨o,ho,h⟩;exact zat.2 ⟨o,ho,by simpa using h⟩
 ·intro h;obtain⟨o,ho,h⟩:=zat.1 h;exact⟨o,ho,by simpa using h⟩
theorem Zij (M outs:Grp):Zgc (Zgf kI eG M) (ZgS outs)=Zgf kI eG (M.filter fun e=>!inK outs e.1):=by
 unfold Zgc Zgf
 rw[List.filter_map]
 congr 1
 apply zb4
 intro e _
 simp only[Function.comp_def,ZgS,List.any_map,ZkH,inK]
theorem Zkh (outs:Grp) (e:Int×(Nat×List Nat)):(ZgS outs++[kI e.1]).getLast?=some (kI e.1):=by simp
theorem ZkY (outs:Grp) (e:Int×(Nat×List Nat)):ZgS outs++[kI e.1]=ZgS (outs++[e]):=by simp
abbrev Zd2 (outs:Grp):List (List AV):=outs.map fun e=>[.i e.1,eG e.2]
def outV (o:Grp) (id cap:Nat):AV:=match o with
 | []=>.sl .full []
 | _ :: _=>.arr id 0 o.length cap
@[simp] theorem outV_nil (id cap:Nat):outV [] id cap=.sl .full []:=rfl
def outO (o:Grp) (id:Nat) (tail:List AV):List (Nat×Zb3):=match o with
 | []=>[]
 | _ :: _=>[(id,.cells ((Zd2 o).flatten++tail) 176)]
structure OutI (M:Grp) (b:Nat) (o:Grp) (id cap:Nat) (tail:List AV):Prop where
 sub:∀e∈o,e∈M
 keys:(o.map (·.1)).Nodup
 len:o.length+(M.filter fun e=>!inK o e.1).length<=M.length
 room:o≠[]->b<=id/\((Zd2 o).flatten++tail).length=cap * 2/\o.length<=cap
theorem Zmo (o:Grp) (e:Int×(Nat×List Nat)) (id cap:Nat):outV (o++[e]) id cap=.arr id 0 (o.length+1) cap:=by
 cases o with
 | nil=>rfl
 | cons a r=>show AV.arr id 0 (a :: (r++[e])).length cap=_;simp
theorem ZlL (o:Grp) (e:Int×(Nat×List Nat)) (id:Nat) (tail:List AV):outO (o++[e]) id tail=[(id,.cells ((Zd2 (o++[e])).flatten++tail) 176)]:=by
 cases o<;>rfl
theorem grp_push {H:Zaa} {o:Grp} {id cap:Nat} {tail:List AV} {e:Int×(Nat×List Nat)} {x:AV} {K:AV->Zaa->Prop} (hx:ZaL H 2 x=some [[.i e.1,eG e.2]])
  (ho:o≠[]->H.get id=some (.cells ((Zd2 o).flatten++tail) 176)/\((Zd2 o).flatten++tail).length=cap * 2/\o.length<=cap) (hl:o.length<=1000000)
  (k:∀id' cap' tail' H',(o≠[]/\id'=id/\H'=H.set id (.cells ((Zd2 (o++[e])).flatten++tail') 176))\/(id'=H.next/\H'=H.alloc (.cells ((Zd2 (o++[e])).flatten++tail') 176))->((Zd2 (o++[e])).flatten++tail').length=cap' * 2->o.length+1<=cap'->K (outV (o++[e]) id' cap') H') :
  Zk3 H 176 2 32 [.i 0,.sl .full []] (outV o id cap) x K:=by
 have hrw:∀q∈Zd2 o,q.length=2:=fun q hq=>by obtain⟨p,_,rfl⟩:=zat.1 hq;rfl
 have hsn:Zd2 o++[[.i e.1,eG e.2]]=Zd2 (o++[e]):=by simp
 simp only[Zmo]at k
 cases o with
 | nil =>
  unfold Zk3
  rw[hx]
  refine⟨⟨by simp,rfl,by unfold maxLen;simp,by simp⟩,fun c h1 h2=>?_⟩
  refine k H.next c _ _ (.inr ⟨rfl,rfl⟩) ?_ h1
  rw[zai,Zc7 (sz:=2) (fun q hq=>by obtain⟨p,_,rfl⟩:=zat.1 hq;rfl),Zc7 (sz:=2) (rows:=List.replicate _ _) (fun q hq=>by rw[(zbM.1 hq).2];rfl),zcA,zaj,<- zaT]
  simp only[List.length_cons,List.length_nil,List.nil_append]at h1 ⊢
  congr 1
  omega
 | cons a r =>
  obtain⟨h1,h2,h3⟩:=ho (by simp)
  have hrl:(Zd2 (a :: r)).length=(a :: r).length:=zaj ..
  have h:=Zp3 (H:=H) (E:=176) (sz:=2) (bytes:=32) (id:=id) (cap:=cap) (zero:=[.i 0,.sl .full []]) (rows:=Zd2 (a :: r)) (tail:=tail) (r:=[.i e.1,eG e.2]) (x:=x) (K:=K)
   h1 hrw hx rfl h2 (by rw[hrl];exact h3) (by rw[hrl];unfold maxLen;omega) (by rw[hrl];omega) rfl (fun id' cap' tail' H' q1 q2 q3 _=>by
    rw[hsn]at q1 q2
    rw[hrl]at q3 ⊢
    refine k id' cap' tail' H' ?_ q2 q3
    rcases q1 with⟨q1,q4⟩|q1
    ·exact .inl ⟨by simp,q1,q4⟩
    ·exact .inr q1)
  rw[hrl]at h
  exact h
theorem HX.outs {it it':Zb3} {o o':Grp} {id id' a:Nat} {tail tail':List AV} {H1 G2 G5:Zaa} (h:HX ((a,it) :: outO o id tail) H1 G2) (hid:o≠[]->H1.next<=id) (hn:G2.next<=G5.next) (ha:G5.get a=some it') (ho:∀p∈outO o' id' tail',G5.get p.1=some p.2)
  (hg:∀j,j<H1.next->j≠a->G5.get j=G2.get j):HX ((a,it') :: outO o' id' tail') H1 G5:=by
 refine⟨zaB h.n hn,fun p hp=>?_,fun j hj hne=>?_⟩
 ·rcases zal.1 hp with rfl|hp
  ·exact ha
  ·exact ho p hp
 ·rw[zbk]at hne
  have hja:j≠a:=fun e=>by have:=hne (a,it') zae;simp[e]at this
  rw[hg j hj hja]
  refine h.g j hj ?_
  rw[zbk]
  intro p hp
  rcases zal.1 hp with rfl|hp
  ·simp;exact fun e=>hja e.symm
  ·cases o with
   | nil=>cases hp
   | cons x r =>
    rw[zam.1 hp]
    have:=hid (by simp)
    simp;omega
abbrev rG (gs:List (Int×List Nat)):List (List AV):=gs.map fun e=>[.i e.1,.sl .no (rP e.2)]
abbrev plain (M:Grp):List (Int×List Nat):=M.map fun e=>(e.1,e.2.2)
theorem grp_out {M o:Grp} {b id cap:Nat} {tail:List AV} (hM:(M.map (·.1)).Nodup) (hs:OutI M b o id cap tail) (h0:Zgc (Zgf kI eG M) (ZgS o)=[]):∀e,e∈o ↔ e∈M:=fun e=>by
 refine⟨hs.sub e,fun he=>?_⟩
 rw[Zij]at h0
 have h1:=List.map_eq_nil_iff.1 h0
 have h2:inK o e.1=true:=by
  have:=zcr.1 h1 e he
  simpa using this
 obtain⟨x,hx,hxe⟩:=zat.1 (Zl0.1 h2)
 have hxm:=hs.sub x hx
 have e1:=Zco (k:=e.1) (v:=e.2) hM he
 have e2:=Zco (k:=x.1) (v:=x.2) hM hxm
 rw[hxe,e1]at e2
 injection e2 with e2
 rw[show e=x from Prod.ext hxe.symm e2]
 exact hx
theorem grp_end {M o o':Grp} {part:List Nat} {key:Nat->Int} {n:Nat} (hMk:(M.map (·.1)).Nodup) (hM:plain M=Zkq key part) (hk:∀i∈part,0<=key i/\key i<n) (ho:∀e,e∈o ↔ e∈M) (hok:(o.map (·.1)).Nodup) (hp:o.Perm o') (hr:o'.Pairwise fun p q=>p.1<=q.1):plain o'=grs key n part:=by
 have hk':(o'.map (·.1)).Nodup:=((hp.map (·.1)).nodup_iff).1 hok
 have hlt:(plain o').Pairwise fun p q=>p.1<q.1:=by
  rw[zbR]
  rw[List.nodup_iff_pairwise_ne,zbR]at hk'
  exact(hr.and hk').imp fun⟨h1,h2⟩=>by simp only at h2 ⊢;omega
 refine Zll hlt (Ze9 key n part) fun x=>?_
 rw[grs_mem hk,<- hM,plain,ZgW (fun p:Nat×List Nat=>p.2)]
 constructor
 ·intro hx
  obtain⟨e,he,rfl⟩:=zat.1 hx
  have hem:=(ho e).1 (hp.mem_iff.2 he)
  rw[Zco (k:=e.1) (v:=e.2) hMk hem]
  rfl
 ·intro hx
  cases hg:Zcz x.1 M with
  | none=>rw[hg]at hx;cases hx
  | some v =>
   rw[hg]at hx
   injection hx with hx
   have hem:=(ho _).2 (Zeh hg)
   exact zat.2 ⟨_,hp.mem_iff.1 hem,Prod.ext rfl hx⟩
theorem Zkd {α β:Type} {f:α->β}:∀{l:List α} {m:List β},ZeK (fun a b=>b=f a) l m->m=l.map f
 | _,_,.nil=>rfl
 | _,_,.cons h t=>by rw[h,Zkd t];rfl
theorem Zib {α β:Type} (f:α->β):∀l:List α,ZeK (fun a b=>b=f a) l (l.map f)
 | []=>.nil
 | _ :: l=>.cons rfl (Zib f l)
theorem ZjS:∀(o:Grp) (tail:List AV),chunk 2 o.length ((Zd2 o).flatten++tail)=Zd2 o
 | [],_=>rfl
 | e :: o,tail=>by
  simp only[zas,List.flatten_cons,List.length_cons,chunk,zaM]
  rw[show([AV.i e.1,eG e.2]++((Zd2 o).flatten++tail)).take 2=[AV.i e.1,eG e.2]from rfl,show([AV.i e.1,eG e.2]++((Zd2 o).flatten++tail)).drop 2=(Zd2 o).flatten++tail from rfl,ZjS o tail]
theorem frz_grp {H:Zaa} {D:Nat->Bool} {id cap E:Nat} {o:Grp} {tail:List AV} (hD:D id=true) (hg:H.get id=some (.cells ((Zd2 o).flatten++tail) E)):Frz H D (.arr id 0 o.length cap) (.sl .no (rG (plain o))):=by
 have hrw:∀q∈Zd2 o,q.length=2:=fun q hq=>by obtain⟨p,_,rfl⟩:=zat.1 hq;rfl
 have hfl:(Zd2 o).flatten.length=o.length * 2:=by
  have:=Zc7 (sz:=2) hrw
  rw[this,zaj]
 have hch:chunk 2 o.length (((Zd2 o).flatten++tail).drop 0)=Zd2 o:=ZjS o tail
 have hrr:∀(i:Nat) (r r':List AV),(Zd2 o)[i]?=some r->(rG (plain o))[i]?=some r'->∃e:Int×(Nat×List Nat),r=[.i e.1,eG e.2]/\r'=[.i e.1,.sl .no (rP e.2.2)]:=fun i r r' h1 h2=>by
  simp only[zaL]at h1 h2
  cases he:o[i]? with
  | none=>rw[he]at h1;cases h1
  | some e =>
   rw[he]at h1 h2
   injection h1 with h1
   injection h2 with h2
   exact⟨e,h1.symm,h2.symm⟩
 refine .arr id 0 2 o.length cap E _ _ hD hg (by rw[zai,hfl];omega) (by simp) (fun i r r' h1 h2=>?_) (fun i r r' j x y h1 h2 hx hy=>?_)
 ·rw[hch]at h1
  obtain⟨e,rfl,rfl⟩:=hrr i r r' h1 h2
  rfl
 ·rw[hch]at h1
  obtain⟨e,rfl,rfl⟩:=hrr i r r' h1 h2
  match j,hx,hy with
  | 0,hx,hy =>
   injection hx with hx
   injection hy with hy
   subst hx hy
   exact .refl _
  | 1,hx,hy =>
   injection hx with hx
   injection hy with hy
   subst hx hy
   refine .sl _ _ _ rfl (fun i r r' h1 h2=>by rw[h1]at h2;injection h2 with h2;rw[h2]) (fun i r r' j x y h1 h2 hx hy=>by
    rw[h1]at h2;injection h2 with h2;subst h2;rw[hx]at hy;injection hy with hy;subst hy;exact .refl _)
  | j+2,hx,_=>exact absurd hx (by simp)
def Ziy (facts:List Fct) (lift:List Int) (at_:Nat) (key:Nat->Int) (part:List Nat):Prop:=∀i∈part,∃(hi:i<facts.length) (n:Nat) (hn:n<lift.length) (ha:at_<facts[i].1.length),facts[i].1[at_]=(n:Int)/\lift[n]=key i
set_option maxHeartbeats 4000000 in
theorem Zht {facts:List Fct} {L:List (List (List Int))} {at_ tier:Nat} {part:List Nat} {key:Nat->Int} {t tf tl:Tok} {bid:Nat} {ov mv ev:AV} {H:Zaa} (hb:H.get bid=some (.cells [.sl tf (rF facts),.sl tl (rIII L),ov,mv,ev] 97))
  (h1:at_<L.length) (h2:tier<L[at_].length) (hk:Ziy facts (L[at_][tier]) at_ key part) (hp:part.length<=1000000) {n:Nat} (hkr:∀i∈part,0<=key i/\key i<n) (hne:part≠[]):Zay Tryz.prog 98 [.ptr bid 0,.i (at_:Int),.i (tier:Int),.sl t (rP part)] H (Pure H (.sl .no (rG (grs key n part)))):=by
 have lb:=Zaa.lt hb
 have r1:(rIII L)[at_]?=some [.sl .no (rII L[at_])]:=by simp[h1]
 have r2:(rII L[at_])[tier]?=some [.sl .no (rI L[at_][tier])]:=by simp[h2]
 generalize L[at_][tier]=lift at *
 refine Zak hEg vf98 (zab rfl) fun Q qr qn=>?_
 ((have hd:=tv;repeat' first|(first|apply Zad|apply Zac|apply Zab)<;>intro hd<;>try simp only[hd]|simp(disch:=first|assumption|omega|simp only[nx]<;>omega|fail)only[hd,qr,qn,Zgg,↓YA,YY,sevalprocAttr,hb,r1,r2,zaj])<;>try revert hd;refine ttr ?_)
 have hx0:Zaa.Ext H (H.alloc (.map (.one (.int .i64)) [] false)):=by exact AXT
 refine Zbs [0,1,9,10,28,29] (σ:=Grp) (fun(k:Nat) s=>GrpI s (H.next+1)/\plain s=Zkq key (part.take k)) (fun k s=>[]) (fun k s=>((H.next,mpG s) :: tokG s)) [] (GStep.refl _ _) (by simp only[ZaA,Zav,Fr.put,Fr.get,↓reduceIte,Nat.reduceEqDiff];rfl) (by intro k s;rfl) (by intro k s;rfl) (by rfl) (by unfold maxLen;omega) ?_ (by simp only[ZaF]) ?_ ?_ ?_
 ·exact⟨⟨by simp,by simp,by simp⟩,rfl⟩
 ·rw[ZaP]
  exact⟨Zaa.Zae (H:=H),by simp[Zc5,tokG]⟩
 ·(rintro k M G hj ⟨hI,hM⟩ hG hn;try simp only[nx]at hn)
  have ho:=hG.o1
  have lo:=Zaa.lt ho
  have hc:=(hG.g _ (by simp only[nx];omega) (by
   rw[zbk]
   intro p hp
   rcases zal.1 hp with rfl|hp
   ·simp;omega
   ·obtain⟨e,he,rfl⟩:=zat.1 hp
    have:=hI.lo e he
    simp;omega)).trans ((Zaa.Zag (by omega)).trans hb)
  have lc:=Zaa.lt hc
  obtain⟨hi,n,hn',ha,e1,e2⟩:=hk _ (zaq hj)
  have g1:(rP part)[k]?=some [.i (part[k]:Int)]:=by simp[hj]
  have g2:=ZjV hi
  obtain⟨f0,f1,f2,f3⟩:=Zbu facts[part[k]]
  have g3:(rI facts[part[k]].1)[at_]?=some [.i (n:Int)]:=by simp[ha,e1]
  have g4:(rI lift)[n]?=some [.i (key part[k])]:=by simp[hn',e2]
  have hsn:=Zlt key hj
  generalize part[k]=i at *
  have hof:=ZrS (key i)
  have hfn:=ZbV (vf:=eG) ZkH (key i) M
  have hag:=ZgW (fun p:Nat×List Nat=>p.2) (key i) M
  rw[show(M.map fun e=>(e.1,e.2.2))=Zkq key (part.take k)from hM]at hag
  cases hgk:Zcz (key i) M with
  | none =>
   rw[hgk]at hfn hag
   have hset:Ziw (kI (key i)) (.sl (.own G.next) [[AV.i (i:Int)]]) (Zgf kI eG M)=Zgf kI eG (ZbU (key i) (G.next,[i]) M):=ZcH (vf:=eG) ZkH (key i) (G.next,[i]) M
   have la2:ZaE 1 [[AV.i (i:Int)]]=true:=rfl
   have la1:ZaE 1 ([]:List (List AV))=true:=rfl
   have lm1:1<=maxLen:=by unfold maxLen;omega
   ((have hd:=tv;repeat' first|(first|apply Zad|apply Zac|apply Zab)<;>intro hd<;>try simp only[hd]|simp(disch:=first|assumption|omega|simp only[nx]<;>omega|fail)only[hd,qr,qn,Zgg,↓YA,YY,sevalprocAttr,hc,ho,g1,g2,f0,f1,g3,g4,hof,hfn,Option.map_none,la1,la2,lm1,ZaL,rowsOf,zaj])<;>try revert hd;refine ttr ?_)
   rw[hset]
   obtain⟨n1,n2⟩:=hI.new (i:=i) hG (by have:=hn;omega) (by omega) hgk
   refine⟨_,⟨n1,?_⟩,n2⟩
   rw[hsn,hag,<- hM]
   exact(Zhf (fun p:Nat×List Nat=>p.2) (key i) (G.next,[i]) M).symm
  | some e =>
   obtain⟨tk,p⟩:=e
   rw[hgk]at hfn hag
   have hset:=ZcH (vf:=eG) ZkH (key i) (tk,p++[i]) M
   have hmem:=Zeh hgk
   have htk:G.get tk=some (.tok p.length 3 1):=hG.o (tk,_) (zad _ (zat.2 ⟨_,hmem,rfl⟩))
   have ltk:=Zaa.lt htk
   have hlo:=hI.lo _ hmem
   simp only at hlo
   have la2:ZaE 1 [[AV.i (i:Int)]]=true:=rfl
   have la1:ZaE 1 (rP p)=true:=ZaU (f:=fun i:Nat=>[AV.i (i:Int)]) (fun _=>rfl) p
   have hpl:p.length<=_:=grpA_len hag
   rw[za9]at hpl
   have lm1:p.length+1<=maxLen:=by unfold maxLen;omega
   have lm2:(p.length+1) * 8<=140737488355328:=by omega
   have hrl:(rP p).length=p.length:=by simp
   have hrs:rP p++[[AV.i (i:Int)]]=rP (p++[i]):=by simp
   ((have hd:=tv;repeat' first|(first|apply Zad|apply Zac|apply Zab)<;>intro hd<;>try simp only[hd]|simp(disch:=first|assumption|omega|simp only[nx]<;>omega|fail)only[hd,qr,qn,Zgg,↓YA,YY,sevalprocAttr,hc,ho,g1,g2,f0,f1,g3,g4,hof,hfn,Option.map_some,htk,la1,la2,lm1,lm2,hrl,hrs,hset,ZaL,rowsOf,zaj])<;>try revert hd;refine ttr ?_)
   obtain⟨n1,n2⟩:=hI.old (i:=i) hG (by omega) hgk
   refine⟨_,⟨n1,?_⟩,n2⟩
   rw[hsn,hag,<- hM]
   exact(Zhf (fun p:Nat×List Nat=>p.2) (key i) (tk,p++[i]) M).symm
 ·(rintro M G ⟨hI,hM⟩ hG hn;try simp only[nx]at hn)
  have ho:=hG.o1
  have lo:=Zaa.lt ho
  have hlen:(Zgf kI eG M).length=M.length:=by rw[Zgf,zaj]
  have hxG:Zaa.Ext H G:=hG.ZdB hx0 (by
   intro p hp
   rcases zal.1 hp with rfl|hp
   ·simp
   ·obtain⟨e,he,rfl⟩:=zat.1 hp
    have:=hI.lo e he
    simp;omega)
  have htk:∀e∈M,G.get e.2.1=some (.tok e.2.2.length 3 1):=fun e he=>hG.o (e.2.1,_) (zad _ (zat.2 ⟨e,he,rfl⟩))
  rw[zaK]at hM
  have hMl:M.length<=part.length:=by
   have:=Zjb key part
   rw[<- hM,zaj]at this
   exact this
  ((have hd:=tv;repeat' first|(first|apply Zad|apply Zac|apply Zab)<;>intro hd<;>try simp only[hd]|simp(disch:=first|assumption|omega|simp only[nx]<;>omega|fail)only[hd,qr,qn,Zgg,↓YA,YY,sevalprocAttr,ho,hlen])<;>try revert hd;refine ttr ?_)
  refine Zcw [58] (σ:=Grp×Nat×Nat×List AV) (fun s=>OutI M (G.next+1) s.1 s.2.1 s.2.2.1 s.2.2.2) (fun s=>(M.filter fun e=>!inK s.1 e.1).length) (fun s=>[(14,outV s.1 s.2.1 s.2.2.1)]) (fun s=>((G.next,.iter H.next M.length (ZgS s.1)) :: outO s.1 s.2.1 s.2.2.2)) (([]:Grp),0,0,([]:List AV)) (GStep.refl _ _) (by simp only[ZaA,Zav,Fr.put,Fr.get,↓reduceIte,Nat.reduceEqDiff];rfl) ?_ (by simp only[ZaF,ZaX,Fr.put,Fr.get,↓reduceIte,Nat.reduceEqDiff,and_self]<;>simp) ?_ ?_
  ·exact⟨by simp,by simp,by simp only[List.length_nil,zaH];exact zb8 _ _,by simp⟩
  ·rw[ZaP]
   exact⟨Zaa.Zae (H:=G),by simp[Zc5,outO]⟩
  ·(rintro s G2 hs hG2 hn2;try simp only[nx]at hn2)
   obtain⟨o,id,cap,tail⟩:=s
   simp only at hs hG2
   have hi2:=hG2.o1
   have li2:=Zaa.lt hi2
   have hm2:G2.get H.next=some (mpG M):=(hG2.g _ (by simp only[nx];omega) (by
    rw[zbk]
    intro p hp
    rcases zal.1 hp with rfl|hp
    ·simp;omega
    ·unfold outO at hp
     cases o with
     | nil=>cases hp
     | cons a r =>
      rw[zam.1 hp]
      have:=(hs.room (by simp)).1
      simp;omega)).trans ((Zaa.Zag (by omega)).trans ho)
   have lm2:=Zaa.lt hm2
   ((have hd:=tv;repeat' first|(first|apply Zad|apply Zac|apply Zab)<;>intro hd<;>try simp only[hd]|simp(disch:=first|assumption|omega|simp only[nx]<;>omega|fail)only[hd,qr,qn,Zgg,↓YA,YY,sevalprocAttr])<;>try revert hd;refine ttr ?_)
   refine nxtk_use hi2 hm2 hlen (fun h0=>?_) (fun p hp=>?_)
   ·have hin:=grp_out hI.keys hs h0
    have hon:o≠[]:=fun he=>by
     subst he
     obtain⟨i,hi⟩:=zbz _ hne
     have hmm:Zcz (key i) (plain M)≠none:=by
      rw[hM,Zhl,if_neg]
      ·simp
      ·intro hh
       have:i∈part.filter (fun j=>decide (key j=key i)):=za7.2 ⟨hi,by simp⟩
       rw[hh]at this;cases this
     cases M with
     | nil=>exact hmm rfl
     | cons e r=>exact absurd ((hin e).2 zae) (by simp)
    obtain⟨q1,q2,q3⟩:=hs.room hon
    have hout:outV o id cap=.arr id 0 o.length cap:=by
     cases o with
     | nil=>exact absurd rfl hon
     | cons a r=>rfl
    have hoo:G2.get id=some (.cells ((Zd2 o).flatten++tail) 176):=by
     cases o with
     | nil=>exact absurd rfl hon
     | cons a r=>exact hG2.o (id,_) (by simp[outO])
    have hfl:flG (o.map fun e=>(e.1,eG e.2))=(Zd2 o).flatten:=by rw[flG,List.flatMap_map,List.flatMap_def]
    have hS:=Zi4 (oid:=id) (cap:=cap) (E:=176) (gs:=o.map fun e=>(e.1,eG e.2)) (tail:=tail) (H:=G2) (by rw[hfl];exact hoo) (fun p hp=>by obtain⟨e,_,rfl⟩:=zat.1 hp;rfl) (by rw[zaj];have:=hs.len;omega)
    rw[zaj]at hS
    have hlo:=Zaa.lt hoo
    have hxG2:Zaa.Ext H G2:=hG2.ZdB (by exact AXT) (by
     intro p hp
     rcases zal.1 hp with rfl|hp
     ·simp only;omega
     ·cases o with
      | nil=>cases hp
      | cons a r=>rw[zam.1 hp];simp only;omega)
    ((have hd:=tv;repeat' first|(first|apply Zad|apply Zac|apply Zab)<;>intro hd<;>try simp only[hd]|simp(disch:=first|assumption|omega|simp only[nx]<;>omega|fail)only[hd,qr,qn,Zgg,↓YA,YY,sevalprocAttr,hout])<;>try revert hd;refine ttr ?_)
    refine Zap.use hS ?_
    rintro _ _ ⟨rfl,gs',hp',hr',rfl⟩
    obtain⟨o',p1,p2⟩:=Zif hp' (Zib (fun e:Int×(Nat×List Nat)=>(e.1,eG e.2)) o)
    have p3:=Zkd p2
    subst p3
    have p4:=grp_end (o':=o') hI.keys hM hkr hin hs.keys p1 (by rw[zbR]at hr';exact hr')
    have hfl':flG (o'.map fun e=>(e.1,eG e.2))=(Zd2 o').flatten:=by rw[flG,List.flatMap_map,List.flatMap_def]
    rw[hfl']
    ((have hd:=tv;repeat' first|(first|apply Zad|apply Zac|apply Zab)<;>intro hd<;>try simp only[hd]|simp(disch:=first|assumption|omega|simp only[nx]<;>omega|fail)only[hd,qr,qn,Zgg,↓YA,YY,sevalprocAttr])<;>try revert hd;refine ttr ?_)
    have hgo:(G2.set id (.cells ((Zd2 o').flatten++tail) 176)).get id=some (.cells ((Zd2 o').flatten++tail) 176):=Zaa.Zal hlo
    have hxo:Zaa.Ext H (G2.set id (.cells ((Zd2 o').flatten++tail) 176)):=by exact AXT
    have hfr:=frz_grp (D:=fun i=>decide (i=id)) (cap:=cap) (by simp) hgo
    rw[p4,<- p1.length_eq]at hfr
    exact ZpD hfr (fun i hi=>by simp;omega) hxo
   ·rw[Zij]at hp
    obtain⟨e,he,rfl⟩:=zat.1 hp
    obtain⟨he,hek⟩:=za7.1 he
    have hfn:=ZbV (vf:=eG) ZkH e.1 M
    have hge:=Zco hI.keys (k:=e.1) (v:=e.2) he
    rw[hge,Option.map_some]at hfn
    have hgl:=Zkh o e
    have hln:(Zgf kI eG M).length=M.length:=hlen
    have hki:AV.sc (kI e.1)=.i e.1:=rfl
    ((have hd:=tv;repeat' first|(first|apply Zad|apply Zac|apply Zab)<;>intro hd<;>try simp only[hd]|simp(disch:=first|assumption|omega|simp only[nx]<;>omega|fail)only[hd,qr,qn,Zgg,↓YA,YY,sevalprocAttr,hm2,hgl,hln,hfn,hki,rowsOf,zaj])<;>try revert hd;refine ttr ?_)
    have hrow:ZaL ((G2.set G.next (.iter H.next M.length (ZgS o++[kI e.1]))).alloc (.cells [[AV.i e.1,AV.sl (.own e.2.1) (rP e.2.2)]].flatten 176)) 2 (.arr G2.next 0 1 1)=some [[.i e.1,eG e.2]]:=by
     have hgs:((G2.set G.next (.iter H.next M.length (ZgS o++[kI e.1]))).alloc (.cells [[AV.i e.1,AV.sl (.own e.2.1) (rP e.2.2)]].flatten 176)).get G2.next=some (.cells [[AV.i e.1,AV.sl (.own e.2.1) (rP e.2.2)]].flatten 176):=Zaa.Zae (H:=G2.set _ _)
     simp only[ZaL,hgs]
     rfl
    have hol:o.length<=1000000:=by have:=hs.len;omega
    have hoo:o≠[]->G2.get id=some (.cells ((Zd2 o).flatten++tail) 176):=fun hne=>by
     cases o with
     | nil=>exact absurd rfl hne
     | cons a r=>exact hG2.o (id,_) (by simp[outO])
    have hmu:(M.filter fun e'=>!inK (o++[e]) e'.1).length<(M.filter fun e'=>!inK o e'.1).length:=filter_lt _ _ (fun x hx=>by
     simp only[zbQ,inK,List.any_append,Bool.or_eq_false_iff]at hx ⊢
     exact hx.1) e hek (by simp[inK]) M he
    refine grp_push (tail:=tail) hrow (fun hne=>?_) hol (fun id' cap' tail' G5 hc hcl hcc=>?_)
    ·obtain⟨q1,q2,q3⟩:=hs.room hne
     have h1:=hoo hne
     have:=Zaa.lt h1
     refine⟨?_,q2,q3⟩
     rw[Zaa.Zag (by simp only[nx];omega),Zaa.Zah (by omega)]
     exact h1
    ·((have hd:=tv;repeat' first|(first|apply Zad|apply Zac|apply Zab)<;>intro hd<;>try simp only[hd]|simp(disch:=first|assumption|omega|simp only[nx]<;>omega|fail)only[hd,qr,qn,Zgg,↓YA,YY,sevalprocAttr])<;>try revert hd;refine ttr ?_)
     refine⟨(o++[e],id',cap',tail'),⟨fun x hx=>?_,?_,by rw[zai];have:=hs.len;simp only[List.length_cons,List.length_nil];omega,fun _=>⟨?_,hcl,by simpa using hcc⟩⟩,hmu,rfl,?_⟩
     ·rcases zav.1 hx with hx|hx
      ·exact hs.sub x hx
      ·rw[zam.1 hx];exact he
     ·rw[zaV,zcP]
      refine⟨hs.keys,by simp,fun a ha b hb hab=>?_⟩
      simp at hb
      subst hab hb
      have:=Zl0.2 ha
      simp[this]at hek
     ·rcases hc with⟨hne,rfl,_⟩|⟨rfl,_⟩
      ·exact(hs.room hne).1
      ·simp only[nx];omega
     ·simp only
      rw[<- ZkY]
      refine hG2.outs (fun hne=>by simp only[nx];exact(hs.room hne).1) ?_ ?_ (fun p hp=>?_) (fun j hj hja=>?_)
      ·rcases hc with⟨_,_,rfl⟩|⟨_,rfl⟩<;>simp only[nx]<;>omega
      ·rcases hc with⟨hne,_,rfl⟩|⟨_,rfl⟩
       ·have:=(hs.room hne).1
        rw[Zaa.Zah (by omega),Zaa.Zag (by simp only[nx];omega)]
        exact Zaa.Zal li2
       ·rw[Zaa.Zag (by simp only[nx];omega),Zaa.Zag (by simp only[nx];omega)]
        exact Zaa.Zal li2
      ·rw[ZlL]at hp
       rw[zam.1 hp]
       rcases hc with⟨hne,rfl,rfl⟩|⟨rfl,rfl⟩
       ·have:=Zaa.lt (hoo hne)
        exact Zaa.Zal (by simp only[nx];omega)
       ·exact Zaa.Zae
      ·simp only[nx]at hj
       rcases hc with⟨hne,_,rfl⟩|⟨_,rfl⟩
       ·have:=(hs.room hne).1
        rw[Zaa.Zah (by omega),Zaa.Zag (by simp only[nx];omega),Zaa.Zah hja]
       ·rw[Zaa.Zag (by simp only[nx];omega),Zaa.Zag (by simp only[nx];omega),Zaa.Zah hja]
end Go.Proofs.YtaapiigfmdhobaaGreat
