/- Texts of the walk. -/
import Derived.Test.YtdfgoekdlmkdfaaGreatDoorMj
import Derived.Sort.Walk0
namespace Go.Proofs.YtdfgoekdlmkdfaaGreatDoor
set_option linter.defProp false
set_option maxHeartbeats 64000000
set_option linter.unusedSimpArgs false
set_option linter.unusedVariables false
open Go.RowKit
theorem Zd4 (a b:Int):vEq (.int .i64 a) (.int .i64 b)=decide (a=b):=by by_cases h:a=b<;>simp[vEq,h]
section
variable {K V:Type} [DecidableEq K] {kf:K->Value} {vf:V->AV}
def Zcz (k:K):List (K×V)->Option V
 | []=>none
 | (k',v) :: M=>if k=k' then some v else Zcz k M
def ZbU (k:K) (v:V):List (K×V)->List (K×V)
 | []=>[(k,v)]
 | (k',u) :: M=>if k=k' then (k,v) :: M else (k',u) :: ZbU k v M
def Zgf (kf:K->Value) (vf:V->AV) (M:List (K×V)):List (Value×AV):=M.map fun p=>(kf p.1,vf p.2)
theorem ZbV (hk:∀a b,kEq (kf a) (kf b)=decide (a=b)) (k:K):∀M:List (K×V),ZdG (kf k) (Zgf kf vf M)=(Zcz k M).map vf
 | []=>rfl
 | (k',v) :: M=>by
  have ih:=ZbV hk k M
  unfold Zgf at ih ⊢
  simp only[zao,ZdG,hk,Zcz]
  by_cases h:k=k'<;>simp[h,ih]
theorem ZcH (hk:∀a b,kEq (kf a) (kf b)=decide (a=b)) (k:K) (v:V):∀M:List (K×V),Ziw (kf k) (vf v) (Zgf kf vf M)=Zgf kf vf (ZbU k v M)
 | []=>rfl
 | (k',u) :: M=>by
  have ih:=ZcH hk k v M
  unfold Zgf at ih ⊢
  simp only[zao,Ziw,hk,ZbU]
  by_cases h:k=k'<;>simp[h,ih]
theorem Zeg (k j:K) (v:V):∀M:List (K×V),Zcz j (ZbU k v M)=if j=k then some v else Zcz j M
 | []=>by simp[ZbU,Zcz]
 | (k',u) :: M=>by
  have ih:=Zeg k j v M
  unfold ZbU
  by_cases h:k=k'
  ·subst h
   rw[if_pos rfl]
   simp only[Zcz]
   by_cases h2:j=k<;>simp[h2]
  ·rw[if_neg h]
   simp only[Zcz,ih]
   by_cases h2:j=k
   ·subst h2;simp[h]
   ·simp[h2]
theorem ZdP (k:K) (v:V) (M:List (K×V)):Zcz k (ZbU k v M)=some v:=by rw[Zeg,if_pos rfl]
theorem ZjW (k:K) (v:V):∀M:List (K×V),(ZbU k v M).length=if (Zcz k M).isSome then M.length else M.length+1
 | []=>by simp[ZbU,Zcz]
 | (k',u) :: M=>by
  have ih:=ZjW k v M
  unfold ZbU Zcz
  by_cases h:k=k'
  ·simp[h]
  ·simp only[h,if_false,List.length_cons,ih]
   split<;>omega
end
def kI (n:Int):Value:=.int .i64 n
def k2 (p:Int×Int):Value:=.agg #[.int .i64 p.1,.int .i64 p.2]
theorem ZkH (a b:Int):kEq (kI a) (kI b)=decide (a=b):=Zd4 a b
theorem ZrS (a:Int):KK.of (.one (.int .i64)) (.i a)=some (kI a):=rfl
inductive Wkn:AV->AV->Prop
 | refl (a:AV):Wkn a a
 | sl (t:Tok) (rows rows':List (List AV)) (hl:rows.length=rows'.length) (h1:∀(i:Nat) (r r':List AV),rows[i]?=some r->rows'[i]?=some r'->r.length=r'.length)
  (h2:∀(i:Nat) (r r':List AV) (j:Nat) (x y:AV),rows[i]?=some r->rows'[i]?=some r'->r[j]?=some x->r'[j]?=some y->Wkn x y):Wkn (.sl t rows) (.sl .no rows')
 | agg (cs cs':List AV) (hl:cs.length=cs'.length) (h:∀(i:Nat) (x y:AV),cs[i]?=some x->cs'[i]?=some y->Wkn x y):Wkn (.agg cs) (.agg cs')
 | tup (cs cs':List AV) (hl:cs.length=cs'.length) (h:∀(i:Nat) (x y:AV),cs[i]?=some x->cs'[i]?=some y->Wkn x y):Wkn (.tup cs) (.tup cs')
section
variable {g:Gh} {w:World}
theorem Wkn.one {a b:AV} (h:Wkn a b):a.one=b.one:=by cases h<;>rfl
theorem ZaN {α:Type} {l m:List α} (hl:l.length=m.length) {i:Nat} {y:α} (h:m[i]?=some y):∃x,l[i]?=some x:=by
 have:=(List.getElem?_eq_some_iff.1 h).1
 exact⟨l[i]'Xa,zac Xa⟩
theorem VR.wkn {a b:AV} {v:Value} (hw:Wkn a b) (h:VR g w a v):VR g w b v:=by
 induction hw generalizing v with
 | refl a=>exact h
 | sl t rows rows' hl h1 h2 ih =>
  cases h with
  | sl tok _ A c sz b o f hc hm hA hsz hcell hv ht =>
   have:=VR.sl (g:=g) (w:=w) .no rows' A c sz b o f (by rw[<- hl];exact hc) hm (fun hne=>hA fun e=>hne (by rw[e]at hl;exact List.length_eq_zero_iff.1 hl.symm)) (fun r' hr'=>by
    obtain⟨i,hi,rfl⟩:=zar hr'
    obtain⟨r,hr⟩:=ZaN hl (zac hi)
    have hrm:=List.mem_of_getElem? hr
    have e:=h1 i r _ hr (zac hi)
    refine⟨by rw[<- e];exact(hsz r hrm).1,fun y hy=>?_⟩
    obtain⟨j,hj,rfl⟩:=zar hy
    obtain⟨x,hx⟩:=ZaN e (zac hj)
    rw[<- (h2 i r _ j x _ hr (zac hi) hx (zac hj)).one]
    exact(hsz r hrm).2 x (List.mem_of_getElem? hx)) (fun i r' j y hr' hy=>by
    obtain⟨r,hr⟩:=ZaN hl hr'
    obtain⟨x,hx⟩:=ZaN (h1 i r r' hr hr') hy
    exact hcell i r j x hr hx) (fun i r' j y hr' hy=>by
    obtain⟨r,hr⟩:=ZaN hl hr'
    obtain⟨x,hx⟩:=ZaN (h1 i r r' hr hr') hy
    exact ih i r r' j x y hr hr' hx hy (hv i r j x hr hx)) trivial
   rw[hl]
   exact this
 | agg cs cs' hl hh ih =>
  cases h with
  | agg _ vs hl2 hone hv=>exact .agg cs' vs (by rw[<- hl];exact hl2) (fun y hy=>by
    obtain⟨j,hj,rfl⟩:=zar hy
    obtain⟨x,hx⟩:=ZaN hl (zac hj)
    rw[<- (hh j x _ hx (zac hj)).one]
    exact hone x (List.mem_of_getElem? hx)) (fun i y u hy hu=>by
    obtain⟨x,hx⟩:=ZaN hl hy
    exact ih i x y hx hy (hv i x u hx hu))
 | tup cs cs' hl hh ih =>
  cases h with
  | tup _ vs hl2 hv=>exact .tup cs' vs (by rw[<- hl];exact hl2) (fun i y u hy hu=>by
    obtain⟨x,hx⟩:=ZaN hl hy
    exact ih i x y hx hy (hv i x u hx hu))
end
theorem Zb6.wkn {r v:AV} {H H2:Zaa} (hr:Wkn r v) (h:Zaa.Ext H2 H):Zb6 r H v (H2.bump (H.next - H2.next)):=fun g w u hv hW=>by
 obtain⟨k1,k2⟩:=Zf3 hW (H2:=H2.bump (H.next - H2.next)) (fun i o hi=>h.get i o hi) (by have:=h.next;simp;omega)
 exact⟨g,hv.wkn hr,k1,k2⟩
theorem Zc1 {r v:AV} {H0 H:Zaa} (hr:Wkn r v) (hx:Zaa.Ext H0 H:=by exact AXT):∃r2 H2,Zb6 r H r2 H2/\Pure H0 v r2 H2:=⟨_,_,Zb6.wkn hr hx,rfl,_,rfl⟩
def kS (l:List UInt8):Value:=.string ⟨l.toArray⟩
theorem Zev (a b:List UInt8):kEq (kS a) (kS b)=decide (a=b):=by
 rw[zaR,decide_eq_true_eq]
 show(a.toArray == b.toArray)=true ↔ _
 rw[beq_iff_eq]
 exact⟨fun h=>by simpa using congrArg Array.toList h,fun h=>by rw[h]⟩
theorem kS_of (l:List UInt8):KK.of (.one .str) (eS l)=some (kS l):=rfl
structure Tir where
 name:Tx
 terms:List Tx
 up:List Int
structure Dm where
 name:Tx
 tiers:List Tir
structure Sc where
 dims:List Dm
 meas:List Tx
def eTr (t:Tir):List AV:=[eS t.name,.sl .no (rS t.terms),.sl .no (rI t.up)]
abbrev rT (l:List Tir):List (List AV):=l.map eTr
def eDm (d:Dm):List AV:=[eS d.name,.sl .no (rT d.tiers)]
abbrev rD (l:List Dm):List (List AV):=l.map eDm
def eSc (s:Sc):List AV:=[.sl .no (rD s.dims),.sl .no (rS s.meas)]
theorem bytes_at {l:List UInt8} {k:Nat} (h:k<l.length):(⟨l.toArray⟩:ByteArray)[k]?=some l[k]:=by
 show(if h:k<l.toArray.size then some _ else none)=_
 rw[dif_pos (by simpa using h)]
 rfl
def ZcS (c:UInt8):Bool:=(decide ((97:Int)<=c.toNat)&&decide ((c.toNat:Int)<=122)) || (decide ((48:Int)<=c.toNat)&&decide ((c.toNat:Int)<=57)) || ((c.toNat:Int) == 95)
def ZbK (s:Tx):Bool:=!decide (s=[])&&!decide ((s.length:Int) > 12)&&s.all ZcS
theorem ZgA (q:Tx) (H:Zaa):Zay Tryz.prog 127 [eS q] H (Pure H (.i (if ZbK q=true then 0 else 2))):=by
 refine fnQ cf127 fun Q qr qn=>?_
 by_cases h0:q=[]
 ·subst h0
  refine Bz0 ?_
  refine Zaz (by rfl)
 have d0:decide (q=[])=false:=decide_eq_false h0
 by_cases h1:(q.length:Int) > 12
 ·have d1:decide ((q.length:Int) > 12)=true:=decide_eq_true h1
  refine Bz1 (X2 d0 d1) ?_
  refine Zaz (by simp[ZbK,h1])
 have d1:decide ((q.length:Int) > 12)=false:=decide_eq_false h1
 have hbad:∀k (hk:k<q.length),ZcS q[k]=false->(2:Int)=if ZbK q=true then 0 else 2:=fun k hk h=>by
  rw[if_neg]
  rw[ZbK,Zjc hk h];simp
 have hgood:q.all ZcS=true->(0:Int)=if ZbK q=true then 0 else 2:=fun h=>by
  rw[if_pos]
  rw[ZbK,h,d0,d1];rfl
 refine Bz1 (X2 d0 d1) ?_
 refine Zbs [0,13] (σ:=Unit) (fun(k:Nat) s=>(q.take k).all ZcS=true) (fun k s=>[]) (fun k s=>[]) () (GStep.refl _ _) xV xW xW (by rfl) Xd ?_ xF xU ?_ ?_
 ·rfl
 ·(rintro k u G hk ht hG hn;try simp only[nx]at hn)
  have hs:=bytes_at hk
  have hb:=hbad k hk
  have hsn:=Zhg (p:=ZcS) hk
  rw[ht,za3]at hsn
  generalize q[k]=c at *
  clear hbad hgood
  ((have hd:=tv;repeat' first|(first|apply Zad|apply Zac|apply Zab)<;>intro hd<;>try simp only[hd]|simp(disch:=first|assumption|omega|simp only[nx]<;>omega|fail)only[hd,qr,qn,Zsn,↓YA,YY,sevalprocAttr,hs])<;>try revert hd;refine ttr ?_)
  all_goals first
   | (refine Zaz (hb ?_);clear hb hsn;unfold ZcS;first|(simp_all;done)|grind)
   | (refine⟨(),?_,by exact HXT⟩;rw[hsn];clear hb hsn;unfold ZcS;first|(simp_all;done)|grind)
 ·(rintro u G ht hG hn;try simp only[nx]at hn)
  rw[zaq]at ht
  refine Bz0 ?_
  refine Zaz (by exact hgood ht)
theorem Zjx {s:Tx} (h:ZbK s=false) (H:Zaa):Zay Tryz.prog 127 [eS s] H (Pure H (.i 2)):=by
 have:=ZgA s H
 rw[h]at this
 exact this
theorem Zg8 {s:Tx} (h:ZbK s=true) (H:Zaa):Zay Tryz.prog 127 [eS s] H (Pure H (.i 0)):=by
 have:=ZgA s H
 rw[h]at this
 exact this
def isT (s:Tx):Bool:=decide ((s.length:Int)≥1)&&decide ((s.length:Int)<=16)
theorem Zhs (s:Tx) (H:Zaa):Zay Tryz.prog 87 [eS s] H (Pure H (.i (if isT s=true then 0 else 2))):=by
 unfold isT
 cases s with
 | nil =>
  refine fnQ cf87 fun Q qr qn=>?_
  refine Bz0 ?_
  refine Zaz (by rfl)
 | cons a r =>
  have d0:decide (a :: r=[])=false:=Xc
  refine fnQ cf87 fun Q qr qn=>?_
  ((have hd:=tv;repeat' first|(first|apply Zad|apply Zac|apply Zab)<;>intro hd<;>try simp only[hd]|simp(disch:=first|assumption|omega|simp only[nx]<;>omega|fail)only[hd,qr,qn,c87_0,↓YA,YY,sevalprocAttr,d0])<;>try revert hd;refine ttr ?_)
  ·refine Zaz (by rw[if_neg];simp at hd ⊢;omega)
  ·refine Zaz (by rw[if_pos];simp at hd ⊢;omega)
def geT (w:Option Tx) (s:Tx):Bool:=match w with
 | some q=>!decide (q<s)
 | none=>false
def Zgt:Option Tx->List Tx->Int
 | _,[]=>0
 | w,s :: r=>if isT s=false then 2 else if geT w s=true then 4 else Zgt (some s) r
theorem Zhp (w:Option Tx) (s:Tx) (r:List Tx):Zgt w (s :: r)=if isT s=false then 2 else if geT w s=true then 4 else Zgt (some s) r:=by simp only[Zgt]
def Ze4 (l:List Tx) (k:Nat):Option Tx:=match k with
 | 0=>none
 | k+1=>l[k]?
theorem ZkS (t:Tok) (l:List Tx) (H:Zaa) (hl:l.length<=1000000):Zay Tryz.prog 165 [.sl t (rS l)] H (Pure H (.i (Zgt none l))):=by
 refine fnQ cf165 fun Q qr qn=>?_
 refine Bz2 ?_
 generalize hT:Zgt none l=T at *
 refine Zbs [0,6,7] (σ:=Unit) (fun(k:Nat) s=>T=Zgt (Ze4 l k) (l.drop k)) (fun k s=>[]) (fun k s=>[]) () (GStep.refl _ _) xV xW xW (by rfl) Xd ?_ xF xU ?_ ?_
 ·exact hT.symm
 ·(rintro k s G hk ht hG hn;try simp only[nx]at hn)
  rw[zal hk,Zhp]at ht
  have hC:=Zhs l[k]
  have hb:=bfb (isT l[k])
  rcases hb with hb|hb
  ·rw[hb]at hC ht
   simp only[za7,if_false,if_true]at hC ht
   refine Bz2 ?_
   refine qcp (hC _) fun k1=>?_
   ((have hd:=tv;repeat' first|(first|apply Zad|apply Zac|apply Zab)<;>intro hd<;>try simp only[hd]|simp(disch:=first|assumption|omega|simp only[nx]<;>omega|fail)only[hd,qr,qn,Zeo,↓YA,YY,sevalprocAttr,show((2:Int) != 0)=true from by decide])<;>try revert hd;refine ttr ?_)
   refine Zaz (by rw[ht])
  ·rw[hb]at hC ht
   simp only[Bool.true_eq_false,if_false,if_true]at hC ht
   cases k with
   | zero =>
    have d1:decide (((0:Nat):Int) > 0)=false:=Xb
    refine Bz2 ?_
    refine qcp (hC _) fun k1=>?_
    refine Bz3 (X1 d1) ?_
    refine⟨(),by rw[ht];simp[Ze4,hk,geT],by exact HXT⟩
   | succ j =>
    have d1:decide (((j+1:Nat):Int) > 0)=true:=decide_eq_true Xa
    have hj:j<l.length:=Xa
    have hw:IntKind.i64.wrap (((j+1:Nat):Int) - 1)=(j:Int):=by rw[show((j+1:Nat):Int) - 1=(j:Int) by omega];exact Zaw Xa Xa
    have hp:Ze4 l (j+1)=some l[j]:=by simp[Ze4,hj]
    have hp2:Ze4 l (j+1+1)=some l[j+1]:=by simp[Ze4,hk]
    rw[hp]at ht
    simp only[geT]at ht
    have hlt:=bfb (decide (l[j]<l[j+1]))
    rcases hlt with hlt|hlt
    ·refine Bz2 ?_
     refine qcp (hC _) fun k1=>?_
     refine Bz3 (X6 d1 hw hlt hj hk bytesLess_eq) ?_
     refine Zaz (by rw[ht];simp[hlt])
    ·refine Bz2 ?_
     refine qcp (hC _) fun k1=>?_
     refine Bz3 (X6 d1 hw hlt hj hk bytesLess_eq) ?_
     refine⟨(),by rw[ht,hp2];simp[hlt],by exact HXT⟩
 ·(rintro s G ht hG hn;try simp only[nx]at hn)
  rw[zaG]at ht
  refine Bz0 ?_
  refine Zaz (by rw[ht];rfl)
def Zg2 (l:List Int):List (Int×Int):=l.foldl (fun M n=>ZbU n 1 M) []
theorem ZlD {l:List Int} {k:Nat} (h:k<l.length):Zg2 (l.take (k+1))=ZbU l[k] 1 (Zg2 (l.take k)):=by
 rw[zae h,Zg2,List.foldl_append];rfl
theorem ZmZ {K V:Type} [DecidableEq K] (k:K) (v:V) (M:List (K×V)):(ZbU k v M).length<=M.length+1:=by
 rw[ZjW];split<;>omega
theorem ZjE (l:List Int):(Zg2 l).length<=l.length:=by
 suffices ∀(l:List Int) (M:List (Int×Int)),(l.foldl (fun M n=>ZbU n 1 M) M).length<=M.length+l.length from by simpa [Zg2] using this l []
 intro l
 induction l with
 | nil=>intro M;simp
 | cons a r ih =>
  intro M
  rw[List.foldl_cons]
  have h1:=ih (ZbU a 1 M)
  have h2:=ZmZ a (1:Int) M
  simp only[List.length_cons]
  omega
def inU (a n:Int):Bool:=!decide (n<0)&&!decide (n≥a)
def ZdD (up:List Int) (members above:Int):Bool :=
 if above<=0 then ((up.length:Int) == 0) else if (up.length:Int)≠members then false else up.all (inU above)&&(((Zg2 up).length:Int) == above)
theorem ZkI (t:Tok) (up:List Int) (members above:Int) (H:Zaa) (hl:up.length<=1000000):Zay Tryz.prog 166 [.sl t (rI up),.i members,.i above] H (Pure H (.b (ZdD up members above))):=by
 refine fnQ cf166 fun Q qr qn=>?_
 by_cases h1:above<=0
 ·have d1:decide (above<=0)=true:=decide_eq_true h1
  refine Bz3 (X1 d1) ?_
  refine ZbC (by rw[ZdD,if_pos h1])
 have d1:decide (above<=0)=false:=decide_eq_false h1
 by_cases h2:(up.length:Int)≠members
 ·have d2:((up.length:Int) != members)=true:=by simpa using h2
  refine Bz3 (X2 d1 d2) ?_
  refine ZbC (by rw[ZdD,if_neg h1,if_pos h2])
 have d2:((up.length:Int) != members)=false:=by simpa using h2
 have hv:ZdD up members above=(up.all (inU above)&&(((Zg2 up).length:Int) == above)):=by rw[ZdD,if_neg h1,if_neg h2]
 refine Bz3 (X2 d1 d2) ?_
 refine Zbs [2,7,20,21] (σ:=Unit) (fun(k:Nat) s=>(up.take k).all (inU above)=true) (fun k s=>[]) (fun k s=>[(H.next,.map (.one (.int .i64)) (Zgf kI AV.i (Zg2 (up.take k))) false)]) () (GStep.refl _ _) xV xW xW (by rfl) Xd ?_ xF ?_ ?_ ?_
 ·rfl
 ·rw[ZaP];exact⟨Zaa.Zae (H:=H),by simp[Zc5]⟩
 ·(rintro k s G hk ht hG hn;try simp only[nx]at hn)
  have ho:=hG.o (_,_) (zat.2 rfl)
  have hlo:=Zaa.lt ho
  have hs:=Zhg (p:=inU above) hk
  rw[ht,za3]at hs
  have hb:=bfb (inU above up[k])
  rcases hb with hb|hb
  ·have hf:(false:Bool)=ZdD up members above:=by rw[hv,Zjc hk hb];rfl
   have hc:=hb
   unfold inU at hc
   by_cases c1:up[k]<0
   ·have e1:decide (up[k]<0)=true:=decide_eq_true c1
    refine Bz3 (X1 e1) ?_
    exact ZbC hf (hG.ZdB (Zaa.Ext.refl H).alloc Xc)
   ·have e1:decide (up[k]<0)=false:=decide_eq_false c1
    rw[e1]at hc
    have e2:decide (up[k]≥above)=true:=by simpa using hc
    refine Bz3 (X2 e1 e2) ?_
    exact ZbC hf (hG.ZdB (Zaa.Ext.refl H).alloc Xc)
  ·have hc:=hb
   unfold inU at hc
   simp only[zaI,zbw]at hc
   obtain⟨e1,e2⟩:=hc
   have hset:=ZcH (vf:=AV.i) ZkH up[k] 1 (Zg2 (up.take k))
   have hof:=ZrS up[k]
   refine Bz3 (X5 e1 e2 ho hof hset) ?_
   exact⟨(),by rw[hs,hb],by rw[ZlD hk];exact hG.put⟩
 ·(rintro s G ht hG hn;try simp only[nx]at hn)
  have ho:=hG.o (_,_) (zat.2 rfl)
  rw[zaq]at ht ho
  have hlen:(Zgf kI AV.i (Zg2 up)).length=(Zg2 up).length:=by rw[Zgf,zan]
  refine Bz1 (X2 ho hlen) ?_
  exact ZbC (by rw[hv,ht];rfl) (hG.ZdB (Zaa.Ext.refl H).alloc Xc)
def ZbO (t:Tir) (above:Int):Int :=
 if ZbK t.name=false then 2 else if (t.terms.length:Int)<1\/(t.terms.length:Int) > 200 then 5 else if Zgt none t.terms≠0 then Zgt none t.terms else if ZdD t.up t.terms.length above=false then 14 else 0
theorem Zba (t:Tir):(eTr t).length=3/\(eTr t)[0]?=some (eS t.name)/\(eTr t)[1]?=some (.sl .no (rS t.terms))/\(eTr t)[2]?=some (.sl .no (rI t.up))/\(eTr t).take 3=eTr t:=⟨rfl,rfl,rfl,rfl,rfl⟩
theorem ZkD (t:Tir) (above:Int) (H:Zaa) (hu:t.up.length<=1000000):Zay Tryz.prog 128 [.agg (eTr t),.i above] H (Pure H (.i (ZbO t above))):=by
 obtain⟨f0,f1,f2,f3,f4⟩:=Zba t
 have hx:Zaa.Ext H (H.alloc (.cells (eTr t) 42)):=(Zaa.Ext.refl H).alloc
 have hb:=bfb (ZbK t.name)
 rcases hb with hb|hb
 ·have hv:ZbO t above=2:=by rw[ZbO,if_pos hb]
  have hN:=fun G=>Zjx hb G
  rw[hv]
  refine fnQ ZLD fun Q qr qn=>?_
  refine Bz1 (X1 f1) ?_
  refine qcp (hN _) fun k1=>?_
  refine Bz0 ?_
  refine Zaz (by rfl)
 have hN:=fun G=>Zg8 hb G
 by_cases h1:(t.terms.length:Int)<1\/(t.terms.length:Int) > 200
 ·have hv:ZbO t above=5:=by rw[ZbO,if_neg (by simp[hb]),if_pos h1]
  rw[hv]
  refine fnQ ZLD fun Q qr qn=>?_
  refine Bz1 (X1 f1) ?_
  refine qcp (hN _) fun k1=>?_
  ((have hd:=tv;repeat' first|(first|apply Zad|apply Zac|apply Zab)<;>intro hd<;>try simp only[hd]|simp(disch:=first|assumption|omega|simp only[nx]<;>omega|fail)only[hd,qr,qn,ZrW,↓YA,YY,sevalprocAttr,f1,f2,zan])<;>try revert hd;refine ttr ?_)
  all_goals first
   | (exfalso;simp_all;omega;done)
   | refine Zaz (by rfl)
 have hR:=fun G=>ZkS .no t.terms G Xa
 have e1:decide ((t.terms.length:Int)<1)=false:=by simp;omega
 have e2:decide ((t.terms.length:Int) > 200)=false:=by simp;omega
 by_cases h2:Zgt none t.terms≠0
 ·have hv:ZbO t above=Zgt none t.terms:=by rw[ZbO,if_neg (by simp[hb]),if_neg h1,if_pos h2]
  have e3:(Zgt none t.terms != 0)=true:=by simpa using h2
  rw[hv]
  refine fnQ ZLD fun Q qr qn=>?_
  refine Bz1 (X1 f1) ?_
  refine qcp (hN _) fun k1=>?_
  refine Bz3 (X4 f1 f2 e1 e2) ?_
  refine qcp (hR _) fun k2=>?_
  refine Bz1 (X1 e3) ?_
  refine Zaz (by rfl)
 have e3:(Zgt none t.terms != 0)=false:=by simpa using h2
 have hT:=fun G=>ZkI .no t.up t.terms.length above G hu
 have hv:ZbO t above=if ZdD t.up t.terms.length above=false then 14 else 0:=by rw[ZbO,if_neg (by simp[hb]),if_neg h1,if_neg h2]
 rw[hv]
 have hb2:=bfb (ZdD t.up t.terms.length above)
 rcases hb2 with hb2|hb2<;>rw[hb2]at hT ⊢
 all_goals
  refine fnQ ZLD fun Q qr qn=>?_
  refine Bz1 (X1 f1) ?_
  refine qcp (hN _) fun k1=>?_
  refine Bz3 (X4 f1 f2 e1 e2) ?_
  refine qcp (hR _) fun k2=>?_
  refine Bz3 (X3 e3 f2 f3) ?_
  refine qcp (hT _) fun k3=>?_
  refine Bz0 ?_
  refine Zaz (by rfl)
def ZbR:List Tir->Int
 | []=>0
 | u :: _=>(u.terms.length:Int)
theorem Za7 (d:Dm):(eDm d).length=2/\(eDm d)[0]?=some (eS d.name)/\(eDm d)[1]?=some (.sl .no (rT d.tiers))/\(eDm d).take 2=eDm d:=⟨rfl,rfl,rfl,rfl⟩
theorem Zdh {l:List Tir} {k:Nat} (h:k<l.length):(rT l)[k]?=some (eTr l[k]):=by simp[h]
theorem ZjQ {l:List Dm} {k:Nat} (h:k<l.length):(rD l)[k]?=some (eDm l[k]):=by simp[h]
theorem Zjn (d:Dm) (k:Nat) (H:Zaa) (hk:k<d.tiers.length) (hl:d.tiers.length<=1000000):Zay Tryz.prog 129 [.agg (eDm d),.i (k:Int)] H (Pure H (.i (ZbR (d.tiers.drop (k+1))))):=by
 obtain⟨f0,f1,f2,f3⟩:=Za7 d
 have hw:IntKind.i64.wrap ((k:Int)+1)=((k+1:Nat):Int):=by rw[show(k:Int)+1=((k+1:Nat):Int) by omega];exact Zaw Xa Xa
 refine fnQ cf129 fun Q qr qn=>?_
 by_cases h:k+1<d.tiers.length
 ·have d1:decide (((k+1:Nat):Int)<(d.tiers.length:Int))=true:=by simp;omega
  rw[zal h]at qr qn
  have hg:=Zdh h
  obtain⟨g0,g1,g2,g3,g4⟩:=Zba d.tiers[k+1]
  refine Bz3 (X6 f2 hw d1 h g0 g2) ?_
  refine Zaz (by rfl)
 ·have d1:decide (((k+1:Nat):Int)<(d.tiers.length:Int))=false:=by simp;omega
  rw[zaQ Xa]at qr qn
  refine Bz3 (X3 f2 hw d1) ?_
  refine Zaz (by rfl)
def Zmw (M:List (Tx×Int)) (seen:List Tx):Prop:=∀n,Zcz n M=if n∈seen then some 1 else none
theorem Zmw.nil:Zmw [] []:=fun n=>by simp[Zcz]
theorem Zmw.snoc {M:List (Tx×Int)} {seen:List Tx} (h:Zmw M seen) (n:Tx):Zmw (ZbU n 1 M) (seen++[n]):=fun m=>by
 rw[Zeg,h m]
 by_cases e:m=n
 ·subst e;simp
 ·rw[if_neg e]
  by_cases hm:m∈seen<;>simp[hm,e]
abbrev mpT (M:List (Tx×Int)):Zb3:=.map (.one .str) (Zgf kS AV.i M) false
def Zkb (seen:List Tx):List Tir->Int
 | []=>0
 | t :: r=>if ZbO t (ZbR r)≠0 then ZbO t (ZbR r) else if t.name∈seen then 11 else Zkb (seen++[t.name]) r
def Zdv (d:Dm):Int:=if ZbK d.name=false then 2 else if (d.tiers.length:Int)<1\/(d.tiers.length:Int) > 4 then 5 else Zkb [] d.tiers
def Zgr (t:Tir):Prop:=t.up.length<=1000000
theorem ZcR {α β:Type} {f:α->β} {l:List α} {k:Nat} (h:k<l.length):(l.take (k+1)).map f=(l.take k).map f++[f l[k]]:=by
 rw[zae h,zaD];rfl
theorem Zlf (d:Dm) (H:Zaa) (hs:∀t∈d.tiers,Zgr t):Zay Tryz.prog 81 [.agg (eDm d)] H (Pure H (.i (Zdv d))):=by
 obtain⟨f0,f1,f2,f3⟩:=Za7 d
 have hb:=bfb (ZbK d.name)
 rcases hb with hb|hb
 ·have hv:Zdv d=2:=by rw[Zdv,if_pos hb]
  have hN:=fun G=>Zjx hb G
  rw[hv]
  refine fnQ cf81 fun Q qr qn=>?_
  refine Bz1 (X1 f1) ?_
  refine qcp (hN _) fun k1=>?_
  refine Bz0 ?_
  refine Zaz (by rfl)
 have hN:=fun G=>Zg8 hb G
 by_cases h1:(d.tiers.length:Int)<1\/(d.tiers.length:Int) > 4
 ·have hv:Zdv d=5:=by rw[Zdv,if_neg (by simp[hb]),if_pos h1]
  rw[hv]
  refine fnQ cf81 fun Q qr qn=>?_
  refine Bz1 (X1 f1) ?_
  refine qcp (hN _) fun k1=>?_
  ((have hd:=tv;repeat' first|(first|apply Zad|apply Zac|apply Zab)<;>intro hd<;>try simp only[hd]|simp(disch:=first|assumption|omega|simp only[nx]<;>omega|fail)only[hd,qr,qn,c81_0,↓YA,YY,sevalprocAttr,f1,f2,zan])<;>try revert hd;refine ttr ?_)
  all_goals first
   | (exfalso;simp_all;omega;done)
   | refine Zaz (by rfl)
 have e1:decide ((d.tiers.length:Int)<1)=false:=by simp;omega
 have e2:decide ((d.tiers.length:Int) > 4)=false:=by simp;omega
 have hv:Zdv d=Zkb [] d.tiers:=by rw[Zdv,if_neg (by simp[hb]),if_neg h1]
 rw[hv]
 generalize hT:Zkb [] d.tiers=T
 refine fnQ cf81 fun Q qr qn=>?_
 refine Bz1 (X1 f1) ?_
 refine qcp (hN _) fun k1=>?_
 refine Bz3 (X4 f1 f2 e1 e2) ?_
 have g1:(((H.alloc (.cells (eDm d) 39)).bump k1).alloc (.map (.one .str) [] false)).get H.next=some (.cells (eDm d) 39):=by
  rw[Zaa.Zag Xe];exact Zaa.Zae (H:=H)
 have g2:(((H.alloc (.cells (eDm d) 39)).bump k1).alloc (.map (.one .str) [] false)).get (H.next+1+k1)=some (mpT []):=Zaa.Zae (H:=(H.alloc _).bump k1)
 have hx0:Zaa.Ext H (((H.alloc (.cells (eDm d) 39)).bump k1).alloc (.map (.one .str) [] false)):=by exact AXT
 have hne:((H.alloc (.cells (eDm d) 39)).bump k1).next=H.next+1+k1:=rfl
 generalize ((H.alloc (.cells (eDm d) 39)).bump k1).alloc (.map (.one .str) [] false)=G0 at *
 have l1:=Zaa.lt g1
 have l2:=Zaa.lt g2
 refine Zbs [1,4,26,27] (σ:=List (Tx×Int)) (fun(k:Nat) s=>Zmw s ((d.tiers.take k).map (·.name))/\T=Zkb ((d.tiers.take k).map (·.name)) (d.tiers.drop k)) (fun k s=>[]) (fun k s=>[(H.next+1+k1,mpT s)]) [] (GStep.refl _ _) xV xW xW (by rfl) Xd ?_ xF ?_ ?_ ?_
 ·exact⟨Zmw.nil,hT.symm⟩
 ·rw[ZaP];exact⟨g2,by simp[Zc5]⟩
 ·(rintro k M G hk ⟨hM,ht⟩ hG hn;try simp only[nx]at hn)
  have ho:=hG.o (_,_) (zat.2 rfl)
  have hc:=(hG.g _ l1 Xf).trans g1
  have lc:=Zaa.lt hc
  have lo:=Zaa.lt ho
  rw[zal hk,Zkb]at ht
  have hA:=fun G=>Zjn d k G hk Xa
  have hC:=fun G=>ZkD d.tiers[k] (ZbR (d.tiers.drop (k+1))) G (hs _ (zah hk))
  have htk:=Zdh hk
  obtain⟨q0,q1,q2,q3,q4⟩:=Zba d.tiers[k]
  have hsn:=ZcR (f:=Tir.name) hk
  by_cases c1:ZbO d.tiers[k] (ZbR (d.tiers.drop (k+1)))≠0
  ·have e3:(ZbO d.tiers[k] (ZbR (d.tiers.drop (k+1))) != 0)=true:=by simpa using c1
   rw[if_pos c1]at ht
   generalize ZbO d.tiers[k] (ZbR (d.tiers.drop (k+1)))=E at *
   generalize ZbR (d.tiers.drop (k+1))=A at *
   refine Bz3 (X6 hk q0 q4 hc f0 f3) ?_
   refine qcp (hA _) fun k2=>?_
   refine Bz3 (X6 hk q0 q4 hc f0 f3) ?_
   refine qcp (hC _) fun k3=>?_
   refine Bz1 (X1 e3) ?_
   refine Zaz ht.symm ?_
   exact(Zaa.Ext.alloc (hG.ZdB hx0 Xf)).bump.bump
  ·have c1':ZbO d.tiers[k] (ZbR (d.tiers.drop (k+1)))=0:=by simpa using c1
   have e3:(ZbO d.tiers[k] (ZbR (d.tiers.drop (k+1))) != 0)=false:=by simp[c1']
   rw[if_neg c1]at ht
   generalize ZbO d.tiers[k] (ZbR (d.tiers.drop (k+1)))=E at *
   generalize ZbR (d.tiers.drop (k+1))=A at *
   have hof:=kS_of d.tiers[k].name
   have hgn:=hM d.tiers[k].name
   have hfn:=ZbV (vf:=AV.i) Zev d.tiers[k].name M
   by_cases c2:d.tiers[k].name∈(d.tiers.take k).map (·.name)
   ·rw[if_pos c2]at ht hgn
    rw[hgn,Option.map_some]at hfn
    have hset:=ZcH (vf:=AV.i) Zev d.tiers[k].name 2 M
    have hfn2:=ZbV (vf:=AV.i) Zev d.tiers[k].name (ZbU d.tiers[k].name 2 M)
    rw[ZdP,Option.map_some]at hfn2
    have e4:decide ((2:Int) > 1)=true:=Xb
    have hw:IntKind.i64.wrap (1+1)=2:=Xb
    refine Bz3 (X6 hk q0 q4 hc f0 f3) ?_
    refine qcp (hA _) fun k2=>?_
    refine Bz3 (X6 hk q0 q4 hc f0 f3) ?_
    refine qcp (hC _) fun k3=>?_
    refine Bz1 (X9 e3 q1 ho hof hfn hset hfn2 hw e4) ?_
    refine Zaz ht.symm ?_
    exact Zaa.Ext.set ((Zaa.Ext.alloc (hG.ZdB hx0 Xf)).bump.bump) Xa
   ·rw[if_neg c2]at ht hgn
    rw[hgn,Option.map_none]at hfn
    have hset:=ZcH (vf:=AV.i) Zev d.tiers[k].name 1 M
    have hfn2:=ZbV (vf:=AV.i) Zev d.tiers[k].name (ZbU d.tiers[k].name 1 M)
    rw[ZdP,Option.map_some]at hfn2
    have e4:decide ((1:Int) > 1)=false:=Xb
    have hw:IntKind.i64.wrap (0+1)=1:=Xb
    refine Bz3 (X6 hk q0 q4 hc f0 f3) ?_
    refine qcp (hA _) fun k2=>?_
    refine Bz3 (X6 hk q0 q4 hc f0 f3) ?_
    refine qcp (hC _) fun k3=>?_
    refine Bz1 (X9 e3 q1 ho hof hfn hset hfn2 hw e4) ?_
    refine⟨ZbU d.tiers[k].name 1 M,⟨by rw[hsn];exact hM.snoc _,by rw[hsn];exact ht⟩,?_⟩
    exact hG.alloc.bump.bump.put
 ·(rintro M G ⟨hM,ht⟩ hG hn;try simp only[nx]at hn)
  rw[zaG]at ht
  refine Bz0 ?_
  exact Zaz (by rw[ht];rfl) (hG.ZdB hx0 Xf)
def ZgL (mid:Nat) (b:Bool) (M:List (Tx×Int)) (H:Zaa) (r:AV) (H':Zaa):Prop:=r=.b b/\HX [(mid,mpT M)] H H'
theorem HX.one {id:Nat} {o:Zb3} {H:Zaa} (h:H.get id=some o):HX [(id,o)] H H:=HX.ini (by rw[ZaP];exact⟨h,by simp[Zc5]⟩)
theorem HX.thn {a:Nat} {x x':Zb3} {H G G1:Zaa} (h:HX [(a,x)] H G) (k:HX [(a,x')] G G1):HX [(a,x')] H G1:=by
 refine⟨zaM h.n k.n,?_,fun i hi hn=>(k.g i (zaJ hi h.n) (by simpa using hn)).trans (h.g i hi (by simpa using hn))⟩
 rw[ZaP]
 exact⟨k.o (a,x') Xc,by simp[Zc5]⟩
theorem ZjJ {mid:Nat} {M:List (Tx×Int)} {s:Tx} {H:Zaa} (hm:H.get mid=some (mpT M)) (hg:Zcz s M=none):Zay Tryz.prog 82 [.mp mid,eS s] H (ZgL mid true (ZbU s 1 M) H):=by
 have lm:=Zaa.lt hm
 have hof:=kS_of s
 have hfn:=ZbV (vf:=AV.i) Zev s M
 rw[hg,Option.map_none]at hfn
 have hset:=ZcH (vf:=AV.i) Zev s 1 M
 have hfn2:=ZbV (vf:=AV.i) Zev s (ZbU s 1 M)
 rw[ZdP,Option.map_some]at hfn2
 have hw:IntKind.i64.wrap (0+1)=1:=Xb
 refine fnQ cf82 fun Q qr qn=>?_
 refine Bz1 (X6 hm hof hfn hset hfn2 hw) ?_
 exact Zaq ⟨rfl,(HX.one hm).put⟩
theorem ZhX {mid:Nat} {M:List (Tx×Int)} {s:Tx} {H:Zaa} (hm:H.get mid=some (mpT M)) (hg:Zcz s M=some 1):Zay Tryz.prog 82 [.mp mid,eS s] H (ZgL mid false (ZbU s 2 M) H):=by
 have lm:=Zaa.lt hm
 have hof:=kS_of s
 have hfn:=ZbV (vf:=AV.i) Zev s M
 rw[hg,Option.map_some]at hfn
 have hset:=ZcH (vf:=AV.i) Zev s 2 M
 have hfn2:=ZbV (vf:=AV.i) Zev s (ZbU s 2 M)
 rw[ZdP,Option.map_some]at hfn2
 have hw:IntKind.i64.wrap (1+1)=2:=Xb
 have e1:((2:Int) == 1)=false:=Xb
 refine fnQ cf82 fun Q qr qn=>?_
 refine Bz1 (X7 hm hof hfn hset hfn2 hw e1) ?_
 exact Zaq ⟨rfl,(HX.one hm).put⟩
def Zgh (seen:List Tx):List Tx->Int
 | []=>0
 | s :: r=>if ZbK s=false then 2 else if s∈seen then 11 else Zgh (seen++[s]) r
def Zd8 (l:List Tx):Int:=if (l.length:Int)<1\/(l.length:Int) > 3 then 5 else Zgh [] l
theorem ZlO {α:Type} {l:List α} {k:Nat} (h:k<l.length):l.take (k+1)=l.take k++[l[k]]:=zae h
theorem Zk2 (t:Tok) (l:List Tx) (H:Zaa):Zay Tryz.prog 83 [.sl t (rS l)] H (Pure H (.i (Zd8 l))):=by
 by_cases h1:(l.length:Int)<1\/(l.length:Int) > 3
 ·have hv:Zd8 l=5:=by rw[Zd8,if_pos h1]
  rw[hv]
  refine fnQ cf83 fun Q qr qn=>?_
  ((have hd:=tv;repeat' first|(first|apply Zad|apply Zac|apply Zab)<;>intro hd<;>try simp only[hd]|simp(disch:=first|assumption|omega|simp only[nx]<;>omega|fail)only[hd,qr,qn,c83_0,↓YA,YY,sevalprocAttr,zan])<;>try revert hd;refine ttr ?_)
  all_goals first
   | (exfalso;simp_all;omega;done)
   | refine Zaz (by rfl)
 have e1:decide ((l.length:Int)<1)=false:=by simp;omega
 have e2:decide ((l.length:Int) > 3)=false:=by simp;omega
 have hv:Zd8 l=Zgh [] l:=by rw[Zd8,if_neg h1]
 rw[hv]
 generalize hT:Zgh [] l=T
 refine fnQ cf83 fun Q qr qn=>?_
 refine Bz3 (X2 e1 e2) ?_
 refine Zbs [3,16,17] (σ:=List (Tx×Int)) (fun(k:Nat) s=>Zmw s (l.take k)/\T=Zgh (l.take k) (l.drop k)) (fun k s=>[]) (fun k s=>[(H.next,mpT s)]) [] (GStep.refl _ _) xV xW xW (by rfl) Xd ?_ xF ?_ ?_ ?_
 ·exact⟨Zmw.nil,hT.symm⟩
 ·rw[ZaP];exact⟨Zaa.Zae (H:=H),by simp[Zc5]⟩
 ·(rintro k M G hk ⟨hM,ht⟩ hG hn;try simp only[nx]at hn)
  have ho:=hG.o (_,_) (zat.2 rfl)
  rw[zal hk,Zgh]at ht
  have hsn:=ZlO hk
  have hgn:=hM l[k]
  have hb:=bfb (ZbK l[k])
  rcases hb with hb|hb
  ·have hN:=fun G=>Zjx hb G
   rw[if_pos hb]at ht
   refine Bz3 (X1 hk) ?_
   refine qcp (hN _) fun k1=>?_
   refine Bz0 ?_
   exact Zaz ht.symm ((hG.ZdB (Zaa.Ext.refl H).alloc Xc).bump)
  ·have hN:=fun G=>Zg8 hb G
   rw[if_neg (by simp[hb])]at ht
   by_cases c2:l[k]∈l.take k
   ·rw[if_pos c2]at ht hgn
    have hF:∀G,G.get H.next=some (mpT M)->Zay Tryz.prog 82 [.mp H.next,eS l[k]] G (ZgL H.next false (ZbU l[k] 2 M) G):=fun G h=>ZhX h hgn
    refine Bz3 (X1 hk) ?_
    refine qcp (hN _) fun k1=>?_
    refine Bz3 (X1 hk) ?_
    refine Zap.use (hF _ ho) ?_
    rintro _ G2 ⟨rfl,hx2⟩
    refine Bz0 ?_
    exact Zaz ht.symm (((hG.bump (k:=k1)).thn hx2).ZdB (Zaa.Ext.refl H).alloc Xc)
   ·rw[if_neg c2]at ht hgn
    have hF:∀G,G.get H.next=some (mpT M)->Zay Tryz.prog 82 [.mp H.next,eS l[k]] G (ZgL H.next true (ZbU l[k] 1 M) G):=fun G h=>ZjJ h hgn
    refine Bz3 (X1 hk) ?_
    refine qcp (hN _) fun k1=>?_
    refine Bz3 (X1 hk) ?_
    refine Zap.use (hF _ ho) ?_
    rintro _ G2 ⟨rfl,hx2⟩
    refine Bz0 ?_
    exact⟨ZbU l[k] 1 M,⟨by rw[hsn];exact hM.snoc _,by rw[hsn];exact ht⟩,(hG.bump (k:=k1)).thn hx2⟩
 ·(rintro M G ⟨hM,ht⟩ hG hn;try simp only[nx]at hn)
  rw[zaG]at ht
  refine Bz0 ?_
  exact Zaz (by rw[ht];rfl) (hG.ZdB (Zaa.Ext.refl H).alloc Xc)
def Zd1 (seen:List Tx):List Dm->Int
 | []=>0
 | d :: r=>if Zdv d≠0 then Zdv d else if d.name∈seen then 11 else Zd1 (seen++[d.name]) r
def scE (s:Sc):Int:=if (s.dims.length:Int)<1\/(s.dims.length:Int) > 16 then 5 else if Zd1 [] s.dims≠0 then Zd1 [] s.dims else Zd8 s.meas
theorem ZbB (s:Sc):(eSc s).length=2/\(eSc s)[0]?=some (.sl .no (rD s.dims))/\(eSc s)[1]?=some (.sl .no (rS s.meas))/\(eSc s).take 2=eSc s:=⟨rfl,rfl,rfl,rfl⟩
def Zh1 (s:Sc):Prop:=∀d∈s.dims,∀t∈d.tiers,Zgr t
theorem Zc9 (S:Sc) (H:Zaa) (hs:Zh1 S):Zay Tryz.prog 40 [.agg (eSc S)] H (Pure H (.i (scE S))):=by
 obtain⟨f0,f1,f2,f3⟩:=ZbB S
 by_cases h1:(S.dims.length:Int)<1\/(S.dims.length:Int) > 16
 ·have hv:scE S=5:=by rw[scE,if_pos h1]
  rw[hv]
  refine fnQ cf40 fun Q qr qn=>?_
  ((have hd:=tv;repeat' first|(first|apply Zad|apply Zac|apply Zab)<;>intro hd<;>try simp only[hd]|simp(disch:=first|assumption|omega|simp only[nx]<;>omega|fail)only[hd,qr,qn,ZtB,↓YA,YY,sevalprocAttr,f1,zan])<;>try revert hd;refine ttr ?_)
  all_goals first
   | (exfalso;simp_all;omega;done)
   | refine Zaz (by rfl)
 have e1:decide ((S.dims.length:Int)<1)=false:=by simp;omega
 have e2:decide ((S.dims.length:Int) > 16)=false:=by simp;omega
 have hv:scE S=if Zd1 [] S.dims≠0 then Zd1 [] S.dims else Zd8 S.meas:=by rw[scE,if_neg h1]
 rw[hv]
 generalize hT:Zd1 [] S.dims=T
 refine fnQ cf40 fun Q qr qn=>?_
 refine Bz3 (X4 f1 f2 e1 e2) ?_
 have g1:((H.alloc (.cells (eSc S) 25)).alloc (.map (.one .str) [] false)).get H.next=some (.cells (eSc S) 25):=by
  rw[Zaa.Zag Xe];exact Zaa.Zae (H:=H)
 have g2:((H.alloc (.cells (eSc S) 25)).alloc (.map (.one .str) [] false)).get (H.next+1)=some (mpT []):=Zaa.Zae (H:=H.alloc _)
 have hx0:Zaa.Ext H ((H.alloc (.cells (eSc S) 25)).alloc (.map (.one .str) [] false)):=by exact AXT
 have hne:((H.alloc (.cells (eSc S) 25)).alloc (.map (.one .str) [] false)).next=H.next+2:=rfl
 generalize (H.alloc (.cells (eSc S) 25)).alloc (.map (.one .str) [] false)=G0 at *
 have l1:=Zaa.lt g1
 have l2:=Zaa.lt g2
 refine Zbs [1,3,19,20] (σ:=List (Tx×Int)) (fun(k:Nat) s=>Zmw s ((S.dims.take k).map (·.name))/\T=Zd1 ((S.dims.take k).map (·.name)) (S.dims.drop k)) (fun k s=>[]) (fun k s=>[(H.next+1,mpT s)]) [] (GStep.refl _ _) xV xW xW (by rfl) Xd ?_ xF ?_ ?_ ?_
 ·exact⟨Zmw.nil,hT.symm⟩
 ·rw[ZaP];exact⟨g2,by simp[Zc5]⟩
 ·(rintro k M G hk ⟨hM,ht⟩ hG hn;try simp only[nx]at hn)
  have ho:=hG.o (_,_) (zat.2 rfl)
  have hc:=(hG.g _ l1 Xc).trans g1
  have lc:=Zaa.lt hc
  have lo:=Zaa.lt ho
  rw[zal hk,Zd1]at ht
  have hC:=fun G=>Zlf S.dims[k] G (hs _ (zah hk))
  obtain⟨q0,q1,q2,q3⟩:=Za7 S.dims[k]
  have hsn:=ZcR (f:=Dm.name) hk
  have hgn:=hM S.dims[k].name
  by_cases c1:Zdv S.dims[k]≠0
  ·have e3:(Zdv S.dims[k] != 0)=true:=by simpa using c1
   rw[if_pos c1]at ht
   generalize Zdv S.dims[k]=E at *
   rw[ht,if_pos c1]at qr qn
   refine Bz3 (X3 hk q0 q3) ?_
   refine qcp (hC _) fun k3=>?_
   refine Bz1 (X1 e3) ?_
   refine Zaz rfl ?_
   exact(Zaa.Ext.alloc (hG.ZdB hx0 Xc)).bump
  ·have e3:(Zdv S.dims[k] != 0)=false:=by simpa using c1
   rw[if_neg c1]at ht
   generalize Zdv S.dims[k]=E at *
   by_cases c2:S.dims[k].name∈(S.dims.take k).map (·.name)
   ·rw[if_pos c2]at ht hgn
    have hF:∀G,G.get (H.next+1)=some (mpT M)->Zay Tryz.prog 82 [.mp (H.next+1),eS S.dims[k].name] G (ZgL (H.next+1) false (ZbU S.dims[k].name 2 M) G):=fun G h=>ZhX h hgn
    refine Bz3 (X3 hk q0 q3) ?_
    refine qcp (hC _) fun k3=>?_
    refine Bz3 (X2 e3 q1) ?_
    refine Zap.use (hF _ (by simp only[Zaa.ZaB];rw[Zaa.Zag Xa];exact ho)) ?_
    rintro _ G2 ⟨rfl,hx2⟩
    refine Bz0 ?_
    refine Zaz (by rw[ht];rfl) ?_
    exact((hG.alloc.bump (k:=k3)).thn hx2).ZdB hx0 Xc
   ·rw[if_neg c2]at ht hgn
    have hF:∀G,G.get (H.next+1)=some (mpT M)->Zay Tryz.prog 82 [.mp (H.next+1),eS S.dims[k].name] G (ZgL (H.next+1) true (ZbU S.dims[k].name 1 M) G):=fun G h=>ZjJ h hgn
    refine Bz3 (X3 hk q0 q3) ?_
    refine qcp (hC _) fun k3=>?_
    refine Bz3 (X2 e3 q1) ?_
    refine Zap.use (hF _ (by simp only[Zaa.ZaB];rw[Zaa.Zag Xa];exact ho)) ?_
    rintro _ G2 ⟨rfl,hx2⟩
    refine Bz0 ?_
    exact⟨ZbU S.dims[k].name 1 M,⟨by rw[hsn];exact hM.snoc _,by rw[hsn];exact ht⟩,(hG.alloc.bump (k:=k3)).thn hx2⟩
 ·(rintro M G ⟨hM,ht⟩ hG hn;try simp only[nx]at hn)
  rw[zaG]at ht
  have hc:=(hG.g _ l1 Xc).trans g1
  have h0:T=0:=by rw[ht];rfl
  have hMs:=fun G=>Zk2 .no S.meas G
  rw[h0]at qr qn
  refine Bz3 (X2 hc f2) ?_
  refine qcp (hMs _) fun k3=>?_
  refine Bz0 ?_
  exact Zaz Xc ((hG.ZdB hx0 Xc).bump)
theorem Zd5 (q:Tx) (H:Zaa):Zay Tryz.prog 116 [eS q] H (Pure H (.b (ZbK q))):=by
 by_cases h0:(q.length:Int)<1
 ·have d0:decide ((q.length:Int)<1)=true:=decide_eq_true h0
  have hv:ZbK q=false:=by
   have:q=[]:=zaC Xa
   subst this;rfl
  rw[hv]
  refine fnQ cf116 fun Q qr qn=>?_
  refine Bz1 (X1 d0) ?_
  refine ZbC (by rfl)
 have d0:decide ((q.length:Int)<1)=false:=decide_eq_false h0
 by_cases h1:(q.length:Int) > 12
 ·have d1:decide ((q.length:Int) > 12)=true:=decide_eq_true h1
  have hv:ZbK q=false:=by unfold ZbK;rw[d1];simp
  rw[hv]
  refine fnQ cf116 fun Q qr qn=>?_
  refine Bz1 (X2 d0 d1) ?_
  refine ZbC (by rfl)
 have d1:decide ((q.length:Int) > 12)=false:=decide_eq_false h1
 have hv:ZbK q=q.all ZcS:=by
  unfold ZbK
  rw[d1,decide_eq_false (fun h=>h0 (by rw[h];simp))]
  simp
 rw[hv]
 generalize hT:q.all ZcS=T
 refine fnQ cf116 fun Q qr qn=>?_
 refine Bz1 (X2 d0 d1) ?_
 refine Zcw [0] (σ:=Nat) (fun s=>s<=q.length/\T=(q.drop s).all ZcS) (fun s=>q.length - s) (fun s=>[(3,.i (s:Int))]) (fun s=>[]) 0 (GStep.refl _ _) xV ?_ xT xU ?_
 ·exact⟨zas _,hT.symm⟩
 ·(rintro i G ⟨h2,h3⟩ hG hn;try simp only[nx]at hn)
  by_cases c:i<q.length
  ·have d2:decide ((i:Int)<(q.length:Int))=true:=decide_eq_true Xa
   have hs:=bytes_at c
   have hi0:(0:Int)<=(i:Int):=Xa
   have hw:IntKind.i64.wrap ((i:Int)+1)=((i+1:Nat):Int):=by rw[Zaw Xa Xa];omega
   rw[zal c,List.all_cons]at h3
   generalize q[i]=ch at *
   have hbad:ZcS ch=false->false=T:=fun h=>by rw[h3,h];rfl
   have hgood:ZcS ch=true->T=(q.drop (i+1)).all ZcS:=fun h=>by rw[h3,h];rfl
   clear h3 hv hT
   ((have hd:=tv;repeat' first|(first|apply Zad|apply Zac|apply Zab)<;>intro hd<;>try simp only[hd]|simp(disch:=first|assumption|omega|simp only[nx]<;>omega|fail)only[hd,qr,qn,ZqY,↓YA,YY,sevalprocAttr,d2,hs,hi0,hw])<;>try revert hd;refine ttr ?_)
   all_goals first
    | (refine ZbC (hbad ?_);clear hbad hgood hs hw hG;unfold ZcS;first|(simp_all;done)|grind)
    | (refine⟨i+1,⟨Xa,hgood ?_⟩,Xa,rfl,by exact HXT⟩;clear hbad hgood hs hw hG;unfold ZcS;first|(simp_all;done)|grind)
  ·have d2:decide ((i:Int)<(q.length:Int))=false:=decide_eq_false Xa
   rw[zbf Xa]at h3
   refine Bz1 (X1 d2) ?_
   refine ZbC (by exact h3.symm)
theorem Zlh (q:Tx) (H:Zaa):Zay Tryz.prog 67 [eS q] H (Pure H (.b (isT q))):=by
 refine fnQ cf67 fun Q qr qn=>?_
 ((have hd:=tv;repeat' first|(first|apply Zad|apply Zac|apply Zab)<;>intro hd<;>try simp only[hd]|simp(disch:=first|assumption|omega|simp only[nx]<;>omega|fail)only[hd,qr,qn,Zks,↓YA,YY,sevalprocAttr])<;>try revert hd;refine ttr ?_)
 ·exact ZbC (by unfold isT;rw[hd];rfl)
 ·exact ZbC (by unfold isT;rw[hd];rfl)
theorem tle (a b:Tx):(decide (b<a) || decide (b=a))=!decide (a<b):=by
 rw[zaR]
 simp only[Bool.or_eq_true,decide_eq_true_eq,zbw,decide_eq_false_iff_not]
 rw[List.not_lt,List.le_iff_lt_or_eq]
theorem Zki (t:Tok) (l:List Tx) (H:Zaa) (hl:l.length<=1000000):Zay Tryz.prog 162 [.sl t (rS l)] H (Pure H (.i (Zgt none l))):=by
 generalize hT:Zgt none l=T
 refine fnQ cf162 fun Q qr qn=>?_
 refine Bz0 ?_
 refine Zcw [0] (σ:=Nat) (fun s=>s<=l.length/\T=Zgt (Ze4 l s) (l.drop s)) (fun s=>l.length - s) (fun s=>[(3,.i (s:Int))]) (fun s=>[]) 0 (GStep.refl _ _) xV ?_ xT xU ?_
 ·exact⟨zas _,hT.symm⟩
 ·(rintro i G ⟨h2,h3⟩ hG hn;try simp only[nx]at hn)
  by_cases c:i<l.length
  ·have d2:decide ((i:Int)<(l.length:Int))=true:=decide_eq_true Xa
   have hi0:(0:Int)<=(i:Int):=Xa
   have hw:IntKind.i64.wrap ((i:Int)+1)=((i+1:Nat):Int):=by rw[Zaw Xa Xa];omega
   have hr:(rS l)[i]?=some [eS l[i]]:=by simp[c]
   have hI:=fun G=>Zlh l[i] G
   rw[zal c,Zhp]at h3
   have hb:=bfb (isT l[i])
   rcases hb with hb|hb
   ·rw[if_pos hb]at h3
    rw[hb]at hI
    refine Bz3 (X5 d2 hi0 c hr bytesLess_eq) ?_
    refine qcp (hI _) fun k1=>?_
    refine Bz0 ?_
    refine Zaz (by rw[h3])
   ·rw[if_neg (by rw[hb];decide)]at h3
    rw[hb]at hI
    cases i with
    | zero =>
     have d3:decide (((0:Nat):Int) > 0)=false:=Xb
     have d2z:decide ((0:Int)<(l.length:Int))=true:=d2
     refine Bz3 (X6 d2 d2z hi0 c hr bytesLess_eq) ?_
     refine qcp (hI _) fun k1=>?_
     refine Bz1 (X2 d3 hw) ?_
     exact⟨1,⟨Xa,by rw[h3];simp[Ze4,c,geT]⟩,Xa,rfl,by exact HXT⟩
    | succ j =>
     have d3:decide (((j+1:Nat):Int) > 0)=true:=decide_eq_true Xa
     have hj:j<l.length:=Xa
     have hr2:(rS l)[j]?=some [eS l[j]]:=by simp[hj]
     have hw2:IntKind.i64.wrap (((j+1:Nat):Int) - 1)=(j:Int):=by rw[show((j+1:Nat):Int) - 1=(j:Int) by omega];exact Zaw Xa Xa
     have hj0:(0:Int)<=(j:Int):=Xa
     have hp:Ze4 l (j+1)=some l[j]:=by simp[Ze4,hj]
     have hp2:Ze4 l (j+1+1)=some l[j+1]:=by simp[Ze4,c]
     rw[hp]at h3
     simp only[geT]at h3
     have hle:=tle l[j] l[j+1]
     have hlt:=bfb (decide (l[j]<l[j+1]))
     rcases hlt with hlt|hlt<;>rw[hlt]at hle
     ·refine Bz3 (X5 d2 hi0 c hr bytesLess_eq) ?_
      refine qcp (hI _) fun k1=>?_
      refine Bz3 (X12 d2 d3 hi0 c hr hr2 hw hw2 hj hj0 hle bytesLess_eq) ?_
      refine Zaz (by rw[h3];simp[hlt])
     ·refine Bz3 (X5 d2 hi0 c hr bytesLess_eq) ?_
      refine qcp (hI _) fun k1=>?_
      refine Bz3 (X12 d2 d3 hi0 c hr hr2 hw hw2 hj hj0 hle bytesLess_eq) ?_
      exact⟨j+1+1,⟨Xa,by rw[h3,hp2];simp[hlt]⟩,Xa,rfl,by exact HXT⟩
  ·have d2:decide ((i:Int)<(l.length:Int))=false:=decide_eq_false Xa
   rw[zbf Xa]at h3
   refine Bz3 (X2 d2 bytesLess_eq) ?_
   refine Zaz (by rw[h3];rfl)
def Zmy (l:List Int) (n:Int):Bool:=l.any fun x=>x == n
theorem in_sound (t:Tok) (l:List Int) (n:Int) (H:Zaa) (hl:l.length<=1000000):Zay Tryz.prog 206 [.sl t (rI l),.i n] H (Pure H (.b (Zmy l n))):=by
 generalize hT:Zmy l n=T
 refine fnQ cf206 fun Q qr qn=>?_
 refine Bz2 ?_
 refine Zbs [1,7,8] (σ:=Unit) (fun(k:Nat) s=>T=Zmy (l.drop k) n) (fun k s=>[]) (fun k s=>[]) () (GStep.refl _ _) xV xW xW (by rfl) Xd ?_ xF xU ?_ ?_
 ·exact hT.symm
 ·(rintro k u G hk ht hG hn;try simp only[nx]at hn)
  rw[zal hk]at ht
  unfold Zmy at ht
  rw[List.any_cons]at ht
  have hr:(rI l)[k]?=some [.i l[k]]:=by simp[hk]
  generalize l[k]=v at *
  have hb:=bfb (v == n)
  rcases hb with hb|hb
  ·rw[hb,Bool.false_or]at ht
   refine Bz1 (X2 hr hb) ?_
   exact⟨(),ht,by exact HXT⟩
  ·rw[hb,Bool.true_or]at ht
   refine Bz1 (X2 hr hb) ?_
   refine ZbC (by rw[ht])
 ·(rintro u G ht hG hn;try simp only[nx]at hn)
  rw[zaG]at ht
  refine Bz0 ?_
  refine ZbC (by rw[ht];rfl)
def ZeL (t:Tir) (above:Int):Bool :=
 if above<=0 then ((t.up.length:Int) == 0) else if (t.up.length:Int)≠(t.terms.length:Int)\/above > 200 then false else t.up.all (inU above)&&(List.range above.toNat).all fun i:Nat=>Zmy t.up (i:Int)
theorem ZiU (t:Tir) (above:Int) (H:Zaa) (hu:t.up.length<=1000000):Zay Tryz.prog 193 [.agg (eTr t),.i above] H (Pure H (.b (ZeL t above))):=by
 obtain⟨f0,f1,f2,f3,f4⟩:=Zba t
 by_cases h1:above<=0
 ·have d1:decide (above<=0)=true:=decide_eq_true h1
  have hv:ZeL t above=((t.up.length:Int) == 0):=by unfold ZeL;rw[if_pos h1]
  rw[hv]
  refine fnQ cf193 fun Q qr qn=>?_
  refine Bz3 (X2 d1 f3) ?_
  refine ZbC (by rfl)
 have d1:decide (above<=0)=false:=decide_eq_false h1
 by_cases h2:(t.up.length:Int)≠(t.terms.length:Int)
 ·have d2:((t.up.length:Int) != (t.terms.length:Int))=true:=by simpa using h2
  have hv:ZeL t above=false:=by unfold ZeL;rw[if_neg h1,if_pos (.inl h2)]
  rw[hv]
  refine fnQ cf193 fun Q qr qn=>?_
  refine Bz3 (X4 d1 d2 f2 f3) ?_
  refine ZbC (by rfl)
 have d2:((t.up.length:Int) != (t.terms.length:Int))=false:=by simpa using h2
 by_cases h3:above > 200
 ·have d3:decide (above > 200)=true:=decide_eq_true h3
  have hv:ZeL t above=false:=by unfold ZeL;rw[if_neg h1,if_pos (.inr h3)]
  rw[hv]
  refine fnQ cf193 fun Q qr qn=>?_
  refine Bz3 (X5 d1 d2 d3 f2 f3) ?_
  refine ZbC (by rfl)
 have d3:decide (above > 200)=false:=decide_eq_false h3
 have hv:ZeL t above=(t.up.all (inU above)&&(List.range above.toNat).all fun i:Nat=>Zmy t.up (i:Int)):=by unfold ZeL;rw[if_neg h1,if_neg (fun h=>h.elim h2 h3)]
 rw[hv]
 obtain⟨A,hA⟩:∃A:Nat,above=(A:Int):=⟨above.toNat,Xa⟩
 subst hA
 rw[Int.toNat_natCast]
 have g1:(H.alloc (.cells (eTr t) 42)).get H.next=some (.cells (eTr t) 42):=Zaa.Zae
 have l1:H.next<(H.alloc (.cells (eTr t) 42)).next:=Xc
 have hx0:Zaa.Ext H (H.alloc (.cells (eTr t) 42)):=(Zaa.Ext.refl H).alloc
 generalize hT:(t.up.all (inU (A:Int))&&(List.range A).all fun i:Nat=>Zmy t.up (i:Int))=T
 refine fnQ cf193 fun Q qr qn=>?_
 refine Bz3 (X5 d1 d2 d3 f2 f3) ?_
 generalize H.alloc (.cells (eTr t) 42)=G0 at *
 refine Zbs [1,2,26,27] (σ:=Unit) (fun(k:Nat) s=>(t.up.take k).all (inU (A:Int))=true) (fun k s=>[]) (fun k s=>[]) () (GStep.refl _ _) xV xW xW (by rfl) Xd ?_ xF xU ?_ ?_
 ·rfl
 ·(rintro k u G hk ht hG hn;try simp only[nx]at hn)
  have hr:(rI t.up)[k]?=some [.i t.up[k]]:=by simp[hk]
  have hsn:=Zhg (p:=inU (A:Int)) hk
  rw[ht,za3]at hsn
  have hbad:inU (A:Int) t.up[k]=false->false=T:=fun h=>by rw[<- hT,Zjc hk h];rfl
  generalize t.up[k]=v at *
  have e1:=bfb (decide (v<0))
  have e2:=bfb (decide (v≥(A:Int)))
  rcases e1 with e1|e1
  ·rcases e2 with e2|e2
   ·refine Bz1 (X3 hr e1 e2) ?_
    exact⟨(),by rw[hsn];unfold inU;rw[e1,e2];rfl,by exact HXT⟩
   ·refine Bz1 (X3 hr e1 e2) ?_
    exact ZbC (hbad (by unfold inU;rw[e1,e2];rfl)) (by exact AXT)
  ·refine Bz1 (X2 hr e1) ?_
   exact ZbC (hbad (by unfold inU;rw[e1];rfl)) (by exact AXT)
 ·(rintro u G ht hG hn;try simp only[nx]at hn)
  rw[zaq]at ht
  rw[ht,za3]at hT
  have hxG:Zaa.Ext H G:=hG.ZdB hx0 Xc
  have gG:=(hG.g _ l1 Xc).trans g1
  have lG:=Zaa.lt gG
  refine Bz0 ?_
  refine Zcw [1,2] (σ:=Nat) (fun s=>s<=A/\(List.range s).all (fun i:Nat=>Zmy t.up (i:Int))=true) (fun s=>A - s) (fun s=>[(7,.i (s:Int))]) (fun s=>[]) 0 (GStep.refl _ _) xV ?_ xT xU ?_
  ·exact⟨zas _,rfl⟩
  ·(rintro i G2 ⟨h4,h5⟩ hG2 hn2;try simp only[nx]at hn2)
   have gG2:=(hG2.g _ lG Xc).trans gG
   have lG2:=Zaa.lt gG2
   have hxG2:Zaa.Ext H G2:=hG2.ZdB hxG Xc
   by_cases c:i<A
   ·have d4:decide ((i:Int)<(A:Int))=true:=decide_eq_true Xa
    have hw:IntKind.i64.wrap ((i:Int)+1)=((i+1:Nat):Int):=by rw[Zaw Xa Xa];omega
    have hI:=fun G=>in_sound .no t.up (i:Int) G hu
    have hb:=bfb (Zmy t.up (i:Int))
    rcases hb with hb|hb
    ·have hbad:false=T:=by
      rw[<- hT]
      refine Eq.symm (List.all_eq_false.2 ⟨i,by simpa using c,by simp[hb]⟩)
     rw[hb]at hI
     refine Bz1 (X3 d4 gG2 f3) ?_
     refine qcp (hI _) fun k1=>?_
     refine Bz0 ?_
     exact ZbC hbad (by exact AXT)
    ·rw[hb]at hI
     refine Bz1 (X3 d4 gG2 f3) ?_
     refine qcp (hI _) fun k1=>?_
     refine Bz1 (X1 hw) ?_
     exact⟨i+1,⟨Xa,by rw[List.range_succ,zbt,h5];simp[hb]⟩,Xa,rfl,hG2.bump⟩
   ·have d4:decide ((i:Int)<(A:Int))=false:=decide_eq_false Xa
    have hAi:i=A:=Xa
    subst hAi
    rw[h5]at hT
    refine Bz1 (X1 d4) ?_
    exact ZbC hT hxG2
theorem ZmF:∀(A:Nat) (K:List Int),K.Nodup->(∀x∈K,0<=x/\x<(A:Int))->K.length<=A/\(K.length=A ↔ ∀i:Nat,i<A->(i:Int)∈K)
 | 0,K,_,h=>by
  have:K=[]:=by
   cases K with
   | nil=>rfl
   | cons a r=>have:=h a zaF;omega
  subst this
  simp
 | A+1,K,hn,h=>by
  by_cases c:(A:Int)∈K
  ·have h1:=List.length_erase_of_mem c
   have hpos:=List.length_pos_of_mem c
   obtain⟨k1,k2⟩:=ZmF A (K.erase (A:Int)) (hn.erase _) (fun x hx=>by
    obtain⟨e1,e2⟩:=(hn.mem_erase_iff).1 hx
    have:=h x e2
    omega)
   refine⟨Xa,fun e i hi=>?_,fun hall=>?_⟩
   ·by_cases ci:i=A
    ·subst ci;exact c
    ·exact((hn.mem_erase_iff).1 (k2.1 Xa i Xa)).2
   ·have:=k2.2 (fun i hi=>(hn.mem_erase_iff).2 ⟨Xa,hall i Xa⟩)
    omega
  ·obtain⟨k1,_⟩:=ZmF A K hn (fun x hx=>by
    have h1:=h x hx
    have:x≠(A:Int):=fun e=>c (e ▸ hx)
    omega)
   exact⟨Xa,fun e=>by omega,fun hall=>absurd (hall A Xa) c⟩
theorem ZgN {K V:Type} [DecidableEq K] (k:K) (v:V):∀M:List (K×V),(ZbU k v M).map (·.1)=if k∈M.map (·.1) then M.map (·.1) else M.map (·.1)++[k]
 | []=>by simp[ZbU]
 | (k',u) :: M=>by
  have ih:=ZgN k v M
  unfold ZbU
  by_cases c:k=k'
  ·subst c;simp
  ·rw[if_neg c,zao,ih]
   by_cases c2:k∈M.map (·.1)
   ·rw[if_pos c2,if_pos (by rw[zao];exact zav _ c2),zao]
   ·rw[if_neg c2,if_neg (by rw[zao];intro hm;rcases zak.1 hm with h|h;exact c h;exact c2 h),zao,List.cons_append]
theorem ZmS (l:List Int):((Zg2 l).map (·.1)).Nodup/\∀x,x∈(Zg2 l).map (·.1) ↔ x∈l:=by
 suffices ∀(l:List Int) (M:List (Int×Int)),(M.map (·.1)).Nodup->((l.foldl (fun M n=>ZbU n 1 M) M).map (·.1)).Nodup/\∀x,x∈(l.foldl (fun M n=>ZbU n 1 M) M).map (·.1) ↔ x∈M.map (·.1)\/x∈l from by
  have:=this l [] Xc
  simpa [Zg2] using this
 intro l
 induction l with
 | nil=>intro M hM;simp[hM]
 | cons a r ih =>
  intro M hM
  rw[List.foldl_cons]
  have hk:=ZgN a (1:Int) M
  have hnd:((ZbU a (1:Int) M).map (·.1)).Nodup:=by
   rw[hk]
   split
   ·exact hM
   ·rename_i h
    rw[List.nodup_append]
    exact⟨hM,Xc,fun x hx y hy e=>by simp at hy;subst e hy;exact h hx⟩
  obtain⟨h1,h2⟩:=ih _ hnd
  refine⟨h1,fun x=>?_⟩
  rw[h2,hk]
  split
  ·rename_i h
   constructor
   ·rintro(h3|h3)
    ·exact .inl h3
    ·exact .inr (zav _ h3)
   ·rintro(h3|h3)
    ·exact .inl h3
    ·rcases zak.1 h3 with rfl|h3
     ·exact .inl h
     ·exact .inr h3
  ·constructor
   ·rintro(h3|h3)
    ·rcases zaj.1 h3 with h3|h3
     ·exact .inl h3
     ·rw[zat.1 h3];exact .inr zaF
    ·exact .inr (zav _ h3)
   ·rintro(h3|h3)
    ·exact .inl (zbW _ h3)
    ·rcases zak.1 h3 with rfl|h3
     ·exact .inl (zbR _ Xc)
     ·exact .inr h3
theorem ZjD (l:List Int) (n:Int):Zmy l n=true ↔ n∈l:=by
 unfold Zmy
 rw[List.any_eq_true]
 constructor
 ·rintro⟨x,hx,h⟩;have:x=n:=by simpa using h
  exact this ▸ hx
 ·intro h;exact⟨n,h,Xc⟩
theorem treeR_eq {t:Tir} {above:Int} (hm:t.terms.length<=200):ZeL t above=ZdD t.up t.terms.length above:=by
 unfold ZeL ZdD
 by_cases h1:above<=0
 ·rw[if_pos h1,if_pos h1]
 rw[if_neg h1,if_neg h1]
 by_cases h2:(t.up.length:Int)≠(t.terms.length:Int)
 ·rw[if_pos (.inl h2),if_pos h2]
 rw[if_neg h2]
 obtain⟨A,hA⟩:∃A:Nat,above=(A:Int):=⟨above.toNat,Xa⟩
 subst hA
 obtain⟨n1,n2⟩:=ZmS t.up
 have hlen:(Zg2 t.up).length=((Zg2 t.up).map (·.1)).length:=by rw[zan]
 have hle:=ZjE t.up
 by_cases h3:(A:Int) > 200
 ·rw[if_pos (.inr h3)]
  have:(((Zg2 t.up).length:Int) == (A:Int))=false:=by rw[beq_eq_false_iff_ne];omega
  rw[this,Bool.and_false]
 ·rw[if_neg (fun h=>h.elim h2 h3),Int.toNat_natCast]
  by_cases h4:t.up.all (inU (A:Int))=true
  ·rw[h4,za3,za3,zaR]
   have hin:∀x∈(Zg2 t.up).map (·.1),0<=x/\x<(A:Int):=fun x hx=>by
    have:=zaA.1 h4 x ((n2 x).1 hx)
    unfold inU at this
    simp at this
    omega
   obtain⟨_,k2⟩:=ZmF A _ n1 hin
   rw[beq_iff_eq,hlen,zaA]
   constructor
   ·intro h
    have:=k2.2 fun i hi=>(n2 _).2 ((ZjD _ _).1 (h i (by simpa using hi)))
    omega
   ·intro h i hi
    exact(ZjD _ _).2 ((n2 _).1 (k2.1 Xa i (by simpa using hi)))
  ·have h5:t.up.all (inU (A:Int))=false:=by simpa using h4
   rw[h5,zb1,zb1]
theorem Zjl (t:Tir) (above:Int) (H:Zaa) (hu:t.up.length<=1000000):Zay Tryz.prog 158 [.agg (eTr t),.i above] H (Pure H (.i (ZbO t above))):=by
 obtain⟨f0,f1,f2,f3,f4⟩:=Zba t
 have hN:=fun G=>Zd5 t.name G
 have hb:=bfb (ZbK t.name)
 rcases hb with hb|hb
 ·have hv:ZbO t above=2:=by rw[ZbO,if_pos hb]
  rw[hv]
  rw[hb]at hN
  refine fnQ ZKA fun Q qr qn=>?_
  refine Bz1 (X1 f1) ?_
  refine qcp (hN _) fun k1=>?_
  refine Bz0 ?_
  refine Zaz (by rfl)
 rw[hb]at hN
 have e0:¬ZbK t.name=false:=by rw[hb];decide
 by_cases h1:(t.terms.length:Int)<1
 ·have d1:decide ((t.terms.length:Int)<1)=true:=decide_eq_true h1
  have hv:ZbO t above=5:=by rw[ZbO,if_neg e0,if_pos (.inl h1)]
  rw[hv]
  refine fnQ ZKA fun Q qr qn=>?_
  refine Bz1 (X1 f1) ?_
  refine qcp (hN _) fun k1=>?_
  refine Bz3 (X2 f2 d1) ?_
  refine Zaz (by rfl)
 have d1:decide ((t.terms.length:Int)<1)=false:=decide_eq_false h1
 by_cases h2:(t.terms.length:Int) > 200
 ·have d2:decide ((t.terms.length:Int) > 200)=true:=decide_eq_true h2
  have hv:ZbO t above=5:=by rw[ZbO,if_neg e0,if_pos (.inr h2)]
  rw[hv]
  refine fnQ ZKA fun Q qr qn=>?_
  refine Bz1 (X1 f1) ?_
  refine qcp (hN _) fun k1=>?_
  refine Bz3 (X3 f2 d1 d2) ?_
  refine Zaz (by rfl)
 have d2:decide ((t.terms.length:Int) > 200)=false:=decide_eq_false h2
 have e1:¬((t.terms.length:Int)<1\/(t.terms.length:Int) > 200):=fun h=>h.elim h1 h2
 have hR:=fun G=>Zki .no t.terms G Xa
 by_cases h3:Zgt none t.terms≠0
 ·have d3:(Zgt none t.terms != 0)=true:=by simpa using h3
  have hv:ZbO t above=Zgt none t.terms:=by rw[ZbO,if_neg e0,if_neg e1,if_pos h3]
  rw[hv]
  refine fnQ ZKA fun Q qr qn=>?_
  refine Bz1 (X1 f1) ?_
  refine qcp (hN _) fun k1=>?_
  refine Bz3 (X3 f2 d1 d2) ?_
  refine qcp (hR _) fun k2=>?_
  refine Bz1 (X1 d3) ?_
  refine Zaz (by rfl)
 have d3:(Zgt none t.terms != 0)=false:=by simpa using h3
 have hv:ZbO t above=if ZeL t above=false then 14 else 0:=by rw[ZbO,if_neg e0,if_neg e1,if_neg h3,treeR_eq Xa]
 rw[hv]
 have hT:=fun G=>ZiU t above G hu
 have hb4:=bfb (ZeL t above)
 rcases hb4 with hb4|hb4
 ·rw[hb4]at hT
  rw[hb4,if_pos rfl]
  refine fnQ ZKA fun Q qr qn=>?_
  refine Bz1 (X1 f1) ?_
  refine qcp (hN _) fun k1=>?_
  refine Bz3 (X3 f2 d1 d2) ?_
  refine qcp (hR _) fun k2=>?_
  refine Bz1 (X3 d3 f0 f4) ?_
  refine qcp (hT _) fun k3=>?_
  refine Bz0 ?_
  refine Zaz (by rfl)
 ·rw[hb4]at hT
  rw[hb4,if_neg Xb]
  refine fnQ ZKA fun Q qr qn=>?_
  refine Bz1 (X1 f1) ?_
  refine qcp (hN _) fun k1=>?_
  refine Bz3 (X3 f2 d1 d2) ?_
  refine qcp (hR _) fun k2=>?_
  refine Bz1 (X3 d3 f0 f4) ?_
  refine qcp (hT _) fun k3=>?_
  refine Bz0 ?_
  refine Zaz (by rfl)
theorem ZhJ (d:Dm) (k:Nat) (H:Zaa) (hk:k<d.tiers.length) (hl:d.tiers.length<=1000000):Zay Tryz.prog 159 [.agg (eDm d),.i (k:Int)] H (Pure H (.i (ZbR (d.tiers.drop (k+1))))):=by
 obtain⟨f0,f1,f2,f3⟩:=Za7 d
 have hw:IntKind.i64.wrap ((k:Int)+1)=((k+1:Nat):Int):=by rw[show(k:Int)+1=((k+1:Nat):Int) by omega];exact Zaw Xa Xa
 refine fnQ cf159 fun Q qr qn=>?_
 by_cases h:k+1<d.tiers.length
 ·have d1:decide (((k+1:Nat):Int)≥(d.tiers.length:Int))=false:=by simp;omega
  rw[zal h]at qr qn
  have hg:=Zdh h
  obtain⟨g0,g1,g2,g3,g4⟩:=Zba d.tiers[k+1]
  refine Bz3 (X6 f2 hw d1 h g0 g2) ?_
  refine Zaz (by rfl)
 ·have d1:decide (((k+1:Nat):Int)≥(d.tiers.length:Int))=true:=by simp;omega
  rw[zaQ Xa]at qr qn
  refine Bz3 (X3 f2 hw d1) ?_
  refine Zaz (by rfl)
theorem HX.two {O:List (Nat×Zb3)} {H G G1:Zaa} (h:HX O H G) (k:HX [] G G1):HX O H G1 :=
 ⟨zaM h.n k.n,fun p hp=>(k.g _ (Zaa.lt (h.o p hp)) Xc).trans (h.o p hp),fun j hj hne=>(k.g _ (zaJ hj h.n) Xc).trans (h.g j hj hne)⟩
theorem Zmg (seen:List Tx) (t:Tir) (r:List Tir):Zkb seen (t :: r)=if ZbO t (ZbR r)≠0 then ZbO t (ZbR r) else if t.name∈seen then 11 else Zkb (seen++[t.name]) r:=by simp only[Zkb]
theorem ZkC (d:Dm) (H:Zaa) (hs:∀t∈d.tiers,Zgr t):Zay Tryz.prog 115 [.agg (eDm d)] H (Pure H (.i (Zdv d))):=by
 obtain⟨f0,f1,f2,f3⟩:=Za7 d
 have hN:=fun G=>Zd5 d.name G
 have hb:=bfb (ZbK d.name)
 rcases hb with hb|hb
 ·have hv:Zdv d=2:=by rw[Zdv,if_pos hb]
  rw[hv]
  rw[hb]at hN
  refine fnQ cf115 fun Q qr qn=>?_
  refine Bz1 (X1 f1) ?_
  refine qcp (hN _) fun k1=>?_
  refine Bz0 ?_
  refine Zaz (by rfl)
 rw[hb]at hN
 have e0:¬ZbK d.name=false:=by rw[hb];decide
 by_cases h1:(d.tiers.length:Int)<1
 ·have d1:decide ((d.tiers.length:Int)<1)=true:=decide_eq_true h1
  have hv:Zdv d=5:=by rw[Zdv,if_neg e0,if_pos (.inl h1)]
  rw[hv]
  refine fnQ cf115 fun Q qr qn=>?_
  refine Bz1 (X1 f1) ?_
  refine qcp (hN _) fun k1=>?_
  refine Bz3 (X2 f2 d1) ?_
  refine Zaz (by rfl)
 have d1:decide ((d.tiers.length:Int)<1)=false:=decide_eq_false h1
 by_cases h2:(d.tiers.length:Int) > 4
 ·have d2:decide ((d.tiers.length:Int) > 4)=true:=decide_eq_true h2
  have hv:Zdv d=5:=by rw[Zdv,if_neg e0,if_pos (.inr h2)]
  rw[hv]
  refine fnQ cf115 fun Q qr qn=>?_
  refine Bz1 (X1 f1) ?_
  refine qcp (hN _) fun k1=>?_
  refine Bz3 (X3 f2 d1 d2) ?_
  refine Zaz (by rfl)
 have d2:decide ((d.tiers.length:Int) > 4)=false:=decide_eq_false h2
 have hv:Zdv d=Zkb [] d.tiers:=by rw[Zdv,if_neg e0,if_neg (fun h=>h.elim h1 h2)]
 rw[hv]
 generalize hT:Zkb [] d.tiers=T
 have g1:(H.alloc (.cells (eDm d) 39)).get H.next=some (.cells (eDm d) 39):=Zaa.Zae
 refine fnQ cf115 fun Q qr qn=>?_
 refine Bz1 (X1 f1) ?_
 refine qcp (hN _) fun k1=>?_
 refine Bz3 (X3 f2 d1 d2) ?_
 have hx0:Zaa.Ext H ((H.alloc (.cells (eDm d) 39)).bump k1):=by exact AXT
 have gg:((H.alloc (.cells (eDm d) 39)).bump k1).get H.next=some (.cells (eDm d) 39):=g1
 generalize (H.alloc (.cells (eDm d) 39)).bump k1=G0 at *
 have l1:=Zaa.lt gg
 refine Zbs [1,22] (σ:=Unit) (fun(k:Nat) s=>T=Zkb ((d.tiers.take k).map (·.name)) (d.tiers.drop k)) (fun k s=>[]) (fun k s=>[]) () (GStep.refl _ _) xV xW xW (by rfl) Xd ?_ xF xU ?_ ?_
 ·exact hT.symm
 ·(rintro k u G hk ht hG hn;try simp only[nx]at hn)
  have hxG:Zaa.Ext H G:=hG.ZdB hx0 Xc
  have gG:=(hG.g _ l1 Xc).trans gg
  have lG:=Zaa.lt gG
  rw[zal hk,Zmg]at ht
  have hr:=Zdh hk
  obtain⟨t0,t1,t2,t3,t4⟩:=Zba d.tiers[k]
  have hA:=fun G=>ZhJ d k G hk Xa
  have hW:=fun G=>Zjl d.tiers[k] (ZbR (d.tiers.drop (k+1))) G (hs _ (zah hk))
  by_cases c1:ZbO d.tiers[k] (ZbR (d.tiers.drop (k+1)))≠0
  ·have d3:(ZbO d.tiers[k] (ZbR (d.tiers.drop (k+1))) != 0)=true:=by simpa using c1
   rw[if_pos c1]at ht
   refine Bz3 (X8 gG f0 f2 f3 hr t0 t4 hk) ?_
   refine qcp (hA _) fun k2=>?_
   refine Bz3 (X8 gG f0 f2 f3 hr t0 t4 hk) ?_
   refine qcp (hW _) fun k3=>?_
   refine Bz1 (X1 d3) ?_
   refine Zaz (by rw[ht])
  ·have d3:(ZbO d.tiers[k] (ZbR (d.tiers.drop (k+1))) != 0)=false:=by simpa using c1
   rw[if_neg c1]at ht
   refine Bz3 (X8 gG f0 f2 f3 hr t0 t4 hk) ?_
   refine qcp (hA _) fun k2=>?_
   refine Bz3 (X8 gG f0 f2 f3 hr t0 t4 hk) ?_
   refine qcp (hW _) fun k3=>?_
   refine Bz1 (X1 d3) ?_
   refine Zcw [1,3,22,23] (σ:=Nat) (fun s=>s<=k/\∀t∈d.tiers.take s,t.name≠d.tiers[k].name) (fun s=>k - s) (fun s=>[(5,.i (s:Int))]) (fun s=>[]) 0 (GStep.refl _ _) xV ?_ xT xU ?_
   ·exact⟨zas _,Xc⟩
   ·(rintro i G2 ⟨h4,h5⟩ hG2 hn2;try simp only[nx]at hn2)
    have gG2:=(hG2.g _ Xe Xc).trans gG
    have lG2:=Zaa.lt gG2
    have hxG2:Zaa.Ext H G2:=hG2.ZdB (hxG.bump.bump) Xc
    by_cases c:i<k
    ·have d4:decide ((i:Int)<(k:Int))=true:=decide_eq_true Xa
     have hil:i<d.tiers.length:=Xa
     have hri:=Zdh hil
     obtain⟨i0,i1,i2,i3,i4⟩:=Zba d.tiers[i]
     have hi0:(0:Int)<=(i:Int):=Xa
     have hw:IntKind.i64.wrap ((i:Int)+1)=((i+1:Nat):Int):=by rw[Zaw Xa Xa];omega
     by_cases c2:d.tiers[i].name=d.tiers[k].name
     ·have d5:decide (d.tiers[i].name=d.tiers[k].name)=true:=decide_eq_true c2
      rw[if_pos (List.mem_map.2 ⟨d.tiers[i],by rw[zbK];exact⟨i,Xa,rfl⟩,c2⟩)]at ht
      refine Bz3 (X12 d4 gG2 f0 f2 hr hri t0 t1 i0 i1 hk (X3 hil hi0 d5)) ?_
      exact Zaz ht.symm hxG2
     ·have d5:decide (d.tiers[i].name=d.tiers[k].name)=false:=decide_eq_false c2
      refine Bz3 (X12 d4 gG2 f0 f2 hr hri t0 t1 i0 i1 hk (X4 hil hi0 d5 hw)) ?_
      refine⟨i+1,⟨Xa,fun t ht'=>?_⟩,Xa,rfl,hG2⟩
      rw[zae hil]at ht'
      rcases zaj.1 ht' with ht'|ht'
      ·exact h5 t ht'
      ·rw[zat.1 ht'];exact c2
    ·have d4:decide ((i:Int)<(k:Int))=false:=decide_eq_false Xa
     have hik:i=k:=Xa
     subst hik
     rw[if_neg (fun hm=>by obtain⟨t,ht1,ht2⟩:=List.mem_map.1 hm;exact h5 t ht1 ht2)]at ht
     refine Bz1 (X1 d4) ?_
     refine⟨(),?_,(hG.bump.bump).two hG2⟩
     rw[ht,zae hk,zaD];rfl
 ·(rintro u G ht hG hn;try simp only[nx]at hn)
  rw[zaG]at ht
  refine Bz0 ?_
  refine Zaz (by rw[ht];rfl)
theorem ZkJ (seen:List Tx) (d:Dm) (r:List Dm):Zd1 seen (d :: r)=if Zdv d≠0 then Zdv d else if d.name∈seen then 11 else Zd1 (seen++[d.name]) r:=by simp only[Zd1]
theorem ZkN (seen:List Tx) (q:Tx) (r:List Tx):Zgh seen (q :: r)=if ZbK q=false then 2 else if q∈seen then 11 else Zgh (seen++[q]) r:=by simp only[Zgh]
theorem ZeE (S:Sc) (H:Zaa) (hs:Zh1 S):Zay Tryz.prog 63 [.agg (eSc S)] H (Pure H (.i (scE S))):=by
 obtain⟨f0,f1,f2,f3⟩:=ZbB S
 by_cases h1:(S.dims.length:Int)<1
 ·have d1:decide ((S.dims.length:Int)<1)=true:=decide_eq_true h1
  have hv:scE S=5:=by rw[scE,if_pos (.inl h1)]
  rw[hv]
  refine fnQ cf63 fun Q qr qn=>?_
  refine Bz3 (X2 f1 d1) ?_
  refine Zaz (by rfl)
 have d1:decide ((S.dims.length:Int)<1)=false:=decide_eq_false h1
 by_cases h2:(S.dims.length:Int) > 16
 ·have d2:decide ((S.dims.length:Int) > 16)=true:=decide_eq_true h2
  have hv:scE S=5:=by rw[scE,if_pos (.inr h2)]
  rw[hv]
  refine fnQ cf63 fun Q qr qn=>?_
  refine Bz3 (X3 f1 d1 d2) ?_
  refine Zaz (by rfl)
 have d2:decide ((S.dims.length:Int) > 16)=false:=decide_eq_false h2
 obtain⟨D,hD⟩:∃D,Zd1 [] S.dims=D:=⟨_,rfl⟩
 have hv:scE S=if D≠0 then D else Zd8 S.meas:=by rw[scE,if_neg (fun h=>h.elim h1 h2),hD]
 rw[hv]
 obtain⟨T,hT⟩:∃T,(if D≠0 then D else Zd8 S.meas)=T:=⟨_,rfl⟩
 have hDT:D≠0->D=T:=fun h=>by rw[<- hT,if_pos h]
 have hMT:D=0->Zd8 S.meas=T:=fun h=>by rw[<- hT,if_neg (by simp[h])]
 rw[hT]
 clear hv hT
 have gg:(H.alloc (.cells (eSc S) 25)).get H.next=some (.cells (eSc S) 25):=Zaa.Zae
 have hx0:Zaa.Ext H (H.alloc (.cells (eSc S) 25)):=(Zaa.Ext.refl H).alloc
 refine fnQ cf63 fun Q qr qn=>?_
 refine Bz3 (X3 f1 d1 d2) ?_
 generalize H.alloc (.cells (eSc S) 25)=G0 at *
 have l1:=Zaa.lt gg
 refine Zbs [1,20] (σ:=Unit) (fun(k:Nat) s=>D=Zd1 ((S.dims.take k).map (·.name)) (S.dims.drop k)) (fun k s=>[]) (fun k s=>[]) () (GStep.refl _ _) xV xW xW (by rfl) Xd ?_ xF xU ?_ ?_
 ·exact hD.symm
 ·(rintro k u G hk ht hG hn;try simp only[nx]at hn)
  have hxG:Zaa.Ext H G:=hG.ZdB hx0 Xc
  have gG:=(hG.g _ l1 Xc).trans gg
  have lG:=Zaa.lt gG
  rw[zal hk,ZkJ]at ht
  have hr:=ZjQ hk
  obtain⟨t0,t1,t2,t3⟩:=Za7 S.dims[k]
  have hW:=fun G=>ZkC S.dims[k] G (hs _ (zah hk))
  by_cases c1:Zdv S.dims[k]≠0
  ·have d3:(Zdv S.dims[k] != 0)=true:=by simpa using c1
   rw[if_pos c1]at ht
   have hfin:Zdv S.dims[k]=T:=by rw[<- ht];exact hDT (by rw[ht];exact c1)
   refine Bz3 (X8 gG f0 f1 f3 hr t0 t3 hk) ?_
   refine qcp (hW _) fun k3=>?_
   refine Bz1 (X1 d3) ?_
   exact Zaz hfin (hxG.bump)
  ·have d3:(Zdv S.dims[k] != 0)=false:=by simpa using c1
   rw[if_neg c1]at ht
   refine Bz3 (X8 gG f0 f1 f3 hr t0 t3 hk) ?_
   refine qcp (hW _) fun k3=>?_
   refine Bz1 (X1 d3) ?_
   refine Zcw [1,3,20,21] (σ:=Nat) (fun s=>s<=k/\∀t∈S.dims.take s,t.name≠S.dims[k].name) (fun s=>k - s) (fun s=>[(5,.i (s:Int))]) (fun s=>[]) 0 (GStep.refl _ _) xV ?_ xT xU ?_
   ·exact⟨zas _,Xc⟩
   ·(rintro i G2 ⟨h4,h5⟩ hG2 hn2;try simp only[nx]at hn2)
    have gG2:=(hG2.g _ Xe Xc).trans gG
    have lG2:=Zaa.lt gG2
    have hxG2:Zaa.Ext H G2:=hG2.ZdB hxG.bump Xc
    by_cases c:i<k
    ·have d4:decide ((i:Int)<(k:Int))=true:=decide_eq_true Xa
     have hil:i<S.dims.length:=Xa
     have hri:=ZjQ hil
     obtain⟨i0,i1,i2,i3⟩:=Za7 S.dims[i]
     have hi0:(0:Int)<=(i:Int):=Xa
     have hw:IntKind.i64.wrap ((i:Int)+1)=((i+1:Nat):Int):=by rw[Zaw Xa Xa];omega
     by_cases c2:S.dims[i].name=S.dims[k].name
     ·have d5:decide (S.dims[i].name=S.dims[k].name)=true:=decide_eq_true c2
      rw[if_pos (List.mem_map.2 ⟨S.dims[i],by rw[zbK];exact⟨i,Xa,rfl⟩,c2⟩)]at ht
      have hfin:11=T:=by rw[<- ht];exact hDT (by rw[ht];decide)
      refine Bz3 (X12 d4 gG2 f0 f1 hr hri t0 t1 i0 i1 hk (X3 hil hi0 d5)) ?_
      exact Zaz hfin hxG2
     ·have d5:decide (S.dims[i].name=S.dims[k].name)=false:=decide_eq_false c2
      refine Bz3 (X12 d4 gG2 f0 f1 hr hri t0 t1 i0 i1 hk (X4 hil hi0 d5 hw)) ?_
      refine⟨i+1,⟨Xa,fun t ht'=>?_⟩,Xa,rfl,hG2⟩
      rw[zae hil]at ht'
      rcases zaj.1 ht' with ht'|ht'
      ·exact h5 t ht'
      ·rw[zat.1 ht'];exact c2
    ·have d4:decide ((i:Int)<(k:Int))=false:=decide_eq_false Xa
     have hik:i=k:=Xa
     subst hik
     rw[if_neg (fun hm=>by obtain⟨t,ht1,ht2⟩:=List.mem_map.1 hm;exact h5 t ht1 ht2)]at ht
     refine Bz1 (X1 d4) ?_
     refine⟨(),?_,(hG.bump).two hG2⟩
     rw[ht,zae hk,zaD];rfl
 ·(rintro u G ht hG hn;try simp only[nx]at hn)
  rw[zaG]at ht
  have hM:=hMT ht
  have hxG:Zaa.Ext H G:=hG.ZdB hx0 Xc
  have gG:=(hG.g _ l1 Xc).trans gg
  have lG:=Zaa.lt gG
  clear ht hDT hMT hD
  by_cases m1:(S.meas.length:Int)<1
  ·have d3:decide ((S.meas.length:Int)<1)=true:=decide_eq_true m1
   have hv:5=T:=by rw[<- hM,Zd8,if_pos (.inl m1)]
   refine Bz3 (X3 gG f2 d3) ?_
   exact Zaz hv hxG
  have d3:decide ((S.meas.length:Int)<1)=false:=decide_eq_false m1
  by_cases m2:(S.meas.length:Int) > 3
  ·have d4:decide ((S.meas.length:Int) > 3)=true:=decide_eq_true m2
   have hv:5=T:=by rw[<- hM,Zd8,if_pos (.inr m2)]
   refine Bz3 (X4 gG f2 d3 d4) ?_
   exact Zaz hv hxG
  have d4:decide ((S.meas.length:Int) > 3)=false:=decide_eq_false m2
  rw[Zd8,if_neg (fun h=>h.elim m1 m2)]at hM
  refine Bz3 (X4 gG f2 d3 d4) ?_
  refine Zbs [1,64] (σ:=Unit) (fun(k:Nat) s=>T=Zgh (S.meas.take k) (S.meas.drop k)) (fun k s=>[]) (fun k s=>[]) () (GStep.refl _ _) xV xW xW (by rfl) Xd ?_ xF xU ?_ ?_
  ·exact hM.symm
  ·(rintro k u G3 hk ht hG3 hn3;try simp only[nx]at hn3)
   have hxG3:Zaa.Ext H G3:=hG3.ZdB hxG Xc
   have gG3:=(hG3.g _ lG Xc).trans gG
   have lG3:=Zaa.lt gG3
   rw[zal hk,ZkN]at ht
   have hr:(rS S.meas)[k]?=some [eS S.meas[k]]:=by simp[hk]
   have hN:=fun G=>Zd5 S.meas[k] G
   have hb:=bfb (ZbK S.meas[k])
   rcases hb with hb|hb
   ·rw[hb]at hN
    rw[if_pos hb]at ht
    refine Bz3 (X4 gG3 f2 hr hk) ?_
    refine qcp (hN _) fun k3=>?_
    refine Bz0 ?_
    exact Zaz ht.symm hxG3.bump
   ·rw[hb]at hN
    rw[if_neg (by rw[hb];decide)]at ht
    refine Bz3 (X4 gG3 f2 hr hk) ?_
    refine qcp (hN _) fun k3=>?_
    refine Bz0 ?_
    refine Zcw [1,6,64,65] (σ:=Nat) (fun s=>s<=k/\∀t∈S.meas.take s,t≠S.meas[k]) (fun s=>k - s) (fun s=>[(7,.i (s:Int))]) (fun s=>[]) 0 (GStep.refl _ _) xV ?_ xT xU ?_
    ·exact⟨zas _,Xc⟩
    ·(rintro i G2 ⟨h4,h5⟩ hG2 hn2;try simp only[nx]at hn2)
     have gG2:=(hG2.g _ Xe Xc).trans gG3
     have lG2:=Zaa.lt gG2
     have hxG2:Zaa.Ext H G2:=hG2.ZdB hxG3.bump Xc
     by_cases c:i<k
     ·have d6:decide ((i:Int)<(k:Int))=true:=decide_eq_true Xa
      have hil:i<S.meas.length:=Xa
      have hri:(rS S.meas)[i]?=some [eS S.meas[i]]:=by simp[hil]
      have hi0:(0:Int)<=(i:Int):=Xa
      have hw:IntKind.i64.wrap ((i:Int)+1)=((i+1:Nat):Int):=by rw[Zaw Xa Xa];omega
      by_cases c2:S.meas[i]=S.meas[k]
      ·have d5:decide (S.meas[i]=S.meas[k])=true:=decide_eq_true c2
       rw[if_pos (by rw[zbK];exact⟨i,Xa,c2⟩)]at ht
       refine Bz3 (X9 d6 gG2 f2 hr hri hk hil hi0 d5) ?_
       exact Zaz ht.symm hxG2
      ·have d5:decide (S.meas[i]=S.meas[k])=false:=decide_eq_false c2
       refine Bz3 (X10 d6 gG2 f2 hr hri hk hil hi0 d5 hw) ?_
       refine⟨i+1,⟨Xa,fun t ht'=>?_⟩,Xa,rfl,hG2⟩
       rw[zae hil]at ht'
       rcases zaj.1 ht' with ht'|ht'
       ·exact h5 t ht'
       ·rw[zat.1 ht'];exact c2
     ·have d6:decide ((i:Int)<(k:Int))=false:=decide_eq_false Xa
      have hik:i=k:=Xa
      subst hik
      rw[if_neg (fun hm=>h5 _ hm rfl)]at ht
      refine Bz1 (X1 d6) ?_
      refine⟨(),?_,(hG3.bump).two hG2⟩
      rw[ht,zae hk]
  ·(rintro u G3 ht hG3 hn3;try simp only[nx]at hn3)
   rw[zaG]at ht
   refine Bz0 ?_
   exact Zaz (by rw[ht];rfl) (hG3.ZdB hxG Xc)
end Go.Proofs.YtdfgoekdlmkdfaaGreatDoor
