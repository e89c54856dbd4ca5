/- Texts of the walk. -/
import Derived.Test.YtemmgefppobboaaGreatDoorMj
import Derived.Test.YtemmgefppobboaaGreatDoorMf
import Derived.Sort.Walk0
namespace Go.Proofs.YtemmgefppobboaaGreatDoor
set_option linter.defProp false
set_option linter.unusedSimpArgs false
set_option linter.unusedVariables false
open Go.RowKit
theorem Zd4 (a b:Int):vEq (.int .i64 a) (.int .i64 b)=decide (a=b):=by by_cases h:a=b<;>simp[vEq,h]
section
variable {K V:Type} [DecidableEq K] {kf:K->Value} {vf:V->AV}
def Zcz (k:K):List (K×V)->Option V
 | []=>none
 | (k',v) :: M=>if k=k' then some v else Zcz k M
def ZbU (k:K) (v:V):List (K×V)->List (K×V)
 | []=>[(k,v)]
 | (k',u) :: M=>if k=k' then (k,v) :: M else (k',u) :: ZbU k v M
def Zgf (kf:K->Value) (vf:V->AV) (M:List (K×V)):List (Value×AV):=M.map fun p=>(kf p.1,vf p.2)
theorem ZbV (hk:∀a b,kEq (kf a) (kf b)=decide (a=b)) (k:K):∀M:List (K×V),ZdG (kf k) (Zgf kf vf M)=(Zcz k M).map vf
 | []=>rfl
 | (k',v) :: M=>by
  have ih:=ZbV hk k M
  unfold Zgf at ih ⊢
  simp only[zav,ZdG,hk,Zcz]
  by_cases h:k=k'<;>simp[h,ih]
theorem ZcH (hk:∀a b,kEq (kf a) (kf b)=decide (a=b)) (k:K) (v:V):∀M:List (K×V),Ziw (kf k) (vf v) (Zgf kf vf M)=Zgf kf vf (ZbU k v M)
 | []=>rfl
 | (k',u) :: M=>by
  have ih:=ZcH hk k v M
  unfold Zgf at ih ⊢
  simp only[zav,Ziw,hk,ZbU]
  by_cases h:k=k'<;>simp[h,ih]
theorem Zeg (k j:K) (v:V):∀M:List (K×V),Zcz j (ZbU k v M)=if j=k then some v else Zcz j M
 | []=>by simp[ZbU,Zcz]
 | (k',u) :: M=>by
  have ih:=Zeg k j v M
  unfold ZbU
  by_cases h:k=k'
  ·subst h
   rw[if_pos rfl]
   simp only[Zcz]
   by_cases h2:j=k<;>simp[h2]
  ·rw[if_neg h]
   simp only[Zcz,ih]
   by_cases h2:j=k
   ·subst h2;simp[h]
   ·simp[h2]
theorem ZdP (k:K) (v:V) (M:List (K×V)):Zcz k (ZbU k v M)=some v:=by rw[Zeg,if_pos rfl]
theorem ZjW (k:K) (v:V):∀M:List (K×V),(ZbU k v M).length=if (Zcz k M).isSome then M.length else M.length+1
 | []=>by simp[ZbU,Zcz]
 | (k',u) :: M=>by
  have ih:=ZjW k v M
  unfold ZbU Zcz
  by_cases h:k=k'
  ·simp[h]
  ·simp only[h,if_false,List.length_cons,ih]
   split<;>omega
end
def kI (n:Int):Value:=.int .i64 n
def k2 (p:Int×Int):Value:=.agg #[.int .i64 p.1,.int .i64 p.2]
theorem ZkH (a b:Int):kEq (kI a) (kI b)=decide (a=b):=Zd4 a b
theorem ZrS (a:Int):KK.of (.one (.int .i64)) (.i a)=some (kI a):=rfl
inductive Wkn:AV->AV->Prop
 | refl (a:AV):Wkn a a
 | sl (t:Tok) (rows rows':List (List AV)) (hl:rows.length=rows'.length) (h1:∀(i:Nat) (r r':List AV),rows[i]?=some r->rows'[i]?=some r'->r.length=r'.length)
  (h2:∀(i:Nat) (r r':List AV) (j:Nat) (x y:AV),rows[i]?=some r->rows'[i]?=some r'->r[j]?=some x->r'[j]?=some y->Wkn x y):Wkn (.sl t rows) (.sl .no rows')
 | agg (cs cs':List AV) (hl:cs.length=cs'.length) (h:∀(i:Nat) (x y:AV),cs[i]?=some x->cs'[i]?=some y->Wkn x y):Wkn (.agg cs) (.agg cs')
 | tup (cs cs':List AV) (hl:cs.length=cs'.length) (h:∀(i:Nat) (x y:AV),cs[i]?=some x->cs'[i]?=some y->Wkn x y):Wkn (.tup cs) (.tup cs')
section
variable {g:Gh} {w:World}
theorem Wkn.one {a b:AV} (h:Wkn a b):a.one=b.one:=by cases h<;>rfl
theorem ZaN {α:Type} {l m:List α} (hl:l.length=m.length) {i:Nat} {y:α} (h:m[i]?=some y):∃x,l[i]?=some x:=by
 have:=(zal.1 h).1
 exact⟨l[i]'(by omega),zad (by omega)⟩
theorem VR.wkn {a b:AV} {v:Value} (hw:Wkn a b) (h:VR g w a v):VR g w b v:=by
 induction hw generalizing v with
 | refl a=>exact h
 | sl t rows rows' hl h1 h2 ih =>
  cases h with
  | sl tok _ A c sz b o f hc hm hA hsz hcell hv ht =>
   have:=VR.sl (g:=g) (w:=w) .no rows' A c sz b o f (by rw[<- hl];exact hc) hm (fun hne=>hA fun e=>hne (by rw[e]at hl;exact zbL.1 hl.symm)) (fun r' hr'=>by
    obtain⟨i,hi,rfl⟩:=zaz hr'
    obtain⟨r,hr⟩:=ZaN hl (zad hi)
    have hrm:=zaE hr
    have e:=h1 i r _ hr (zad hi)
    refine⟨by rw[<- e];exact(hsz r hrm).1,fun y hy=>?_⟩
    obtain⟨j,hj,rfl⟩:=zaz hy
    obtain⟨x,hx⟩:=ZaN e (zad hj)
    rw[<- (h2 i r _ j x _ hr (zad hi) hx (zad hj)).one]
    exact(hsz r hrm).2 x (zaE hx)) (fun i r' j y hr' hy=>by
    obtain⟨r,hr⟩:=ZaN hl hr'
    obtain⟨x,hx⟩:=ZaN (h1 i r r' hr hr') hy
    exact hcell i r j x hr hx) (fun i r' j y hr' hy=>by
    obtain⟨r,hr⟩:=ZaN hl hr'
    obtain⟨x,hx⟩:=ZaN (h1 i r r' hr hr') hy
    exact ih i r r' j x y hr hr' hx hy (hv i r j x hr hx)) trivial
   rw[hl]
   exact this
 | agg cs cs' hl hh ih =>
  cases h with
  | agg _ vs hl2 hone hv=>exact .agg cs' vs (by rw[<- hl];exact hl2) (fun y hy=>by
    obtain⟨j,hj,rfl⟩:=zaz hy
    obtain⟨x,hx⟩:=ZaN hl (zad hj)
    rw[<- (hh j x _ hx (zad hj)).one]
    exact hone x (zaE hx)) (fun i y u hy hu=>by
    obtain⟨x,hx⟩:=ZaN hl hy
    exact ih i x y hx hy (hv i x u hx hu))
 | tup cs cs' hl hh ih =>
  cases h with
  | tup _ vs hl2 hv=>exact .tup cs' vs (by rw[<- hl];exact hl2) (fun i y u hy hu=>by
    obtain⟨x,hx⟩:=ZaN hl hy
    exact ih i x y hx hy (hv i x u hx hu))
end
theorem Zb6.wkn {r v:AV} {H H2:Zaa} (hr:Wkn r v) (h:Zaa.Ext H2 H):Zb6 r H v (H2.bump (H.next - H2.next)):=fun g w u hv hW=>by
 obtain⟨k1,k2⟩:=Zf3 hW (H2:=H2.bump (H.next - H2.next)) (fun i o hi=>h.get i o hi) (by have:=h.next;simp;omega)
 exact⟨g,hv.wkn hr,k1,k2⟩
theorem Zc1 {r v:AV} {H0 H:Zaa} (hr:Wkn r v) (hx:Zaa.Ext H0 H:=by exact AXT):∃r2 H2,Zb6 r H r2 H2/\Pure H0 v r2 H2:=⟨_,_,Zb6.wkn hr hx,rfl,_,rfl⟩
def kS (l:List UInt8):Value:=.string ⟨l.toArray⟩
theorem Zev (a b:List UInt8):kEq (kS a) (kS b)=decide (a=b):=by
 rw[zaZ,decide_eq_true_eq]
 show(a.toArray == b.toArray)=true ↔ _
 rw[beq_iff_eq]
 exact⟨fun h=>by simpa using congrArg Array.toList h,fun h=>by rw[h]⟩
theorem kS_of (l:List UInt8):KK.of (.one .str) (eS l)=some (kS l):=rfl
structure Tir where
 name:Tx
 terms:List Tx
 up:List Int
structure Dm where
 name:Tx
 tiers:List Tir
structure Sc where
 dims:List Dm
 meas:List Tx
def eTr (t:Tir):List AV:=[eS t.name,.sl .no (rS t.terms),.sl .no (rI t.up)]
abbrev rT (l:List Tir):List (List AV):=l.map eTr
def eDm (d:Dm):List AV:=[eS d.name,.sl .no (rT d.tiers)]
abbrev rD (l:List Dm):List (List AV):=l.map eDm
def eSc (s:Sc):List AV:=[.sl .no (rD s.dims),.sl .no (rS s.meas)]
theorem bytes_at {l:List UInt8} {k:Nat} (h:k<l.length):(⟨l.toArray⟩:ByteArray)[k]?=some l[k]:=by
 show(if h:k<l.toArray.size then some _ else none)=_
 rw[dif_pos (by simpa using h)]
 rfl
def ZcS (c:UInt8):Bool:=(decide ((97:Int)<=c.toNat)&&decide ((c.toNat:Int)<=122)) || (decide ((48:Int)<=c.toNat)&&decide ((c.toNat:Int)<=57)) || ((c.toNat:Int) == 95)
def ZbK (s:Tx):Bool:=!decide (s=[])&&!decide ((s.length:Int) > 12)&&s.all ZcS
set_option maxHeartbeats 1000000 in
theorem ZgA (q:Tx) (H:Zaa):Zay Tryz.prog 170 [eS q] H (Pure H (.i (if ZbK q=true then 0 else 2))):=by
 refine Zak hE cf170 (zaa rfl) fun Q qr qn=>?_
 by_cases h0:q=[]
 ·subst h0
  refine Bz0 ?_
  refine Zaz (by rfl)
 have d0:decide (q=[])=false:=decide_eq_false h0
 by_cases h1:(q.length:Int) > 12
 ·have d1:decide ((q.length:Int) > 12)=true:=decide_eq_true h1
  have hZ:=an7 d0<|d1;refine Bz1 ?_
  refine Zaz (by simp[ZbK,h1])
 have d1:decide ((q.length:Int) > 12)=false:=decide_eq_false h1
 have hbad:∀k (hk:k<q.length),ZcS q[k]=false->(2:Int)=if ZbK q=true then 0 else 2:=fun k hk h=>by
  rw[if_neg]
  rw[ZbK,Zjc hk h];simp
 have hgood:q.all ZcS=true->(0:Int)=if ZbK q=true then 0 else 2:=fun h=>by
  rw[if_pos]
  rw[ZbK,h,d0,d1];rfl
 have hZ:=an7 d0<|d1;refine Bz1 ?_
 refine Zbs [0,13] (σ:=Unit) (fun(k:Nat) s=>(q.take k).all ZcS=true) (fun k s=>[]) (fun k s=>[]) () (GStep.refl _ _) (by simp only[ZaA,Zav,Fr.put,Fr.get,↓reduceIte,Nat.reduceEqDiff];rfl) (by intro k s;rfl) (by intro k s;rfl) (by rfl) (by unfold maxLen;omega) ?_ (by simp only[ZaF]) (by simp only[ZaJ]) ?_ ?_
 ·rfl
 ·(rintro k u G hk ht hG hn;try simp only[nx]at hn)
  have hs:=bytes_at hk
  have hb:=hbad k hk
  have hsn:=Zhg (p:=ZcS) hk
  rw[ht,zbl]at hsn
  generalize q[k]=c at *
  clear hbad hgood
  ((have hd:=tv;repeat' first|(first|apply Zad|apply Zac|apply Zab)<;>intro hd<;>try simp only[hd]|simp(disch:=first|assumption|omega|simp only[nx]<;>omega|fail)only[hd,qr,qn,Zln,↓YA,YY,sevalprocAttr,hs])<;>try revert hd;refine ttr ?_)
  all_goals first
   | (refine Zaz (hb ?_);clear hb hsn;unfold ZcS;first|(simp_all;done)|grind)
   | (refine⟨(),?_,by exact HXT⟩;rw[hsn];clear hb hsn;unfold ZcS;first|(simp_all;done)|grind)
 ·(rintro u G ht hG hn;try simp only[nx]at hn)
  rw[zas]at ht
  refine Bz0 ?_
  refine Zaz (by exact hgood ht)
theorem Zjx {s:Tx} (h:ZbK s=false) (H:Zaa):Zay Tryz.prog 170 [eS s] H (Pure H (.i 2)):=by
 have:=ZgA s H
 rw[h]at this
 exact this
theorem Zg8 {s:Tx} (h:ZbK s=true) (H:Zaa):Zay Tryz.prog 170 [eS s] H (Pure H (.i 0)):=by
 have:=ZgA s H
 rw[h]at this
 exact this
def isT (s:Tx):Bool:=decide ((s.length:Int)≥1)&&decide ((s.length:Int)<=16)
theorem Zhs (s:Tx) (H:Zaa):Zay Tryz.prog 172 [eS s] H (Pure H (.i (if isT s=true then 0 else 2))):=by
 unfold isT
 cases s with
 | nil =>
  refine Zak hE cf172 (zaa rfl) fun Q qr qn=>?_
  refine Bz0 ?_
  refine Zaz (by rfl)
 | cons a r =>
  have d0:decide (a :: r=[])=false:=by simp
  refine Zak hE cf172 (zaa rfl) fun Q qr qn=>?_
  ((have hd:=tv;repeat' first|(first|apply Zad|apply Zac|apply Zab)<;>intro hd<;>try simp only[hd]|simp(disch:=first|assumption|omega|simp only[nx]<;>omega|fail)only[hd,qr,qn,ZG9,↓YA,YY,sevalprocAttr,d0])<;>try revert hd;refine ttr ?_)
  ·refine Zaz (by rw[if_neg];simp at hd ⊢;omega)
  ·refine Zaz (by rw[if_pos];simp at hd ⊢;omega)
def geT (w:Option Tx) (s:Tx):Bool:=match w with
 | some q=>!decide (q<s)
 | none=>false
def Zgt:Option Tx->List Tx->Int
 | _,[]=>0
 | w,s :: r=>if isT s=false then 2 else if geT w s=true then 4 else Zgt (some s) r
theorem Zhp (w:Option Tx) (s:Tx) (r:List Tx):Zgt w (s :: r)=if isT s=false then 2 else if geT w s=true then 4 else Zgt (some s) r:=by simp only[Zgt]
def Ze4 (l:List Tx) (k:Nat):Option Tx:=match k with
 | 0=>none
 | k+1=>l[k]?
set_option maxHeartbeats 1000000 in
theorem ZkS (t:Tok) (l:List Tx) (H:Zaa) (hl:l.length<=1000000):Zay Tryz.prog 156 [.sl t (rS l)] H (Pure H (.i (Zgt none l))):=by
 refine Zak hE cf156 (zaa rfl) fun Q qr qn=>?_
 refine Bz2 ?_
 generalize hT:Zgt none l=T at *
 refine Zbs [0,6,7] (σ:=Unit) (fun(k:Nat) s=>T=Zgt (Ze4 l k) (l.drop k)) (fun k s=>[]) (fun k s=>[]) () (GStep.refl _ _) (by simp only[ZaA,Zav,Fr.put,Fr.get,↓reduceIte,Nat.reduceEqDiff];rfl) (by intro k s;rfl) (by intro k s;rfl) (by rfl) (by unfold maxLen;omega) ?_ (by simp only[ZaF]) (by simp only[ZaJ]) ?_ ?_
 ·exact hT.symm
 ·(rintro k s G hk ht hG hn;try simp only[nx]at hn)
  rw[zai hk,Zhp]at ht
  have hC:=Zhs l[k]
  have hb:=bfb (isT l[k])
  rcases hb with hb|hb
  ·rw[hb]at hC ht
   simp only[zbm,if_false,if_true]at hC ht
   refine Bz2 ?_
   refine qcp (hC _) fun k1=>?_
   ((have hd:=tv;repeat' first|(first|apply Zad|apply Zac|apply Zab)<;>intro hd<;>try simp only[hd]|simp(disch:=first|assumption|omega|simp only[nx]<;>omega|fail)only[hd,qr,qn,Zr2,↓YA,YY,sevalprocAttr,show((2:Int) != 0)=true from by decide])<;>try revert hd;refine ttr ?_)
   refine Zaz (by rw[ht])
  ·rw[hb]at hC ht
   simp only[Bool.true_eq_false,if_false,if_true]at hC ht
   cases k with
   | zero =>
    have d1:decide (((0:Nat):Int) > 0)=false:=by decide
    refine Bz2 ?_
    refine qcp (hC _) fun k1=>?_
    have hZ:=d1;refine Bz3 ?_
    refine⟨(),by rw[ht];simp[Ze4,hk,geT],by exact HXT⟩
   | succ j =>
    have d1:decide (((j+1:Nat):Int) > 0)=true:=decide_eq_true (by omega)
    have hj:j<l.length:=by omega
    have hw:IntKind.i64.wrap (((j+1:Nat):Int) - 1)=(j:Int):=by rw[show((j+1:Nat):Int) - 1=(j:Int) by omega];exact Zaw (by omega) (by omega)
    have hp:Ze4 l (j+1)=some l[j]:=by simp[Ze4,hj]
    have hp2:Ze4 l (j+1+1)=some l[j+1]:=by simp[Ze4,hk]
    rw[hp]at ht
    simp only[geT]at ht
    have hlt:=bfb (decide (l[j]<l[j+1]))
    rcases hlt with hlt|hlt
    ·refine Bz2 ?_
     refine qcp (hC _) fun k1=>?_
     have hZ:=an7 d1<|an7 hw<|an7 hlt<|an7 hj<|an7 hk<|bytesLess_eq;refine Bz3 ?_
     refine Zaz (by rw[ht];simp[hlt])
    ·refine Bz2 ?_
     refine qcp (hC _) fun k1=>?_
     have hZ:=an7 d1<|an7 hw<|an7 hlt<|an7 hj<|an7 hk<|bytesLess_eq;refine Bz3 ?_
     refine⟨(),by rw[ht,hp2];simp[hlt],by exact HXT⟩
 ·(rintro s G ht hG hn;try simp only[nx]at hn)
  rw[zaw]at ht
  refine Bz0 ?_
  refine Zaz (by rw[ht];rfl)
def Zg2 (l:List Int):List (Int×Int):=l.foldl (fun M n=>ZbU n 1 M) []
theorem ZlD {l:List Int} {k:Nat} (h:k<l.length):Zg2 (l.take (k+1))=ZbU l[k] 1 (Zg2 (l.take k)):=by
 rw[zah h,Zg2,List.foldl_append];rfl
theorem ZmZ {K V:Type} [DecidableEq K] (k:K) (v:V) (M:List (K×V)):(ZbU k v M).length<=M.length+1:=by
 rw[ZjW];split<;>omega
theorem ZjE (l:List Int):(Zg2 l).length<=l.length:=by
 suffices ∀(l:List Int) (M:List (Int×Int)),(l.foldl (fun M n=>ZbU n 1 M) M).length<=M.length+l.length from by simpa [Zg2] using this l []
 intro l
 induction l with
 | nil=>intro M;simp
 | cons a r ih =>
  intro M
  rw[List.foldl_cons]
  have h1:=ih (ZbU a 1 M)
  have h2:=ZmZ a (1:Int) M
  simp only[List.length_cons]
  omega
def inU (a n:Int):Bool:=!decide (n<0)&&!decide (n≥a)
def ZdD (up:List Int) (members above:Int):Bool :=
 if above<=0 then ((up.length:Int) == 0) else if (up.length:Int)≠members then false else up.all (inU above)&&(((Zg2 up).length:Int) == above)
set_option maxHeartbeats 1000000 in
theorem ZkI (t:Tok) (up:List Int) (members above:Int) (H:Zaa) (hl:up.length<=1000000):Zay Tryz.prog 175 [.sl t (rI up),.i members,.i above] H (Pure H (.b (ZdD up members above))):=by
 refine Zak hE cf175 (zaa rfl) fun Q qr qn=>?_
 by_cases h1:above<=0
 ·have d1:decide (above<=0)=true:=decide_eq_true h1
  have hZ:=d1;refine Bz3 ?_
  refine ZbC (by rw[ZdD,if_pos h1])
 have d1:decide (above<=0)=false:=decide_eq_false h1
 by_cases h2:(up.length:Int)≠members
 ·have d2:((up.length:Int) != members)=true:=by simpa using h2
  have hZ:=an7 d1<|d2;refine Bz3 ?_
  refine ZbC (by rw[ZdD,if_neg h1,if_pos h2])
 have d2:((up.length:Int) != members)=false:=by simpa using h2
 have hv:ZdD up members above=(up.all (inU above)&&(((Zg2 up).length:Int) == above)):=by rw[ZdD,if_neg h1,if_neg h2]
 have hZ:=an7 d1<|d2;refine Bz3 ?_
 refine Zbs [2,7,20,21] (σ:=Unit) (fun(k:Nat) s=>(up.take k).all (inU above)=true) (fun k s=>[]) (fun k s=>[(H.next,.map (.one (.int .i64)) (Zgf kI AV.i (Zg2 (up.take k))) false)]) () (GStep.refl _ _) (by simp only[ZaA,Zav,Fr.put,Fr.get,↓reduceIte,Nat.reduceEqDiff];rfl) (by intro k s;rfl) (by intro k s;rfl) (by rfl) (by unfold maxLen;omega) ?_ (by simp only[ZaF]) ?_ ?_ ?_
 ·rfl
 ·rw[ZaP];exact⟨Zaa.Zae (H:=H),by simp[Zc5]⟩
 ·(rintro k s G hk ht hG hn;try simp only[nx]at hn)
  have ho:=hG.o (_,_) (zau.2 rfl)
  have hlo:=Zaa.lt ho
  have hs:=Zhg (p:=inU above) hk
  rw[ht,zbl]at hs
  have hb:=bfb (inU above up[k])
  rcases hb with hb|hb
  ·have hf:(false:Bool)=ZdD up members above:=by rw[hv,Zjc hk hb];rfl
   have hc:=hb
   unfold inU at hc
   by_cases c1:up[k]<0
   ·have e1:decide (up[k]<0)=true:=decide_eq_true c1
    have hZ:=e1;refine Bz3 ?_
    exact ZbC hf (hG.ZdB (Zaa.Ext.refl H).alloc (by simp))
   ·have e1:decide (up[k]<0)=false:=decide_eq_false c1
    rw[e1]at hc
    have e2:decide (up[k]≥above)=true:=by simpa using hc
    have hZ:=an7 e1<|e2;refine Bz3 ?_
    exact ZbC hf (hG.ZdB (Zaa.Ext.refl H).alloc (by simp))
  ·have hc:=hb
   unfold inU at hc
   simp only[zay,zbu]at hc
   obtain⟨e1,e2⟩:=hc
   have hset:=ZcH (vf:=AV.i) ZkH up[k] 1 (Zg2 (up.take k))
   have hof:=ZrS up[k]
   have hZ:=an7 e1<|an7 e2<|an7 ho<|an7 hof<|hset;refine Bz3 ?_
   exact⟨(),by rw[hs,hb],by rw[ZlD hk];exact hG.put⟩
 ·(rintro s G ht hG hn;try simp only[nx]at hn)
  have ho:=hG.o (_,_) (zau.2 rfl)
  rw[zas]at ht ho
  have hlen:(Zgf kI AV.i (Zg2 up)).length=(Zg2 up).length:=by rw[Zgf,zar]
  have hZ:=an7 ho<|hlen;refine Bz1 ?_
  exact ZbC (by rw[hv,ht];rfl) (hG.ZdB (Zaa.Ext.refl H).alloc (by simp))
def ZbO (t:Tir) (above:Int):Int :=
 if ZbK t.name=false then 2 else if (t.terms.length:Int)<1\/(t.terms.length:Int) > 200 then 5 else if Zgt none t.terms≠0 then Zgt none t.terms else if ZdD t.up t.terms.length above=false then 14 else 0
theorem Zba (t:Tir):(eTr t).length=3/\(eTr t)[0]?=some (eS t.name)/\(eTr t)[1]?=some (.sl .no (rS t.terms))/\(eTr t)[2]?=some (.sl .no (rI t.up))/\(eTr t).take 3=eTr t:=⟨rfl,rfl,rfl,rfl,rfl⟩
set_option maxHeartbeats 1000000 in
theorem ZkD (t:Tir) (above:Int) (H:Zaa) (hu:t.up.length<=1000000):Zay Tryz.prog 171 [.agg (eTr t),.i above] H (Pure H (.i (ZbO t above))):=by
 obtain⟨f0,f1,f2,f3,f4⟩:=Zba t
 have hx:Zaa.Ext H (H.alloc (.cells (eTr t) 102)):=(Zaa.Ext.refl H).alloc
 have hb:=bfb (ZbK t.name)
 rcases hb with hb|hb
 ·have hv:ZbO t above=2:=by rw[ZbO,if_pos hb]
  have hN:=fun G=>Zjx hb G
  rw[hv]
  refine Zak hE ZGl (zaa rfl) fun Q qr qn=>?_
  have hZ:=f1;refine Bz1 ?_
  refine qcp (hN _) fun k1=>?_
  refine Bz0 ?_
  refine Zaz (by rfl)
 have hN:=fun G=>Zg8 hb G
 by_cases h1:(t.terms.length:Int)<1\/(t.terms.length:Int) > 200
 ·have hv:ZbO t above=5:=by rw[ZbO,if_neg (by simp[hb]),if_pos h1]
  rw[hv]
  refine Zak hE ZGl (zaa rfl) fun Q qr qn=>?_
  have hZ:=f1;refine Bz1 ?_
  refine qcp (hN _) fun k1=>?_
  ((have hd:=tv;repeat' first|(first|apply Zad|apply Zac|apply Zab)<;>intro hd<;>try simp only[hd]|simp(disch:=first|assumption|omega|simp only[nx]<;>omega|fail)only[hd,qr,qn,ZF9,↓YA,YY,sevalprocAttr,f1,f2,zar])<;>try revert hd;refine ttr ?_)
  all_goals first
   | (exfalso;simp_all;omega;done)
   | refine Zaz (by rfl)
 have hR:=fun G=>ZkS .no t.terms G (by omega)
 have e1:decide ((t.terms.length:Int)<1)=false:=by simp;omega
 have e2:decide ((t.terms.length:Int) > 200)=false:=by simp;omega
 by_cases h2:Zgt none t.terms≠0
 ·have hv:ZbO t above=Zgt none t.terms:=by rw[ZbO,if_neg (by simp[hb]),if_neg h1,if_pos h2]
  have e3:(Zgt none t.terms != 0)=true:=by simpa using h2
  rw[hv]
  refine Zak hE ZGl (zaa rfl) fun Q qr qn=>?_
  have hZ:=f1;refine Bz1 ?_
  refine qcp (hN _) fun k1=>?_
  have hZ:=an7 f1<|an7 f2<|an7 e1<|e2;refine Bz3 ?_
  refine qcp (hR _) fun k2=>?_
  have hZ:=e3;refine Bz1 ?_
  refine Zaz (by rfl)
 have e3:(Zgt none t.terms != 0)=false:=by simpa using h2
 have hT:=fun G=>ZkI .no t.up t.terms.length above G hu
 have hv:ZbO t above=if ZdD t.up t.terms.length above=false then 14 else 0:=by rw[ZbO,if_neg (by simp[hb]),if_neg h1,if_neg h2]
 rw[hv]
 have hb2:=bfb (ZdD t.up t.terms.length above)
 rcases hb2 with hb2|hb2<;>rw[hb2]at hT ⊢
 all_goals
  refine Zak hE ZGl (zaa rfl) fun Q qr qn=>?_
  have hZ:=f1;refine Bz1 ?_
  refine qcp (hN _) fun k1=>?_
  have hZ:=an7 f1<|an7 f2<|an7 e1<|e2;refine Bz3 ?_
  refine qcp (hR _) fun k2=>?_
  have hZ:=an7 e3<|an7 f2<|f3;refine Bz3 ?_
  refine qcp (hT _) fun k3=>?_
  refine Bz0 ?_
  refine Zaz (by rfl)
def ZbR:List Tir->Int
 | []=>0
 | u :: _=>(u.terms.length:Int)
theorem Za7 (d:Dm):(eDm d).length=2/\(eDm d)[0]?=some (eS d.name)/\(eDm d)[1]?=some (.sl .no (rT d.tiers))/\(eDm d).take 2=eDm d:=⟨rfl,rfl,rfl,rfl⟩
theorem Zdh {l:List Tir} {k:Nat} (h:k<l.length):(rT l)[k]?=some (eTr l[k]):=by simp[h]
theorem ZjQ {l:List Dm} {k:Nat} (h:k<l.length):(rD l)[k]?=some (eDm l[k]):=by simp[h]
theorem Zjn (d:Dm) (k:Nat) (H:Zaa) (hk:k<d.tiers.length) (hl:d.tiers.length<=1000000):Zay Tryz.prog 151 [.agg (eDm d),.i (k:Int)] H (Pure H (.i (ZbR (d.tiers.drop (k+1))))):=by
 obtain⟨f0,f1,f2,f3⟩:=Za7 d
 have hw:IntKind.i64.wrap ((k:Int)+1)=((k+1:Nat):Int):=by rw[show(k:Int)+1=((k+1:Nat):Int) by omega];exact Zaw (by omega) (by omega)
 refine Zak hE cf151 (zaa rfl) fun Q qr qn=>?_
 by_cases h:k+1<d.tiers.length
 ·have d1:decide (((k+1:Nat):Int)<(d.tiers.length:Int))=true:=by simp;omega
  rw[zai h]at qr qn
  have hg:=Zdh h
  obtain⟨g0,g1,g2,g3,g4⟩:=Zba d.tiers[k+1]
  have hZ:=an7 f2<|an7 hw<|an7 d1<|an7 h<|an7 g0<|g2;refine Bz3 ?_
  refine Zaz (by rfl)
 ·have d1:decide (((k+1:Nat):Int)<(d.tiers.length:Int))=false:=by simp;omega
  rw[zaY (by omega)]at qr qn
  have hZ:=an7 f2<|an7 hw<|d1;refine Bz3 ?_
  refine Zaz (by rfl)
def Zmw (M:List (Tx×Int)) (seen:List Tx):Prop:=∀n,Zcz n M=if n∈seen then some 1 else none
theorem Zmw.nil:Zmw [] []:=fun n=>by simp[Zcz]
theorem Zmw.snoc {M:List (Tx×Int)} {seen:List Tx} (h:Zmw M seen) (n:Tx):Zmw (ZbU n 1 M) (seen++[n]):=fun m=>by
 rw[Zeg,h m]
 by_cases e:m=n
 ·subst e;simp
 ·rw[if_neg e]
  by_cases hm:m∈seen<;>simp[hm,e]
abbrev mpT (M:List (Tx×Int)):Zb3:=.map (.one .str) (Zgf kS AV.i M) false
def Zkb (seen:List Tx):List Tir->Int
 | []=>0
 | t :: r=>if ZbO t (ZbR r)≠0 then ZbO t (ZbR r) else if t.name∈seen then 11 else Zkb (seen++[t.name]) r
def Zdv (d:Dm):Int:=if ZbK d.name=false then 2 else if (d.tiers.length:Int)<1\/(d.tiers.length:Int) > 4 then 5 else Zkb [] d.tiers
def Zgr (t:Tir):Prop:=t.up.length<=1000000
theorem ZcR {α β:Type} {f:α->β} {l:List α} {k:Nat} (h:k<l.length):(l.take (k+1)).map f=(l.take k).map f++[f l[k]]:=by
 rw[zah h,zaG];rfl
set_option maxHeartbeats 2000000 in
theorem Zlf (d:Dm) (H:Zaa) (hs:∀t∈d.tiers,Zgr t):Zay Tryz.prog 147 [.agg (eDm d)] H (Pure H (.i (Zdv d))):=by
 obtain⟨f0,f1,f2,f3⟩:=Za7 d
 have hb:=bfb (ZbK d.name)
 rcases hb with hb|hb
 ·have hv:Zdv d=2:=by rw[Zdv,if_pos hb]
  have hN:=fun G=>Zjx hb G
  rw[hv]
  refine Zak hE cf147 (zaa rfl) fun Q qr qn=>?_
  have hZ:=f1;refine Bz1 ?_
  refine qcp (hN _) fun k1=>?_
  refine Bz0 ?_
  refine Zaz (by rfl)
 have hN:=fun G=>Zg8 hb G
 by_cases h1:(d.tiers.length:Int)<1\/(d.tiers.length:Int) > 4
 ·have hv:Zdv d=5:=by rw[Zdv,if_neg (by simp[hb]),if_pos h1]
  rw[hv]
  refine Zak hE cf147 (zaa rfl) fun Q qr qn=>?_
  have hZ:=f1;refine Bz1 ?_
  refine qcp (hN _) fun k1=>?_
  ((have hd:=tv;repeat' first|(first|apply Zad|apply Zac|apply Zab)<;>intro hd<;>try simp only[hd]|simp(disch:=first|assumption|omega|simp only[nx]<;>omega|fail)only[hd,qr,qn,ZqT,↓YA,YY,sevalprocAttr,f1,f2,zar])<;>try revert hd;refine ttr ?_)
  all_goals first
   | (exfalso;simp_all;omega;done)
   | refine Zaz (by rfl)
 have e1:decide ((d.tiers.length:Int)<1)=false:=by simp;omega
 have e2:decide ((d.tiers.length:Int) > 4)=false:=by simp;omega
 have hv:Zdv d=Zkb [] d.tiers:=by rw[Zdv,if_neg (by simp[hb]),if_neg h1]
 rw[hv]
 generalize hT:Zkb [] d.tiers=T
 refine Zak hE cf147 (zaa rfl) fun Q qr qn=>?_
 have hZ:=f1;refine Bz1 ?_
 refine qcp (hN _) fun k1=>?_
 have hZ:=an7 f1<|an7 f2<|an7 e1<|e2;refine Bz3 ?_
 have g1:(((H.alloc (.cells (eDm d) 100)).bump k1).alloc (.map (.one .str) [] false)).get H.next=some (.cells (eDm d) 100):=by
  rw[Zaa.Zag (by simp only[nx];omega)];exact Zaa.Zae (H:=H)
 have g2:(((H.alloc (.cells (eDm d) 100)).bump k1).alloc (.map (.one .str) [] false)).get (H.next+1+k1)=some (mpT []):=Zaa.Zae (H:=(H.alloc _).bump k1)
 have hx0:Zaa.Ext H (((H.alloc (.cells (eDm d) 100)).bump k1).alloc (.map (.one .str) [] false)):=by exact AXT
 have hne:((H.alloc (.cells (eDm d) 100)).bump k1).next=H.next+1+k1:=rfl
 generalize ((H.alloc (.cells (eDm d) 100)).bump k1).alloc (.map (.one .str) [] false)=G0 at *
 have l1:=Zaa.lt g1
 have l2:=Zaa.lt g2
 refine Zbs [1,4,26,27] (σ:=List (Tx×Int)) (fun(k:Nat) s=>Zmw s ((d.tiers.take k).map (·.name))/\T=Zkb ((d.tiers.take k).map (·.name)) (d.tiers.drop k)) (fun k s=>[]) (fun k s=>[(H.next+1+k1,mpT s)]) [] (GStep.refl _ _) (by simp only[ZaA,Zav,Fr.put,Fr.get,↓reduceIte,Nat.reduceEqDiff];rfl) (by intro k s;rfl) (by intro k s;rfl) (by rfl) (by unfold maxLen;omega) ?_ (by simp only[ZaF]) ?_ ?_ ?_
 ·exact⟨Zmw.nil,hT.symm⟩
 ·rw[ZaP];exact⟨g2,by simp[Zc5]⟩
 ·(rintro k M G hk ⟨hM,ht⟩ hG hn;try simp only[nx]at hn)
  have ho:=hG.o (_,_) (zau.2 rfl)
  have hc:=(hG.g _ l1 (by simp;omega)).trans g1
  have lc:=Zaa.lt hc
  have lo:=Zaa.lt ho
  rw[zai hk,Zkb]at ht
  have hA:=fun G=>Zjn d k G hk (by omega)
  have hC:=fun G=>ZkD d.tiers[k] (ZbR (d.tiers.drop (k+1))) G (hs _ (zan hk))
  have htk:=Zdh hk
  obtain⟨q0,q1,q2,q3,q4⟩:=Zba d.tiers[k]
  have hsn:=ZcR (f:=Tir.name) hk
  by_cases c1:ZbO d.tiers[k] (ZbR (d.tiers.drop (k+1)))≠0
  ·have e3:(ZbO d.tiers[k] (ZbR (d.tiers.drop (k+1))) != 0)=true:=by simpa using c1
   rw[if_pos c1]at ht
   generalize ZbO d.tiers[k] (ZbR (d.tiers.drop (k+1)))=E at *
   generalize ZbR (d.tiers.drop (k+1))=A at *
   have hZ:=an7 hk<|an7 q0<|an7 q4<|an7 hc<|an7 f0<|f3;refine Bz3 ?_
   refine qcp (hA _) fun k2=>?_
   have hZ:=an7 hk<|an7 q0<|an7 q4<|an7 hc<|an7 f0<|f3;refine Bz3 ?_
   refine qcp (hC _) fun k3=>?_
   have hZ:=e3;refine Bz1 ?_
   refine Zaz ht.symm ?_
   exact(Zaa.Ext.alloc (hG.ZdB hx0 (by simp;omega))).bump.bump
  ·have c1':ZbO d.tiers[k] (ZbR (d.tiers.drop (k+1)))=0:=by simpa using c1
   have e3:(ZbO d.tiers[k] (ZbR (d.tiers.drop (k+1))) != 0)=false:=by simp[c1']
   rw[if_neg c1]at ht
   generalize ZbO d.tiers[k] (ZbR (d.tiers.drop (k+1)))=E at *
   generalize ZbR (d.tiers.drop (k+1))=A at *
   have hof:=kS_of d.tiers[k].name
   have hgn:=hM d.tiers[k].name
   have hfn:=ZbV (vf:=AV.i) Zev d.tiers[k].name M
   by_cases c2:d.tiers[k].name∈(d.tiers.take k).map (·.name)
   ·rw[if_pos c2]at ht hgn
    rw[hgn,Option.map_some]at hfn
    have hset:=ZcH (vf:=AV.i) Zev d.tiers[k].name 2 M
    have hfn2:=ZbV (vf:=AV.i) Zev d.tiers[k].name (ZbU d.tiers[k].name 2 M)
    rw[ZdP,Option.map_some]at hfn2
    have e4:decide ((2:Int) > 1)=true:=by decide
    have hw:IntKind.i64.wrap (1+1)=2:=by decide
    have hZ:=an7 hk<|an7 q0<|an7 q4<|an7 hc<|an7 f0<|f3;refine Bz3 ?_
    refine qcp (hA _) fun k2=>?_
    have hZ:=an7 hk<|an7 q0<|an7 q4<|an7 hc<|an7 f0<|f3;refine Bz3 ?_
    refine qcp (hC _) fun k3=>?_
    have hZ:=an7 e3<|an7 q1<|an7 ho<|an7 hof<|an7 hfn<|an7 hset<|an7 hfn2<|an7 hw<|e4;refine Bz1 ?_
    refine Zaz ht.symm ?_
    exact Zaa.Ext.set ((Zaa.Ext.alloc (hG.ZdB hx0 (by simp;omega))).bump.bump) (by omega)
   ·rw[if_neg c2]at ht hgn
    rw[hgn,Option.map_none]at hfn
    have hset:=ZcH (vf:=AV.i) Zev d.tiers[k].name 1 M
    have hfn2:=ZbV (vf:=AV.i) Zev d.tiers[k].name (ZbU d.tiers[k].name 1 M)
    rw[ZdP,Option.map_some]at hfn2
    have e4:decide ((1:Int) > 1)=false:=by decide
    have hw:IntKind.i64.wrap (0+1)=1:=by decide
    have hZ:=an7 hk<|an7 q0<|an7 q4<|an7 hc<|an7 f0<|f3;refine Bz3 ?_
    refine qcp (hA _) fun k2=>?_
    have hZ:=an7 hk<|an7 q0<|an7 q4<|an7 hc<|an7 f0<|f3;refine Bz3 ?_
    refine qcp (hC _) fun k3=>?_
    have hZ:=an7 e3<|an7 q1<|an7 ho<|an7 hof<|an7 hfn<|an7 hset<|an7 hfn2<|an7 hw<|e4;refine Bz1 ?_
    refine⟨ZbU d.tiers[k].name 1 M,⟨by rw[hsn];exact hM.snoc _,by rw[hsn];exact ht⟩,?_⟩
    exact hG.alloc.bump.bump.put
 ·(rintro M G ⟨hM,ht⟩ hG hn;try simp only[nx]at hn)
  rw[zaw]at ht
  refine Bz0 ?_
  exact Zaz (by rw[ht];rfl) (hG.ZdB hx0 (by simp;omega))
def ZgL (mid:Nat) (b:Bool) (M:List (Tx×Int)) (H:Zaa) (r:AV) (H':Zaa):Prop:=r=.b b/\HX [(mid,mpT M)] H H'
theorem HX.one {id:Nat} {o:Zb3} {H:Zaa} (h:H.get id=some o):HX [(id,o)] H H:=HX.ini (by rw[ZaP];exact⟨h,by simp[Zc5]⟩)
theorem HX.thn {a:Nat} {x x':Zb3} {H G G1:Zaa} (h:HX [(a,x)] H G) (k:HX [(a,x')] G G1):HX [(a,x')] H G1:=by
 refine⟨zbd h.n k.n,?_,fun i hi hn=>(k.g i (zaO hi h.n) (by simpa using hn)).trans (h.g i hi (by simpa using hn))⟩
 rw[ZaP]
 exact⟨k.o (a,x') (by simp),by simp[Zc5]⟩
theorem ZjJ {mid:Nat} {M:List (Tx×Int)} {s:Tx} {H:Zaa} (hm:H.get mid=some (mpT M)) (hg:Zcz s M=none):Zay Tryz.prog 148 [.mp mid,eS s] H (ZgL mid true (ZbU s 1 M) H):=by
 have lm:=Zaa.lt hm
 have hof:=kS_of s
 have hfn:=ZbV (vf:=AV.i) Zev s M
 rw[hg,Option.map_none]at hfn
 have hset:=ZcH (vf:=AV.i) Zev s 1 M
 have hfn2:=ZbV (vf:=AV.i) Zev s (ZbU s 1 M)
 rw[ZdP,Option.map_some]at hfn2
 have hw:IntKind.i64.wrap (0+1)=1:=by decide
 refine Zak hE cf148 (zaa rfl) fun Q qr qn=>?_
 have hZ:=an7 hm<|an7 hof<|an7 hfn<|an7 hset<|an7 hfn2<|hw;refine Bz1 ?_
 exact Zaq ⟨rfl,(HX.one hm).put⟩
theorem ZhX {mid:Nat} {M:List (Tx×Int)} {s:Tx} {H:Zaa} (hm:H.get mid=some (mpT M)) (hg:Zcz s M=some 1):Zay Tryz.prog 148 [.mp mid,eS s] H (ZgL mid false (ZbU s 2 M) H):=by
 have lm:=Zaa.lt hm
 have hof:=kS_of s
 have hfn:=ZbV (vf:=AV.i) Zev s M
 rw[hg,Option.map_some]at hfn
 have hset:=ZcH (vf:=AV.i) Zev s 2 M
 have hfn2:=ZbV (vf:=AV.i) Zev s (ZbU s 2 M)
 rw[ZdP,Option.map_some]at hfn2
 have hw:IntKind.i64.wrap (1+1)=2:=by decide
 have e1:((2:Int) == 1)=false:=by decide
 refine Zak hE cf148 (zaa rfl) fun Q qr qn=>?_
 have hZ:=an7 hm<|an7 hof<|an7 hfn<|an7 hset<|an7 hfn2<|an7 hw<|e1;refine Bz1 ?_
 exact Zaq ⟨rfl,(HX.one hm).put⟩
def Zgh (seen:List Tx):List Tx->Int
 | []=>0
 | s :: r=>if ZbK s=false then 2 else if s∈seen then 11 else Zgh (seen++[s]) r
def Zd8 (l:List Tx):Int:=if (l.length:Int)<1\/(l.length:Int) > 3 then 5 else Zgh [] l
theorem ZlO {α:Type} {l:List α} {k:Nat} (h:k<l.length):l.take (k+1)=l.take k++[l[k]]:=zah h
set_option maxHeartbeats 2000000 in
theorem Zk2 (t:Tok) (l:List Tx) (H:Zaa):Zay Tryz.prog 149 [.sl t (rS l)] H (Pure H (.i (Zd8 l))):=by
 by_cases h1:(l.length:Int)<1\/(l.length:Int) > 3
 ·have hv:Zd8 l=5:=by rw[Zd8,if_pos h1]
  rw[hv]
  refine Zak hE cf149 (zaa rfl) fun Q qr qn=>?_
  ((have hd:=tv;repeat' first|(first|apply Zad|apply Zac|apply Zab)<;>intro hd<;>try simp only[hd]|simp(disch:=first|assumption|omega|simp only[nx]<;>omega|fail)only[hd,qr,qn,Zu7,↓YA,YY,sevalprocAttr,zar])<;>try revert hd;refine ttr ?_)
  all_goals first
   | (exfalso;simp_all;omega;done)
   | refine Zaz (by rfl)
 have e1:decide ((l.length:Int)<1)=false:=by simp;omega
 have e2:decide ((l.length:Int) > 3)=false:=by simp;omega
 have hv:Zd8 l=Zgh [] l:=by rw[Zd8,if_neg h1]
 rw[hv]
 generalize hT:Zgh [] l=T
 refine Zak hE cf149 (zaa rfl) fun Q qr qn=>?_
 have hZ:=an7 e1<|e2;refine Bz3 ?_
 refine Zbs [3,16,17] (σ:=List (Tx×Int)) (fun(k:Nat) s=>Zmw s (l.take k)/\T=Zgh (l.take k) (l.drop k)) (fun k s=>[]) (fun k s=>[(H.next,mpT s)]) [] (GStep.refl _ _) (by simp only[ZaA,Zav,Fr.put,Fr.get,↓reduceIte,Nat.reduceEqDiff];rfl) (by intro k s;rfl) (by intro k s;rfl) (by rfl) (by unfold maxLen;omega) ?_ (by simp only[ZaF]) ?_ ?_ ?_
 ·exact⟨Zmw.nil,hT.symm⟩
 ·rw[ZaP];exact⟨Zaa.Zae (H:=H),by simp[Zc5]⟩
 ·(rintro k M G hk ⟨hM,ht⟩ hG hn;try simp only[nx]at hn)
  have ho:=hG.o (_,_) (zau.2 rfl)
  rw[zai hk,Zgh]at ht
  have hsn:=ZlO hk
  have hgn:=hM l[k]
  have hb:=bfb (ZbK l[k])
  rcases hb with hb|hb
  ·have hN:=fun G=>Zjx hb G
   rw[if_pos hb]at ht
   have hZ:=hk;refine Bz3 ?_
   refine qcp (hN _) fun k1=>?_
   refine Bz0 ?_
   exact Zaz ht.symm ((hG.ZdB (Zaa.Ext.refl H).alloc (by simp)).bump)
  ·have hN:=fun G=>Zg8 hb G
   rw[if_neg (by simp[hb])]at ht
   by_cases c2:l[k]∈l.take k
   ·rw[if_pos c2]at ht hgn
    have hF:∀G,G.get H.next=some (mpT M)->Zay Tryz.prog 148 [.mp H.next,eS l[k]] G (ZgL H.next false (ZbU l[k] 2 M) G):=fun G h=>ZhX h hgn
    have hZ:=hk;refine Bz3 ?_
    refine qcp (hN _) fun k1=>?_
    have hZ:=hk;refine Bz3 ?_
    refine Zap.use (hF _ ho) ?_
    rintro _ G2 ⟨rfl,hx2⟩
    refine Bz0 ?_
    exact Zaz ht.symm (((hG.bump (k:=k1)).thn hx2).ZdB (Zaa.Ext.refl H).alloc (by simp))
   ·rw[if_neg c2]at ht hgn
    have hF:∀G,G.get H.next=some (mpT M)->Zay Tryz.prog 148 [.mp H.next,eS l[k]] G (ZgL H.next true (ZbU l[k] 1 M) G):=fun G h=>ZjJ h hgn
    have hZ:=hk;refine Bz3 ?_
    refine qcp (hN _) fun k1=>?_
    have hZ:=hk;refine Bz3 ?_
    refine Zap.use (hF _ ho) ?_
    rintro _ G2 ⟨rfl,hx2⟩
    refine Bz0 ?_
    exact⟨ZbU l[k] 1 M,⟨by rw[hsn];exact hM.snoc _,by rw[hsn];exact ht⟩,(hG.bump (k:=k1)).thn hx2⟩
 ·(rintro M G ⟨hM,ht⟩ hG hn;try simp only[nx]at hn)
  rw[zaw]at ht
  refine Bz0 ?_
  exact Zaz (by rw[ht];rfl) (hG.ZdB (Zaa.Ext.refl H).alloc (by simp))
def Zd1 (seen:List Tx):List Dm->Int
 | []=>0
 | d :: r=>if Zdv d≠0 then Zdv d else if d.name∈seen then 11 else Zd1 (seen++[d.name]) r
def scE (s:Sc):Int:=if (s.dims.length:Int)<1\/(s.dims.length:Int) > 16 then 5 else if Zd1 [] s.dims≠0 then Zd1 [] s.dims else Zd8 s.meas
theorem ZbB (s:Sc):(eSc s).length=2/\(eSc s)[0]?=some (.sl .no (rD s.dims))/\(eSc s)[1]?=some (.sl .no (rS s.meas))/\(eSc s).take 2=eSc s:=⟨rfl,rfl,rfl,rfl⟩
def Zh1 (s:Sc):Prop:=∀d∈s.dims,∀t∈d.tiers,Zgr t
set_option maxHeartbeats 2000000 in
theorem Zc9 (S:Sc) (H:Zaa) (hs:Zh1 S):Zay Tryz.prog 108 [.agg (eSc S)] H (Pure H (.i (scE S))):=by
 obtain⟨f0,f1,f2,f3⟩:=ZbB S
 by_cases h1:(S.dims.length:Int)<1\/(S.dims.length:Int) > 16
 ·have hv:scE S=5:=by rw[scE,if_pos h1]
  rw[hv]
  refine Zak hE cf108 (zaa rfl) fun Q qr qn=>?_
  ((have hd:=tv;repeat' first|(first|apply Zad|apply Zac|apply Zab)<;>intro hd<;>try simp only[hd]|simp(disch:=first|assumption|omega|simp only[nx]<;>omega|fail)only[hd,qr,qn,Zeq,↓YA,YY,sevalprocAttr,f1,zar])<;>try revert hd;refine ttr ?_)
  all_goals first
   | (exfalso;simp_all;omega;done)
   | refine Zaz (by rfl)
 have e1:decide ((S.dims.length:Int)<1)=false:=by simp;omega
 have e2:decide ((S.dims.length:Int) > 16)=false:=by simp;omega
 have hv:scE S=if Zd1 [] S.dims≠0 then Zd1 [] S.dims else Zd8 S.meas:=by rw[scE,if_neg h1]
 rw[hv]
 generalize hT:Zd1 [] S.dims=T
 refine Zak hE cf108 (zaa rfl) fun Q qr qn=>?_
 have hZ:=an7 f1<|an7 f2<|an7 e1<|e2;refine Bz3 ?_
 have g1:((H.alloc (.cells (eSc S) 76)).alloc (.map (.one .str) [] false)).get H.next=some (.cells (eSc S) 76):=by
  rw[Zaa.Zag (by simp only[nx];omega)];exact Zaa.Zae (H:=H)
 have g2:((H.alloc (.cells (eSc S) 76)).alloc (.map (.one .str) [] false)).get (H.next+1)=some (mpT []):=Zaa.Zae (H:=H.alloc _)
 have hx0:Zaa.Ext H ((H.alloc (.cells (eSc S) 76)).alloc (.map (.one .str) [] false)):=by exact AXT
 have hne:((H.alloc (.cells (eSc S) 76)).alloc (.map (.one .str) [] false)).next=H.next+2:=rfl
 generalize (H.alloc (.cells (eSc S) 76)).alloc (.map (.one .str) [] false)=G0 at *
 have l1:=Zaa.lt g1
 have l2:=Zaa.lt g2
 refine Zbs [1,3,19,20] (σ:=List (Tx×Int)) (fun(k:Nat) s=>Zmw s ((S.dims.take k).map (·.name))/\T=Zd1 ((S.dims.take k).map (·.name)) (S.dims.drop k)) (fun k s=>[]) (fun k s=>[(H.next+1,mpT s)]) [] (GStep.refl _ _) (by simp only[ZaA,Zav,Fr.put,Fr.get,↓reduceIte,Nat.reduceEqDiff];rfl) (by intro k s;rfl) (by intro k s;rfl) (by rfl) (by unfold maxLen;omega) ?_ (by simp only[ZaF]) ?_ ?_ ?_
 ·exact⟨Zmw.nil,hT.symm⟩
 ·rw[ZaP];exact⟨g2,by simp[Zc5]⟩
 ·(rintro k M G hk ⟨hM,ht⟩ hG hn;try simp only[nx]at hn)
  have ho:=hG.o (_,_) (zau.2 rfl)
  have hc:=(hG.g _ l1 (by simp)).trans g1
  have lc:=Zaa.lt hc
  have lo:=Zaa.lt ho
  rw[zai hk,Zd1]at ht
  have hC:=fun G=>Zlf S.dims[k] G (hs _ (zan hk))
  obtain⟨q0,q1,q2,q3⟩:=Za7 S.dims[k]
  have hsn:=ZcR (f:=Dm.name) hk
  have hgn:=hM S.dims[k].name
  by_cases c1:Zdv S.dims[k]≠0
  ·have e3:(Zdv S.dims[k] != 0)=true:=by simpa using c1
   rw[if_pos c1]at ht
   generalize Zdv S.dims[k]=E at *
   rw[ht,if_pos c1]at qr qn
   have hZ:=an7 hk<|an7 q0<|q3;refine Bz3 ?_
   refine qcp (hC _) fun k3=>?_
   have hZ:=e3;refine Bz1 ?_
   refine Zaz rfl ?_
   exact(Zaa.Ext.alloc (hG.ZdB hx0 (by simp))).bump
  ·have e3:(Zdv S.dims[k] != 0)=false:=by simpa using c1
   rw[if_neg c1]at ht
   generalize Zdv S.dims[k]=E at *
   by_cases c2:S.dims[k].name∈(S.dims.take k).map (·.name)
   ·rw[if_pos c2]at ht hgn
    have hF:∀G,G.get (H.next+1)=some (mpT M)->Zay Tryz.prog 148 [.mp (H.next+1),eS S.dims[k].name] G (ZgL (H.next+1) false (ZbU S.dims[k].name 2 M) G):=fun G h=>ZhX h hgn
    have hZ:=an7 hk<|an7 q0<|q3;refine Bz3 ?_
    refine qcp (hC _) fun k3=>?_
    have hZ:=an7 e3<|q1;refine Bz3 ?_
    refine Zap.use (hF _ (by simp only[Zaa.ZaB];rw[Zaa.Zag (by omega)];exact ho)) ?_
    rintro _ G2 ⟨rfl,hx2⟩
    refine Bz0 ?_
    refine Zaz (by rw[ht];rfl) ?_
    exact((hG.alloc.bump (k:=k3)).thn hx2).ZdB hx0 (by simp)
   ·rw[if_neg c2]at ht hgn
    have hF:∀G,G.get (H.next+1)=some (mpT M)->Zay Tryz.prog 148 [.mp (H.next+1),eS S.dims[k].name] G (ZgL (H.next+1) true (ZbU S.dims[k].name 1 M) G):=fun G h=>ZjJ h hgn
    have hZ:=an7 hk<|an7 q0<|q3;refine Bz3 ?_
    refine qcp (hC _) fun k3=>?_
    have hZ:=an7 e3<|q1;refine Bz3 ?_
    refine Zap.use (hF _ (by simp only[Zaa.ZaB];rw[Zaa.Zag (by omega)];exact ho)) ?_
    rintro _ G2 ⟨rfl,hx2⟩
    refine Bz0 ?_
    exact⟨ZbU S.dims[k].name 1 M,⟨by rw[hsn];exact hM.snoc _,by rw[hsn];exact ht⟩,(hG.alloc.bump (k:=k3)).thn hx2⟩
 ·(rintro M G ⟨hM,ht⟩ hG hn;try simp only[nx]at hn)
  rw[zaw]at ht
  have hc:=(hG.g _ l1 (by simp)).trans g1
  have h0:T=0:=by rw[ht];rfl
  have hMs:=fun G=>Zk2 .no S.meas G
  rw[h0]at qr qn
  have hZ:=an7 hc<|f2;refine Bz3 ?_
  refine qcp (hMs _) fun k3=>?_
  refine Bz0 ?_
  exact Zaz (by simp) ((hG.ZdB hx0 (by simp)).bump)
set_option maxHeartbeats 2000000 in
theorem Zd5 (q:Tx) (H:Zaa):Zay Tryz.prog 84 [eS q] H (Pure H (.b (ZbK q))):=by
 by_cases h0:(q.length:Int)<1
 ·have d0:decide ((q.length:Int)<1)=true:=decide_eq_true h0
  have hv:ZbK q=false:=by
   have:q=[]:=zaU (by omega)
   subst this;rfl
  rw[hv]
  refine Zak hE cf84 (zaa rfl) fun Q qr qn=>?_
  have hZ:=d0;refine Bz1 ?_
  refine ZbC (by rfl)
 have d0:decide ((q.length:Int)<1)=false:=decide_eq_false h0
 by_cases h1:(q.length:Int) > 12
 ·have d1:decide ((q.length:Int) > 12)=true:=decide_eq_true h1
  have hv:ZbK q=false:=by unfold ZbK;rw[d1];simp
  rw[hv]
  refine Zak hE cf84 (zaa rfl) fun Q qr qn=>?_
  have hZ:=an7 d0<|d1;refine Bz1 ?_
  refine ZbC (by rfl)
 have d1:decide ((q.length:Int) > 12)=false:=decide_eq_false h1
 have hv:ZbK q=q.all ZcS:=by
  unfold ZbK
  rw[d1,decide_eq_false (fun h=>h0 (by rw[h];simp))]
  simp
 rw[hv]
 generalize hT:q.all ZcS=T
 refine Zak hE cf84 (zaa rfl) fun Q qr qn=>?_
 have hZ:=an7 d0<|d1;refine Bz1 ?_
 refine Zcw [0] (σ:=Nat) (fun s=>s<=q.length/\T=(q.drop s).all ZcS) (fun s=>q.length - s) (fun s=>[(3,.i (s:Int))]) (fun s=>[]) 0 (GStep.refl _ _) (by simp only[ZaA,Zav,Fr.put,Fr.get,↓reduceIte,Nat.reduceEqDiff];rfl) ?_ (by simp only[ZaF,ZaX,Fr.put,Fr.get,↓reduceIte,Nat.reduceEqDiff,and_self]<;>simp) (by simp only[ZaJ]) ?_
 ·exact⟨zaA _,hT.symm⟩
 ·(rintro i G ⟨h2,h3⟩ hG hn;try simp only[nx]at hn)
  by_cases c:i<q.length
  ·have d2:decide ((i:Int)<(q.length:Int))=true:=decide_eq_true (by omega)
   have hs:=bytes_at c
   have hi0:(0:Int)<=(i:Int):=by omega
   have hw:IntKind.i64.wrap ((i:Int)+1)=((i+1:Nat):Int):=by rw[Zaw (by omega) (by omega)];omega
   rw[zai c,List.all_cons]at h3
   generalize q[i]=ch at *
   have hbad:ZcS ch=false->false=T:=fun h=>by rw[h3,h];rfl
   have hgood:ZcS ch=true->T=(q.drop (i+1)).all ZcS:=fun h=>by rw[h3,h];rfl
   clear h3 hv hT
   ((have hd:=tv;repeat' first|(first|apply Zad|apply Zac|apply Zab)<;>intro hd<;>try simp only[hd]|simp(disch:=first|assumption|omega|simp only[nx]<;>omega|fail)only[hd,qr,qn,c84_0,↓YA,YY,sevalprocAttr,d2,hs,hi0,hw])<;>try revert hd;refine ttr ?_)
   all_goals first
    | (refine ZbC (hbad ?_);clear hbad hgood hs hw hG;unfold ZcS;first|(simp_all;done)|grind)
    | (refine⟨i+1,⟨by omega,hgood ?_⟩,by omega,rfl,by exact HXT⟩;clear hbad hgood hs hw hG;unfold ZcS;first|(simp_all;done)|grind)
  ·have d2:decide ((i:Int)<(q.length:Int))=false:=decide_eq_false (by omega)
   rw[zbs (by omega)]at h3
   have hZ:=d2;refine Bz1 ?_
   refine ZbC (by exact h3.symm)
theorem Zlh (q:Tx) (H:Zaa):Zay Tryz.prog 124 [eS q] H (Pure H (.b (isT q))):=by
 refine Zak hE cf124 (zaa rfl) fun Q qr qn=>?_
 ((have hd:=tv;repeat' first|(first|apply Zad|apply Zac|apply Zab)<;>intro hd<;>try simp only[hd]|simp(disch:=first|assumption|omega|simp only[nx]<;>omega|fail)only[hd,qr,qn,Ztm,↓YA,YY,sevalprocAttr])<;>try revert hd;refine ttr ?_)
 ·exact ZbC (by unfold isT;rw[hd];rfl)
 ·exact ZbC (by unfold isT;rw[hd];rfl)
theorem tle (a b:Tx):(decide (b<a) || decide (b=a))=!decide (a<b):=by
 rw[zaZ]
 simp only[Bool.or_eq_true,decide_eq_true_eq,zbu,decide_eq_false_iff_not]
 rw[List.not_lt,List.le_iff_lt_or_eq]
set_option maxHeartbeats 1000000 in
theorem Zki (t:Tok) (l:List Tx) (H:Zaa) (hl:l.length<=1000000):Zay Tryz.prog 90 [.sl t (rS l)] H (Pure H (.i (Zgt none l))):=by
 generalize hT:Zgt none l=T
 refine Zak hE cf90 (zaa rfl) fun Q qr qn=>?_
 refine Bz0 ?_
 refine Zcw [0] (σ:=Nat) (fun s=>s<=l.length/\T=Zgt (Ze4 l s) (l.drop s)) (fun s=>l.length - s) (fun s=>[(3,.i (s:Int))]) (fun s=>[]) 0 (GStep.refl _ _) (by simp only[ZaA,Zav,Fr.put,Fr.get,↓reduceIte,Nat.reduceEqDiff];rfl) ?_ (by simp only[ZaF,ZaX,Fr.put,Fr.get,↓reduceIte,Nat.reduceEqDiff,and_self]<;>simp) (by simp only[ZaJ]) ?_
 ·exact⟨zaA _,hT.symm⟩
 ·(rintro i G ⟨h2,h3⟩ hG hn;try simp only[nx]at hn)
  by_cases c:i<l.length
  ·have d2:decide ((i:Int)<(l.length:Int))=true:=decide_eq_true (by omega)
   have hi0:(0:Int)<=(i:Int):=by omega
   have hw:IntKind.i64.wrap ((i:Int)+1)=((i+1:Nat):Int):=by rw[Zaw (by omega) (by omega)];omega
   have hr:(rS l)[i]?=some [eS l[i]]:=by simp[c]
   have hI:=fun G=>Zlh l[i] G
   rw[zai c,Zhp]at h3
   have hb:=bfb (isT l[i])
   rcases hb with hb|hb
   ·rw[if_pos hb]at h3
    rw[hb]at hI
    have hZ:=an7 d2<|an7 hi0<|an7 c<|an7 hr<|bytesLess_eq;refine Bz3 ?_
    refine qcp (hI _) fun k1=>?_
    refine Bz0 ?_
    refine Zaz (by rw[h3])
   ·rw[if_neg (by rw[hb];decide)]at h3
    rw[hb]at hI
    cases i with
    | zero =>
     have d3:decide (((0:Nat):Int) > 0)=false:=by decide
     have d2z:decide ((0:Int)<(l.length:Int))=true:=d2
     have hZ:=an7 d2<|an7 d2z<|an7 hi0<|an7 c<|an7 hr<|bytesLess_eq;refine Bz3 ?_
     refine qcp (hI _) fun k1=>?_
     have hZ:=an7 d3<|hw;refine Bz1 ?_
     exact⟨1,⟨by omega,by rw[h3];simp[Ze4,c,geT]⟩,by omega,rfl,by exact HXT⟩
    | succ j =>
     have d3:decide (((j+1:Nat):Int) > 0)=true:=decide_eq_true (by omega)
     have hj:j<l.length:=by omega
     have hr2:(rS l)[j]?=some [eS l[j]]:=by simp[hj]
     have hw2:IntKind.i64.wrap (((j+1:Nat):Int) - 1)=(j:Int):=by rw[show((j+1:Nat):Int) - 1=(j:Int) by omega];exact Zaw (by omega) (by omega)
     have hj0:(0:Int)<=(j:Int):=by omega
     have hp:Ze4 l (j+1)=some l[j]:=by simp[Ze4,hj]
     have hp2:Ze4 l (j+1+1)=some l[j+1]:=by simp[Ze4,c]
     rw[hp]at h3
     simp only[geT]at h3
     have hle:=tle l[j] l[j+1]
     have hlt:=bfb (decide (l[j]<l[j+1]))
     rcases hlt with hlt|hlt<;>rw[hlt]at hle
     ·have hZ:=an7 d2<|an7 hi0<|an7 c<|an7 hr<|bytesLess_eq;refine Bz3 ?_
      refine qcp (hI _) fun k1=>?_
      have hZ:=an7 d2<|an7 d3<|an7 hi0<|an7 c<|an7 hr<|an7 hr2<|an7 hw<|an7 hw2<|an7 hj<|an7 hj0<|an7 hle<|bytesLess_eq;refine Bz3 ?_
      refine Zaz (by rw[h3];simp[hlt])
     ·have hZ:=an7 d2<|an7 hi0<|an7 c<|an7 hr<|bytesLess_eq;refine Bz3 ?_
      refine qcp (hI _) fun k1=>?_
      have hZ:=an7 d2<|an7 d3<|an7 hi0<|an7 c<|an7 hr<|an7 hr2<|an7 hw<|an7 hw2<|an7 hj<|an7 hj0<|an7 hle<|bytesLess_eq;refine Bz3 ?_
      exact⟨j+1+1,⟨by omega,by rw[h3,hp2];simp[hlt]⟩,by omega,rfl,by exact HXT⟩
  ·have d2:decide ((i:Int)<(l.length:Int))=false:=decide_eq_false (by omega)
   rw[zbs (by omega)]at h3
   have hZ:=an7 d2<|bytesLess_eq;refine Bz3 ?_
   refine Zaz (by rw[h3];rfl)
def Zmy (l:List Int) (n:Int):Bool:=l.any fun x=>x == n
set_option maxHeartbeats 1000000 in
theorem in_sound (t:Tok) (l:List Int) (n:Int) (H:Zaa) (hl:l.length<=1000000):Zay Tryz.prog 173 [.sl t (rI l),.i n] H (Pure H (.b (Zmy l n))):=by
 generalize hT:Zmy l n=T
 refine Zak hE cf173 (zaa rfl) fun Q qr qn=>?_
 refine Bz2 ?_
 refine Zbs [1,7,8] (σ:=Unit) (fun(k:Nat) s=>T=Zmy (l.drop k) n) (fun k s=>[]) (fun k s=>[]) () (GStep.refl _ _) (by simp only[ZaA,Zav,Fr.put,Fr.get,↓reduceIte,Nat.reduceEqDiff];rfl) (by intro k s;rfl) (by intro k s;rfl) (by rfl) (by unfold maxLen;omega) ?_ (by simp only[ZaF]) (by simp only[ZaJ]) ?_ ?_
 ·exact hT.symm
 ·(rintro k u G hk ht hG hn;try simp only[nx]at hn)
  rw[zai hk]at ht
  unfold Zmy at ht
  rw[List.any_cons]at ht
  have hr:(rI l)[k]?=some [.i l[k]]:=by simp[hk]
  generalize l[k]=v at *
  have hb:=bfb (v == n)
  rcases hb with hb|hb
  ·rw[hb,Bool.false_or]at ht
   have hZ:=an7 hr<|hb;refine Bz1 ?_
   exact⟨(),ht,by exact HXT⟩
  ·rw[hb,Bool.true_or]at ht
   have hZ:=an7 hr<|hb;refine Bz1 ?_
   refine ZbC (by rw[ht])
 ·(rintro u G ht hG hn;try simp only[nx]at hn)
  rw[zaw]at ht
  refine Bz0 ?_
  refine ZbC (by rw[ht];rfl)
def ZeL (t:Tir) (above:Int):Bool :=
 if above<=0 then ((t.up.length:Int) == 0) else if (t.up.length:Int)≠(t.terms.length:Int)\/above > 200 then false else t.up.all (inU above)&&(List.range above.toNat).all fun i:Nat=>Zmy t.up (i:Int)
set_option maxHeartbeats 2000000 in
theorem ZiU (t:Tir) (above:Int) (H:Zaa) (hu:t.up.length<=1000000):Zay Tryz.prog 158 [.agg (eTr t),.i above] H (Pure H (.b (ZeL t above))):=by
 obtain⟨f0,f1,f2,f3,f4⟩:=Zba t
 by_cases h1:above<=0
 ·have d1:decide (above<=0)=true:=decide_eq_true h1
  have hv:ZeL t above=((t.up.length:Int) == 0):=by unfold ZeL;rw[if_pos h1]
  rw[hv]
  refine Zak hE cf158 (zaa rfl) fun Q qr qn=>?_
  have hZ:=an7 d1<|f3;refine Bz3 ?_
  refine ZbC (by rfl)
 have d1:decide (above<=0)=false:=decide_eq_false h1
 by_cases h2:(t.up.length:Int)≠(t.terms.length:Int)
 ·have d2:((t.up.length:Int) != (t.terms.length:Int))=true:=by simpa using h2
  have hv:ZeL t above=false:=by unfold ZeL;rw[if_neg h1,if_pos (.inl h2)]
  rw[hv]
  refine Zak hE cf158 (zaa rfl) fun Q qr qn=>?_
  have hZ:=an7 d1<|an7 d2<|an7 f2<|f3;refine Bz3 ?_
  refine ZbC (by rfl)
 have d2:((t.up.length:Int) != (t.terms.length:Int))=false:=by simpa using h2
 by_cases h3:above > 200
 ·have d3:decide (above > 200)=true:=decide_eq_true h3
  have hv:ZeL t above=false:=by unfold ZeL;rw[if_neg h1,if_pos (.inr h3)]
  rw[hv]
  refine Zak hE cf158 (zaa rfl) fun Q qr qn=>?_
  have hZ:=an7 d1<|an7 d2<|an7 d3<|an7 f2<|f3;refine Bz3 ?_
  refine ZbC (by rfl)
 have d3:decide (above > 200)=false:=decide_eq_false h3
 have hv:ZeL t above=(t.up.all (inU above)&&(List.range above.toNat).all fun i:Nat=>Zmy t.up (i:Int)):=by unfold ZeL;rw[if_neg h1,if_neg (fun h=>h.elim h2 h3)]
 rw[hv]
 obtain⟨A,hA⟩:∃A:Nat,above=(A:Int):=⟨above.toNat,by omega⟩
 subst hA
 rw[Int.toNat_natCast]
 have g1:(H.alloc (.cells (eTr t) 102)).get H.next=some (.cells (eTr t) 102):=Zaa.Zae
 have l1:H.next<(H.alloc (.cells (eTr t) 102)).next:=by simp
 have hx0:Zaa.Ext H (H.alloc (.cells (eTr t) 102)):=(Zaa.Ext.refl H).alloc
 generalize hT:(t.up.all (inU (A:Int))&&(List.range A).all fun i:Nat=>Zmy t.up (i:Int))=T
 refine Zak hE cf158 (zaa rfl) fun Q qr qn=>?_
 have hZ:=an7 d1<|an7 d2<|an7 d3<|an7 f2<|f3;refine Bz3 ?_
 generalize H.alloc (.cells (eTr t) 102)=G0 at *
 refine Zbs [1,2,26,27] (σ:=Unit) (fun(k:Nat) s=>(t.up.take k).all (inU (A:Int))=true) (fun k s=>[]) (fun k s=>[]) () (GStep.refl _ _) (by simp only[ZaA,Zav,Fr.put,Fr.get,↓reduceIte,Nat.reduceEqDiff];rfl) (by intro k s;rfl) (by intro k s;rfl) (by rfl) (by unfold maxLen;omega) ?_ (by simp only[ZaF]) (by simp only[ZaJ]) ?_ ?_
 ·rfl
 ·(rintro k u G hk ht hG hn;try simp only[nx]at hn)
  have hr:(rI t.up)[k]?=some [.i t.up[k]]:=by simp[hk]
  have hsn:=Zhg (p:=inU (A:Int)) hk
  rw[ht,zbl]at hsn
  have hbad:inU (A:Int) t.up[k]=false->false=T:=fun h=>by rw[<- hT,Zjc hk h];rfl
  generalize t.up[k]=v at *
  have e1:=bfb (decide (v<0))
  have e2:=bfb (decide (v≥(A:Int)))
  rcases e1 with e1|e1
  ·rcases e2 with e2|e2
   ·have hZ:=an7 hr<|an7 e1<|e2;refine Bz1 ?_
    exact⟨(),by rw[hsn];unfold inU;rw[e1,e2];rfl,by exact HXT⟩
   ·have hZ:=an7 hr<|an7 e1<|e2;refine Bz1 ?_
    exact ZbC (hbad (by unfold inU;rw[e1,e2];rfl)) (by exact AXT)
  ·have hZ:=an7 hr<|e1;refine Bz1 ?_
   exact ZbC (hbad (by unfold inU;rw[e1];rfl)) (by exact AXT)
 ·(rintro u G ht hG hn;try simp only[nx]at hn)
  rw[zas]at ht
  rw[ht,zbl]at hT
  have hxG:Zaa.Ext H G:=hG.ZdB hx0 (by simp)
  have gG:=(hG.g _ l1 (by simp)).trans g1
  have lG:=Zaa.lt gG
  refine Bz0 ?_
  refine Zcw [1,2] (σ:=Nat) (fun s=>s<=A/\(List.range s).all (fun i:Nat=>Zmy t.up (i:Int))=true) (fun s=>A - s) (fun s=>[(7,.i (s:Int))]) (fun s=>[]) 0 (GStep.refl _ _) (by simp only[ZaA,Zav,Fr.put,Fr.get,↓reduceIte,Nat.reduceEqDiff];rfl) ?_ (by simp only[ZaF,ZaX,Fr.put,Fr.get,↓reduceIte,Nat.reduceEqDiff,and_self]<;>simp) (by simp only[ZaJ]) ?_
  ·exact⟨zaA _,rfl⟩
  ·(rintro i G2 ⟨h4,h5⟩ hG2 hn2;try simp only[nx]at hn2)
   have gG2:=(hG2.g _ lG (by simp)).trans gG
   have lG2:=Zaa.lt gG2
   have hxG2:Zaa.Ext H G2:=hG2.ZdB hxG (by simp)
   by_cases c:i<A
   ·have d4:decide ((i:Int)<(A:Int))=true:=decide_eq_true (by omega)
    have hw:IntKind.i64.wrap ((i:Int)+1)=((i+1:Nat):Int):=by rw[Zaw (by omega) (by omega)];omega
    have hI:=fun G=>in_sound .no t.up (i:Int) G hu
    have hb:=bfb (Zmy t.up (i:Int))
    rcases hb with hb|hb
    ·have hbad:false=T:=by
      rw[<- hT]
      refine Eq.symm (List.all_eq_false.2 ⟨i,by simpa using c,by simp[hb]⟩)
     rw[hb]at hI
     have hZ:=an7 d4<|an7 gG2<|f3;refine Bz1 ?_
     refine qcp (hI _) fun k1=>?_
     refine Bz0 ?_
     exact ZbC hbad (by exact AXT)
    ·rw[hb]at hI
     have hZ:=an7 d4<|an7 gG2<|f3;refine Bz1 ?_
     refine qcp (hI _) fun k1=>?_
     have hZ:=hw;refine Bz1 ?_
     exact⟨i+1,⟨by omega,by rw[List.range_succ,List.all_append,h5];simp[hb]⟩,by omega,rfl,hG2.bump⟩
   ·have d4:decide ((i:Int)<(A:Int))=false:=decide_eq_false (by omega)
    have hAi:i=A:=by omega
    subst hAi
    rw[h5]at hT
    have hZ:=d4;refine Bz1 ?_
    exact ZbC hT hxG2
theorem ZmF:∀(A:Nat) (K:List Int),K.Nodup->(∀x∈K,0<=x/\x<(A:Int))->K.length<=A/\(K.length=A ↔ ∀i:Nat,i<A->(i:Int)∈K)
 | 0,K,_,h=>by
  have:K=[]:=by
   cases K with
   | nil=>rfl
   | cons a r=>have:=h a zaN;omega
  subst this
  simp
 | A+1,K,hn,h=>by
  by_cases c:(A:Int)∈K
  ·have h1:=List.length_erase_of_mem c
   have hpos:=List.length_pos_of_mem c
   obtain⟨k1,k2⟩:=ZmF A (K.erase (A:Int)) (hn.erase _) (fun x hx=>by
    obtain⟨e1,e2⟩:=(hn.mem_erase_iff).1 hx
    have:=h x e2
    omega)
   refine⟨by omega,fun e i hi=>?_,fun hall=>?_⟩
   ·by_cases ci:i=A
    ·subst ci;exact c
    ·exact((hn.mem_erase_iff).1 (k2.1 (by omega) i (by omega))).2
   ·have:=k2.2 (fun i hi=>(hn.mem_erase_iff).2 ⟨by omega,hall i (by omega)⟩)
    omega
  ·obtain⟨k1,_⟩:=ZmF A K hn (fun x hx=>by
    have h1:=h x hx
    have:x≠(A:Int):=fun e=>c (e ▸ hx)
    omega)
   exact⟨by omega,fun e=>by omega,fun hall=>absurd (hall A (by omega)) c⟩
theorem ZgN {K V:Type} [DecidableEq K] (k:K) (v:V):∀M:List (K×V),(ZbU k v M).map (·.1)=if k∈M.map (·.1) then M.map (·.1) else M.map (·.1)++[k]
 | []=>by simp[ZbU]
 | (k',u) :: M=>by
  have ih:=ZgN k v M
  unfold ZbU
  by_cases c:k=k'
  ·subst c;simp
  ·rw[if_neg c,zav,ih]
   by_cases c2:k∈M.map (·.1)
   ·rw[if_pos c2,if_pos (by rw[zav];exact zaD _ c2),zav]
   ·rw[if_neg c2,if_neg (by rw[zav];intro hm;rcases zaq.1 hm with h|h;exact c h;exact c2 h),zav,List.cons_append]
theorem ZmS (l:List Int):((Zg2 l).map (·.1)).Nodup/\∀x,x∈(Zg2 l).map (·.1) ↔ x∈l:=by
 suffices ∀(l:List Int) (M:List (Int×Int)),(M.map (·.1)).Nodup->((l.foldl (fun M n=>ZbU n 1 M) M).map (·.1)).Nodup/\∀x,x∈(l.foldl (fun M n=>ZbU n 1 M) M).map (·.1) ↔ x∈M.map (·.1)\/x∈l from by
  have:=this l [] (by simp)
  simpa [Zg2] using this
 intro l
 induction l with
 | nil=>intro M hM;simp[hM]
 | cons a r ih =>
  intro M hM
  rw[List.foldl_cons]
  have hk:=ZgN a (1:Int) M
  have hnd:((ZbU a (1:Int) M).map (·.1)).Nodup:=by
   rw[hk]
   split
   ·exact hM
   ·rename_i h
    rw[List.nodup_append]
    exact⟨hM,by simp,fun x hx y hy e=>by simp at hy;subst e hy;exact h hx⟩
  obtain⟨h1,h2⟩:=ih _ hnd
  refine⟨h1,fun x=>?_⟩
  rw[h2,hk]
  split
  ·rename_i h
   constructor
   ·rintro(h3|h3)
    ·exact .inl h3
    ·exact .inr (zaD _ h3)
   ·rintro(h3|h3)
    ·exact .inl h3
    ·rcases zaq.1 h3 with rfl|h3
     ·exact .inl h
     ·exact .inr h3
  ·constructor
   ·rintro(h3|h3)
    ·rcases zat.1 h3 with h3|h3
     ·exact .inl h3
     ·rw[zau.1 h3];exact .inr zaN
    ·exact .inr (zaD _ h3)
   ·rintro(h3|h3)
    ·exact .inl (zb0 _ h3)
    ·rcases zaq.1 h3 with rfl|h3
     ·exact .inl (zbS _ (by simp))
     ·exact .inr h3
theorem ZjD (l:List Int) (n:Int):Zmy l n=true ↔ n∈l:=by
 unfold Zmy
 rw[List.any_eq_true]
 constructor
 ·rintro⟨x,hx,h⟩;have:x=n:=by simpa using h
  exact this ▸ hx
 ·intro h;exact⟨n,h,by simp⟩
theorem treeR_eq {t:Tir} {above:Int} (hm:t.terms.length<=200):ZeL t above=ZdD t.up t.terms.length above:=by
 unfold ZeL ZdD
 by_cases h1:above<=0
 ·rw[if_pos h1,if_pos h1]
 rw[if_neg h1,if_neg h1]
 by_cases h2:(t.up.length:Int)≠(t.terms.length:Int)
 ·rw[if_pos (.inl h2),if_pos h2]
 rw[if_neg h2]
 obtain⟨A,hA⟩:∃A:Nat,above=(A:Int):=⟨above.toNat,by omega⟩
 subst hA
 obtain⟨n1,n2⟩:=ZmS t.up
 have hlen:(Zg2 t.up).length=((Zg2 t.up).map (·.1)).length:=by rw[zar]
 have hle:=ZjE t.up
 by_cases h3:(A:Int) > 200
 ·rw[if_pos (.inr h3)]
  have:(((Zg2 t.up).length:Int) == (A:Int))=false:=by rw[beq_eq_false_iff_ne];omega
  rw[this,Bool.and_false]
 ·rw[if_neg (fun h=>h.elim h2 h3),Int.toNat_natCast]
  by_cases h4:t.up.all (inU (A:Int))=true
  ·rw[h4,zbl,zbl,zaZ]
   have hin:∀x∈(Zg2 t.up).map (·.1),0<=x/\x<(A:Int):=fun x hx=>by
    have:=zaF.1 h4 x ((n2 x).1 hx)
    unfold inU at this
    simp at this
    omega
   obtain⟨_,k2⟩:=ZmF A _ n1 hin
   rw[beq_iff_eq,hlen,zaF]
   constructor
   ·intro h
    have:=k2.2 fun i hi=>(n2 _).2 ((ZjD _ _).1 (h i (by simpa using hi)))
    omega
   ·intro h i hi
    exact(ZjD _ _).2 ((n2 _).1 (k2.1 (by omega) i (by simpa using hi)))
  ·have h5:t.up.all (inU (A:Int))=false:=by simpa using h4
   rw[h5,zb4,zb4]
set_option maxHeartbeats 2000000 in
theorem Zjl (t:Tir) (above:Int) (H:Zaa) (hu:t.up.length<=1000000):Zay Tryz.prog 118 [.agg (eTr t),.i above] H (Pure H (.i (ZbO t above))):=by
 obtain⟨f0,f1,f2,f3,f4⟩:=Zba t
 have hN:=fun G=>Zd5 t.name G
 have hb:=bfb (ZbK t.name)
 rcases hb with hb|hb
 ·have hv:ZbO t above=2:=by rw[ZbO,if_pos hb]
  rw[hv]
  rw[hb]at hN
  refine Zak hE ZFS (zaa rfl) fun Q qr qn=>?_
  have hZ:=f1;refine Bz1 ?_
  refine qcp (hN _) fun k1=>?_
  refine Bz0 ?_
  refine Zaz (by rfl)
 rw[hb]at hN
 have e0:¬ZbK t.name=false:=by rw[hb];decide
 by_cases h1:(t.terms.length:Int)<1
 ·have d1:decide ((t.terms.length:Int)<1)=true:=decide_eq_true h1
  have hv:ZbO t above=5:=by rw[ZbO,if_neg e0,if_pos (.inl h1)]
  rw[hv]
  refine Zak hE ZFS (zaa rfl) fun Q qr qn=>?_
  have hZ:=f1;refine Bz1 ?_
  refine qcp (hN _) fun k1=>?_
  have hZ:=an7 f2<|d1;refine Bz3 ?_
  refine Zaz (by rfl)
 have d1:decide ((t.terms.length:Int)<1)=false:=decide_eq_false h1
 by_cases h2:(t.terms.length:Int) > 200
 ·have d2:decide ((t.terms.length:Int) > 200)=true:=decide_eq_true h2
  have hv:ZbO t above=5:=by rw[ZbO,if_neg e0,if_pos (.inr h2)]
  rw[hv]
  refine Zak hE ZFS (zaa rfl) fun Q qr qn=>?_
  have hZ:=f1;refine Bz1 ?_
  refine qcp (hN _) fun k1=>?_
  have hZ:=an7 f2<|an7 d1<|d2;refine Bz3 ?_
  refine Zaz (by rfl)
 have d2:decide ((t.terms.length:Int) > 200)=false:=decide_eq_false h2
 have e1:¬((t.terms.length:Int)<1\/(t.terms.length:Int) > 200):=fun h=>h.elim h1 h2
 have hR:=fun G=>Zki .no t.terms G (by omega)
 by_cases h3:Zgt none t.terms≠0
 ·have d3:(Zgt none t.terms != 0)=true:=by simpa using h3
  have hv:ZbO t above=Zgt none t.terms:=by rw[ZbO,if_neg e0,if_neg e1,if_pos h3]
  rw[hv]
  refine Zak hE ZFS (zaa rfl) fun Q qr qn=>?_
  have hZ:=f1;refine Bz1 ?_
  refine qcp (hN _) fun k1=>?_
  have hZ:=an7 f2<|an7 d1<|d2;refine Bz3 ?_
  refine qcp (hR _) fun k2=>?_
  have hZ:=d3;refine Bz1 ?_
  refine Zaz (by rfl)
 have d3:(Zgt none t.terms != 0)=false:=by simpa using h3
 have hv:ZbO t above=if ZeL t above=false then 14 else 0:=by rw[ZbO,if_neg e0,if_neg e1,if_neg h3,treeR_eq (by omega)]
 rw[hv]
 have hT:=fun G=>ZiU t above G hu
 have hb4:=bfb (ZeL t above)
 rcases hb4 with hb4|hb4
 ·rw[hb4]at hT
  rw[hb4,if_pos rfl]
  refine Zak hE ZFS (zaa rfl) fun Q qr qn=>?_
  have hZ:=f1;refine Bz1 ?_
  refine qcp (hN _) fun k1=>?_
  have hZ:=an7 f2<|an7 d1<|d2;refine Bz3 ?_
  refine qcp (hR _) fun k2=>?_
  have hZ:=an7 d3<|an7 f0<|f4;refine Bz1 ?_
  refine qcp (hT _) fun k3=>?_
  refine Bz0 ?_
  refine Zaz (by rfl)
 ·rw[hb4]at hT
  rw[hb4,if_neg (by decide)]
  refine Zak hE ZFS (zaa rfl) fun Q qr qn=>?_
  have hZ:=f1;refine Bz1 ?_
  refine qcp (hN _) fun k1=>?_
  have hZ:=an7 f2<|an7 d1<|d2;refine Bz3 ?_
  refine qcp (hR _) fun k2=>?_
  have hZ:=an7 d3<|an7 f0<|f4;refine Bz1 ?_
  refine qcp (hT _) fun k3=>?_
  refine Bz0 ?_
  refine Zaz (by rfl)
theorem ZhJ (d:Dm) (k:Nat) (H:Zaa) (hk:k<d.tiers.length) (hl:d.tiers.length<=1000000):Zay Tryz.prog 119 [.agg (eDm d),.i (k:Int)] H (Pure H (.i (ZbR (d.tiers.drop (k+1))))):=by
 obtain⟨f0,f1,f2,f3⟩:=Za7 d
 have hw:IntKind.i64.wrap ((k:Int)+1)=((k+1:Nat):Int):=by rw[show(k:Int)+1=((k+1:Nat):Int) by omega];exact Zaw (by omega) (by omega)
 refine Zak hE cf119 (zaa rfl) fun Q qr qn=>?_
 by_cases h:k+1<d.tiers.length
 ·have d1:decide (((k+1:Nat):Int)≥(d.tiers.length:Int))=false:=by simp;omega
  rw[zai h]at qr qn
  have hg:=Zdh h
  obtain⟨g0,g1,g2,g3,g4⟩:=Zba d.tiers[k+1]
  have hZ:=an7 f2<|an7 hw<|an7 d1<|an7 h<|an7 g0<|g2;refine Bz3 ?_
  refine Zaz (by rfl)
 ·have d1:decide (((k+1:Nat):Int)≥(d.tiers.length:Int))=true:=by simp;omega
  rw[zaY (by omega)]at qr qn
  have hZ:=an7 f2<|an7 hw<|d1;refine Bz3 ?_
  refine Zaz (by rfl)
theorem HX.two {O:List (Nat×Zb3)} {H G G1:Zaa} (h:HX O H G) (k:HX [] G G1):HX O H G1 :=
 ⟨zbd h.n k.n,fun p hp=>(k.g _ (Zaa.lt (h.o p hp)) (by simp)).trans (h.o p hp),fun j hj hne=>(k.g _ (zaO hj h.n) (by simp)).trans (h.g j hj hne)⟩
theorem Zmg (seen:List Tx) (t:Tir) (r:List Tir):Zkb seen (t :: r)=if ZbO t (ZbR r)≠0 then ZbO t (ZbR r) else if t.name∈seen then 11 else Zkb (seen++[t.name]) r:=by simp only[Zkb]
set_option maxHeartbeats 4000000 in
theorem ZkC (d:Dm) (H:Zaa) (hs:∀t∈d.tiers,Zgr t):Zay Tryz.prog 83 [.agg (eDm d)] H (Pure H (.i (Zdv d))):=by
 obtain⟨f0,f1,f2,f3⟩:=Za7 d
 have hN:=fun G=>Zd5 d.name G
 have hb:=bfb (ZbK d.name)
 rcases hb with hb|hb
 ·have hv:Zdv d=2:=by rw[Zdv,if_pos hb]
  rw[hv]
  rw[hb]at hN
  refine Zak hE cf83 (zaa rfl) fun Q qr qn=>?_
  have hZ:=f1;refine Bz1 ?_
  refine qcp (hN _) fun k1=>?_
  refine Bz0 ?_
  refine Zaz (by rfl)
 rw[hb]at hN
 have e0:¬ZbK d.name=false:=by rw[hb];decide
 by_cases h1:(d.tiers.length:Int)<1
 ·have d1:decide ((d.tiers.length:Int)<1)=true:=decide_eq_true h1
  have hv:Zdv d=5:=by rw[Zdv,if_neg e0,if_pos (.inl h1)]
  rw[hv]
  refine Zak hE cf83 (zaa rfl) fun Q qr qn=>?_
  have hZ:=f1;refine Bz1 ?_
  refine qcp (hN _) fun k1=>?_
  have hZ:=an7 f2<|d1;refine Bz3 ?_
  refine Zaz (by rfl)
 have d1:decide ((d.tiers.length:Int)<1)=false:=decide_eq_false h1
 by_cases h2:(d.tiers.length:Int) > 4
 ·have d2:decide ((d.tiers.length:Int) > 4)=true:=decide_eq_true h2
  have hv:Zdv d=5:=by rw[Zdv,if_neg e0,if_pos (.inr h2)]
  rw[hv]
  refine Zak hE cf83 (zaa rfl) fun Q qr qn=>?_
  have hZ:=f1;refine Bz1 ?_
  refine qcp (hN _) fun k1=>?_
  have hZ:=an7 f2<|an7 d1<|d2;refine Bz3 ?_
  refine Zaz (by rfl)
 have d2:decide ((d.tiers.length:Int) > 4)=false:=decide_eq_false h2
 have hv:Zdv d=Zkb [] d.tiers:=by rw[Zdv,if_neg e0,if_neg (fun h=>h.elim h1 h2)]
 rw[hv]
 generalize hT:Zkb [] d.tiers=T
 have g1:(H.alloc (.cells (eDm d) 100)).get H.next=some (.cells (eDm d) 100):=Zaa.Zae
 refine Zak hE cf83 (zaa rfl) fun Q qr qn=>?_
 have hZ:=f1;refine Bz1 ?_
 refine qcp (hN _) fun k1=>?_
 have hZ:=an7 f2<|an7 d1<|d2;refine Bz3 ?_
 have hx0:Zaa.Ext H ((H.alloc (.cells (eDm d) 100)).bump k1):=by exact AXT
 have gg:((H.alloc (.cells (eDm d) 100)).bump k1).get H.next=some (.cells (eDm d) 100):=g1
 generalize (H.alloc (.cells (eDm d) 100)).bump k1=G0 at *
 have l1:=Zaa.lt gg
 refine Zbs [1,22] (σ:=Unit) (fun(k:Nat) s=>T=Zkb ((d.tiers.take k).map (·.name)) (d.tiers.drop k)) (fun k s=>[]) (fun k s=>[]) () (GStep.refl _ _) (by simp only[ZaA,Zav,Fr.put,Fr.get,↓reduceIte,Nat.reduceEqDiff];rfl) (by intro k s;rfl) (by intro k s;rfl) (by rfl) (by unfold maxLen;omega) ?_ (by simp only[ZaF]) (by simp only[ZaJ]) ?_ ?_
 ·exact hT.symm
 ·(rintro k u G hk ht hG hn;try simp only[nx]at hn)
  have hxG:Zaa.Ext H G:=hG.ZdB hx0 (by simp)
  have gG:=(hG.g _ l1 (by simp)).trans gg
  have lG:=Zaa.lt gG
  rw[zai hk,Zmg]at ht
  have hr:=Zdh hk
  obtain⟨t0,t1,t2,t3,t4⟩:=Zba d.tiers[k]
  have hA:=fun G=>ZhJ d k G hk (by omega)
  have hW:=fun G=>Zjl d.tiers[k] (ZbR (d.tiers.drop (k+1))) G (hs _ (zan hk))
  by_cases c1:ZbO d.tiers[k] (ZbR (d.tiers.drop (k+1)))≠0
  ·have d3:(ZbO d.tiers[k] (ZbR (d.tiers.drop (k+1))) != 0)=true:=by simpa using c1
   rw[if_pos c1]at ht
   have hZ:=an7 gG<|an7 f0<|an7 f2<|an7 f3<|an7 hr<|an7 t0<|an7 t4<|hk;refine Bz3 ?_
   refine qcp (hA _) fun k2=>?_
   have hZ:=an7 gG<|an7 f0<|an7 f2<|an7 f3<|an7 hr<|an7 t0<|an7 t4<|hk;refine Bz3 ?_
   refine qcp (hW _) fun k3=>?_
   have hZ:=d3;refine Bz1 ?_
   refine Zaz (by rw[ht])
  ·have d3:(ZbO d.tiers[k] (ZbR (d.tiers.drop (k+1))) != 0)=false:=by simpa using c1
   rw[if_neg c1]at ht
   have hZ:=an7 gG<|an7 f0<|an7 f2<|an7 f3<|an7 hr<|an7 t0<|an7 t4<|hk;refine Bz3 ?_
   refine qcp (hA _) fun k2=>?_
   have hZ:=an7 gG<|an7 f0<|an7 f2<|an7 f3<|an7 hr<|an7 t0<|an7 t4<|hk;refine Bz3 ?_
   refine qcp (hW _) fun k3=>?_
   have hZ:=d3;refine Bz1 ?_
   refine Zcw [1,3,22,23] (σ:=Nat) (fun s=>s<=k/\∀t∈d.tiers.take s,t.name≠d.tiers[k].name) (fun s=>k - s) (fun s=>[(5,.i (s:Int))]) (fun s=>[]) 0 (GStep.refl _ _) (by simp only[ZaA,Zav,Fr.put,Fr.get,↓reduceIte,Nat.reduceEqDiff];rfl) ?_ (by simp only[ZaF,ZaX,Fr.put,Fr.get,↓reduceIte,Nat.reduceEqDiff,and_self]<;>simp) (by simp only[ZaJ]) ?_
   ·exact⟨zaA _,by simp⟩
   ·(rintro i G2 ⟨h4,h5⟩ hG2 hn2;try simp only[nx]at hn2)
    have gG2:=(hG2.g _ (by simp only[nx];omega) (by simp)).trans gG
    have lG2:=Zaa.lt gG2
    have hxG2:Zaa.Ext H G2:=hG2.ZdB (hxG.bump.bump) (by simp)
    by_cases c:i<k
    ·have d4:decide ((i:Int)<(k:Int))=true:=decide_eq_true (by omega)
     have hil:i<d.tiers.length:=by omega
     have hri:=Zdh hil
     obtain⟨i0,i1,i2,i3,i4⟩:=Zba d.tiers[i]
     have hi0:(0:Int)<=(i:Int):=by omega
     have hw:IntKind.i64.wrap ((i:Int)+1)=((i+1:Nat):Int):=by rw[Zaw (by omega) (by omega)];omega
     by_cases c2:d.tiers[i].name=d.tiers[k].name
     ·have d5:decide (d.tiers[i].name=d.tiers[k].name)=true:=decide_eq_true c2
      rw[if_pos (zaP.2 ⟨d.tiers[i],by rw[zbJ];exact⟨i,by omega,rfl⟩,c2⟩)]at ht
      have hZ:=an7 d4<|an7 gG2<|an7 f0<|an7 f2<|an7 hr<|an7 hri<|an7 t0<|an7 t1<|an7 i0<|an7 i1<|an7 hk<|an7 hil<|an7 hi0<|d5;refine Bz3 ?_
      exact Zaz ht.symm hxG2
     ·have d5:decide (d.tiers[i].name=d.tiers[k].name)=false:=decide_eq_false c2
      have hZ:=an7 d4<|an7 gG2<|an7 f0<|an7 f2<|an7 hr<|an7 hri<|an7 t0<|an7 t1<|an7 i0<|an7 i1<|an7 hk<|an7 hil<|an7 hi0<|an7 d5<|hw;refine Bz3 ?_
      refine⟨i+1,⟨by omega,fun t ht'=>?_⟩,by omega,rfl,hG2⟩
      rw[zah hil]at ht'
      rcases zat.1 ht' with ht'|ht'
      ·exact h5 t ht'
      ·rw[zau.1 ht'];exact c2
    ·have d4:decide ((i:Int)<(k:Int))=false:=decide_eq_false (by omega)
     have hik:i=k:=by omega
     subst hik
     rw[if_neg (fun hm=>by obtain⟨t,ht1,ht2⟩:=zaP.1 hm;exact h5 t ht1 ht2)]at ht
     have hZ:=d4;refine Bz1 ?_
     refine⟨(),?_,(hG.bump.bump).two hG2⟩
     rw[ht,zah hk,zaG];rfl
 ·(rintro u G ht hG hn;try simp only[nx]at hn)
  rw[zaw]at ht
  refine Bz0 ?_
  refine Zaz (by rw[ht];rfl)
theorem ZkJ (seen:List Tx) (d:Dm) (r:List Dm):Zd1 seen (d :: r)=if Zdv d≠0 then Zdv d else if d.name∈seen then 11 else Zd1 (seen++[d.name]) r:=by simp only[Zd1]
theorem ZkN (seen:List Tx) (q:Tx) (r:List Tx):Zgh seen (q :: r)=if ZbK q=false then 2 else if q∈seen then 11 else Zgh (seen++[q]) r:=by simp only[Zgh]
set_option maxHeartbeats 4000000 in
theorem ZeE (S:Sc) (H:Zaa) (hs:Zh1 S):Zay Tryz.prog 52 [.agg (eSc S)] H (Pure H (.i (scE S))):=by
 obtain⟨f0,f1,f2,f3⟩:=ZbB S
 by_cases h1:(S.dims.length:Int)<1
 ·have d1:decide ((S.dims.length:Int)<1)=true:=decide_eq_true h1
  have hv:scE S=5:=by rw[scE,if_pos (.inl h1)]
  rw[hv]
  refine Zak hE cf52 (zaa rfl) fun Q qr qn=>?_
  have hZ:=an7 f1<|d1;refine Bz3 ?_
  refine Zaz (by rfl)
 have d1:decide ((S.dims.length:Int)<1)=false:=decide_eq_false h1
 by_cases h2:(S.dims.length:Int) > 16
 ·have d2:decide ((S.dims.length:Int) > 16)=true:=decide_eq_true h2
  have hv:scE S=5:=by rw[scE,if_pos (.inr h2)]
  rw[hv]
  refine Zak hE cf52 (zaa rfl) fun Q qr qn=>?_
  have hZ:=an7 f1<|an7 d1<|d2;refine Bz3 ?_
  refine Zaz (by rfl)
 have d2:decide ((S.dims.length:Int) > 16)=false:=decide_eq_false h2
 obtain⟨D,hD⟩:∃D,Zd1 [] S.dims=D:=⟨_,rfl⟩
 have hv:scE S=if D≠0 then D else Zd8 S.meas:=by rw[scE,if_neg (fun h=>h.elim h1 h2),hD]
 rw[hv]
 obtain⟨T,hT⟩:∃T,(if D≠0 then D else Zd8 S.meas)=T:=⟨_,rfl⟩
 have hDT:D≠0->D=T:=fun h=>by rw[<- hT,if_pos h]
 have hMT:D=0->Zd8 S.meas=T:=fun h=>by rw[<- hT,if_neg (by simp[h])]
 rw[hT]
 clear hv hT
 have gg:(H.alloc (.cells (eSc S) 76)).get H.next=some (.cells (eSc S) 76):=Zaa.Zae
 have hx0:Zaa.Ext H (H.alloc (.cells (eSc S) 76)):=(Zaa.Ext.refl H).alloc
 refine Zak hE cf52 (zaa rfl) fun Q qr qn=>?_
 have hZ:=an7 f1<|an7 d1<|d2;refine Bz3 ?_
 generalize H.alloc (.cells (eSc S) 76)=G0 at *
 have l1:=Zaa.lt gg
 refine Zbs [1,20] (σ:=Unit) (fun(k:Nat) s=>D=Zd1 ((S.dims.take k).map (·.name)) (S.dims.drop k)) (fun k s=>[]) (fun k s=>[]) () (GStep.refl _ _) (by simp only[ZaA,Zav,Fr.put,Fr.get,↓reduceIte,Nat.reduceEqDiff];rfl) (by intro k s;rfl) (by intro k s;rfl) (by rfl) (by unfold maxLen;omega) ?_ (by simp only[ZaF]) (by simp only[ZaJ]) ?_ ?_
 ·exact hD.symm
 ·(rintro k u G hk ht hG hn;try simp only[nx]at hn)
  have hxG:Zaa.Ext H G:=hG.ZdB hx0 (by simp)
  have gG:=(hG.g _ l1 (by simp)).trans gg
  have lG:=Zaa.lt gG
  rw[zai hk,ZkJ]at ht
  have hr:=ZjQ hk
  obtain⟨t0,t1,t2,t3⟩:=Za7 S.dims[k]
  have hW:=fun G=>ZkC S.dims[k] G (hs _ (zan hk))
  by_cases c1:Zdv S.dims[k]≠0
  ·have d3:(Zdv S.dims[k] != 0)=true:=by simpa using c1
   rw[if_pos c1]at ht
   have hfin:Zdv S.dims[k]=T:=by rw[<- ht];exact hDT (by rw[ht];exact c1)
   have hZ:=an7 gG<|an7 f0<|an7 f1<|an7 f3<|an7 hr<|an7 t0<|an7 t3<|hk;refine Bz3 ?_
   refine qcp (hW _) fun k3=>?_
   have hZ:=d3;refine Bz1 ?_
   exact Zaz hfin (hxG.bump)
  ·have d3:(Zdv S.dims[k] != 0)=false:=by simpa using c1
   rw[if_neg c1]at ht
   have hZ:=an7 gG<|an7 f0<|an7 f1<|an7 f3<|an7 hr<|an7 t0<|an7 t3<|hk;refine Bz3 ?_
   refine qcp (hW _) fun k3=>?_
   have hZ:=d3;refine Bz1 ?_
   refine Zcw [1,3,20,21] (σ:=Nat) (fun s=>s<=k/\∀t∈S.dims.take s,t.name≠S.dims[k].name) (fun s=>k - s) (fun s=>[(5,.i (s:Int))]) (fun s=>[]) 0 (GStep.refl _ _) (by simp only[ZaA,Zav,Fr.put,Fr.get,↓reduceIte,Nat.reduceEqDiff];rfl) ?_ (by simp only[ZaF,ZaX,Fr.put,Fr.get,↓reduceIte,Nat.reduceEqDiff,and_self]<;>simp) (by simp only[ZaJ]) ?_
   ·exact⟨zaA _,by simp⟩
   ·(rintro i G2 ⟨h4,h5⟩ hG2 hn2;try simp only[nx]at hn2)
    have gG2:=(hG2.g _ (by simp only[nx];omega) (by simp)).trans gG
    have lG2:=Zaa.lt gG2
    have hxG2:Zaa.Ext H G2:=hG2.ZdB hxG.bump (by simp)
    by_cases c:i<k
    ·have d4:decide ((i:Int)<(k:Int))=true:=decide_eq_true (by omega)
     have hil:i<S.dims.length:=by omega
     have hri:=ZjQ hil
     obtain⟨i0,i1,i2,i3⟩:=Za7 S.dims[i]
     have hi0:(0:Int)<=(i:Int):=by omega
     have hw:IntKind.i64.wrap ((i:Int)+1)=((i+1:Nat):Int):=by rw[Zaw (by omega) (by omega)];omega
     by_cases c2:S.dims[i].name=S.dims[k].name
     ·have d5:decide (S.dims[i].name=S.dims[k].name)=true:=decide_eq_true c2
      rw[if_pos (zaP.2 ⟨S.dims[i],by rw[zbJ];exact⟨i,by omega,rfl⟩,c2⟩)]at ht
      have hfin:11=T:=by rw[<- ht];exact hDT (by rw[ht];decide)
      have hZ:=an7 d4<|an7 gG2<|an7 f0<|an7 f1<|an7 hr<|an7 hri<|an7 t0<|an7 t1<|an7 i0<|an7 i1<|an7 hk<|an7 hil<|an7 hi0<|d5;refine Bz3 ?_
      exact Zaz hfin hxG2
     ·have d5:decide (S.dims[i].name=S.dims[k].name)=false:=decide_eq_false c2
      have hZ:=an7 d4<|an7 gG2<|an7 f0<|an7 f1<|an7 hr<|an7 hri<|an7 t0<|an7 t1<|an7 i0<|an7 i1<|an7 hk<|an7 hil<|an7 hi0<|an7 d5<|hw;refine Bz3 ?_
      refine⟨i+1,⟨by omega,fun t ht'=>?_⟩,by omega,rfl,hG2⟩
      rw[zah hil]at ht'
      rcases zat.1 ht' with ht'|ht'
      ·exact h5 t ht'
      ·rw[zau.1 ht'];exact c2
    ·have d4:decide ((i:Int)<(k:Int))=false:=decide_eq_false (by omega)
     have hik:i=k:=by omega
     subst hik
     rw[if_neg (fun hm=>by obtain⟨t,ht1,ht2⟩:=zaP.1 hm;exact h5 t ht1 ht2)]at ht
     have hZ:=d4;refine Bz1 ?_
     refine⟨(),?_,(hG.bump).two hG2⟩
     rw[ht,zah hk,zaG];rfl
 ·(rintro u G ht hG hn;try simp only[nx]at hn)
  rw[zaw]at ht
  have hM:=hMT ht
  have hxG:Zaa.Ext H G:=hG.ZdB hx0 (by simp)
  have gG:=(hG.g _ l1 (by simp)).trans gg
  have lG:=Zaa.lt gG
  clear ht hDT hMT hD
  by_cases m1:(S.meas.length:Int)<1
  ·have d3:decide ((S.meas.length:Int)<1)=true:=decide_eq_true m1
   have hv:5=T:=by rw[<- hM,Zd8,if_pos (.inl m1)]
   have hZ:=an7 gG<|an7 f2<|d3;refine Bz3 ?_
   exact Zaz hv hxG
  have d3:decide ((S.meas.length:Int)<1)=false:=decide_eq_false m1
  by_cases m2:(S.meas.length:Int) > 3
  ·have d4:decide ((S.meas.length:Int) > 3)=true:=decide_eq_true m2
   have hv:5=T:=by rw[<- hM,Zd8,if_pos (.inr m2)]
   have hZ:=an7 gG<|an7 f2<|an7 d3<|d4;refine Bz3 ?_
   exact Zaz hv hxG
  have d4:decide ((S.meas.length:Int) > 3)=false:=decide_eq_false m2
  rw[Zd8,if_neg (fun h=>h.elim m1 m2)]at hM
  have hZ:=an7 gG<|an7 f2<|an7 d3<|d4;refine Bz3 ?_
  refine Zbs [1,64] (σ:=Unit) (fun(k:Nat) s=>T=Zgh (S.meas.take k) (S.meas.drop k)) (fun k s=>[]) (fun k s=>[]) () (GStep.refl _ _) (by simp only[ZaA,Zav,Fr.put,Fr.get,↓reduceIte,Nat.reduceEqDiff];rfl) (by intro k s;rfl) (by intro k s;rfl) (by rfl) (by unfold maxLen;omega) ?_ (by simp only[ZaF]) (by simp only[ZaJ]) ?_ ?_
  ·exact hM.symm
  ·(rintro k u G3 hk ht hG3 hn3;try simp only[nx]at hn3)
   have hxG3:Zaa.Ext H G3:=hG3.ZdB hxG (by simp)
   have gG3:=(hG3.g _ lG (by simp)).trans gG
   have lG3:=Zaa.lt gG3
   rw[zai hk,ZkN]at ht
   have hr:(rS S.meas)[k]?=some [eS S.meas[k]]:=by simp[hk]
   have hN:=fun G=>Zd5 S.meas[k] G
   have hb:=bfb (ZbK S.meas[k])
   rcases hb with hb|hb
   ·rw[hb]at hN
    rw[if_pos hb]at ht
    have hZ:=an7 gG3<|an7 f2<|an7 hr<|hk;refine Bz3 ?_
    refine qcp (hN _) fun k3=>?_
    refine Bz0 ?_
    exact Zaz ht.symm hxG3.bump
   ·rw[hb]at hN
    rw[if_neg (by rw[hb];decide)]at ht
    have hZ:=an7 gG3<|an7 f2<|an7 hr<|hk;refine Bz3 ?_
    refine qcp (hN _) fun k3=>?_
    refine Bz0 ?_
    refine Zcw [1,6,64,65] (σ:=Nat) (fun s=>s<=k/\∀t∈S.meas.take s,t≠S.meas[k]) (fun s=>k - s) (fun s=>[(7,.i (s:Int))]) (fun s=>[]) 0 (GStep.refl _ _) (by simp only[ZaA,Zav,Fr.put,Fr.get,↓reduceIte,Nat.reduceEqDiff];rfl) ?_ (by simp only[ZaF,ZaX,Fr.put,Fr.get,↓reduceIte,Nat.reduceEqDiff,and_self]<;>simp) (by simp only[ZaJ]) ?_
    ·exact⟨zaA _,by simp⟩
    ·(rintro i G2 ⟨h4,h5⟩ hG2 hn2;try simp only[nx]at hn2)
     have gG2:=(hG2.g _ (by simp only[nx];omega) (by simp)).trans gG3
     have lG2:=Zaa.lt gG2
     have hxG2:Zaa.Ext H G2:=hG2.ZdB hxG3.bump (by simp)
     by_cases c:i<k
     ·have d6:decide ((i:Int)<(k:Int))=true:=decide_eq_true (by omega)
      have hil:i<S.meas.length:=by omega
      have hri:(rS S.meas)[i]?=some [eS S.meas[i]]:=by simp[hil]
      have hi0:(0:Int)<=(i:Int):=by omega
      have hw:IntKind.i64.wrap ((i:Int)+1)=((i+1:Nat):Int):=by rw[Zaw (by omega) (by omega)];omega
      by_cases c2:S.meas[i]=S.meas[k]
      ·have d5:decide (S.meas[i]=S.meas[k])=true:=decide_eq_true c2
       rw[if_pos (by rw[zbJ];exact⟨i,by omega,c2⟩)]at ht
       have hZ:=an7 d6<|an7 gG2<|an7 f2<|an7 hr<|an7 hri<|an7 hk<|an7 hil<|an7 hi0<|d5;refine Bz3 ?_
       exact Zaz ht.symm hxG2
      ·have d5:decide (S.meas[i]=S.meas[k])=false:=decide_eq_false c2
       have hZ:=an7 d6<|an7 gG2<|an7 f2<|an7 hr<|an7 hri<|an7 hk<|an7 hil<|an7 hi0<|an7 d5<|hw;refine Bz3 ?_
       refine⟨i+1,⟨by omega,fun t ht'=>?_⟩,by omega,rfl,hG2⟩
       rw[zah hil]at ht'
       rcases zat.1 ht' with ht'|ht'
       ·exact h5 t ht'
       ·rw[zau.1 ht'];exact c2
     ·have d6:decide ((i:Int)<(k:Int))=false:=decide_eq_false (by omega)
      have hik:i=k:=by omega
      subst hik
      rw[if_neg (fun hm=>h5 _ hm rfl)]at ht
      have hZ:=d6;refine Bz1 ?_
      refine⟨(),?_,(hG3.bump).two hG2⟩
      rw[ht,zah hk]
  ·(rintro u G3 ht hG3 hn3;try simp only[nx]at hn3)
   rw[zaw]at ht
   refine Bz0 ?_
   exact Zaz (by rw[ht];rfl) (hG3.ZdB hxG (by simp))
end Go.Proofs.YtemmgefppobboaaGreatDoor
