/- Texts of the walk. -/
import Derived.Test.YtfjjpndoeppbhaaGreatDoorMg
import Derived.Sort.Walk0
namespace Go.Proofs.YtfjjpndoeppbhaaGreatDoor
set_option linter.defProp false
set_option maxHeartbeats 64000000
set_option linter.unusedSimpArgs false
set_option linter.unusedVariables false
open Go.RowKit
theorem Zd4 (a b:Int):vEq (.int .i64 a) (.int .i64 b)=decide (a=b):=by by_cases h:a=b<;>simp[vEq,h]
section
variable {K V:Type} [DecidableEq K] {kf:K->Value} {vf:V->AV}
def Zcz (k:K):List (K×V)->Option V
 | []=>none
 | (k',v) :: M=>if k=k' then some v else Zcz k M
def ZbU (k:K) (v:V):List (K×V)->List (K×V)
 | []=>[(k,v)]
 | (k',u) :: M=>if k=k' then (k,v) :: M else (k',u) :: ZbU k v M
def Zgf (kf:K->Value) (vf:V->AV) (M:List (K×V)):List (Value×AV):=M.map fun p=>(kf p.1,vf p.2)
theorem ZbV (hk:∀a b,kEq (kf a) (kf b)=decide (a=b)) (k:K):∀M:List (K×V),ZdG (kf k) (Zgf kf vf M)=(Zcz k M).map vf
 | []=>rfl
 | (k',v) :: M=>by
  have ih:=ZbV hk k M
  unfold Zgf at ih ⊢
  simp only[zaD,ZdG,hk,Zcz]
  by_cases h:k=k'<;>simp[h,ih]
theorem ZcH (hk:∀a b,kEq (kf a) (kf b)=decide (a=b)) (k:K) (v:V):∀M:List (K×V),Ziw (kf k) (vf v) (Zgf kf vf M)=Zgf kf vf (ZbU k v M)
 | []=>rfl
 | (k',u) :: M=>by
  have ih:=ZcH hk k v M
  unfold Zgf at ih ⊢
  simp only[zaD,Ziw,hk,ZbU]
  by_cases h:k=k'<;>simp[h,ih]
theorem Zeg (k j:K) (v:V):∀M:List (K×V),Zcz j (ZbU k v M)=if j=k then some v else Zcz j M
 | []=>by simp[ZbU,Zcz]
 | (k',u) :: M=>by
  have ih:=Zeg k j v M
  unfold ZbU
  by_cases h:k=k'
  ·subst h
   rw[if_pos rfl]
   simp only[Zcz]
   by_cases h2:j=k<;>simp[h2]
  ·rw[if_neg h]
   simp only[Zcz,ih]
   by_cases h2:j=k
   ·subst h2;simp[h]
   ·simp[h2]
theorem ZdP (k:K) (v:V) (M:List (K×V)):Zcz k (ZbU k v M)=some v:=by rw[Zeg,if_pos rfl]
end
def kI (n:Int):Value:=.int .i64 n
def k2 (p:Int×Int):Value:=.agg #[.int .i64 p.1,.int .i64 p.2]
theorem ZkH (a b:Int):kEq (kI a) (kI b)=decide (a=b):=Zd4 a b
theorem ZrS (a:Int):KK.of (.one (.int .i64)) (.i a)=some (kI a):=rfl
inductive Wkn:AV->AV->Prop
 | refl (a:AV):Wkn a a
 | sl (t:Tok) (rows rows':List (List AV)) (hl:rows.length=rows'.length) (h1:∀(i:Nat) (r r':List AV),rows[i]?=some r->rows'[i]?=some r'->r.length=r'.length)
  (h2:∀(i:Nat) (r r':List AV) (j:Nat) (x y:AV),rows[i]?=some r->rows'[i]?=some r'->r[j]?=some x->r'[j]?=some y->Wkn x y):Wkn (.sl t rows) (.sl .no rows')
 | agg (cs cs':List AV) (hl:cs.length=cs'.length) (h:∀(i:Nat) (x y:AV),cs[i]?=some x->cs'[i]?=some y->Wkn x y):Wkn (.agg cs) (.agg cs')
 | tup (cs cs':List AV) (hl:cs.length=cs'.length) (h:∀(i:Nat) (x y:AV),cs[i]?=some x->cs'[i]?=some y->Wkn x y):Wkn (.tup cs) (.tup cs')
section
variable {g:Gh} {w:World}
theorem Wkn.one {a b:AV} (h:Wkn a b):a.one=b.one:=by cases h<;>rfl
theorem ZaN {α:Type} {l m:List α} (hl:l.length=m.length) {i:Nat} {y:α} (h:m[i]?=some y):∃x,l[i]?=some x:=by
 have:=(zah.1 h).1
 exact⟨l[i]'Xa,zab Xa⟩
theorem VR.wkn {a b:AV} {v:Value} (hw:Wkn a b) (h:VR g w a v):VR g w b v:=by
 induction hw generalizing v with
 | refl a=>exact h
 | sl t rows rows' hl h1 h2 ih =>
  cases h with
  | sl tok _ A c sz b o f hc hm hA hsz hcell hv ht =>
   have:=VR.sl (g:=g) (w:=w) .no rows' A c sz b o f (by rw[<- hl];exact hc) hm (fun hne=>hA fun e=>hne (by rw[e]at hl;exact zcc.1 hl.symm)) (fun r' hr'=>by
    obtain⟨i,hi,rfl⟩:=zaK hr'
    obtain⟨r,hr⟩:=ZaN hl (zab hi)
    have hrm:=zaN hr
    have e:=h1 i r _ hr (zab hi)
    refine⟨by rw[<- e];exact(hsz r hrm).1,fun y hy=>?_⟩
    obtain⟨j,hj,rfl⟩:=zaK hy
    obtain⟨x,hx⟩:=ZaN e (zab hj)
    rw[<- (h2 i r _ j x _ hr (zab hi) hx (zab hj)).one]
    exact(hsz r hrm).2 x (zaN hx)) (fun i r' j y hr' hy=>by
    obtain⟨r,hr⟩:=ZaN hl hr'
    obtain⟨x,hx⟩:=ZaN (h1 i r r' hr hr') hy
    exact hcell i r j x hr hx) (fun i r' j y hr' hy=>by
    obtain⟨r,hr⟩:=ZaN hl hr'
    obtain⟨x,hx⟩:=ZaN (h1 i r r' hr hr') hy
    exact ih i r r' j x y hr hr' hx hy (hv i r j x hr hx)) trivial
   rw[hl]
   exact this
 | agg cs cs' hl hh ih =>
  cases h with
  | agg _ vs hl2 hone hv=>exact .agg cs' vs (by rw[<- hl];exact hl2) (fun y hy=>by
    obtain⟨j,hj,rfl⟩:=zaK hy
    obtain⟨x,hx⟩:=ZaN hl (zab hj)
    rw[<- (hh j x _ hx (zab hj)).one]
    exact hone x (zaN hx)) (fun i y u hy hu=>by
    obtain⟨x,hx⟩:=ZaN hl hy
    exact ih i x y hx hy (hv i x u hx hu))
 | tup cs cs' hl hh ih =>
  cases h with
  | tup _ vs hl2 hv=>exact .tup cs' vs (by rw[<- hl];exact hl2) (fun i y u hy hu=>by
    obtain⟨x,hx⟩:=ZaN hl hy
    exact ih i x y hx hy (hv i x u hx hu))
end
theorem Zb6.wkn {r v:AV} {H H2:Zaa} (hr:Wkn r v) (h:Zaa.Ext H2 H):Zb6 r H v (H2.bump (H.next - H2.next)):=fun g w u hv hW=>by
 obtain⟨k1,k2⟩:=Zf3 hW (H2:=H2.bump (H.next - H2.next)) (fun i o hi=>h.get i o hi) (by have:=h.next;simp;omega)
 exact⟨g,hv.wkn hr,k1,k2⟩
theorem Zc1 {r v:AV} {H0 H:Zaa} (hr:Wkn r v) (hx:Zaa.Ext H0 H:=by exact AXT):∃r2 H2,Zb6 r H r2 H2/\Pure H0 v r2 H2:=⟨_,_,Zb6.wkn hr hx,rfl,_,rfl⟩
structure Tir where
 name:Tx
 terms:List Tx
 up:List Int
structure Dm where
 name:Tx
 tiers:List Tir
structure Sc where
 dims:List Dm
 meas:List Tx
def ZcS (c:UInt8):Bool:=(decide ((97:Int)<=c.toNat)&&decide ((c.toNat:Int)<=122)) || (decide ((48:Int)<=c.toNat)&&decide ((c.toNat:Int)<=57)) || ((c.toNat:Int) == 95)
def ZbK (s:Tx):Bool:=!decide (s=[])&&!decide ((s.length:Int) > 12)&&s.all ZcS
def isT (s:Tx):Bool:=decide ((s.length:Int)≥1)&&decide ((s.length:Int)<=16)
def geT (w:Option Tx) (s:Tx):Bool:=match w with
 | some q=>!decide (q<s)
 | none=>false
def Zgt:Option Tx->List Tx->Int
 | _,[]=>0
 | w,s :: r=>if isT s=false then 2 else if geT w s=true then 4 else Zgt (some s) r
def Zg2 (l:List Int):List (Int×Int):=l.foldl (fun M n=>ZbU n 1 M) []
def inU (a n:Int):Bool:=!decide (n<0)&&!decide (n≥a)
def ZdD (up:List Int) (members above:Int):Bool :=
 if above<=0 then ((up.length:Int) == 0) else if (up.length:Int)≠members then false else up.all (inU above)&&(((Zg2 up).length:Int) == above)
def ZbO (t:Tir) (above:Int):Int :=
 if ZbK t.name=false then 2 else if (t.terms.length:Int)<1\/(t.terms.length:Int) > 200 then 5 else if Zgt none t.terms≠0 then Zgt none t.terms else if ZdD t.up t.terms.length above=false then 14 else 0
def ZbR:List Tir->Int
 | []=>0
 | u :: _=>(u.terms.length:Int)
def Zkb (seen:List Tx):List Tir->Int
 | []=>0
 | t :: r=>if ZbO t (ZbR r)≠0 then ZbO t (ZbR r) else if t.name∈seen then 11 else Zkb (seen++[t.name]) r
def Zdv (d:Dm):Int:=if ZbK d.name=false then 2 else if (d.tiers.length:Int)<1\/(d.tiers.length:Int) > 4 then 5 else Zkb [] d.tiers
def Zgh (seen:List Tx):List Tx->Int
 | []=>0
 | s :: r=>if ZbK s=false then 2 else if s∈seen then 11 else Zgh (seen++[s]) r
def Zd8 (l:List Tx):Int:=if (l.length:Int)<1\/(l.length:Int) > 3 then 5 else Zgh [] l
def Zd1 (seen:List Tx):List Dm->Int
 | []=>0
 | d :: r=>if Zdv d≠0 then Zdv d else if d.name∈seen then 11 else Zd1 (seen++[d.name]) r
def scE (s:Sc):Int:=if (s.dims.length:Int)<1\/(s.dims.length:Int) > 16 then 5 else if Zd1 [] s.dims≠0 then Zd1 [] s.dims else Zd8 s.meas
end Go.Proofs.YtfjjpndoeppbhaaGreatDoor
