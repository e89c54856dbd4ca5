/- Texts of the walk. -/
import Derived.Test.YtdfgoekdlmkdfaaGreatDoorMm
namespace Go.Proofs.YtdfgoekdlmkdfaaGreatDoor
set_option linter.defProp false
set_option maxHeartbeats 64000000
set_option linter.unusedSimpArgs false
set_option linter.unusedVariables false
open Go.RowKit Go.Lib
theorem ZDh:∀a b:Fin 10,1<=a.val->a.val<=b.val->ZBa a.val<=ZBa b.val/\(b.val<9->ZBa b.val+2 ^ (8 - b.val)=ZBa (b.val+1))/\ZBa b.val<=255:=by decide +kernel
theorem ZIg {n:Nat} (hn:n<18446744073709551616):(UInt8.ofNat (ZBa (ZA5 n)+n / 256 ^ (ZA5 n - 1))).toNat=ZBa (ZA5 n)+n / 256 ^ (ZA5 n - 1)/\(ZA5 n<9->ZBa (ZA5 n)+n / 256 ^ (ZA5 n - 1)<ZBa (ZA5 n+1)):=by
 obtain⟨h1,h9⟩:=ZA7 n
 obtain⟨a,b⟩:=ZD2 h1 h9 (ZC3 (n:=n)) hn
 generalize n / 256 ^ (ZA5 n - 1)=q at *
 generalize ZA5 n=s at *
 obtain⟨_,m2,m3⟩:=ZDh ⟨s,Xa⟩ ⟨s,Xa⟩ h1 (zad _)
 simp only at m2 m3
 have:ZBa s+q<256/\(s<9->ZBa s+q<ZBa (s+1)):=by
  by_cases h:s<9
  ·have h2:=a h
   have h3:=m2 h
   have h4:ZBa (s+1)<=256:=Nat.sub_le _ _
   exact⟨Xa,fun _=>by omega⟩
  ·have h2:=b Xa
   exact⟨Xa,fun h'=>absurd h' h⟩
 refine⟨?_,this.2⟩
 rw[UInt8.toNat_ofNat']
 omega
open Go.RowKit Go.Lib
open Go.RowKit Go.Lib
theorem ZGH:∀(l:List Tx) (w:Option Tx),Zgt w l=0->∀(i:Nat) (h:i<l.length),isT l[i]=true/\ZGI (w.getD []) (l.take i)<l[i]
 | [],_,_,i,h=>by simp at h
 | s :: r,w,he,i,h=>by
  rw[Zhp]at he
  split at he
  ·cases he
  ·rename_i h1
   split at he
   ·cases he
   ·rename_i h2
    have h1:isT s=true:=by simpa using h1
    cases i with
    | zero =>
     refine⟨h1,?_⟩
     show w.getD []<s
     cases w with
     | none =>
      cases s with
      | nil=>simp[isT]at h1
      | cons x s=>exact List.nil_lt_cons _ _
     | some q=>simpa [geT] using h2
    | succ i=>exact ZGH r (some s) he i (by simpa using h)
theorem ZG0 {l:List Tx} (he:Zgt none l=0) {i:Nat} (h:i<l.length):isT l[i]=true/\lastT l i<l[i]:=by
 have:=ZGH l none he i h
 rw[Option.getD_none,ZDk Xa]at this
 exact this
theorem Zfm (t:Tok) (rows:List (List AV)):Wkn (.sl t rows) (.sl .no rows):=.sl t rows rows rfl (fun i r r' h h'=>by rw[h]at h';injection h' with h';rw[h']) (fun i r r' j x y h h' hx hy=>by
 rw[h]at h';injection h' with h';subst h';rw[hx]at hy;injection hy with hy;rw[hy];exact .refl _)
theorem ZC5 {a b b':AV} (h:Wkn b b'):Wkn (.tup [a,b]) (.tup [a,b']):=.tup _ _ rfl fun i x y hx hy=>by
 match i with
 | 0=>simp at hx hy;subst hx hy;exact .refl _
 | 1=>simp at hx hy;subst hx hy;exact h
 | i+2=>simp at hx
open Go.RowKit
theorem Zay.wknA {P:Program} {f:FuncId} {xs bs:List AV} {H:Zaa} {R:AV->Zaa->Prop} (h:Zay P f bs H R) (hl:xs.length=bs.length) (hw:∀(i:Nat) x y,xs[i]?=some x->bs[i]?=some y->Wkn x y):Zay P f xs H R :=
 ⟨h.1,fun g w vs hW hV hEn=>h.2 g w vs hW ⟨by rw[<- hl];exact hV.1,fun i y u hy hu=>by
  obtain⟨x,hx⟩:=ZaN hl hy
  exact(hV.2 i x u hx hu).wkn (hw i x y hx hy)⟩ hEn⟩
open Go.RowKit Go.Lib
theorem ZD0 {up:List Int} {m above:Int} (h:ZdD up m above=true):(above<=0->up=[])/\(0<above->(up.length:Int)=m/\∀n∈up,0<=n/\n<above):=by
 unfold ZdD at h
 constructor
 ·intro ha
  rw[if_pos ha]at h
  simpa using h
 ·intro ha
  rw[if_neg Xa]at h
  split at h
  ·cases h
  ·rename_i h1
   rw[zaI,zaA]at h
   refine⟨Xa,fun n hn=>?_⟩
   have:=h.1 n hn
   unfold inU at this
   simp at this
   omega
theorem ZBT {t:Tir} {above:Int} (h:ZbO t above=0):ZdD t.up t.terms.length above=true/\t.terms.length<=200/\t.name.length<=12:=by
 unfold ZbO at h
 split at h
 ·cases h
 ·rename_i hn
  split at h
  ·cases h
  ·split at h
   ·exact absurd h (by assumption)
   ·split at h
    ·cases h
    ·rename_i h1 _ h3
     refine⟨by simpa using h3,Xa,?_⟩
     have:ZbK t.name=true:=by simpa using hn
     unfold ZbK at this
     simp at this
     omega
abbrev zT:List AV:=[eS [],.sl .full [],.sl .full []]
abbrev zR:List AV:=[eS [],.i 0,.i 0]
theorem ZLn (t:Tir) (tok:Tok):Wkn (.agg [eS t.name,.sl .no (rS t.terms),.sl tok (rI t.up)]) (.agg (eTr t)):=.agg _ _ rfl fun i x y hx hy=>by
 unfold eTr at hy
 match i with
 | 0=>simp at hx hy;subst hx hy;exact .refl _
 | 1=>simp at hx hy;subst hx hy;exact .refl _
 | 2=>simp at hx hy;subst hx hy;exact Zfm _ _
 | i+3=>simp at hx
theorem ZHa {P:Program} {f:FuncId} {a b c:AV} {H:Zaa} {R:AV->Zaa->Prop} (hw:Wkn a b) (h:Zay P f [b,c] H R):Zay P f [a,c] H R:=h.wknA rfl fun i x y hx hy=>by
 match i with
 | 0=>simp at hx hy;subst hx hy;exact hw
 | 1=>simp at hx hy;subst hx hy;exact .refl _
 | i+2=>simp at hx
theorem ZEI {P:Program} {f:FuncId} {a b:AV} {H:Zaa} {R:AV->Zaa->Prop} (hw:Wkn a b) (h:Zay P f [b] H R):Zay P f [a] H R:=h.wknA rfl fun i x y hx hy=>by
 match i with
 | 0=>simp at hx hy;subst hx hy;exact hw
 | i+1=>simp at hx
open Go.RowKit Go.Lib
abbrev zD:List AV:=[eS [],.sl .full []]
theorem ZC9 {l:List Tir} {m:Nat} (h:m<l.length):ZbR (l.drop m)=(l[m].terms.length:Int):=by rw[zal h];rfl
theorem ZK0 (d:Dm) (tok:Tok):Wkn (.agg [eS d.name,.sl tok (rT d.tiers)]) (.agg (eDm d)):=.agg _ _ rfl fun i x y hx hy=>by
 unfold eDm at hy
 match i with
 | 0=>simp at hx hy;subst hx hy;exact .refl _
 | 1=>simp at hx hy;subst hx hy;exact Zfm _ _
 | i+2=>simp at hx
open Go.RowKit Go.Lib
abbrev zS:List AV:=[.sl .full [],.sl .full []]
theorem ZDt:∀{l:List Tx} {seen:List Tx},Zgh seen l=0->∀s∈l,s.length<=12
 | [],_,_,s,h=>by cases h
 | t :: r,seen,hd,s,h=>by
  unfold Zgh at hd
  split at hd
  ·cases hd
  ·rename_i hn
   split at hd
   ·cases hd
   ·rcases zak.1 h with rfl|h
    ·have:ZbK s=true:=by simpa using hn
     unfold ZbK at this
     simp at this
     omega
    ·exact ZDt hd s h
theorem ZJ9 (s:Sc) (t1 t2:Tok):Wkn (.agg [.sl t1 (rD s.dims),.sl t2 (rS s.meas)]) (.agg (eSc s)):=.agg _ _ rfl fun i x y hx hy=>by
 unfold eSc at hy
 match i with
 | 0=>simp at hx hy;subst hx hy;exact Zfm _ _
 | 1=>simp at hx hy;subst hx hy;exact Zfm _ _
 | i+2=>simp at hx
theorem ZCV {s:Sc} (he:scE s=0):s.dims.length<=16/\(∀d∈s.dims,Zdv d=0)/\s.meas.length<=3/\∀m∈s.meas,m.length<=12:=by
 unfold scE at he
 split at he
 ·cases he
 ·split at he
  ·exact absurd he (by assumption)
  ·rename_i h1 h2
   unfold Zd8 at he
   split at he
   ·cases he
   ·exact⟨Xa,ZDX (by simpa using h2),Xa,ZDt he⟩
end Go.Proofs.YtdfgoekdlmkdfaaGreatDoor
