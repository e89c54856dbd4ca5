/- Texts of the walk. -/
import Derived.Test.YtdfgoekdlmkdfaaGreatDoorNh
import Derived.Test.YtdfgoekdlmkdfaaGreatDoorMv
namespace Go.Proofs.YtdfgoekdlmkdfaaGreatDoor
set_option linter.defProp false
set_option maxHeartbeats 64000000
set_option linter.unusedSimpArgs false
set_option linter.unusedVariables false
open Go.RowKit Go.Lib
structure Cst (l:List Tx) (B:Nat):Prop where
 s:ZAr l+27 * l.length<=48 * B
 n:l.length<=B
theorem ZH5 (w:Tx) (l:List Tx):ZAr (w :: l)=w.length+ZAr l:=by simp[ZAr]
theorem Cst.nil (B:Nat):Cst [] B:=⟨by simp[ZAr],zas _⟩
theorem Cst.app {a b:List Tx} {A B:Nat} (h:Cst a A) (k:Cst b B):Cst (a++b) (A+B):=by
 obtain⟨h1,h2⟩:=h
 obtain⟨k1,k2⟩:=k
 exact⟨by rw[ZJ0,zaa];omega,by rw[zaa];omega⟩
theorem Cst.mono {a:List Tx} {A B:Nat} (h:Cst a A) (k:A<=B):Cst a B:=⟨by have:=h.s;omega,by have:=h.n;omega⟩
theorem Cst.one {w:Tx} {B:Nat} (h:w.length+27<=48 * B):Cst [w] B:=⟨by simp[ZAr];omega,by rw[List.length_singleton];omega⟩
theorem joinJ (l:List Tx):(ZBb l).length=ZAr l+l.length:=by
 induction l with
 | nil=>rfl
 | cons w l ih=>rw[ZBS,zaa,List.length_cons,ih,ZH5,List.length_cons];omega
theorem ZHT (n:Nat):1<=(ZA2 n).length:=by rw[ZA3];exact(ZA7 n).1
theorem ZHZ (s:Tx):s.length+1<=(ZA4 s).length:=by
 have:=ZHT s.length
 unfold ZA4
 rw[zaa];omega
theorem ZJv:∀(l:List Tx) (w:Tx),2 * l.length<=(ZBl w l).length
 | [],_=>by simp
 | s :: r,w=>by
  have ih:=ZJv r s
  have h1:=ZHT (ZB1 w s)
  have h2:=ZHZ (s.drop (ZB1 w s))
  rw[ZBl,zaa,zaa,List.length_cons];omega
theorem ZJ4 (l:List Tx):2 * l.length+1<=(ZB5 l).length:=by
 have h1:=ZJv l []
 have h2:=ZHT l.length
 unfold ZB5
 rw[zaa];omega
theorem tier_cst {t:Tir} {q:List Tir} (ht:TSm t) (h:∀u∈q,∀s∈u.terms,s.length<=16):Cst (ZCX t q) (ZB0 t).length:=by
 have h1:=ZCk t q ht h t.terms.length
 rw[joinJ,zan,zb8]at h1
 have h2:=ZHZ t.name
 have h3:=ZJ4 t.terms
 have h4:=ht.name
 unfold ZCX ZB0
 constructor
 ·simp only[ZH5,List.length_cons,zan,zb8,zaa];omega
 ·simp only[List.length_cons,zan,zb8,zaa];omega
theorem ZJe:∀{l:List Tir},(∀t∈l,TSm t)->Cst (ZA9 l) ((l.reverse.flatMap ZB0).length)
 | [],_=>Cst.nil _
 | t :: q,h=>by
  have ih:=ZJe (l:=q) fun t ht=>h t (by simp[ht])
  have h1:=tier_cst (t:=t) (q:=q) (h t Xc) fun u hu=>(h u (by simp[hu])).txt
  rw[ZA9,zb7,za5,zaa]
  refine ih.app (h1.mono ?_)
  simp
theorem dim_cst {d:Dm} (h:DOk d):Cst (ZCM d) (dmB d).length:=by
 have h1:=ZJe h.sm
 have h2:=ZHZ d.name
 have h3:=h.name
 have h4:=ZHT d.tiers.length
 have h5:Cst [64 :: d.name] ((ZA4 d.name).length+(ZA2 d.tiers.length).length):=Cst.one (by rw[List.length_cons];omega)
 have:=h5.app h1
 unfold dmB
 rw[zaa,zaa]
 exact this
theorem ZI0 {α:Type} {f:α->List Tx} {g:α->Tx}:∀{l:List α},(∀x∈l,Cst (f x) (g x).length)->Cst (l.flatMap f) (l.flatMap g).length
 | [],_=>Cst.nil _
 | x :: l,h=>by
  rw[zaz,zaz,zaa]
  exact(h x Xc).app (ZI0 fun y hy=>h y (by simp[hy]))
theorem ZLf {s:Sc} (he:scE s=0):Cst (ZBi s) (scB s).length:=by
 obtain⟨h1,h2,h3,h4⟩:=ZCV he
 have k1:=ZI0 (f:=ZCM) (g:=dmB) (l:=s.dims) fun d hd=>dim_cst (ZC4 (h2 d hd))
 have k2:Cst (s.meas.map (43 :: ·)) (s.meas.flatMap ZA4).length:=by
  have:=ZI0 (f:=fun m:Tx=>[43 :: m]) (g:=ZA4) (l:=s.meas) fun m hm=>Cst.one (by
   have:=ZHZ m
   have:=h4 m hm
   rw[List.length_cons];omega)
  have e:s.meas.flatMap (fun m:Tx=>[43 :: m])=s.meas.map (43 :: ·):=by
   induction s.meas with
   | nil=>rfl
   | cons m l ih=>rw[zaz,ih];rfl
  rw[<- e];exact this
 refine(k1.app k2).mono ?_
 unfold scB
 simp only[zaa]
 omega
theorem ZJo (l:List Tx):(ZAc l).length<=2 * (l.flatMap ZA4).length:=by
 have h1:=ZAw [44] (l.map ZyH)
 have h2:=ZAj l
 have h3:∀l:List Tx,ZAr l+l.length<=(l.flatMap ZA4).length:=by
  intro l
  induction l with
  | nil=>simp[ZAr]
  | cons t l ih =>
   have:=ZHZ t
   rw[ZH5,List.length_cons,zaz,zaa];omega
 have h4:=h3 l
 simp only[List.length_cons,List.length_nil,zan]at h1
 unfold ZAc
 omega
theorem rw_bytes {x:Rw} (h:RwS x):(rwW x).length<=21 * (rwB x).length+1:=by
 have h1:=ZJo x.terms
 have h2:=ZIh h.i
 have h3:∀l:List Int,l.length<=(l.flatMap ZCF).length:=by
  intro l
  induction l with
  | nil=>simp
  | cons n l ih =>
   have:=ZHT (ZDq n)
   rw[zaz,zaa,List.length_cons]
   unfold ZCF at ih ⊢
   omega
 have h4:=h3 x.vals
 unfold rwW rwB
 rw[zaa,List.length_cons,zaa]
 omega
theorem ZJq:∀{l:List Rw},(∀x∈l,RwS x)->ZAr (l.map rwW)<=21 * (l.flatMap rwB).length+l.length
 | [],_=>by simp[ZAr]
 | x :: l,h=>by
  have h1:=rw_bytes (h x Xc)
  have h2:=ZJq (l:=l) fun y hy=>h y (by simp[hy])
  rw[zao,ZH5,zaz,zaa,List.length_cons];omega
theorem pk_bytes {p:Pk} (h:ZIZ p):(pkW p).length<=17 * (pkB p).length:=by
 have t1:=Zz8 (ZHJ (n:=p.tier) (by have:=h.t;omega))
 have t2:=Zz8 (ZHJ (n:=p.by' - 1) (by have:=h.b;omega))
 have w1:=ZzU p.lo
 have w2:=ZzU p.hi
 have b1:=ZHZ p.lo
 have b2:=ZHZ p.hi
 have b3:=ZJ4 p.set
 have b4:=ZHT p.filt
 have b5:=ZHT p.tier
 have b6:=ZHT p.by'
 have hj:=ZAw [44] (p.set.map ZyH)
 have hsw:=ZAj p.set
 have hs16:=ZIf (ZKl h.set)
 simp only[List.length_cons,List.length_nil,zan]at hj
 have hws:(ZAc p.set).length<=34 * p.set.length:=by unfold ZAc;omega
 have hby:(if p.by'=0 then ([]:Tx) else 47 :: itoa ((p.by' - 1:Nat):Int)).length<=21:=by
  split
  ·simp
  ·rw[List.length_cons];omega
 rw[ZJc,zaa]
 unfold pkF pkB
 rw[zaa,zaa]
 by_cases h1:p.filt=1
 ·rw[if_pos h1,if_pos h1]
  simp only[zaa,List.length_cons]
  omega
 ·rw[if_neg h1,if_neg h1]
  by_cases h2:p.filt=2
  ·rw[if_pos h2,if_pos h2]
   simp only[zaa,List.length_cons]
   omega
  ·rw[if_neg h2,if_neg h2]
   simp only[List.length_cons,List.length_nil]
   omega
theorem ZJs:∀{l:List Pk},(∀p∈l,ZIZ p)->ZAr (l.map pkW)<=17 * (l.flatMap pkB).length
 | [],_=>by simp[ZAr]
 | x :: l,h=>by
  have h1:=pk_bytes (h x Xc)
  have h2:=ZJs (l:=l) fun y hy=>h y (by simp[hy])
  rw[zao,ZH5,zaz,zaa];omega
theorem ZKD (t:Tir) (q:List Tir) (ht:∀s∈t.terms,s.length<=16) (h:∀u∈q,∀s∈u.terms,s.length<=16) (i:Nat):(ZCQ t q i).length<=5000:=by
 have h1:=ZBY (ZFB t.terms i ht)
 have h2:=ZFP q (t.up.getD i 0) h
 simp only[ZCQ,List.length_cons,zaa]
 omega
theorem ZIr:∀{l:List Tir},(∀t∈l,TSm t)->∀w∈ZA9 l,w.length<=5000
 | [],_,w,hw=>by cases hw
 | t :: q,h,w,hw=>by
  rw[ZA9]at hw
  rcases zaj.1 hw with hw|hw
  ·exact ZIr (fun u hu=>h u (by simp[hu])) w hw
  ·unfold ZCX at hw
   rcases zak.1 hw with rfl|hw
   ·have:=(h t Xc).name
    rw[List.length_cons];omega
   ·obtain⟨i,_,rfl⟩:=List.mem_map.1 hw
    exact ZKD t q (h t Xc).txt (fun u hu=>(h u (by simp[hu])).txt) i
theorem ZKJ {d:Dm} (h:DOk d):∀w∈ZCM d,w.length<=5000:=fun w hw=>by
 unfold ZCM at hw
 rcases zak.1 hw with rfl|hw
 ·have:=h.name
  rw[List.length_cons];omega
 ·exact ZIr h.sm w hw
theorem ZLo {s:Sc} (he:scE s=0):1<=s.meas.length:=by
 unfold scE at he
 split at he
 ·cases he
 ·split at he
  ·exact absurd he (by assumption)
  ·unfold Zd8 at he
   split at he
   ·cases he
   ·omega
theorem ZH2 (n:Int):(32:UInt8) ∉ itoa n:=fun h=>by
 have:=ZFN n _ h
 revert this
 decide
theorem rwW_no32 (x:Rw):(32:UInt8) ∉ rwW x:=by
 have h1:=ZIe (x:=32) Xb Xb x.terms
 unfold rwW
 simp only[zaj,zak,not_or]
 refine⟨h1,Xb,fun h=>?_⟩
 have:∀l:List Int,(32:UInt8) ∉ Lib.join (l.map itoa) [44]:=by
  intro l
  cases l with
  | nil=>simp[Lib.join]
  | cons n l =>
   rw[zao,join_cons]
   rw[zaj,not_or]
   refine⟨ZH2 n,fun h=>?_⟩
   obtain⟨w,hw,h⟩:=List.mem_flatMap.1 h
   obtain⟨m,_,rfl⟩:=List.mem_map.1 hw
   rcases zak.1 h with h|h
   ·exact absurd h Xb
   ·exact ZH2 m h
 exact this _ h
theorem pkW_no32 (p:Pk):(32:UInt8) ∉ pkW p:=by
 have h1:=ZIe (x:=32) Xb Xb p.set
 have h2:=ZEn p.lo
 have h3:=ZEn p.hi
 have h4:=ZH2 p.tier
 have h5:=ZH2 ((p.by' - 1:Nat):Int)
 rw[ZJc]
 unfold pkF
 simp only[zaj,not_or]
 constructor
 ·split
  ·simp only[zaj,zak,not_or]
   exact⟨h4,Xb,h2,Xb,h3⟩
  ·split
   ·simp only[zaj,zak,not_or]
    exact⟨h4,Xb,h1⟩
   ·decide
 ·split
  ·simp
  ·simp only[zak,not_or]
   exact⟨Xb,h5⟩
theorem ZKn {h:Tx} {l:List Tx} (h0:(32:UInt8) ∉ h) (hl:∀w∈l,(32:UInt8) ∉ w):ZyA 32 (h++ZBb l)=h :: l:=by
 refine ZDB fun w hw=>?_
 rcases zak.1 hw with rfl|hw
 ·exact h0
 ·exact hl w hw
open Go.RowKit Go.Lib
theorem ZLM (k:Int) (d:Tx):ZyA 32 (ZH9 k d)=[ZLT,itoa k,ZyH d]:=by
 unfold ZH9
 rw[ZEf _ Xb,ZEf _ (ZH2 k),ZGY (ZEn d)]
theorem ZJ1 {k:Int} {d:Tx} (hk:InI k) (hd:d.length<=2000):ZDl (ZH9 k d)=some (k,d)/\PreL (ZH9 k d)/\(ZH9 k d).length<=100000:=by
 have hp:=ZLM k d
 have h1:=Zz8 hk
 have h2:=ZzU d
 refine⟨?_,fun h r e=>?_,?_⟩
 ·unfold ZDl
  rw[hp]
  simp only[if_true]
  unfold rawP
  simp only[ZJ2 hk,ZzS]
 ·rw[hp]at e
  injection e with e1 e2
  subst e1 e2
  exact⟨fun _=>⟨by simp[ZAr];omega,Xc⟩,fun h=>absurd rfl h⟩
 ·unfold ZH9 ZLT
  simp only[zaa,List.length_cons,List.length_nil];omega
theorem ZHO {hd d:Tx} {l:List Tx} {kk:Int} (h0:(32:UInt8) ∉ hd) (hl:∀w∈l,(32:UInt8) ∉ w) (hr:hd≠ZLT) (hk:ZBu hd=kk) (hz:kk≠0) (hb:ZDp kk l=some d) (hp:PreP kk l):ZDl (hd++ZBb l)=some (kk,d)/\PreL (hd++ZBb l):=by
 have hpt:=ZKn h0 hl
 constructor
 ·unfold ZDl
  rw[hpt]
  simp only
  rw[if_neg hr,hk,if_neg hz,hb]
  rfl
 ·intro h r e
  rw[hpt]at e
  injection e with e1 e2
  subst e1 e2
  exact⟨fun h=>absurd h hr,fun _=>by rw[hk];exact hp⟩
theorem ZKr:ZBu ZA8=1/\ZBu ZBN=2/\ZBu ZBy=3/\ZBu ZBk=4/\ZBu ZF3=5/\ZBu ZCB=6/\ZBu ZDA=7:=by decide +kernel
theorem pre_none (kk:Int) (h1:kk≠1) (h2:¬(kk=2\/kk=3)) (h5:kk≠5):PreP kk []:=⟨Xc,fun h=>absurd h h1,fun h=>absurd h h2,fun h=>absurd h h5,fun _ w hw=>(by cases hw),fun _ w hw=>(by cases hw)⟩
theorem ZLu {s:Sc} {k:Int} {d:Tx} (hk:InI k) (hd:d.length<=2000):ZDl (showW s k d)=some (k,d)/\PreL (showW s k d)/\(showW s k d).length<=100000:=by
 have hraw:=ZJ1 hk hd
 obtain⟨k1,k2,k3,k4,k5,k6,k7⟩:=ZKr
 unfold showW
 by_cases h1:k=1
 ·subst h1
  rw[if_pos rfl]
  cases hw:wholeSc d with
  | none=>exact hraw
  | some x =>
   obtain⟨he,hx⟩:=ZI8 hw
   have hc:=ZLf he
   rw[<- hx]at hc
   have hb:ZDp 1 (ZBi x)=some d:=by
    unfold ZDp
    rw[if_pos rfl]
    unfold schP
    rw[ZGP he]
    show(if scE x=0/\ZBi x=ZBi x then some (scB x) else none)=some d
    rw[if_pos ⟨he,rfl⟩,hx]
   have hcs:=hc.s
   have hcn:=hc.n
   have hw5:∀w∈ZBi x,w.length<=5000:=by
    obtain⟨q1,q2,q3,q4⟩:=ZCV he
    intro w hw
    unfold ZBi at hw
    rcases zaj.1 hw with hw|hw
    ·obtain⟨dd,hdd,hw⟩:=List.mem_flatMap.1 hw
     exact ZKJ (ZC4 (q2 dd hdd)) w hw
    ·obtain⟨m,hm,rfl⟩:=List.mem_map.1 hw
     have:=q4 m hm
     rw[List.length_cons];omega
   have:=ZHO (hd:=ZA8) Xb (ZFZ he) Xb k1 Xb hb ⟨Xa,fun _=>by omega,fun h=>by rcases h with h|h<;>exact absurd h Xb,fun h=>absurd h Xb,fun _=>hw5,fun h=>absurd h Xb⟩
   refine⟨this.1,this.2,?_⟩
   show(ZA8++ZBb (ZBi x)).length<=100000
   rw[zaa,joinJ]
   have:ZA8.length=6:=rfl
   omega
 ·rw[if_neg h1]
  by_cases h2:k=2\/k=3
  ·rw[if_pos h2]
   cases hw:rowsR s d with
   | none=>exact hraw
   | some l =>
    obtain⟨he,hl3,hok,hrs,hx⟩:=ZIi hw
    have hm1:1<=s.meas.length:=ZLo he
    have hsum:=ZJq hrs
    have hdl:=congrArg List.length hx
    rw[zaa]at hdl
    have hb:∀kk,kk=2\/kk=3->ZDp kk (l.map rwW)=some d:=fun kk hkk=>by
     unfold ZDp
     rw[if_neg (by rcases hkk with rfl|rfl<;>decide),if_pos hkk,ZJn hm1 hok,zan,hx]
     rfl
    have hpp:∀kk,kk=2\/kk=3->PreP kk (l.map rwW):=fun kk hkk=>⟨by rw[zan];omega,fun h=>by subst h;rcases hkk with h|h<;>exact absurd h Xb,fun _=>by omega,fun h=>by subst h;rcases hkk with h|h<;>exact absurd h Xb,fun _ w hw=>by
     obtain⟨x,hx,rfl⟩:=List.mem_map.1 hw
     have:=ZIm (hrs x hx)
     omega,fun h=>by subst h;rcases hkk with h|h<;>exact absurd h Xb⟩
    have h32:∀w∈l.map rwW,(32:UInt8) ∉ w:=fun w hw=>by
     obtain⟨x,_,rfl⟩:=List.mem_map.1 hw
     exact rwW_no32 x
    have hjl:(ZBb (l.map rwW)).length<=60000:=by rw[joinJ,zan];omega
    simp only
    rcases h2 with rfl|rfl
    ·have:=ZHO (hd:=ZBN) Xb h32 Xb k2 Xb (hb 2 (.inl rfl)) (hpp 2 (.inl rfl))
     rw[if_pos rfl]
     refine⟨this.1,this.2,?_⟩
     rw[zaa]
     have:ZBN.length=4:=rfl
     omega
    ·have:=ZHO (hd:=ZBy) Xb h32 Xb k3 Xb (hb 3 (.inr rfl)) (hpp 3 (.inr rfl))
     rw[if_neg Xb]
     refine⟨this.1,this.2,?_⟩
     rw[zaa]
     have:ZBy.length=5:=rfl
     omega
  ·rw[if_neg h2]
   by_cases h5:k=5
   ·subst h5
    rw[if_pos rfl]
    cases hw:picksR s d with
    | none=>exact hraw
    | some l =>
     obtain⟨he,hl3,hps,hx⟩:=ZIw hw
     have hsum:=ZJs hps
     rw[<- hx]at hsum
     have hb:ZDp 5 (l.map pkW)=some d:=by
      unfold ZDp
      rw[if_neg Xb,if_neg Xb,if_pos rfl,ZIT hps,hx]
     have h32:∀w∈l.map pkW,(32:UInt8) ∉ w:=fun w hw=>by
      obtain⟨x,_,rfl⟩:=List.mem_map.1 hw
      exact pkW_no32 x
     have:=ZHO (hd:=ZF3) Xb h32 Xb k5 Xb hb ⟨by rw[zan];omega,fun h=>absurd h Xb,fun h=>by rcases h with h|h<;>exact absurd h Xb,fun _=>by omega,fun h=>by rcases h with h|h|h<;>exact absurd h Xb,fun _ w hw=>by
      obtain⟨x,hx,rfl⟩:=List.mem_map.1 hw
      have:=ZIx (hps x hx)
      omega⟩
     refine⟨this.1,this.2,?_⟩
     show(ZF3++ZBb (l.map pkW)).length<=100000
     rw[zaa,joinJ,zan]
     have:ZF3.length=3:=rfl
     omega
   ·rw[if_neg h5]
    have e0:∀t:Tx,t=t++ZBb []:=fun t=>(zaw t).symm
    have hb:∀kk:Int,kk≠1->¬(kk=2\/kk=3)->kk≠5->ZDp kk []=some []:=fun kk a b c=>by unfold ZDp;rw[if_neg a,if_neg b,if_neg c];rfl
    by_cases h4:d=[]/\k=4
    ·rw[if_pos h4]
     obtain⟨rfl,rfl⟩:=h4
     have:=ZHO (hd:=ZBk) (l:=[]) Xb (fun w hw=>by cases hw) Xb k4 Xb (hb 4 Xb Xb Xb) (pre_none 4 Xb Xb Xb)
     rw[<- e0]at this
     exact⟨this.1,this.2,Xb⟩
    ·rw[if_neg h4]
     by_cases h6:d=[]/\k=6
     ·rw[if_pos h6]
      obtain⟨rfl,rfl⟩:=h6
      have:=ZHO (hd:=ZCB) (l:=[]) Xb (fun w hw=>by cases hw) Xb k6 Xb (hb 6 Xb Xb Xb) (pre_none 6 Xb Xb Xb)
      rw[<- e0]at this
      exact⟨this.1,this.2,Xb⟩
     ·rw[if_neg h6]
      by_cases h7:d=[]/\k=7
      ·rw[if_pos h7]
       obtain⟨rfl,rfl⟩:=h7
       have:=ZHO (hd:=ZDA) (l:=[]) Xb (fun w hw=>by cases hw) Xb k7 Xb (hb 7 Xb Xb Xb) (pre_none 7 Xb Xb Xb)
       rw[<- e0]at this
       exact⟨this.1,this.2,Xb⟩
      ·rw[if_neg h7];exact hraw
open Go.RowKit
def wL1:Tx:=[108,111,97,100,32,97,44,98,61,51]
def wL2:Tx:=[97,115,107,32,42,32,48,61,120,44,121,47,49]
def wD2:Tx:=[0,0,2,0,2,0,1,120,0,1,121,2]
theorem wp1:ZDl wL1=some (2,[1,1,97,1,98,6]):=by decide +kernel
theorem wp2:ZDl wL2=some (5,wD2):=by decide +kernel
theorem pre_of {L h:Tx} {r:List Tx} (hp:ZyA 32 L=h :: r) (h0:h≠ZLT) (hn:r.length<=3) (hk:ZBu h≠1) (hw:∀w∈r,w.length<=10) (hs:ZAr r<=100):PreL L:=fun h' r' e=>by
 rw[hp]at e
 obtain⟨rfl,rfl⟩:=List.cons.inj e
 exact⟨fun e=>absurd e h0,fun _=>⟨Xa,fun e=>absurd e hk,fun _=>by omega,fun _=>by omega,fun _ w hw'=>by have:=hw w hw';omega,fun _ w hw'=>by have:=hw w hw';omega⟩⟩
theorem wq1:PreL wL1:=pre_of (h:=ZBN) (r:=[[97,44,98,61,51]]) (by decide +kernel) Xb Xb Xb Xb Xb
theorem wq2:PreL wL2:=pre_of (h:=ZF3) (r:=[[42],[48,61,120,44,121,47,49]]) (by decide +kernel) Xb Xb Xb Xb Xb
theorem ZLS (H:Zaa):Zay Tryz.prog 5 [] H (Pure H (.b true)):=by
 have hx0:Zaa.Ext H H:=.refl _
 have hp1:=fun H=>ZE1 wL1 H Xb wq1
 have hp2:=fun H=>ZE1 wL2 H Xb wq2
 rw[wp1]at hp1
 rw[wp2]at hp2
 have hp1:∀H,Zay Tryz.prog 7 [.sc (.string ⟨#[108,111,97,100,32,97,44,98,61,51]⟩)] H (Pure H (.tup [.agg [.i 2,.sc (.string ⟨#[1,1,97,1,98,6]⟩)],.i 0])):=hp1
 have hp2:∀H,Zay Tryz.prog 7 [.sc (.string ⟨#[97,115,107,32,42,32,48,61,120,44,121,47,49]⟩)] H (Pure H (.tup [.agg [.i 5,eS wD2],.i 0])):=hp2
 have u1:scs [.int .i64,.str] [.i 2,.sc (.string ⟨#[1,1,97,1,98,6]⟩)]=some [.int .i64 2,.string ⟨#[1,1,97,1,98,6]⟩]:=rfl
 have u2:ZgE [.int .i64 2,.string ⟨#[1,1,97,1,98,6]⟩] [.int .i64 2,.string ⟨#[1,1,97,1,98,6]⟩]=true:=Xb
 have u3:wD2.length=12:=rfl
 have z0:((0:Int) == 0)=true:=rfl
 have z5:((5:Int) == 5)=true:=rfl
 have z6:(((12:Nat):Int) == 12)=true:=rfl
 have z7:((12:Int) == 12)=true:=rfl
 generalize wD2=d at *
 refine fnQ cf5 fun Q qr qn=>?_
 refine Bz0 ?_
 refine qcp (hp1 _) fun k1=>?_
 refine Bz0 ?_
 refine qcp (hp2 _) fun k2=>?_
 refine Bz1 (X7 u1 u2 u3 z0 z5 z6 z7) ?_
 exact ZaW xX rfl
theorem ZLc {s:Sc} (h:FewS s):Zh1 s:=fun d hd t ht=>by
 have:=((h.2 d hd).2 t ht).2
 unfold Zgr;omega
theorem HX.toExt {H G:Zaa} (h:HX [] H G):Zaa.Ext H G:=⟨h.n,fun i o hg=>(h.g i (Zaa.lt hg) Xc).trans hg⟩
theorem ZJW (s:Sc) (k:Int) (d:Tx) (H:Zaa) (hk:InI k):Zay Tryz.prog 3 [.agg (eSc s),.agg [.i k,eS d]] H (ZrY H (.b true)):=by
 have hx0:Zaa.Ext H H:=.refl _
 obtain⟨e0,e1,e2,e3⟩:=ZbB s
 have hfew:=fun H=>ZiT s H
 have fin:∀{G:Zaa},Zaa.Ext H G->∃r2 H2,Zb6 (.b true) G r2 H2/\ZrY H (.b true) r2 H2:=fun hx=>⟨_,_,Zb6.keep (fun _ _ h=>h) (zad _),rfl,hx⟩
 refine fnQ cf3 fun Q qr qn=>?_
 refine Bz1 (X2 e0 e3) ?_
 refine Zap.use (hfew _) ?_
 rintro _ G ⟨hxG,bf,rfl,hbf⟩
 have hxG:=hxG.toExt
 have g2:=hxG.get H.next (.cells (eSc s) 25) (by rw[Zaa.Zag Xe];exact Zaa.Zae)
 have g3:=hxG.get (H.next+1) (.cells [.i k,eS d] 27) (Zaa.Zat xN)
 have hxH:Zaa.Ext H G:=Zaa.Ext.trans xX hxG
 cases bf with
 | false =>
  refine Bz1 (X2 g2 g3) ?_
  refine qcp (ZLS _) fun k1=>?_
  refine Bz0 ?_
  exact fin xX
 | true =>
  have hsm:=ZLc (hbf rfl)
  by_cases hd:(d.length:Int) > 2000
  ·have d1:decide ((d.length:Int) > 2000)=true:=decide_eq_true hd
   refine Bz1 (X3 g2 g3 d1) ?_
   refine qcp (ZLS _) fun k1=>?_
   refine Bz0 ?_
   exact fin xX
  ·have d1:decide ((d.length:Int) > 2000)=false:=decide_eq_false hd
   have hsh:=fun H=>ZKt s k d H hsm hk Xa
   have hrs:=fun H=>ZJT s k d H hsm hk Xa
   have hrw:=fun H=>ZIM k d H hk Xa
   obtain⟨p1,p2,p3⟩:=ZLu (s:=s) hk (show d.length<=2000 by omega)
   obtain⟨q1,q2,q3⟩:=ZJ1 hk (show d.length<=2000 by omega)
   have hp1:=fun H=>ZE1 (showW s k d) H p3 p2
   have hp2:=fun H=>ZE1 (ZH9 k d) H q3 q2
   rw[p1]at hp1
   rw[q1]at hp2
   have hp1:∀H,Zay Tryz.prog 7 [eS (showW s k d)] H (Pure H (.tup [.agg [.i k,eS d],.i 0])):=hp1
   have hp2:∀H,Zay Tryz.prog 7 [eS (ZH9 k d)] H (Pure H (.tup [.agg [.i k,eS d],.i 0])):=hp2
   generalize showW s k d=L at *
   generalize ZH9 k d=R at *
   have u1:scs [.int .i64,.str] [.i k,eS d]=some [.int .i64 k,.string ⟨d.toArray⟩]:=rfl
   have u2:ZgE [.int .i64 k,.string ⟨d.toArray⟩] [.int .i64 k,.string ⟨d.toArray⟩]=true:=by
    simp[ZgE,vEq,(Zmh _ _).2]
   have z0:((0:Int) == 0)=true:=rfl
   have dL:decide (L=L)=true:=decide_eq_true rfl
   have l2:=Zaa.lt g2
   have l3:=Zaa.lt g3
   refine Bz1 (X5 g2 g3 d1 e0 e3) ?_
   refine qcp (hsh _) fun k1=>?_
   refine Bz1 (X4 g2 g3 e0 e3) ?_
   refine qcp (hp1 _) fun k2=>?_
   refine Bz1 (X4 g2 g3 e0 e3) ?_
   refine qcp (hrw _) fun k3=>?_
   refine Bz1 (X4 g2 g3 e0 e3) ?_
   refine qcp (hp2 _) fun k4=>?_
   refine Bz1 (X4 g2 g3 e0 e3) ?_
   refine qcp (hrs _) fun k5=>?_
   refine Bz1 (X8 g2 g3 e0 e3 dL u1 u2 z0) ?_
   refine qcp (ZLS _) fun k6=>?_
   refine Bz0 ?_
   exact fin xX
def Zqf:Sh:=.pair .str (.pair (.slice .str) (.pair (.slice Zd9) .unit))
def Zo7:Sh:=.pair .str (.pair (.slice Zqf) .unit)
def ZqP:Sh:=.pair (.slice Zo7) (.pair (.slice .str) .unit)
def clSh:Sh:=.pair Zd9 (.pair .str .unit)
theorem fits_tr:Zqf.Fits Tryz.prog (.inl 42) :=
 ⟨_,_,Tryz.underlying42,Xg,rfl,Xg,Tryz.underlying9,_,_,rfl,rfl,Xg,Zid,_,_,rfl,rfl,Xg,Zis,rfl⟩
theorem fits_trs:(Sh.slice Zqf).Fits Tryz.prog (.inl 37):=⟨42,Tryz.underlying37,Xg,Xb,fits_tr⟩
theorem fits_dm:Zo7.Fits Tryz.prog (.inl 39) :=
 ⟨_,_,Tryz.underlying39,Xg,rfl,Xg,Tryz.underlying9,_,_,rfl,rfl,Xg,fits_trs,rfl⟩
theorem fits_dms:(Sh.slice Zo7).Fits Tryz.prog (.inl 22):=⟨39,Tryz.underlying22,Xg,Xb,fits_dm⟩
theorem fits_sc:ZqP.Fits Tryz.prog (.inl 25) :=
 ⟨_,_,Tryz.underlying25,Xg,rfl,Xg,fits_dms,_,_,rfl,rfl,Xg,Zid,rfl⟩
theorem fits_cl:clSh.Fits Tryz.prog (.inl 27) :=
 ⟨_,_,Tryz.underlying27,Xg,rfl,Xg,Tryz.underlying3,_,_,rfl,rfl,Xg,Tryz.underlying9,rfl⟩
section
variable {w:World} {F:Nat->Prop}
theorem enc_tr {cs:List Value} {x:Zqf.D} (h:Zqf.Is w F cs x):∃t:Tir,Zqf.enc x=eTr t:=by
 obtain⟨n,ts,us,u⟩:=x
 obtain⟨_,_,_,_,_,_,_,_,_,_,_,hu,_⟩:=h
 obtain⟨l,_,el,_⟩:=enc_ints hu
 obtain⟨m,em⟩:=ZjA ts
 refine⟨⟨(show ByteArray from n).data.toList,m,l⟩,?_⟩
 show[AV.sc (.string n)]++((Sh.slice .str).enc ts++((Sh.slice Zd9).enc us++[]))=_
 rw[el,em]
 exact congrArg (fun a=>[a,AV.sl .no (rS m),AV.sl .no (rI l)]) (eS_of (show ByteArray from n)).symm
theorem enc_dm {cs:List Value} {x:Zo7.D} (h:Zo7.Is w F cs x):∃d:Dm,Zo7.enc x=eDm d:=by
 obtain⟨n,ts,u⟩:=x
 obtain⟨_,_,_,_,_,_,_,ht,_⟩:=h
 obtain⟨l,_,el,_⟩:=Zgi (s:=Zqf) (f:=eTr) (p:=fun _=>True) (fun cs x hx=>by obtain⟨t,e⟩:=enc_tr hx;exact⟨t,e,trivial⟩) ht
 refine⟨⟨(show ByteArray from n).data.toList,l⟩,?_⟩
 show[AV.sc (.string n)]++((Sh.slice Zqf).enc ts++[])=_
 rw[el]
 exact congrArg (fun a=>[a,AV.sl .no (l.map eTr)]) (eS_of (show ByteArray from n)).symm
theorem enc_sc {cs:List Value} {x:ZqP.D} (h:ZqP.Is w F cs x):∃s:Sc,ZqP.enc x=eSc s:=by
 obtain⟨ds,ms,u⟩:=x
 obtain⟨_,_,_,hd,_⟩:=h
 obtain⟨l,_,el,_⟩:=Zgi (s:=Zo7) (f:=eDm) (p:=fun _=>True) (fun cs x hx=>by obtain⟨t,e⟩:=enc_dm hx;exact⟨t,e,trivial⟩) hd
 obtain⟨m,em⟩:=ZjA ms
 refine⟨⟨l,m⟩,?_⟩
 show(Sh.slice Zo7).enc ds++((Sh.slice .str).enc ms++[])=_
 rw[el,em];rfl
theorem enc_cl {cs:List Value} {x:clSh.D} (h:clSh.Is w F cs x):∃k d,clSh.enc x=[.i k,eS d]/\InI k:=by
 obtain⟨k,s,u⟩:=x
 obtain⟨_,_,_,⟨_,hk⟩,_⟩:=h
 refine⟨k,(show ByteArray from s).data.toList,?_,?_⟩
 ·rw[eS_of];rfl
 ·exact ZAs hk
end
section
variable {W:World}
theorem arg_sc {cs:Array Value} {y:ZqP.D} (h:ZqP.Is W (·<W.heap.size) cs.toList y):∃s:Sc,VR (Gh.ro (Zjd W)) W (.agg (eSc s)) (.agg cs):=by
 obtain⟨s,e⟩:=enc_sc h
 exact⟨s,e ▸ ZK8 (by simp[ZqP,Zo7,Zqf,Zd9,Sh.pos,Sh.size]) h⟩
theorem arg_cl {cs:Array Value} {y:clSh.D} (h:clSh.Is W (·<W.heap.size) cs.toList y):∃k d,VR (Gh.ro (Zjd W)) W (.agg [.i k,eS d]) (.agg cs)/\InI k:=by
 obtain⟨k,d,e,hk⟩:=enc_cl h
 exact⟨k,d,e ▸ ZK8 (by simp[clSh,Zd9,Sh.pos,Sh.size]) h,hk⟩
end
theorem shows_any (s:Sc) (k:Int) (d:Tx) (H:Zaa) (hk:InI k):Zay Tryz.prog 3 [.agg (eSc s),.agg [.i k,eS d]] H (fun r _=>r=.b true):=(ZJW s k d H hk).mono fun _ _ h=>h.1
end Go.Proofs.YtdfgoekdlmkdfaaGreatDoor
