/- Texts of the walk. -/
import Derived.Test.YtaapiigfmdhobaaGreatMw
import Derived.Test.YtaapiigfmdhobaaGreatP6
namespace Go.Proofs.YtaapiigfmdhobaaGreat
set_option linter.defProp false
set_option linter.unusedSimpArgs false
set_option linter.unusedVariables false
open Go.RowKit
section
variable (x:Shp) (L:List (List (List Int))) (facts:List Fct)
def cuts:Nat->List (List Nat)
 | 0=>[List.range facts.length]
 | d+1=>(cuts d).flatMap fun p=>p :: (ZaC x L facts d p).flatMap fun t=>t.map (·.2)
def Zru (c c':DSt):Prop:=∃N' P',c'.N=c.N++N'/\c'.P=c.P++P'/\ZeK (fun(n:Nod) p=>∃d:Nat,n.dim=(d:Int)/\p∈cuts x L facts d) N' P'
end
theorem ZeK.app {α β:Type} {R:α->β->Prop} {l l':List α} {m m':List β} (h:ZeK R l m) (k:ZeK R l' m'):ZeK R (l++l') (m++m'):=by
 induction h with
 | nil=>exact k
 | cons h _ ih=>exact .cons h ih
section
variable {x:Shp} {L:List (List (List Int))} {facts:List Fct}
theorem Zru.refl (c:DSt):Zru x L facts c c:=⟨[],[],by simp,by simp,.nil⟩
theorem Zru.trans {c c' c'':DSt} (h:Zru x L facts c c') (k:Zru x L facts c' c''):Zru x L facts c c'':=by
 obtain⟨N1,P1,h1,h2,h3⟩:=h
 obtain⟨N2,P2,k1,k2,k3⟩:=k
 exact⟨N1++N2,P1++P2,by rw[k1,h1,zaM],by rw[k2,h2,zaM],h3.app k3⟩
theorem cuts_all {d:Nat} {p:List Nat} (h:p∈cuts x L facts d):p∈cuts x L facts (d+1):=zbo.2 ⟨p,h,zae⟩
theorem cuts_grp {d:Nat} {p:List Nat} (h:p∈cuts x L facts d):∀t∈ZaC x L facts d p,∀q∈t,q.2∈cuts x L facts (d+1):=fun t ht q hq =>
 zbo.2 ⟨p,h,zad _ (zbo.2 ⟨t,ht,zcf hq⟩)⟩
theorem Zry {d:Nat} {h:DSt->Int->List Nat->DSt×Cel} (hh:∀c k p,p∈cuts x L facts d->Zru x L facts c (h c k p).1):∀(l:List (Int×List Nat)) (c:DSt),(∀q∈l,q.2∈cuts x L facts d)->Zru x L facts c (cellsD h c l).1
 | [],c,_=>Zru.refl c
 | p :: ps,c,hp=>(hh c p.1 p.2 (hp p zae)).trans (Zry hh ps _ fun q hq=>hp q (zad _ hq))
theorem Zrz {d:Nat} {h:DSt->Int->List Nat->DSt×Cel} (hh:∀c k p,p∈cuts x L facts d->Zru x L facts c (h c k p).1):∀(l:List (List (Int×List Nat))) (c:DSt),(∀t∈l,∀q∈t,q.2∈cuts x L facts d)->Zru x L facts c (ZbW h c l).1
 | [],c,_=>Zru.refl c
 | p :: ps,c,hp=>(Zry hh p c (hp p zae)).trans (Zrz hh ps _ fun q hq=>hp q (zad _ hq))
theorem vis_adds {d:Nat} {f:DSt->List Nat->DSt×Int} (hf:∀c p,p∈cuts x L facts (d+1)->Zru x L facts c (f c p).1) (c:DSt) (p:List Nat) (hp:p∈cuts x L facts d):Zru x L facts c (ZpU x L facts f d c p).1:=by
 have hcel:∀c k p,p∈cuts x L facts (d+1)->Zru x L facts c (Zc2 facts f (decide (d+1=L.length)) c k p).1:=fun c k p hp=>by
  unfold Zc2
  split
  ·exact⟨[],[],by simp,by simp,.nil⟩
  ·exact hf c p hp
 have h1:=Zrz hcel (ZaC x L facts d p) c (cuts_grp hp)
 unfold ZpU
 generalize (ZbW (Zc2 facts f (decide (d+1=L.length))) c (ZaC x L facts d p))=U at *
 have h2:=hcel U.1 0 p (cuts_all hp)
 generalize (Zc2 facts f (decide (d+1=L.length)) U.1 0 p)=B at *
 cases Ze3 d p c.N c.P with
 | some i=>exact Zru.refl c
 | none =>
  refine(h1.trans h2).trans ?_
  exact⟨[⟨d,U.2,B.2⟩],[p],rfl,rfl,.cons ⟨d,rfl,hp⟩ .nil⟩
theorem Zr0:∀(n:Nat),n<=L.length->∀c p,p∈cuts x L facts (L.length - n)->Zru x L facts c (Zhq x L facts n c p).1
 | 0,_,c,_,_=>Zru.refl c
 | n+1,h,c,p,hp=>vis_adds (d:=L.length - (n+1)) (fun c p hp=>Zr0 n (by omega) c p (by rw[show L.length - (n+1)+1=L.length - n by omega]at hp;exact hp)) c p hp
def lens (l:List (List Nat)):Nat:=(l.map List.length).sum
theorem lens_app (l m:List (List Nat)):lens (l++m)=lens l+lens m:=by simp[lens]
theorem Zrr {α:Type} {f:α->List (List Nat)} {g:α->Nat} {b:Nat}:∀{l:List α},(∀a∈l,lens (f a)<=g a * b)->lens (l.flatMap f)<=(l.map g).sum * b
 | [],_=>by simp[lens]
 | a :: l,h=>by
  rw[zbj,lens_app,zas,List.sum_cons,zaT]
  exact Nat.add_le_add (h a zae) (Zrr fun c hc=>h c (zad _ hc))
theorem one_le (k:Int):∀(l:List Nat),l.Nodup->((l.map fun j:Nat=>if k=(j:Int) then 1 else 0).sum:Nat)<=1
 | [],_=>by simp
 | a :: l,h=>by
  obtain⟨h1,h2⟩:=zbg.1 h
  rw[zas,List.sum_cons]
  split
  ·rename_i e
   have:(l.map fun j:Nat=>if k=(j:Int) then 1 else 0).sum=0:=by
    clear h h2
    induction l with
    | nil=>rfl
    | cons b l ih =>
     rw[zas,List.sum_cons,if_neg (fun hb=>h1 (by rw[zal];exact .inl (by omega))),ih fun hb=>h1 (zad _ hb)]
   omega
  ·have:=one_le k l h2;omega
theorem Zsz (key:Nat->Int) {ks:List Nat} (hk:ks.Nodup):∀(p:List Nat),((ks.map fun k:Nat=>(p.filter fun i=>decide (key i=(k:Int))).length).sum:Nat)<=p.length
 | []=>by
  have:∀l:List Nat,(l.map fun k:Nat=>(([]:List Nat).filter fun i=>decide (key i=(k:Int))).length).sum=0:=fun l=>by
   induction l with
   | nil=>rfl
   | cons a l ih=>rw[zas,List.sum_cons,ih];rfl
  rw[this];exact zaf _
 | a :: p=>by
  have h1:=Zsz key hk p
  have h2:=one_le (key a) ks hk
  have e:∀l:List Nat,(l.map fun k:Nat=>((a :: p).filter fun i=>decide (key i=(k:Int))).length).sum=(l.map fun k:Nat=>(p.filter fun i=>decide (key i=(k:Int))).length).sum+(l.map fun j:Nat=>if key a=(j:Int) then 1 else 0).sum:=fun l=>by
   induction l with
   | nil=>rfl
   | cons b l ih =>
    rw[zas,List.sum_cons,ih,zas,List.sum_cons,zas,List.sum_cons]
    by_cases hb:key a=(b:Int)
    ·rw[List.filter_cons_of_pos (by simpa using hb),if_pos hb,List.length_cons];omega
    ·rw[List.filter_cons_of_neg (by simpa using hb),if_neg hb];omega
  rw[e,List.length_cons]
  omega
theorem grs_lens (key:Nat->Int) (n:Nat) (p:List Nat):lens ((grs key n p).map (·.2))<=p.length:=by
 refine zaB ?_ (Zsz key (List.nodup_range (n:=n)) p)
 unfold grs
 generalize List.range n=ks
 induction ks with
 | nil=>simp[lens]
 | cons k ks ih =>
  rw[List.filterMap_cons,zas,List.sum_cons]
  split
  ·rename_i h;omega
  ·rename_i b h
   split at h
   ·cases h
   ·injection h with h
    subst h
    simp only[lens,zas,List.sum_cons]at ih ⊢
    omega
theorem cut_lens (h4:∀d,(L.getD d []).length<=4) (d:Nat) (p:List Nat):lens (p :: (ZaC x L facts d p).flatMap fun t=>t.map (·.2))<=p.length * 5:=by
 have h1:lens ((ZaC x L facts d p).flatMap fun t=>t.map (·.2))<=((ZaC x L facts d p).map fun _=>1).sum * p.length:=Zrr fun t ht=>by
  unfold ZaC at ht
  obtain⟨k,_,rfl⟩:=zat.1 ht
  rw[zbB]
  exact grs_lens _ _ _
 have h2:((ZaC x L facts d p).map fun _=>1).sum=(ZaC x L facts d p).length:=by
  generalize ZaC x L facts d p=l
  induction l with
  | nil=>rfl
  | cons a l ih=>rw[zas,List.sum_cons,ih,List.length_cons];omega
 have h3:(ZaC x L facts d p).length<=4:=by unfold ZaC;rw[zaj,List.length_range];exact h4 d
 rw[h2]at h1
 have h5:=zbe p.length h3
 show p.length+lens _<=_
 omega
theorem ZrQ (h4:∀d,(L.getD d []).length<=4):∀d,lens (cuts x L facts d)<=facts.length * 5 ^ d
 | 0=>by simp[cuts,lens]
 | d+1=>by
  have ih:=ZrQ h4 d
  have h1:lens (cuts x L facts (d+1))<=((cuts x L facts d).map List.length).sum * 5:=Zrr fun p _=>cut_lens h4 d p
  have h2:((cuts x L facts d).map List.length).sum<=facts.length * 5 ^ d:=ih
  rw[Nat.pow_succ,<- Nat.mul_assoc]
  exact zaB h1 (zbe 5 h2)
theorem Zth (hf:facts≠[]):∀d,∀p∈cuts x L facts d,p≠[]
 | 0,p,hp=>by
  rw[zam.1 hp]
  simpa using hf
 | d+1,p,hp=>by
  obtain⟨q,hq,hp⟩:=zbo.1 hp
  rcases zal.1 hp with rfl|hp
  ·exact Zth hf d p hq
  ·obtain⟨t,ht,hp⟩:=zbo.1 hp
   obtain⟨g,hg,rfl⟩:=zat.1 hp
   unfold ZaC at ht
   obtain⟨k,_,rfl⟩:=zat.1 ht
   exact(Zfb hg).1
theorem Zsw:∀{l:List (List Nat)},(∀p∈l,p≠[])->l.length<=lens l
 | [],_=>zaD _
 | p :: l,h=>by
  have h1:=Zsw fun q hq=>h q (zad _ hq)
  have h2:0<p.length:=zbK.2 (h p zae)
  simp only[lens,zas,List.sum_cons,List.length_cons]at h1 ⊢
  omega
def pow5:Nat->Nat
 | 0=>0
 | n+1=>pow5 n+5 ^ n
theorem pairs5 (h4:∀d,(L.getD d []).length<=4) (hf:facts≠[]):∀D,((List.range D).flatMap fun d=>(cuts x L facts d).map fun p=>(d,p)).length<=facts.length * pow5 D
 | 0=>by simp
 | D+1=>by
  have ih:=pairs5 h4 hf D
  have h1:=zaB (Zsw (Zth (x:=x) (L:=L) hf D)) (ZrQ h4 D)
  rw[List.range_succ,zcK,zai]
  simp only[zbj,List.flatMap_nil,zaI,zaj]
  rw[pow5,Nat.mul_add]
  omega
theorem ZsJ {c:DSt} (h:ZdW x L facts c) (ha:Zru x L facts ⟨[],[],false⟩ c) (h4:∀d,(L.getD d []).length<=4) (hf:facts≠[]):c.N.length<=facts.length * pow5 L.length:=by
 refine zaB ?_ (pairs5 (x:=x) h4 hf L.length)
 have hl:=ZjN (l:=(List.range c.N.length).map fun i=>((c.N.getD i ZdH).dim.toNat,c.P.getD i [])) (m:=(List.range L.length).flatMap fun d=>(cuts x L facts d).map fun p=>(d,p)) ?_ ?_
 ·simpa using hl
 ·refine zbR.2 (List.pairwise_lt_range.imp_of_mem fun {i j} hi hj hij he=>?_)
  have hi:i<c.N.length:=by simpa using hi
  have hj:j<c.N.length:=by simpa using hj
  obtain⟨d,_,hn⟩:=h.nod i hi
  obtain⟨e,_,hm⟩:=h.nod j hj
  injection he with e1 e2
  have h1:=hn.1
  have h2:=hm.1
  have:=h.uniq i j hi hj (by rw[h1,h2]at e1 ⊢;omega) e2
  omega
 ·intro a ha2
  obtain⟨i,hi,rfl⟩:=zat.1 ha2
  have hi:i<c.N.length:=by simpa using hi
  obtain⟨d,hd,hn⟩:=h.nod i hi
  obtain⟨N',P',e1,e2,e3⟩:=ha
  have e1:c.N=N':=e1
  have e2:c.P=P':=e2
  have key:∀{l:List Nod} {m:List (List Nat)},ZeK (fun(n:Nod) p=>∃d:Nat,n.dim=(d:Int)/\p∈cuts x L facts d) l m->∀i,i<l.length->∃d:Nat,(l.getD i ZdH).dim=(d:Int)/\m.getD i []∈cuts x L facts d:=by
   intro l m h
   induction h with
   | nil=>intro i hi;exact absurd hi (zbO i)
   | cons h _ ih =>
    intro i hi
    cases i with
    | zero=>exact h
    | succ i=>exact ih i (by simpa using hi)
  obtain⟨d2,k1,k2⟩:=key e3 i (by rw[<- e1];exact hi)
  rw[<- e1]at k1
  rw[<- e2]at k2
  have hd2:d2=d:=by have:=hn.1;omega
  subst hd2
  refine zbo.2 ⟨d2,by simpa using hd,zat.2 ⟨c.P.getD i [],k2,?_⟩⟩
  rw[k1];rfl
end
theorem Zsp {S:Sc} {facts:List Fct} (hF:ZbI (Za3 S) (Zan S) facts) (hD:ZdW (Za3 S) (Zan S) facts (Zcn S facts)) (hd:S.dims.length<=4):(Zcn S facts).N.length<=facts.length * 156:=by
 have hLl:(Zan S).length=S.dims.length:=by unfold Zan;rw[zaj]
 by_cases hf:facts=[]
 ·have e:(Zcn S facts).N=[]:=by unfold Zcn;rw[if_pos hf]
  rw[e];exact zaD _
 have h4:∀d,((Zan S).getD d []).length<=4:=fun d=>by
  by_cases h:d<(Zan S).length
  ·rw[zah,zaa h];exact(hF.tier d h).2.1
  ·rw[zah,za2 (by omega)];exact zaD _
 have ha:Zru (Za3 S) (Zan S) facts ⟨[],[],false⟩ (Zcn S facts):=by
  unfold Zcn
  rw[if_neg hf]
  refine Zr0 _ (zaf _) _ _ ?_
  rw[Nat.sub_self]
  exact zam.2 rfl
 refine zaB (ZsJ hD ha h4 hf) (zce _ ?_)
 have:∀n,n<=4->pow5 n<=156:=by decide
 exact this _ (by omega)
theorem Zs4 {S:Sc} {most:Int} {facts:List Fct} (hs:scE S=0) (hr:Zd7 (Za3 S) none facts=0) (ha:∀f∈facts,Zho f.2) (hfl:facts.length<=4000) (ho:(Zcn S facts).over=false) (hD:ZdW (Za3 S) (Zan S) facts (Zcn S facts)) (hd:S.dims.length<=4) (hm:((facts.length * 156:Nat):Int)<=most) (h1:most<=131072) :
  Zet S most facts=0/\Ze6 S most facts=(Zcn S facts).N/\Zlb (Za3 S) (Zcn S facts).N=true:=by
 have hw:ZsE S most facts=0:=by
  unfold ZsE
  rw[if_neg (fun h=>h hs),if_neg (fun h=>h hr),if_neg (by omega)]
 obtain⟨_,_,h3⟩:=ZkG hfl ha hw
 have hF:=ZdS hs hr hfl ha
 have:=Zsp hF hD hd
 exact h3 ho (by omega)
abbrev GdL (l:List Fct):Prop:=∀f∈l,Gd f.2
abbrev N1 (l:List Fct):Prop:=∀f∈l,1<=f.2.n
theorem N1.gd {l:List Fct} (h:N1 l):GdL l:=fun f hf=>.inr (h f hf)
theorem jt_lc {a b c:Ag} (ha:Gd a) (hb:Gd b) (hc:Gd c):jt a (jt b c)=jt b (jt a c):=by
 rw[<- Znl ha hb hc,ZqU ha hb,Znl hb ha hc]
theorem Zxo (p:List Int->Bool):∀{l m:List Fct},GdL l->GdL m->Zqk p (l++m)=jt (Zqk p l) (Zqk p m)
 | [],m,_,_=>(jt_l _).symm
 | f :: l,m,hl,hm=>by
  have hl':GdL l:=fun f hf=>hl f (zad _ hf)
  rw[List.cons_append,Zni,Zni,Zxo p hl' hm]
  split
  ·exact(Znl (hl f zae) (ZnU hl') (ZnU hm)).symm
  ·rfl
theorem Zyo (p:List Int->Bool) {l m:List Fct} (h:l.Perm m):GdL l->Zqk p l=Zqk p m:=by
 induction h with
 | nil=>intro _;rfl
 | cons x h ih=>intro hl;rw[Zni,Zni,ih fun f hf=>hl f (zad _ hf)]
 | swap x y l =>
  intro hl
  have gl:Gd (Zqk p l):=ZnU fun f hf=>hl f (zad _ (zad _ hf))
  rw[Zni,Zni,Zni,Zni]
  split<;>split<;>try rfl
  exact jt_lc (hl y zae) (hl x (zad _ zae)) gl
 | trans h1 h2 i1 i2=>intro hl;exact(i1 hl).trans (i2 fun f hf=>hl f (h1.mem_iff.2 hf))
theorem Zxu {p:List Int->Bool}:∀{l:List Fct},(∀f∈l,p f.1=false)->Zqk p l=ag0
 | [],_=>rfl
 | f :: l,h=>by rw[Zni,if_neg (by rw[h f zae];decide)];exact Zxu fun g hg=>h g (zad _ hg)
theorem Zxw {p q:List Int->Bool}:∀{l:List Fct},(∀f∈l,p f.1=q f.1)->Zqk p l=Zqk q l
 | [],_=>rfl
 | f :: l,h=>by rw[Zni,Zni,h f zae,Zxw fun g hg=>h g (zad _ hg)]
theorem lt_ne {a b:List Int} (h:a<b):b≠a:=fun e=>List.lt_irrefl a (e ▸ h)
theorem ZxV {a b:List Int} (h:a<b):decide (b=a)=false:=decide_eq_false (lt_ne h)
theorem Zxm {f:Fct} {l:List Fct} (h:∀g∈l,f.1<g.1) (hf:Gd f.2):Zqk (fun k=>decide (k=f.1)) (f :: l)=f.2:=by
 rw[Zni,if_pos (decide_eq_true rfl),Zxu fun g hg=>ZxV (h g hg),jt_r hf]
theorem Zx4:∀{l m:List Fct},Zom l->Zom m->N1 l->N1 m->(∀p,Zqk p l=Zqk p m)->l=m
 | [],[],_,_,_,_,_=>rfl
 | [],g :: m,_,hm,_,n2,h=>by
  have:=h fun k=>decide (k=g.1)
  rw[Zxm (zaR.1 hm).1 (n2.gd g zae)]at this
  have h2:=n2 g zae
  rw[<- this]at h2
  exact absurd (show(1:Int)<=ag0.n from h2) (by decide)
 | f :: l,[],hl,_,n1,_,h=>by
  have:=h fun k=>decide (k=f.1)
  rw[Zxm (zaR.1 hl).1 (n1.gd f zae)]at this
  have h2:=n1 f zae
  rw[this]at h2
  exact absurd (show(1:Int)<=ag0.n from h2) (by decide)
 | f :: l,g :: m,hl,hm,n1,n2,h=>by
  obtain⟨l1,l2⟩:=zaR.1 hl
  obtain⟨m1,m2⟩:=zaR.1 hm
  have hf:=n1 f zae
  have hg:=n2 g zae
  by_cases c:f.1<g.1
  ·have:=h fun k=>decide (k=f.1)
   rw[Zxm l1 (.inr hf),Zxu (fun x hx=>by
    rcases zal.1 hx with rfl|hx
    ·exact ZxV c
    ·exact ZxV (zbW c (m1 x hx)))]at this
   rw[this]at hf
   exact absurd hf (by decide)
  ·by_cases d:g.1<f.1
   ·have:=h fun k=>decide (k=g.1)
    rw[Zxm m1 (.inr hg),Zxu (fun x hx=>by
     rcases zal.1 hx with rfl|hx
     ·exact ZxV d
     ·exact ZxV (zbW d (l1 x hx)))]at this
    rw[<- this]at hg
    exact absurd hg (by decide)
   ·have he:=Zpp c d
    have h1:=h fun k=>decide (k=f.1)
    rw[Zxm l1 (.inr hf),he,Zxm m1 (.inr hg)]at h1
    have e:f=g:=by
     rcases f with⟨a,b⟩
     rcases g with⟨a',b'⟩
     exact Prod.ext he h1
    subst e
    rw[Zx4 l2 m2 (fun x hx=>n1 x (zad _ hx)) (fun x hx=>n2 x (zad _ hx)) fun p=>?_]
    have h2:=h fun k=>p k&&!decide (k=f.1)
    have e0:(p f.1&&!decide (f.1=f.1))=false:=by simp
    rw[Zni,Zni,if_neg (by rw[e0];decide),if_neg (by rw[e0];decide)]at h2
    rw[Zxw (p:=p) (q:=fun k=>p k&&!decide (k=f.1)) (l:=l) fun x hx=>by rw[ZxV (l1 x hx)];simp,
     Zxw (p:=p) (q:=fun k=>p k&&!decide (k=f.1)) (l:=m) fun x hx=>by rw[ZxV (m1 x hx)];simp]
    exact h2
abbrev ZxY (l:List Fct):Prop:=l.Pairwise fun a b=>¬b.1<a.1
theorem ge_trans {a b c:List Int} (h:¬b<a) (k:¬c<b):¬c<a:=fun q=>k (by
 rcases zcH.mp (List.not_lt.mp h)with h|h
 ·exact zbW q h
 ·exact h ▸ q)
theorem ZxT {f:Fct} {out:List Fct} (hs:ZxY out):∀n,n<=out.length->(∀j (h:j<out.length),ZoG f out n<=j->j<n->f.1<out[j].1)/\∀j (h:j<out.length),j<ZoG f out n->¬f.1<out[j].1
 | 0,_=>⟨fun j _ _ h=>by omega,fun j _ h=>by simp[ZoG]at h⟩
 | n+1,hn=>by
  have hn':n<out.length:=by omega
  obtain⟨i1,i2⟩:=ZxT (f:=f) hs n (by omega)
  rw[Zot,zaa hn']
  simp only
  split
  ·rename_i c
   refine⟨fun j hj h1 h2=>?_,i2⟩
   by_cases e:j=n
   ·subst e;exact c
   ·exact i1 j hj h1 (by omega)
  ·rename_i c
   refine⟨fun j hj h1 h2=>by omega,fun j hj h1=>?_⟩
   by_cases e:j=n
   ·subst e;exact c
   ·exact ge_trans (List.pairwise_iff_getElem.1 hs j n hj hn' (by omega)) c
theorem Zyl {f:Fct} {out:List Fct} (hs:ZxY out):ZxY (ZoH out f):=by
 obtain⟨h1,h2⟩:=ZxT (f:=f) hs out.length (zaf _)
 unfold ZoH
 generalize ZoG f out out.length=i at h1 h2
 have h0:ZxY (out.take i++out.drop i):=by rw[zbN];exact hs
 obtain⟨k1,k2,k3⟩:=zbS.1 h0
 have hd:∀b∈out.drop i,f.1<b.1:=fun b hb=>by
  obtain⟨j,hj,rfl⟩:=zay hb
  rw[List.getElem_drop]
  have hj':i+j<out.length:=by simpa [Nat.lt_sub_iff_add_lt,zcF] using hj
  exact h1 (i+j) hj' (by omega) hj'
 have ht:∀a∈out.take i,¬f.1<a.1:=fun a ha=>by
  obtain⟨j,hj,rfl⟩:=zay ha
  rw[zcO]
  have hj':j<i/\j<out.length:=by simp at hj;omega
  exact h2 j hj'.2 hj'.1
 refine zbS.2 ⟨k1,zaR.2 ⟨fun b hb=>List.lt_asymm (hd b hb),k2⟩,fun a ha b hb=>?_⟩
 rcases zal.1 hb with rfl|hb
 ·exact ht a ha
 ·exact k3 a ha b hb
theorem Zyx (f:Fct) (out:List Fct):(ZoH out f).Perm (f :: out):=by
 unfold ZoH
 refine List.perm_middle.trans ?_
 rw[zbN]
theorem ZxR:∀(l out:List Fct),ZxY out->ZxY (l.foldl ZoH out)/\(l.foldl ZoH out).Perm (out++l)
 | [],out,h=>⟨h,by rw[zaI];exact .refl _⟩
 | f :: l,out,h=>by
  obtain⟨h1,h2⟩:=ZxR l (ZoH out f) (Zyl h)
  refine⟨h1,h2.trans ?_⟩
  refine((Zyx f out).append_right l).trans ?_
  exact List.perm_middle.symm
theorem ZxA:∀(L out:List Fct) (j:Nat),(∀f∈out,WAg j f.2)->(∀f∈L,WAg 1 f.2)->j+L.length<=2000->Zom out->ZxY L->(∀q∈out,∀f∈L,¬f.1<q.1)->N1 out->N1 L ->
  ∃R,ZnG out L=some R/\Zom R/\N1 R/\∀p,Zqk p R=Zqk p (out++L)
 | [],out,j,_,_,_,h1,_,_,h2,_=>⟨out,rfl,h1,h2,fun p=>by rw[zaI]⟩
 | f :: L,out,j,wo,wl,hj,ro,sl,hl,no,nl=>by
  obtain⟨s1,s2⟩:=zaR.1 sl
  have wl':∀f∈L,WAg 1 f.2:=fun g hg=>wl g (zad _ hg)
  have nl':N1 L:=fun g hg=>nl g (zad _ hg)
  have nf:=nl f zae
  have wf:=wl f zae
  simp only[List.length_cons]at hj
  have new:(∀q∈out,q.1<f.1)->ZpE out f=some (out++[f])->∃R,ZnG out (f :: L)=some R/\Zom R/\N1 R/\∀p,Zqk p R=Zqk p (out++f :: L):=fun hq he=>by
   obtain⟨R,r1,r2,r3,r4⟩:=ZxA L (out++[f]) (j+1) (fun g hg=>by
     rcases zav.1 hg with hg|hg
     ·exact(wo g hg).more (by omega)
     ·rw[zam.1 hg];exact wf.more (by omega)) wl' (by omega)
    (zbS.2 ⟨ro,List.pairwise_singleton _ _,fun a ha b hb=>by rw[zam.1 hb];exact hq a ha⟩) s2
    (fun q hq' g hg=>by
     rcases zav.1 hq' with hq'|hq'
     ·exact hl q hq' g (zad _ hg)
     ·rw[zam.1 hq'];exact s1 g hg)
    (fun g hg=>by
     rcases zav.1 hg with hg|hg
     ·exact no g hg
     ·rw[zam.1 hg];exact nf) nl'
   refine⟨R,by rw[ZnG,he];exact r1,r2,r3,fun p=>?_⟩
   rw[r4 p,zaM];rfl
  rcases List.eq_nil_or_concat out with rfl|⟨o,q,he⟩
  ·exact new (fun q hq=>by cases hq) rfl
  ·rw[List.concat_eq_append]at he
   subst he
   have hql:=hl q (by simp) f zae
   obtain⟨o1,_,o3⟩:=zbS.1 ro
   have ho:∀a∈o,a.1<q.1:=fun a ha=>o3 a ha q (by simp)
   by_cases c:q.1<f.1
   ·refine new (fun a ha=>?_) (ZnF fun a ha=>by rw[ZnA ha];exact c)
    rcases zav.1 ha with ha|ha
    ·exact zbW (ho a ha) c
    ·rw[zam.1 ha];exact c
   ·have he:=Zpp c hql
    have wq:=wo q (by simp)
    have nq:=no q (by simp)
    have hja:=Zon wq wf (by omega)
    obtain⟨z,z1,z2⟩:=Zkv wq wf (by omega)
    rw[hja]at z1
    injection z1 with z1
    have hS:ZpE (o++[q]) f=some (o++[(f.1,jt q.2 f.2)]):=by
     unfold ZpE
     rw[zca]
     simp only
     rw[if_neg (fun h=>h.elim c hql),hja,List.dropLast_concat]
    have nz:1<=(jt q.2 f.2).n:=by
     unfold jt
     rw[if_neg (by omega),if_neg (by omega),ZnW]
     simp only;omega
    obtain⟨R,r1,r2,r3,r4⟩:=ZxA L (o++[(f.1,jt q.2 f.2)]) (j+1) (fun g hg=>by
      rcases zav.1 hg with hg|hg
      ·exact(wo g (zba _ hg)).more (by omega)
      ·rw[zam.1 hg];exact z1 ▸ z2) wl' (by omega)
     (zbS.2 ⟨o1,List.pairwise_singleton _ _,fun a ha b hb=>by rw[zam.1 hb];exact he ▸ ho a ha⟩) s2
     (fun a ha g hg=>by
      rcases zav.1 ha with ha|ha
      ·exact hl a (zba _ ha) g (zad _ hg)
      ·rw[zam.1 ha];exact s1 g hg)
     (fun g hg=>by
      rcases zav.1 hg with hg|hg
      ·exact no g (zba _ hg)
      ·rw[zam.1 hg];exact nz) nl'
    refine⟨R,by rw[ZnG,hS];exact r1,r2,r3,fun p=>?_⟩
    have go:GdL o:=fun g hg=>.inr (no g (zba _ hg))
    have gL:Gd (Zqk p L):=ZnU nl'.gd
    rw[r4 p,zaM,zaM,Zxo p go (fun g hg=>by
      rcases zal.1 hg with rfl|hg
      ·exact .inr nz
      ·exact nl'.gd g hg),Zxo p go (fun g hg=>by
      rcases zal.1 hg with rfl|hg
      ·exact .inr nq
      ·exact nl.gd g hg)]
    congr 1
    show Zqk p ((f.1,jt q.2 f.2) :: L)=Zqk p (q :: f :: L)
    rw[Zni,Zni,Zni,he]
    simp only
    split
    ·exact Znl (.inr nq) (.inr nf) gL
    ·rfl
theorem fold_all {l:List Fct} (w:∀f∈l,WAg 1 f.2) (n:N1 l) (hl:l.length<=2000):∃R,ZnG [] (Znr l)=some R/\Zom R/\N1 R/\∀p,Zqk p R=Zqk p l:=by
 obtain⟨h1,h2⟩:=ZxR l [] .nil
 rw[List.nil_append]at h2
 have hm:∀f,f∈Znr l ↔ f∈l:=fun f=>h2.mem_iff
 obtain⟨R,r1,r2,r3,r4⟩:=ZxA (Znr l) [] 0 (fun f hf=>by cases hf) (fun f hf=>w f ((hm f).1 hf)) (by have:=h2.length_eq;unfold Znr;omega) .nil h1 (fun q hq=>by cases hq) (fun f hf=>by cases hf) fun f hf=>n f ((hm f).1 hf)
 exact⟨R,r1,r2,r3,fun p=>(r4 p).trans (Zyo p h2 fun f hf=>.inr (n f ((hm f).1 hf)))⟩
def mg (l m:List Fct):List Fct:=Zng (l.length+m.length) l m
def rnd:List (Nat×List Fct)->List (Nat×List Fct)
 | a :: b :: r=>(a.1+b.1,mg a.2 b.2) :: rnd r
 | l=>l
structure RW (S:Sc) (q:Nat×List Fct):Prop where
 row:Zd7 (Za3 S) none q.2=0
 wide:∀f∈q.2,WAg q.1 f.2
 len:q.2.length<=8 * q.1
theorem RW.n1 {S:Sc} {q:Nat×List Fct} (h:RW S q):N1 q.2:=fun f hf=>by
 have h:=(Zcp (Zcu h.row f hf)).2.2
 unfold Zbw at h
 simp only[zax,decide_eq_true_eq]at h
 exact h.1.1.1.2
theorem RW.rise {S:Sc} {q:Nat×List Fct} (h:RW S q):Zom q.2:=(ZnY h.row).1
theorem RW.mg {S:Sc} {a b:Nat×List Fct} (ha:RW S a) (hb:RW S b) (h:a.1+b.1<=2000):RW S (a.1+b.1,mg a.2 b.2):=by
 have fl:=Zcu ha.row
 have fm:=Zcu hb.row
 have hj:∀f∈a.2,∀g∈b.2,Zb8 (Za3 S) (f.1,jt f.2 g.2)=0/\WAg (a.1+b.1) (jt f.2 g.2):=fun f hf g hg=>by
  have h0:=Zon (ha.wide f hf) (hb.wide g hg) h
  obtain⟨c,h1,h2⟩:=Zkv (ha.wide f hf) (hb.wide g hg) h
  rw[h0]at h1
  injection h1 with h1
  obtain⟨k1,k2,k3⟩:=Zcp (fl f hf)
  have hm:=ZlJ k3 (Zcp (fm g hg)).2.2 h0
  refine⟨?_,h1 ▸ h2⟩
  unfold Zb8
  rw[if_neg (fun h=>h k1),if_neg (fun h=>h k2),if_neg (by rw[hm];decide)]
 refine⟨row_of (Znn _ _ _ fl fm fun f hf g hg _=>(hj f hf g hg).1) (Zn2 _ _ _ ha.rise hb.rise) (fun q hq=>by cases hq),Znn _ _ _ (fun f hf=>(ha.wide f hf).more (by simp only;omega)) (fun f hf=>(hb.wide f hf).more (by simp only;omega)) fun f hf g hg _=>(hj f hf g hg).2,?_⟩
 have:=Zn3 (a.2.length+b.2.length) a.2 b.2
 have h1:=ha.len
 have h2:=hb.len
 unfold Go.Proofs.YtaapiigfmdhobaaGreat.mg
 simp only
 omega
def Zxr (ls:List (Nat×List Fct)):Nat:=(ls.map (·.1)).sum
theorem Zxv:∀ls,Zxr (rnd ls)=Zxr ls
 | []=>rfl
 | [_]=>rfl
 | a :: b :: r=>by
  have:=Zxv r
  unfold Zxr at this ⊢
  rw[rnd,zas,List.sum_cons,this,zas,zas,List.sum_cons,List.sum_cons]
  simp only;omega
theorem Zxz:∀ls,(rnd ls).length=(ls.length+1) / 2
 | []=>by simp[rnd]
 | [_]=>by simp[rnd]
 | a :: b :: r=>by rw[rnd,List.length_cons,Zxz r];simp only[List.length_cons];omega
theorem ZxB:∀{ls:List (Nat×List Fct)},∀q∈ls,q.1<=Zxr ls
 | [],q,hq=>by cases hq
 | a :: r,q,hq=>by
  have e:Zxr (a :: r)=a.1+Zxr r:=by unfold Zxr;simp
  rcases zal.1 hq with rfl|hq
  ·omega
  ·have:=ZxB q hq
   omega
theorem Zx8 {S:Sc}:∀ls,(∀q∈ls,RW S q)->Zxr ls<=2000->∀q∈rnd ls,RW S q
 | [],h,_=>h
 | [_],h,_=>h
 | a :: b :: r,h,hw=>by
  intro q hq
  have e:Zxr (a :: b :: r)=a.1+(b.1+Zxr r):=by unfold Zxr;simp
  rw[rnd]at hq
  rcases zal.1 hq with rfl|hq
  ·exact(h a zae).mg (h b (zad _ zae)) (by omega)
  ·exact Zx8 r (fun q hq=>h q (zad _ (zad _ hq))) (by omega) q hq
theorem Zyg:∀(ls:List (Nat×List Fct)) (k:Nat) {a b},ls[2 * k]?=some a->ls[2 * k+1]?=some b->(rnd ls)[k]?=some (a.1+b.1,mg a.2 b.2)
 | [],k,a,b,h,_=>by simp at h
 | [x],k,a,b,_,h=>by simp at h
 | x :: y :: r,0,a,b,h1,h2=>by
  simp at h1 h2
  subst h1 h2
  rfl
 | x :: y :: r,k+1,a,b,h1,h2=>by
  rw[show 2 * (k+1)=2 * k+1+1 by omega]at h1 h2
  rw[rnd,List.getElem?_cons_succ]
  exact Zyg r k (by simpa using h1) (by simpa using h2)
theorem Zyj:∀(ls:List (Nat×List Fct)) (k:Nat) {a},ls[2 * k]?=some a->ls[2 * k+1]?=none->(rnd ls)[k]?=some a
 | [],k,a,h,_=>by simp at h
 | [x],0,a,h,_=>h
 | [x],k+1,a,h,_=>by simp at h
 | x :: y :: r,0,a,h1,h2=>by simp at h2
 | x :: y :: r,k+1,a,h1,h2=>by
  rw[show 2 * (k+1)=2 * k+1+1 by omega]at h1 h2
  rw[rnd,List.getElem?_cons_succ]
  exact Zyj r k (by simpa using h1) (by simpa using h2)
abbrev flR (ls:List (Nat×List Fct)):List Fct:=ls.flatMap (·.2)
theorem ZxP {S:Sc} {ls:List (Nat×List Fct)} (h:∀q∈ls,RW S q):N1 (flR ls):=fun f hf=>by
 obtain⟨q,hq,hf⟩:=zbo.1 hf
 exact(h q hq).n1 f hf
theorem mg_sum {S:Sc} {a b:Nat×List Fct} (ha:RW S a) (hb:RW S b) (p:List Int->Bool):Zqk p (mg a.2 b.2)=jt (Zqk p a.2) (Zqk p b.2):=Zor p _ _ _ (zaf _) ha.n1.gd hb.n1.gd
theorem Zyi {S:Sc} (p:List Int->Bool):∀ls,(∀q∈ls,RW S q)->Zxr ls<=2000->Zqk p (flR (rnd ls))=Zqk p (flR ls)
 | [],_,_=>rfl
 | [_],_,_=>rfl
 | a :: b :: r,h,hw=>by
  have ha:=h a zae
  have hb:=h b (zad _ zae)
  have hr:∀q∈r,RW S q:=fun q hq=>h q (zad _ (zad _ hq))
  have e:Zxr (a :: b :: r)=a.1+(b.1+Zxr r):=by unfold Zxr;simp
  have hm:=ha.mg hb (by omega)
  have hrn:=Zx8 r hr (by omega)
  rw[rnd,flR,zbj,Zxo p hm.n1.gd (ZxP hrn).gd,show Zqk p (List.flatMap (·.2) (rnd r))=Zqk p (flR r)from Zyi p r hr (by omega),mg_sum ha hb]
  show _=Zqk p (a.2++(b.2++flR r))
  rw[Zxo p ha.n1.gd (fun f hf=>by
   rcases zav.1 hf with hf|hf
   ·exact hb.n1.gd f hf
   ·exact(ZxP hr).gd f hf),Zxo p hb.n1.gd (ZxP hr).gd]
  exact Znl (ZnU ha.n1.gd) (ZnU hb.n1.gd) (ZnU (ZxP hr).gd)
structure Tot (ls:List (Nat×List Fct)) (T:List Fct):Prop where
 rise:Zom T
 n1:N1 T
 sum:∀p,Zqk p T=Zqk p (flR ls)
theorem Tot.rnd {S:Sc} {ls:List (Nat×List Fct)} {T:List Fct} (h:Tot ls T) (hr:∀q∈ls,RW S q) (hw:Zxr ls<=2000):Tot (rnd ls) T :=
 ⟨h.rise,h.n1,fun p=>(h.sum p).trans (Zyi p ls hr hw).symm⟩
theorem Tot.one {S:Sc} {q:Nat×List Fct} {T:List Fct} (h:Tot [q] T) (hr:RW S q):T=q.2:=by
 refine Zx4 h.rise hr.rise h.n1 hr.n1 fun p=>(h.sum p).trans ?_
 simp[flR]
theorem WAg.innJ {j:Nat} {a:Ag} (h:WAg j a) (hj:j<=2000):Zho a:=by
 obtain⟨h0,h1,h2,h3,h4⟩:=h.more hj
 exact⟨by unfold In64;omega,by unfold In64;omega,by unfold In64;omega,by unfold In64;omega⟩
theorem Zxy {j:Nat} {facts:List Fct} (hf:∀f∈facts,WAg j f.2):∀(part:List Nat) (a:Ag) (k:Nat),WAg k a->k+j * part.length<=2000->(∀i∈part,i<facts.length)->∃b,ZdJ facts a part=some b/\WAg (k+j * part.length) b
 | [],a,k,ha,_,_=>⟨a,rfl,ha⟩
 | i :: r,a,k,ha,hl,hp=>by
  have hi:=hp i zae
  have hg:facts.getD i ([],ag0)=facts[i]:=by rw[zah,zaa hi];rfl
  simp only[List.length_cons,Nat.mul_add,zbx]at hl ⊢
  obtain⟨c,h1,h2⟩:=Zkv ha (hf _ (zaq hi)) (by omega)
  obtain⟨b,h3,h4⟩:=Zxy hf r c (k+j) h2 (by omega) fun j hj=>hp j (zad _ hj)
  refine⟨b,?_,h4.more (by omega)⟩
  unfold ZdJ
  rw[hg,h1]
  exact h3
theorem Zx5 {w:Nat} {facts:List Fct} (hf:∀f∈facts,WAg w f.2/\Gd f.2):∀(part:List Nat) (a:Ag) (k:Nat),WAg k a->Gd a->k+w * part.length<=2000->(∀i∈part,i<facts.length)->ZdJ facts a part=some (jt a (sumJ (part.map fun i=>(facts.getD i ([],ag0)).2)))
 | [],a,k,_,hg,_,_=>by rw[zaS];exact congrArg some (jt_r hg).symm
 | i :: r,a,k,ha,hg,hl,hp=>by
  have hi:=hp i zae
  have hgi:facts.getD i ([],ag0)=facts[i]:=by rw[zah,zaa hi];rfl
  have hfi:=hf _ (zaq hi)
  simp only[List.length_cons,Nat.mul_add,zbx]at hl
  have h1:=Zon ha hfi.1 (show k+w<=2000 by omega)
  obtain⟨c,h2,h3⟩:=Zkv ha hfi.1 (show k+w<=2000 by omega)
  rw[h1]at h2
  injection h2 with h2
  unfold ZdJ
  rw[hgi,h1]
  simp only
  rw[Zx5 hf r _ (k+w) (h2 ▸ h3) (ZqZ hg hfi.2) (by omega) (fun j hj=>hp j (zad _ hj)),zas,hgi]
  congr 1
  show _=jt a (jt facts[i].2 (sumJ _))
  refine Znl hg hfi.2 (ZpA fun b hb=>?_)
  obtain⟨j,hj,rfl⟩:=zat.1 hb
  have hjl:=hp j (zad _ hj)
  rw[zah,zaa hjl]
  exact(hf _ (zaq hjl)).2
theorem mul_le {a b:Nat} (w:Nat) (h:a<=b):w * a<=w * b:=zce _ h
theorem Zya {S:Sc} {w:Nat} {facts:List Fct} (hs:scE S=0) (hl:w * facts.length<=2000) (hw:∀f∈facts,WAg w f.2):ZdW (Za3 S) (Zan S) facts (Zcn S facts)/\(Zcn S facts).over=false:=by
 have hLl:(Zan S).length=S.dims.length:=by unfold Zan;rw[zaj]
 have hs1:=(Zb7 hs).1
 unfold Zcn
 split
 ·exact⟨Zf8,rfl⟩
 ·rename_i hne
  have hp:=Zhu hne
  have h1:=Zls (x:=Za3 S) (L:=Zan S) (facts:=facts) ((Zan S).length - 1) (by omega) ⟨[],[],false⟩ _ hp Zf8
  rw[show(Zan S).length - 1+1=(Zan S).length by omega]at h1
  refine⟨h1.1,Zit (fun p hp=>?_) _ _ _ hp.ok⟩
  obtain⟨b,hb,_⟩:=Zxy hw p ag0 0 wag0 (by have:=mul_le w hp.2.1;omega) hp.2.2
  rw[hb];rfl
theorem ZxZ {S:Sc} {w:Nat} {facts:List Fct} {v:List (Int×Int)} (hf:∀f∈facts,WAg w f.2/\Gd f.2) (hl:w * facts.length<=2000):ZdJ facts ag0 (ptW S facts v)=some (Zqk (Znq (Zan S) 0 v) facts)/\WAg (w * facts.length) (Zqk (Znq (Zan S) 0 v) facts):=by
 obtain⟨h1,h2⟩:=ptW_in (S:=S) (facts:=facts) (w:=v)
 have h1:=mul_le w h1
 have h3:ZdJ facts ag0 (ptW S facts v)=some (Zqk (Znq (Zan S) 0 v) facts):=by
  rw[Zx5 hf _ ag0 0 wag0 gd0 (by omega) h2,jt_l]
  unfold Zqk
  rw[<- Zqm,zbt]
  rfl
 obtain⟨b,h4,h5⟩:=Zxy (fun f h=>(hf f h).1) (ptW S facts v) ag0 0 wag0 (by omega) h2
 rw[h3]at h4
 injection h4 with h4
 exact⟨h3,h4 ▸ h5.more (by omega)⟩
structure Zyp (S:Sc) (l:List Fct):Prop where
 fo:ZbI (Za3 S) (Zan S) l
 dk:ZdW (Za3 S) (Zan S) l (Zcn S l)
 ln:(Zcn S l).N.length<=10000
 pr:Prw (Za3 S) (Zcn S l).N
 wh:Zlb (Za3 S) (Zcn S l).N=true
 bl:Zet S 131072 l=0/\Ze6 S 131072 l=(Zcn S l).N
 b2:Zet S 20000 l=0/\Ze6 S 20000 l=(Zcn S l).N
 ad:∀i (hi:i<(Zcn S l).N.length),ZbF (Za3 S) 131072 ((Zcn S l).N.take i) (Zcn S l).N[i]=0
theorem RW.sz {S:Sc} {q:Nat×List Fct} (h:RW S q) (hq:q.1<=6):q.2.length<=48/\q.1 * q.2.length<=288:=by
 have:=h.len
 exact⟨by omega,zaB (Nat.mul_le_mul hq (show q.2.length<=48 by omega)) (by decide)⟩
theorem RW.Zx9 {S:Sc} {q:Nat×List Fct} (hs:scE S=0) (hd:S.dims.length<=4) (h:RW S q) (hq:q.1<=6):Zyp S q.2:=by
 obtain⟨z1,z2⟩:=h.sz hq
 have hi:∀f∈q.2,Zho f.2:=fun f hf=>(h.wide f hf).innJ (by omega)
 obtain⟨d1,d2⟩:=Zya hs (by omega) h.wide
 have hF:=ZdS hs h.row (by omega) hi
 have hl:=Zsp hF d1 hd
 obtain⟨b1,b2,b3⟩:=Zs4 (most:=131072) hs h.row hi (by omega) d2 d1 hd (by omega) (by omega)
 obtain⟨c1,c2,_⟩:=Zs4 (most:=20000) hs h.row hi (by omega) d2 d1 hd (by omega) (by omega)
 have hp:=ZnR hF b1 b2 d1 (by omega)
 exact⟨hF,d1,by omega,hp.1,b3,⟨b1,b2⟩,⟨c1,c2⟩,hp.2⟩
theorem mg_law {S:Sc} {a b:Nat×List Fct} (hs:scE S=0) (hd:S.dims.length<=4) (ha:RW S a) (hb:RW S b) (h:a.1+b.1<=6):AllOf S a.2 b.2 (mg a.2 b.2) (Zcn S a.2) (Zcn S b.2):=by
 have hm:=ha.mg hb (by omega)
 have ca:=ha.Zx9 hs hd (by omega)
 have cb:=hb.Zx9 hs hd (by omega)
 have cm:=hm.Zx9 hs hd h
 have key:∀P:List Int->Prop,(∀f∈mg a.2 b.2,P f.1) ↔ (∀f∈a.2,P f.1)/\∀f∈b.2,P f.1:=fun P=>by
  have hk:=ZnN (a.2.length+b.2.length) a.2 b.2 (zaf _)
  constructor
  ·intro h
   refine⟨fun f hf=>?_,fun f hf=>?_⟩
   ·obtain⟨g,hg,he⟩:=(hk f.1).2 (.inl ⟨f,hf,rfl⟩)
    exact he ▸ h g hg
   ·obtain⟨g,hg,he⟩:=(hk f.1).2 (.inr ⟨f,hf,rfl⟩)
    exact he ▸ h g hg
  ·rintro⟨h1,h2⟩ f hf
   rcases (hk f.1).1 ⟨f,hf,rfl⟩with⟨g,hg,he⟩|⟨g,hg,he⟩
   ·exact he ▸ h1 g hg
   ·exact he ▸ h2 g hg
 obtain⟨_,za⟩:=ha.sz (by omega)
 obtain⟨_,zb⟩:=hb.sz (by omega)
 obtain⟨_,zm⟩:=hm.sz h
 refine⟨ca.fo,cb.fo,cm.fo,ca.dk,cb.dk,fun w w'=>?_,fun w=>?_,fun w _=>?_⟩
 ·rw[Zpy,Zpy,Zpy]
  exact key fun k=>Znq (Zan S) 0 w k=Znq (Zan S) 0 w' k
 ·rw[ZpC,ZpC,ZpC]
  exact key fun k=>Znq (Zan S) 0 w k=false
 ·obtain⟨s1,v1⟩:=ZxZ (S:=S) (v:=w) (fun f h=>⟨ha.wide f h,ha.n1.gd f h⟩) (by omega)
  obtain⟨s2,v2⟩:=ZxZ (S:=S) (v:=w) (fun f h=>⟨hb.wide f h,hb.n1.gd f h⟩) (by omega)
  obtain⟨s3,v3⟩:=ZxZ (S:=S) (v:=w) (fun f h=>⟨hm.wide f h,hm.n1.gd f h⟩) (by omega)
  rw[s1,s2,s3,mg_sum ha hb]
  exact⟨_,Zon v1 v2 (by omega),rfl⟩
theorem mg_built {S:Sc} {a b:Nat×List Fct} (hs:scE S=0) (hd:S.dims.length<=4) (ha:RW S a) (hb:RW S b) (h:a.1+b.1<=6) :
  (ZoF (Za3 S) (Zcn S a.2).N (Zcn S b.2).N 131072).e=0/\(ZoF (Za3 S) (Zcn S a.2).N (Zcn S b.2).N 131072).N=(Zcn S (mg a.2 b.2)).N :=
 Zqu hs (mg_law hs hd ha hb h) (ha.Zx9 hs hd (by omega)).pr (hb.Zx9 hs hd (by omega)).pr ((ha.mg hb (by omega)).Zx9 hs hd h).ad
end Go.Proofs.YtaapiigfmdhobaaGreat
