/- Texts of the walk. -/
import Derived.Test.YtaapiigfmdhobaaGreatP3
import Derived.Test.YtaapiigfmdhobaaGreatMw
namespace Go.Proofs.YtaapiigfmdhobaaGreat
set_option linter.unusedSimpArgs false
set_option linter.unusedVariables false
open Go.RowKit
def rg (n:Nat):List Int:=(List.range n).map fun i:Nat=>(i:Int)
theorem rg_succ (n:Nat):rg n++[(n:Int)]=rg (n+1):=by unfold rg;rw[List.range_succ,zaV];rfl
theorem rg_has {n i:Nat} (h:i<n):(rg n).contains (i:Int)=true:=by
 rw[zaO];exact zan.2 ⟨i,by simpa using h,rfl⟩
theorem rg_not {n i:Nat} (h:n<=i):¬(rg n).contains (i:Int)=true:=by
 rw[zaO]
 rintro hx
 obtain⟨u,hu,e⟩:=zan.1 hx
 have:=zbq.1 hu
 omega
section
variable {x:Shp} {L:List (List (List Int))} {facts:List Fct}
def VisO (x:Shp) (L:List (List (List Int))) (facts:List Fct) (f:DSt->List Nat->DSt×Int):Prop :=
 ∀c p,Zd3 facts p->ZdW x L facts c->∀Ns,(f c p).1.N <+: Ns->∀fuel:Nat,(f c p).2<(fuel:Int)->Zq7 x Ns fuel (rg c.N.length) (f c p).2=rg (f c p).1.N.length
def CelO (x:Shp) (L:List (List (List Int))) (facts:List Fct) (h:DSt->Int->List Nat->DSt×Cel):Prop :=
 ∀c k p,Zd3 facts p->ZdW x L facts c->∀Ns,(h c k p).1.N <+: Ns->∀fuel:Nat,(h c k p).2.child<(fuel:Int)->Zq7 x Ns fuel (rg c.N.length) (h c k p).2.child=rg (h c k p).1.N.length
theorem ZsV {d:Nat} {h:DSt->Int->List Nat->DSt×Cel} (hh:CelS x L facts d h) (ho:CelO x L facts h):∀(l:List (Int×List Nat)) (c:DSt),(∀q∈l,Zd3 facts q.2)->ZdW x L facts c->∀Ns,(cellsD h c l).1.N <+: Ns->∀fuel:Nat,(∀z∈(cellsD h c l).2,z.child<(fuel:Int)) ->
  ((cellsD h c l).2.map Cel.child).foldl (Zq7 x Ns fuel) (rg c.N.length)=rg (cellsD h c l).1.N.length
 | [],c,_,_,_,_,_,_=>rfl
 | p :: ps,c,hp,hc,Ns,hN,fuel,hf=>by
  obtain⟨h1,h2,h3,h4⟩:=hh c p.1 p.2 (hp p zah) hc
  have hps:∀q∈ps,Zd3 facts q.2:=fun q hq=>hp q (zae _ hq)
  obtain⟨k1,k2,k3⟩:=Zmp hh ps _ hps h1
  have hN1:(h c p.1 p.2).1.N <+: Ns:=List.IsPrefix.trans k2.pre hN
  show((h c p.1 p.2).2 :: (cellsD h (h c p.1 p.2).1 ps).2 |>.map Cel.child).foldl _ _=rg (cellsD h (h c p.1 p.2).1 ps).1.N.length
  rw[zak,List.foldl_cons,ho c p.1 p.2 (hp p zah) hc Ns hN1 fuel (hf _ zah)]
  exact ZsV hh ho ps _ hps h1 Ns hN fuel fun z hz=>hf z (zae _ hz)
theorem Zti {d:Nat} {h:DSt->Int->List Nat->DSt×Cel} (hh:CelS x L facts d h) (ho:CelO x L facts h):∀(l:List (List (Int×List Nat))) (c:DSt),(∀t∈l,∀q∈t,Zd3 facts q.2)->ZdW x L facts c->∀Ns,(ZbW h c l).1.N <+: Ns->∀fuel:Nat,(∀t∈(ZbW h c l).2,∀z∈t,z.child<(fuel:Int)) ->
  ((ZbW h c l).2.flatten.map Cel.child).foldl (Zq7 x Ns fuel) (rg c.N.length)=rg (ZbW h c l).1.N.length
 | [],c,_,_,_,_,_,_=>rfl
 | p :: ps,c,hp,hc,Ns,hN,fuel,hf=>by
  obtain⟨h1,h2,h3⟩:=Zmp hh p c (hp p zah) hc
  have hps:∀t∈ps,∀q∈t,Zd3 facts q.2:=fun q hq=>hp q (zae _ hq)
  obtain⟨k1,k2,k3⟩:=Zmj hh ps _ hps h1
  have hN1:(cellsD h c p).1.N <+: Ns:=List.IsPrefix.trans k2.pre hN
  show(((cellsD h c p).2 :: (ZbW h (cellsD h c p).1 ps).2).flatten.map Cel.child).foldl _ _=rg (ZbW h (cellsD h c p).1 ps).1.N.length
  rw[List.flatten_cons,zaV,zb4,ZsV hh ho p c (hp p zah) hc Ns hN1 fuel (hf _ zah)]
  exact Zti hh ho ps _ hps h1 Ns hN fuel fun t ht=>hf t (zae _ ht)
theorem cell_o {d:Nat} {f:DSt->List Nat->DSt×Int} (hl:d+1≠L.length) (hf:VisO x L facts f):CelO x L facts (Zc2 facts f (decide (d+1=L.length))):=by
 intro c k p hp hc Ns hN fuel hfu
 have e:Zc2 facts f (decide (d+1=L.length)) c k p=((f c p).1,⟨k,(f c p).2,ag0⟩):=by unfold Zc2;rw[decide_eq_false hl,if_neg (by simp)]
 rw[e]at hN hfu ⊢
 exact hf c p hp hc Ns hN fuel hfu
theorem ZrF {α β:Type} {R:α->β->Prop}:∀{l:List α} {m:List β},ZeK R l m->∀a∈l,∃b∈m,R a b
 | _,_,.nil,a,h=>by cases h
 | _,_,.cons h t,a,ha=>by
  rcases zao.1 ha with rfl|ha
  ·exact⟨_,zah,h⟩
  ·obtain⟨b,hb,hr⟩:=ZrF t a ha
   exact⟨b,zae _ hb,hr⟩
theorem Zrv {d:Nat} {f:DSt->List Nat->DSt×Int} (hl:d+1=L.length):∀(l:List (Int×List Nat)) (c:DSt),(cellsD (Zc2 facts f (decide (d+1=L.length))) c l).1.N=c.N
 | [],c=>rfl
 | p :: ps,c=>by
  show(cellsD _ (Zc2 facts f (decide (d+1=L.length)) c p.1 p.2).1 ps).1.N=c.N
  rw[Zrv hl ps]
  unfold Zc2
  rw[decide_eq_true hl,if_pos rfl]
theorem Zrx {d:Nat} {f:DSt->List Nat->DSt×Int} (hl:d+1=L.length):∀(l:List (List (Int×List Nat))) (c:DSt),(ZbW (Zc2 facts f (decide (d+1=L.length))) c l).1.N=c.N
 | [],c=>rfl
 | p :: ps,c=>by
  show(ZbW _ (cellsD (Zc2 facts f (decide (d+1=L.length))) c p).1 ps).1.N=c.N
  rw[Zrx hl ps,Zrv hl]
theorem Zta {c:DSt} {b d:Nat} {p:List Nat} {z:Cel} (h:ZiH L facts c b d p z) (hl:d+1≠L.length):0<=z.child/\z.child<(b:Int):=by
 unfold ZiH at h
 rw[if_neg hl]at h
 obtain⟨_,j,h1,h2,_⟩:=h
 omega
theorem vis_o (hx:L.length=x.sizes.length) {d:Nat} {f:DSt->List Nat->DSt×Int} (hd:d<L.length) (hs:d+1≠L.length->NodS x L facts (d+1) f) (hf:d+1≠L.length->VisO x L facts f):VisO x L facts (ZpU x L facts f d):=by
 intro c p hp hc Ns hN fuel hfu
 have hcel:=cell_s (d:=d) (f:=f) hs
 obtain⟨t1,t2,t3⟩:=Zmj hcel (ZaC x L facts d p) c hp.groups hc
 obtain⟨a1,a2,a3,a4⟩:=hcel (ZbW (Zc2 facts f (decide (d+1=L.length))) c (ZaC x L facts d p)).1 0 p hp t1
 have hto:=fun(h:d+1≠L.length)=>Zti hcel (cell_o h (hf h)) (ZaC x L facts d p) c hp.groups hc
 have hao:=fun(h:d+1≠L.length)=>cell_o (facts:=facts) (x:=x) h (hf h) (ZbW (Zc2 facts f (decide (d+1=L.length))) c (ZaC x L facts d p)).1 0 p hp t1
 have hlt:=fun(h:d+1=L.length)=>Zrx (facts:=facts) (f:=f) h (ZaC x L facts d p) c
 have hla:d+1=L.length->(Zc2 facts f (decide (d+1=L.length)) (ZbW (Zc2 facts f (decide (d+1=L.length))) c (ZaC x L facts d p)).1 0 p).1.N=(ZbW (Zc2 facts f (decide (d+1=L.length))) c (ZaC x L facts d p)).1.N:=fun h=>by
  unfold Zc2
  rw[decide_eq_true h,if_pos rfl]
 unfold ZpU at hN hfu ⊢
 generalize (ZbW (Zc2 facts f (decide (d+1=L.length))) c (ZaC x L facts d p))=U at *
 generalize (Zc2 facts f (decide (d+1=L.length)) U.1 0 p)=B at *
 cases hfn:Ze3 d p c.N c.P with
 | some i =>
  obtain⟨i1,i2,i3⟩:=Zly hfn
  rw[hfn]at hN hfu
  have hfu:(i:Int)<fuel:=hfu
  show Zq7 x Ns fuel (rg c.N.length) (i:Int)=rg c.N.length
  cases fuel with
  | zero=>rfl
  | succ fuel=>unfold Zq7;rw[if_pos (rg_has i1)]
 | none =>
  rw[hfn]at hN hfu
  have hN:B.1.N++[(⟨d,U.2,B.2⟩:Nod)] <+: Ns:=hN
  have hfu:(B.1.N.length:Int)<fuel:=hfu
  have hUB:U.1.N <+: B.1.N:=a2.pre
  have hcU:c.N.length<=U.1.N.length:=t2.pre.length_le
  have hUl:U.1.N.length<=B.1.N.length:=hUB.length_le
  have hBN:B.1.N <+: Ns:=(zb1 _ _).trans hN
  have hnode:Zdw Ns (B.1.N.length:Int)=(⟨d,U.2,B.2⟩:Nod):=by
   obtain⟨t,rfl⟩:=hN
   rw[Zm8 (by simp)]
   simp
  show Zq7 x Ns fuel (rg c.N.length) (B.1.N.length:Int)=rg (B.1.N++[(⟨d,U.2,B.2⟩:Nod)]).length
  rw[zaj,List.length_cons,List.length_nil,<- rg_succ]
  cases fuel with
  | zero=>omega
  | succ fuel =>
   unfold Zq7
   rw[if_neg (rg_not (by omega))]
   congr 1
   unfold chs
   rw[hnode]
   by_cases hl:d+1=L.length
   ·have hlast:lastB x ((⟨d,U.2,B.2⟩:Nod)).dim=true:=by unfold lastB;simp;omega
    rw[if_pos hlast,List.foldl_nil,hla hl,hlt hl]
   ·have hlast:lastB x ((⟨d,U.2,B.2⟩:Nod)).dim=false:=by unfold lastB;simp;omega
    rw[if_neg (by rw[hlast];decide)]
    unfold each
    rw[zaV,zb4]
    have hz:∀t∈U.2,∀z∈t,z.child<(fuel:Int):=fun t ht z hz=>by
     obtain⟨g,hg,hr⟩:=ZrF t3 t ht
     obtain⟨q,hq,hk,hc⟩:=ZrF hr z hz
     have:=Zta hc hl
     omega
    have hza:B.2.child<(fuel:Int):=by have:=Zta a4 hl;omega
    show([B.2].map Cel.child).foldl (Zq7 x Ns fuel) ((U.2.flatten.map Cel.child).foldl (Zq7 x Ns fuel) (rg c.N.length))=_
    rw[hto hl Ns (hUB.trans hBN) fuel hz]
    exact hao hl Ns hBN fuel hza
theorem visD_o (hx:L.length=x.sizes.length):∀(n:Nat),n+1<=L.length->VisO x L facts (Zhq x L facts (n+1))
 | 0,h=>vis_o hx (d:=L.length - 1) (f:=Zhq x L facts 0) (by have:1<=L.length:=h;omega) (fun h2=>absurd (show L.length - 1+1=L.length by have:1<=L.length:=h;omega) h2) (fun h2=>absurd (show L.length - 1+1=L.length by have:1<=L.length:=h;omega) h2)
 | n+1,h=>vis_o hx (d:=L.length - (n+1+1)) (f:=Zhq x L facts (n+1)) (by omega) (fun _=>by
  have:=Zls (x:=x) (L:=L) (facts:=facts) n (by omega)
  rw[show L.length - (n+1+1)+1=L.length - (n+1) by omega]
  exact this) (fun _=>visD_o hx n (by omega))
end
theorem Zs7 {S:Sc} {facts:List Fct} (hx:(Zan S).length=(Za3 S).sizes.length) (h1:1<=(Zan S).length) (hw:Zlb (Za3 S) (Zcn S facts).N=true):isB (Za3 S) (Zcn S facts).N=true:=by
 unfold isB
 rw[hw,zbj]
 by_cases hf:facts=[]
 ·have e:(Zcn S facts).N=[]:=by unfold Zcn;rw[if_pos hf]
  rw[e];rfl
 have e:Zcn S facts=(Zhq (Za3 S) (Zan S) facts (Zan S).length ⟨[],[],false⟩ (List.range facts.length)).1:=by unfold Zcn;rw[if_neg hf]
 obtain⟨n,hn⟩:∃n,(Zan S).length=n+1:=⟨(Zan S).length - 1,by omega⟩
 have hs:=Zls (x:=Za3 S) (L:=Zan S) (facts:=facts) n (by omega) ⟨[],[],false⟩ (List.range facts.length) (Zhu hf) Zf8
 have ho:=visD_o (facts:=facts) hx n (by omega) ⟨[],[],false⟩ (List.range facts.length) (Zhu hf) Zf8 (Zcn S facts).N (by rw[e,hn];exact zbt _)
 rw[<- hn,<- e]at ho
 have hlst:(Zhq (Za3 S) (Zan S) facts (Zan S).length ⟨[],[],false⟩ (List.range facts.length)).2+1=((Zcn S facts).N.length:Int):=by
  rw[e,hn]
  exact Zst rfl
 have hinc:∀n,incB (rg n)=true:=fun n=>by unfold incB rg;simp
 have hl0:0<(Zcn S facts).N.length:=by
  obtain⟨_,_,j,hj,hjl,_⟩:=hs
  rw[<- hn,<- e]at hjl
  omega
 have hr:Zq6 (Za3 S) (Zcn S facts).N (((Zcn S facts).N.length:Int) - 1)=rg (Zcn S facts).N.length:=by
  unfold Zq6
  rw[if_pos (by omega),show((Zcn S facts).N.length:Int) - 1=(Zhq (Za3 S) (Zan S) facts (Zan S).length ⟨[],[],false⟩ (List.range facts.length)).2 by omega]
  exact ho _ (by omega)
 rw[hr,hinc]
section
variable (x:Shp) (L:List (List (List Int))) (facts:List Fct)
def cuts:Nat->List (List Nat)
 | 0=>[List.range facts.length]
 | d+1=>(cuts d).flatMap fun p=>p :: (ZaC x L facts d p).flatMap fun t=>t.map (·.2)
def Zru (c c':DSt):Prop:=∃N' P',c'.N=c.N++N'/\c'.P=c.P++P'/\ZeK (fun(n:Nod) p=>∃d:Nat,n.dim=(d:Int)/\p∈cuts x L facts d) N' P'
end
theorem ZeK.app {α β:Type} {R:α->β->Prop} {l l':List α} {m m':List β} (h:ZeK R l m) (k:ZeK R l' m'):ZeK R (l++l') (m++m'):=by
 induction h with
 | nil=>exact k
 | cons h _ ih=>exact .cons h ih
section
variable {x:Shp} {L:List (List (List Int))} {facts:List Fct}
theorem Zru.refl (c:DSt):Zru x L facts c c:=⟨[],[],by simp,by simp,.nil⟩
theorem Zru.trans {c c' c'':DSt} (h:Zru x L facts c c') (k:Zru x L facts c' c''):Zru x L facts c c'':=by
 obtain⟨N1,P1,h1,h2,h3⟩:=h
 obtain⟨N2,P2,k1,k2,k3⟩:=k
 exact⟨N1++N2,P1++P2,by rw[k1,h1,zaI],by rw[k2,h2,zaI],h3.app k3⟩
theorem cuts_all {d:Nat} {p:List Nat} (h:p∈cuts x L facts d):p∈cuts x L facts (d+1):=zbC.2 ⟨p,h,zah⟩
theorem cuts_grp {d:Nat} {p:List Nat} (h:p∈cuts x L facts d):∀t∈ZaC x L facts d p,∀q∈t,q.2∈cuts x L facts (d+1):=fun t ht q hq =>
 zbC.2 ⟨p,h,zae _ (zbC.2 ⟨t,ht,zcz hq⟩)⟩
theorem Zry {d:Nat} {h:DSt->Int->List Nat->DSt×Cel} (hh:∀c k p,p∈cuts x L facts d->Zru x L facts c (h c k p).1):∀(l:List (Int×List Nat)) (c:DSt),(∀q∈l,q.2∈cuts x L facts d)->Zru x L facts c (cellsD h c l).1
 | [],c,_=>Zru.refl c
 | p :: ps,c,hp=>(hh c p.1 p.2 (hp p zah)).trans (Zry hh ps _ fun q hq=>hp q (zae _ hq))
theorem Zrz {d:Nat} {h:DSt->Int->List Nat->DSt×Cel} (hh:∀c k p,p∈cuts x L facts d->Zru x L facts c (h c k p).1):∀(l:List (List (Int×List Nat))) (c:DSt),(∀t∈l,∀q∈t,q.2∈cuts x L facts d)->Zru x L facts c (ZbW h c l).1
 | [],c,_=>Zru.refl c
 | p :: ps,c,hp=>(Zry hh p c (hp p zah)).trans (Zrz hh ps _ fun q hq=>hp q (zae _ hq))
theorem vis_adds {d:Nat} {f:DSt->List Nat->DSt×Int} (hf:∀c p,p∈cuts x L facts (d+1)->Zru x L facts c (f c p).1) (c:DSt) (p:List Nat) (hp:p∈cuts x L facts d):Zru x L facts c (ZpU x L facts f d c p).1:=by
 have hcel:∀c k p,p∈cuts x L facts (d+1)->Zru x L facts c (Zc2 facts f (decide (d+1=L.length)) c k p).1:=fun c k p hp=>by
  unfold Zc2
  split
  ·exact⟨[],[],by simp,by simp,.nil⟩
  ·exact hf c p hp
 have h1:=Zrz hcel (ZaC x L facts d p) c (cuts_grp hp)
 unfold ZpU
 generalize (ZbW (Zc2 facts f (decide (d+1=L.length))) c (ZaC x L facts d p))=U at *
 have h2:=hcel U.1 0 p (cuts_all hp)
 generalize (Zc2 facts f (decide (d+1=L.length)) U.1 0 p)=B at *
 cases Ze3 d p c.N c.P with
 | some i=>exact Zru.refl c
 | none =>
  refine(h1.trans h2).trans ?_
  exact⟨[⟨d,U.2,B.2⟩],[p],rfl,rfl,.cons ⟨d,rfl,hp⟩ .nil⟩
theorem Zr0:∀(n:Nat),n<=L.length->∀c p,p∈cuts x L facts (L.length - n)->Zru x L facts c (Zhq x L facts n c p).1
 | 0,_,c,_,_=>Zru.refl c
 | n+1,h,c,p,hp=>vis_adds (d:=L.length - (n+1)) (fun c p hp=>Zr0 n (by omega) c p (by rw[show L.length - (n+1)+1=L.length - n by omega]at hp;exact hp)) c p hp
def lens (l:List (List Nat)):Nat:=(l.map List.length).sum
theorem lens_app (l m:List (List Nat)):lens (l++m)=lens l+lens m:=by simp[lens]
theorem Zrr {α:Type} {f:α->List (List Nat)} {g:α->Nat} {b:Nat}:∀{l:List α},(∀a∈l,lens (f a)<=g a * b)->lens (l.flatMap f)<=(l.map g).sum * b
 | [],_=>by simp[lens]
 | a :: l,h=>by
  rw[zbu,lens_app,zak,List.sum_cons,za1]
  exact Nat.add_le_add (h a zah) (Zrr fun c hc=>h c (zae _ hc))
theorem one_le (k:Int):∀(l:List Nat),l.Nodup->((l.map fun j:Nat=>if k=(j:Int) then 1 else 0).sum:Nat)<=1
 | [],_=>by simp
 | a :: l,h=>by
  obtain⟨h1,h2⟩:=zbz.1 h
  rw[zak,List.sum_cons]
  split
  ·rename_i e
   have:(l.map fun j:Nat=>if k=(j:Int) then 1 else 0).sum=0:=by
    clear h h2
    induction l with
    | nil=>rfl
    | cons b l ih =>
     rw[zak,List.sum_cons,if_neg (fun hb=>h1 (by rw[zao];exact .inl (by omega))),ih fun hb=>h1 (zae _ hb)]
   omega
  ·have:=one_le k l h2;omega
theorem Zsz (key:Nat->Int) {ks:List Nat} (hk:ks.Nodup):∀(p:List Nat),((ks.map fun k:Nat=>(p.filter fun i=>decide (key i=(k:Int))).length).sum:Nat)<=p.length
 | []=>by
  have:∀l:List Nat,(l.map fun k:Nat=>(([]:List Nat).filter fun i=>decide (key i=(k:Int))).length).sum=0:=fun l=>by
   induction l with
   | nil=>rfl
   | cons a l ih=>rw[zak,List.sum_cons,ih];rfl
  rw[this];exact zai _
 | a :: p=>by
  have h1:=Zsz key hk p
  have h2:=one_le (key a) ks hk
  have e:∀l:List Nat,(l.map fun k:Nat=>((a :: p).filter fun i=>decide (key i=(k:Int))).length).sum=(l.map fun k:Nat=>(p.filter fun i=>decide (key i=(k:Int))).length).sum+(l.map fun j:Nat=>if key a=(j:Int) then 1 else 0).sum:=fun l=>by
   induction l with
   | nil=>rfl
   | cons b l ih =>
    rw[zak,List.sum_cons,ih,zak,List.sum_cons,zak,List.sum_cons]
    by_cases hb:key a=(b:Int)
    ·rw[List.filter_cons_of_pos (by simpa using hb),if_pos hb,List.length_cons];omega
    ·rw[List.filter_cons_of_neg (by simpa using hb),if_neg hb];omega
  rw[e,List.length_cons]
  omega
theorem grs_lens (key:Nat->Int) (n:Nat) (p:List Nat):lens ((grs key n p).map (·.2))<=p.length:=by
 refine zaM ?_ (Zsz key (List.nodup_range (n:=n)) p)
 unfold grs
 generalize List.range n=ks
 induction ks with
 | nil=>simp[lens]
 | cons k ks ih =>
  rw[List.filterMap_cons,zak,List.sum_cons]
  split
  ·rename_i h;omega
  ·rename_i b h
   split at h
   ·cases h
   ·injection h with h
    subst h
    simp only[lens,zak,List.sum_cons]at ih ⊢
    omega
theorem cut_lens (h4:∀d,(L.getD d []).length<=4) (d:Nat) (p:List Nat):lens (p :: (ZaC x L facts d p).flatMap fun t=>t.map (·.2))<=p.length * 5:=by
 have h1:lens ((ZaC x L facts d p).flatMap fun t=>t.map (·.2))<=((ZaC x L facts d p).map fun _=>1).sum * p.length:=Zrr fun t ht=>by
  unfold ZaC at ht
  obtain⟨k,_,rfl⟩:=zan.1 ht
  rw[zbg]
  exact grs_lens _ _ _
 have h2:((ZaC x L facts d p).map fun _=>1).sum=(ZaC x L facts d p).length:=by
  generalize ZaC x L facts d p=l
  induction l with
  | nil=>rfl
  | cons a l ih=>rw[zak,List.sum_cons,ih,List.length_cons];omega
 have h3:(ZaC x L facts d p).length<=4:=by unfold ZaC;rw[zaa,List.length_range];exact h4 d
 rw[h2]at h1
 have h5:=zbk p.length h3
 show p.length+lens _<=_
 omega
theorem ZrQ (h4:∀d,(L.getD d []).length<=4):∀d,lens (cuts x L facts d)<=facts.length * 5 ^ d
 | 0=>by simp[cuts,lens]
 | d+1=>by
  have ih:=ZrQ h4 d
  have h1:lens (cuts x L facts (d+1))<=((cuts x L facts d).map List.length).sum * 5:=Zrr fun p _=>cut_lens h4 d p
  have h2:((cuts x L facts d).map List.length).sum<=facts.length * 5 ^ d:=ih
  rw[Nat.pow_succ,<- Nat.mul_assoc]
  exact zaM h1 (zbk 5 h2)
theorem Zth (hf:facts≠[]):∀d,∀p∈cuts x L facts d,p≠[]
 | 0,p,hp=>by
  rw[zat.1 hp]
  simpa using hf
 | d+1,p,hp=>by
  obtain⟨q,hq,hp⟩:=zbC.1 hp
  rcases zao.1 hp with rfl|hp
  ·exact Zth hf d p hq
  ·obtain⟨t,ht,hp⟩:=zbC.1 hp
   obtain⟨g,hg,rfl⟩:=zan.1 hp
   unfold ZaC at ht
   obtain⟨k,_,rfl⟩:=zan.1 ht
   exact(Zfb hg).1
theorem Zsw:∀{l:List (List Nat)},(∀p∈l,p≠[])->l.length<=lens l
 | [],_=>zaT _
 | p :: l,h=>by
  have h1:=Zsw fun q hq=>h q (zae _ hq)
  have h2:0<p.length:=zbO.2 (h p zah)
  simp only[lens,zak,List.sum_cons,List.length_cons]at h1 ⊢
  omega
def pow5:Nat->Nat
 | 0=>0
 | n+1=>pow5 n+5 ^ n
theorem pairs5 (h4:∀d,(L.getD d []).length<=4) (hf:facts≠[]):∀D,((List.range D).flatMap fun d=>(cuts x L facts d).map fun p=>(d,p)).length<=facts.length * pow5 D
 | 0=>by simp
 | D+1=>by
  have ih:=pairs5 h4 hf D
  have h1:=zaM (Zsw (Zth (x:=x) (L:=L) hf D)) (ZrQ h4 D)
  rw[List.range_succ,zcy,zaj]
  simp only[zbu,List.flatMap_nil,zau,zaa]
  rw[pow5,Nat.mul_add]
  omega
theorem ZsJ {c:DSt} (h:ZdW x L facts c) (ha:Zru x L facts ⟨[],[],false⟩ c) (h4:∀d,(L.getD d []).length<=4) (hf:facts≠[]):c.N.length<=facts.length * pow5 L.length:=by
 refine zaM ?_ (pairs5 (x:=x) h4 hf L.length)
 have hl:=ZjN (l:=(List.range c.N.length).map fun i=>((c.N.getD i ZdH).dim.toNat,c.P.getD i [])) (m:=(List.range L.length).flatMap fun d=>(cuts x L facts d).map fun p=>(d,p)) ?_ ?_
 ·simpa using hl
 ·refine zbS.2 (List.pairwise_lt_range.imp_of_mem fun {i j} hi hj hij he=>?_)
  have hi:i<c.N.length:=by simpa using hi
  have hj:j<c.N.length:=by simpa using hj
  obtain⟨d,_,hn⟩:=h.nod i hi
  obtain⟨e,_,hm⟩:=h.nod j hj
  injection he with e1 e2
  have h1:=hn.1
  have h2:=hm.1
  have:=h.uniq i j hi hj (by rw[h1,h2]at e1 ⊢;omega) e2
  omega
 ·intro a ha2
  obtain⟨i,hi,rfl⟩:=zan.1 ha2
  have hi:i<c.N.length:=by simpa using hi
  obtain⟨d,hd,hn⟩:=h.nod i hi
  obtain⟨N',P',e1,e2,e3⟩:=ha
  have e1:c.N=N':=e1
  have e2:c.P=P':=e2
  have key:∀{l:List Nod} {m:List (List Nat)},ZeK (fun(n:Nod) p=>∃d:Nat,n.dim=(d:Int)/\p∈cuts x L facts d) l m->∀i,i<l.length->∃d:Nat,(l.getD i ZdH).dim=(d:Int)/\m.getD i []∈cuts x L facts d:=by
   intro l m h
   induction h with
   | nil=>intro i hi;exact absurd hi (zbQ i)
   | cons h _ ih =>
    intro i hi
    cases i with
    | zero=>exact h
    | succ i=>exact ih i (by simpa using hi)
  obtain⟨d2,k1,k2⟩:=key e3 i (by rw[<- e1];exact hi)
  rw[<- e1]at k1
  rw[<- e2]at k2
  have hd2:d2=d:=by have:=hn.1;omega
  subst hd2
  refine zbC.2 ⟨d2,by simpa using hd,zan.2 ⟨c.P.getD i [],k2,?_⟩⟩
  rw[k1];rfl
end
def jt (a b:Ag):Ag:=if a.n=0 then b else if b.n=0 then a else Zem a b 3
def Gd (a:Ag):Prop:=a=ag0\/1<=a.n
theorem gd0:Gd ag0:=.inl rfl
theorem jt_l (b:Ag):jt ag0 b=b:=if_pos rfl
theorem Gd.z {a:Ag} (h:Gd a) (hz:a.n=0):a=ag0:=h.elim id fun h=>by omega
theorem jt_r {a:Ag} (h:Gd a):jt a ag0=a:=by
 unfold jt
 by_cases c:a.n=0
 ·rw[if_pos c,h.z c]
 ·rw[if_neg c];exact if_pos rfl
theorem ZnW (a b:Ag):Zem a b 3=⟨a.n+b.n,a.s0+b.s0,if b.l0<a.l0 then b.l0 else a.l0,if b.h0 > a.h0 then b.h0 else a.h0,a.s1+b.s1,if b.l1<a.l1 then b.l1 else a.l1,if b.h1 > a.h1 then b.h1 else a.h1,a.s2+b.s2,if b.l2<a.l2 then b.l2 else a.l2,if b.h2 > a.h2 then b.h2 else a.h2⟩:=by
 unfold Zem
 simp only[show(0:Nat)<3 from by decide,show(1:Nat)<3 from by decide,show(2:Nat)<3 from by decide,if_true]
theorem ZoD (a b:Int):(if b<a then b else a)=(if a<b then a else b):=by split<;>split<;>omega
theorem ZoA (a b:Int):(if b > a then b else a)=(if a > b then a else b):=by split<;>split<;>omega
theorem Zoe (a b c:Int):(if c<(if b<a then b else a) then c else (if b<a then b else a))=(if (if c<b then c else b)<a then (if c<b then c else b) else a):=by
 repeat' split
 all_goals omega
theorem Zoh (a b c:Int):(if c > (if b > a then b else a) then c else (if b > a then b else a))=(if (if c > b then c else b) > a then (if c > b then c else b) else a):=by
 repeat' split
 all_goals omega
theorem ZqZ {a b:Ag} (ha:Gd a) (hb:Gd b):Gd (jt a b):=by
 unfold jt
 split
 ·exact hb
 ·rename_i h1
  split
  ·exact ha
  ·rename_i h2
   right
   rw[ZnW]
   rcases ha with rfl|ha
   ·exact absurd rfl h1
   ·rcases hb with rfl|hb
    ·exact absurd rfl h2
    ·simp only;omega
theorem ZqU {a b:Ag} (ha:Gd a) (hb:Gd b):jt a b=jt b a:=by
 by_cases h1:a.n=0
 ·rw[ha.z h1,jt_l,jt_r hb]
 ·by_cases h2:b.n=0
  ·rw[hb.z h2,jt_l,jt_r ha]
  ·unfold jt
   rw[if_neg h1,if_neg h2,if_neg h2,if_neg h1,ZnW,ZnW]
   simp only[Ag.mk.injEq]
   exact⟨Int.add_comm _ _,Int.add_comm _ _,ZoD _ _,ZoA _ _,Int.add_comm _ _,ZoD _ _,ZoA _ _,Int.add_comm _ _,ZoD _ _,ZoA _ _⟩
theorem Znl {a b c:Ag} (ha:Gd a) (hb:Gd b) (hc:Gd c):jt (jt a b) c=jt a (jt b c):=by
 by_cases h1:a.n=0
 ·rw[ha.z h1,jt_l,jt_l]
 ·by_cases h2:b.n=0
  ·rw[hb.z h2,jt_l,jt_r ha]
  ·by_cases h3:c.n=0
   ·rw[hc.z h3,jt_r hb,jt_r (ZqZ ha hb)]
   ·have e1:jt a b=Zem a b 3:=by unfold jt;rw[if_neg h1,if_neg h2]
    have e2:jt b c=Zem b c 3:=by unfold jt;rw[if_neg h2,if_neg h3]
    have a1:1<=a.n:=ha.elim (fun h=>absurd (h ▸ rfl) h1) id
    have b1:1<=b.n:=hb.elim (fun h=>absurd (h ▸ rfl) h2) id
    have c1:1<=c.n:=hc.elim (fun h=>absurd (h ▸ rfl) h3) id
    rw[e1,e2]
    unfold jt
    rw[if_neg (by rw[ZnW];simp only;omega),if_neg h3,if_neg h1,if_neg (by rw[ZnW];simp only;omega)]
    rw[ZnW,ZnW,ZnW,ZnW]
    simp only[Ag.mk.injEq]
    exact⟨zcD _ _ _,zcD _ _ _,Zoe _ _ _,Zoh _ _ _,zcD _ _ _,Zoe _ _ _,Zoh _ _ _,zcD _ _ _,Zoe _ _ _,Zoh _ _ _⟩
theorem Zon {j k:Nat} {a b:Ag} (ha:WAg j a) (hb:WAg k b) (hjk:j+k<=2000):Zdl a b=some (jt a b):=by
 obtain⟨c,hc,_⟩:=Zkv ha hb hjk
 rw[hc]
 unfold Zdl at hc
 unfold jt
 split at hc
 ·rename_i h;rw[if_pos h];exact hc.symm
 rename_i h1
 rw[if_neg h1]
 split at hc
 ·rename_i h;rw[if_pos h];exact hc.symm
 rename_i h2
 rw[if_neg h2]
 split at hc
 ·cases hc
 split at hc
 ·cases hc
 split at hc
 ·cases hc
 split at hc
 ·cases hc
 exact hc.symm
def sumJ (l:List Ag):Ag:=l.foldr jt ag0
theorem ZpA:∀{l:List Ag},(∀a∈l,Gd a)->Gd (sumJ l)
 | [],_=>gd0
 | a :: l,h=>ZqZ (h a zah) (ZpA fun b hb=>h b (zae _ hb))
theorem ZqM {facts:List Fct} (hf:∀f∈facts,WAg 2 f.2/\Gd f.2):∀(part:List Nat) (a:Ag) (k:Nat),WAg k a->Gd a->k+2 * part.length<=2000->(∀i∈part,i<facts.length)->ZdJ facts a part=some (jt a (sumJ (part.map fun i=>(facts.getD i ([],ag0)).2)))
 | [],a,k,_,hg,_,_=>by rw[zaD];exact congrArg some (jt_r hg).symm
 | i :: r,a,k,ha,hg,hl,hp=>by
  have hi:=hp i zah
  have hgi:facts.getD i ([],ag0)=facts[i]:=by rw[zaf,zab hi];rfl
  have hfi:=hf _ (zal hi)
  simp only[List.length_cons]at hl
  have h1:=Zon ha hfi.1 (show k+2<=2000 by omega)
  obtain⟨c,h2,h3⟩:=Zkv ha hfi.1 (show k+2<=2000 by omega)
  rw[h1]at h2
  injection h2 with h2
  unfold ZdJ
  rw[hgi,h1]
  simp only
  rw[ZqM hf r _ (k+2) (h2 ▸ h3) (ZqZ hg hfi.2) (by omega) (fun j hj=>hp j (zae _ hj)),zak,hgi]
  congr 1
  show _=jt a (jt facts[i].2 (sumJ _))
  refine Znl hg hfi.2 (ZpA fun b hb=>?_)
  obtain⟨j,hj,rfl⟩:=zan.1 hb
  have hjl:=hp j (zae _ hj)
  rw[zaf,zab hjl]
  exact(hf _ (zal hjl)).2
def keyV (L:List (List (List Int))) (k:List Int) (d t:Nat):Int:=((L.getD d []).getD t []).getD (k.getD d 0).toNat 0
def Znq (L:List (List (List Int))):Nat->List (Int×Int)->List Int->Bool
 | _,[],_=>true
 | d,q :: w,k=>(decide (q.1<0) || (keyV L k d q.1.toNat == q.2))&&Znq L (d+1) w k
theorem Zob (L:List (List (List Int))) (facts:List Fct) (i:Nat):∀(w:List (Int×Int)) (d:Nat),Za9 L facts d w i=Znq L d w (facts.getD i ([],ag0)).1
 | [],_=>rfl
 | q :: w,d=>by rw[Za9,Znq,Zob L facts i w (d+1)];rfl
theorem ZqS {α:Type} (l:List α) (a:α):(List.range l.length).map (fun i=>l.getD i a)=l:=by
 refine zbU (by simp) fun i h1 h2=>?_
 rw[zbp,zcB,zaf,zab h2];rfl
theorem Zqm (S:Sc) (facts:List Fct) (w:List (Int×Int)):(ptW S facts w).map (fun i=>facts.getD i ([],ag0))=facts.filter fun f=>Znq (Zan S) 0 w f.1:=by
 conv=>rhs;rw[<- ZqS facts ([],ag0),List.filter_map]
 unfold ptW
 congr 1
 refine zb6 fun i _=>?_
 exact Zob _ _ _ _ _
theorem Zpy (S:Sc) (facts:List Fct) (w w':List (Int×Int)):ptW S facts w=ptW S facts w' ↔ ∀f∈facts,Znq (Zan S) 0 w f.1=Znq (Zan S) 0 w' f.1:=by
 constructor
 ·intro h f hf
  obtain⟨i,hi,rfl⟩:=zaw hf
  have hg:facts.getD i ([],ag0)=facts[i]:=by rw[zaf,zab hi];rfl
  have h1:=Zob (Zan S) facts i w 0
  have h2:=Zob (Zan S) facts i w' 0
  rw[hg]at h1 h2
  rw[<- h1,<- h2,zbc]
  have hm:i∈ptW S facts w ↔ i∈ptW S facts w':=by rw[h]
  unfold ptW at hm
  simp only[zbb,zbq]at hm
  exact⟨fun q=>(hm.1 ⟨hi,q⟩).2,fun q=>(hm.2 ⟨hi,q⟩).2⟩
 ·intro h
  unfold ptW
  refine zb6 fun i hi=>?_
  have hi:i<facts.length:=by simpa using hi
  have hg:facts.getD i ([],ag0)=facts[i]:=by rw[zaf,zab hi];rfl
  rw[Zob,Zob,hg]
  exact h _ (zal hi)
theorem ZpC (S:Sc) (facts:List Fct) (w:List (Int×Int)):ptW S facts w=[] ↔ ∀f∈facts,Znq (Zan S) 0 w f.1=false:=by
 have h:=Zqm S facts w
 constructor
 ·intro he f hf
  rw[he,zaD]at h
  have:=zcj.1 h.symm f hf
  simpa using this
 ·intro hf
  rw[zcj.2 fun f hm=>by rw[hf f hm];decide]at h
  exact List.map_eq_nil_iff.1 h
def Zng:Nat->List Fct->List Fct->List Fct
 | 0,_,_=>[]
 | _+1,[],m=>m
 | _+1,f :: l,[]=>f :: l
 | n+1,f :: l,g :: m=>if f.1<g.1 then f :: Zng n l (g :: m) else if g.1<f.1 then g :: Zng n (f :: l) m else (f.1,jt f.2 g.2) :: Zng n l m
theorem Zpp {f g:List Int} (h1:¬f<g) (h2:¬g<f):f=g:=by
 rcases List.le_iff_lt_or_eq.mp (List.not_lt.mp h1)with h|h
 ·exact absurd h h2
 ·exact h.symm
theorem ZpH {P:Fct->Prop} {a:Fct} {l:List Fct}:(∃f∈a :: l,P f) ↔ P a\/∃f∈l,P f:=by
 constructor
 ·rintro⟨f,hf,h⟩
  rcases zao.1 hf with rfl|hf
  ·exact .inl h
  ·exact .inr ⟨f,hf,h⟩
 ·rintro(h|⟨f,hf,h⟩)
  ·exact⟨a,zah,h⟩
  ·exact⟨f,zae _ hf,h⟩
theorem ZnN:∀(n:Nat) (l m:List Fct),l.length+m.length<=n->∀k:List Int,(∃f∈Zng n l m,f.1=k) ↔ (∃f∈l,f.1=k)\/(∃f∈m,f.1=k)
 | 0,[],[],_,k=>by simp[Zng]
 | 0,f :: l,m,h,k=>by simp at h
 | 0,[],g :: m,h,k=>by simp at h
 | n+1,[],m,_,k=>by simp[Zng]
 | n+1,f :: l,[],_,k=>by simp[Zng]
 | n+1,f :: l,g :: m,h,k=>by
  simp only[List.length_cons]at h
  rw[Zng]
  split
  ·have ih:=ZnN n l (g :: m) (by simp only[List.length_cons];omega) k
   simp only[ZpH]at ih ⊢
   rw[ih]
   constructor
   ·rintro(h|h|h)
    ·exact .inl (.inl h)
    ·exact .inl (.inr h)
    ·exact .inr h
   ·rintro((h|h)|h)
    ·exact .inl h
    ·exact .inr (.inl h)
    ·exact .inr (.inr h)
  ·split
   ·have ih:=ZnN n (f :: l) m (by simp only[List.length_cons];omega) k
    simp only[ZpH]at ih ⊢
    rw[ih]
    constructor
    ·rintro(h|h|h)
     ·exact .inr (.inl h)
     ·exact .inl h
     ·exact .inr (.inr h)
    ·rintro(h|h|h)
     ·exact .inr (.inl h)
     ·exact .inl h
     ·exact .inr (.inr h)
   ·rename_i h1 h2
    have he:=Zpp h1 h2
    have ih:=ZnN n l m (by omega) k
    simp only[ZpH]at ih ⊢
    rw[ih,he]
    constructor
    ·rintro(h|h|h)
     ·exact .inl (.inl h)
     ·exact .inl (.inr h)
     ·exact .inr (.inr h)
    ·rintro((h|h)|h|h)
     ·exact .inl h
     ·exact .inr (.inl h)
     ·exact .inl h
     ·exact .inr (.inr h)
theorem Znn {P:Fct->Prop}:∀(n:Nat) (l m:List Fct),(∀f∈l,P f)->(∀f∈m,P f)->(∀f∈l,∀g∈m,f.1=g.1->P (f.1,jt f.2 g.2))->∀f∈Zng n l m,P f
 | 0,_,_,_,_,_,f,hf=>by simp[Zng]at hf
 | _+1,[],m,_,hm,_,f,hf=>hm f hf
 | _+1,f' :: l,[],hl,_,_,f,hf=>hl f hf
 | n+1,a :: l,g :: m,hl,hm,hj,f,hf=>by
  have hl':=fun f hf=>hl f (zae _ hf)
  have hm':=fun f hf=>hm f (zae _ hf)
  rw[Zng]at hf
  split at hf
  ·rcases zao.1 hf with rfl|hf
   ·exact hl _ zah
   ·exact Znn n l (g :: m) hl' hm (fun f hf=>hj f (zae _ hf)) f hf
  ·split at hf
   ·rcases zao.1 hf with rfl|hf
    ·exact hm _ zah
    ·exact Znn n (a :: l) m hl hm' (fun f hf g hg=>hj f hf g (zae _ hg)) f hf
   ·rename_i h1 h2
    rcases zao.1 hf with rfl|hf
    ·exact hj _ zah _ zah (Zpp h1 h2)
    ·exact Znn n l m hl' hm' (fun f hf g hg=>hj f (zae _ hf) g (zae _ hg)) f hf
def Zqk (p:List Int->Bool) (l:List Fct):Ag:=sumJ ((l.filter fun f=>p f.1).map (·.2))
theorem Zni (p:List Int->Bool) (f:Fct) (l:List Fct):Zqk p (f :: l)=if p f.1=true then jt f.2 (Zqk p l) else Zqk p l:=by
 unfold Zqk
 rw[List.filter_cons]
 split
 ·rw[zak];rfl
 ·rfl
theorem ZnU {p:List Int->Bool} {l:List Fct} (h:∀f∈l,Gd f.2):Gd (Zqk p l):=ZpA fun a ha=>by
 obtain⟨f,hf,rfl⟩:=zan.1 ha
 exact h f (zbb.1 hf).1
theorem Zor (p:List Int->Bool):∀(n:Nat) (l m:List Fct),l.length+m.length<=n->(∀f∈l,Gd f.2)->(∀f∈m,Gd f.2)->Zqk p (Zng n l m)=jt (Zqk p l) (Zqk p m)
 | 0,[],[],_,_,_=>(jt_l _).symm
 | 0,f :: l,m,h,_,_=>by simp at h
 | 0,[],g :: m,h,_,_=>by simp at h
 | n+1,[],m,_,_,_=>(jt_l _).symm
 | n+1,f :: l,[],_,hl,_=>(jt_r (ZnU hl)).symm
 | n+1,f :: l,g :: m,h,hl,hm=>by
  simp only[List.length_cons]at h
  have hl':=fun f hf=>hl f (zae _ hf)
  have hm':=fun f hf=>hm f (zae _ hf)
  have gf:=hl f zah
  have gg:=hm g zah
  have sl:=ZnU (p:=p) hl'
  have sm:=ZnU (p:=p) hm'
  rw[Zng]
  split
  ·rw[Zni,Zor p n l (g :: m) (by simp only[List.length_cons];omega) hl' hm,Zni p f l]
   split
   ·exact(Znl gf sl (ZnU hm)).symm
   ·rfl
  ·split
   ·rw[Zni,Zor p n (f :: l) m (by simp only[List.length_cons];omega) hl hm',Zni p g m]
    split
    ·rw[<- Znl gg (ZnU hl) sm,ZqU gg (ZnU hl),Znl (ZnU hl) gg sm]
    ·rfl
   ·rename_i h1 h2
    have he:=Zpp h1 h2
    rw[Zni,Zor p n l m (by omega) hl' hm',Zni p f l,Zni p g m,<- he]
    simp only
    split
    ·rw[Znl gf gg (ZqZ sl sm),Znl gf sl (ZqZ gg sm),<- Znl gg sl sm,ZqU gg sl,Znl sl gg sm]
    ·rfl
abbrev Zom (l:List Fct):Prop:=l.Pairwise fun a b=>a.1<b.1
theorem cmp_lt {a b:List Int}:cmpL a b≥0 ↔ ¬a<b:=by
 have h:=Zjt a b
 by_cases c:a<b
 ·rw[decide_eq_true c]at h
  have h:decide (cmpL a b≥0)=false:=by simpa using h.symm
  exact⟨fun q=>absurd q (of_decide_eq_false h),fun q=>absurd c q⟩
 ·rw[decide_eq_false c]at h
  have h:decide (cmpL a b≥0)=true:=by simpa using h.symm
  exact⟨fun _=>c,fun _=>of_decide_eq_true h⟩
theorem ZnY {x:Shp}:∀{l:List Fct} {w:Option Fct},Zd7 x w l=0->Zom l/\∀q,w=some q->∀f∈l,q.1<f.1
 | [],w,_=>⟨List.Pairwise.nil,fun _ _ f hf=>by cases hf⟩
 | f :: r,w,h=>by
  rw[Zf5]at h
  split at h
  ·rename_i h1;exact absurd h h1
  ·split at h
   ·omega
   ·rename_i h1 h2
    obtain⟨i1,i2⟩:=ZnY h
    refine⟨zbs.2 ⟨i2 f rfl,i1⟩,fun q hq g hg=>?_⟩
    subst hq
    have h3:q.1<f.1:=by
     refine zaE fun hn=>h2 ?_
     exact decide_eq_true (cmp_lt.2 hn)
    rcases zao.1 hg with rfl|hg
    ·exact h3
    ·exact List.lt_trans h3 (i2 f rfl g hg)
theorem row_of {x:Shp}:∀{l:List Fct} {w:Option Fct},(∀f∈l,Zb8 x f=0)->Zom l->(∀q,w=some q->∀f∈l,q.1<f.1)->Zd7 x w l=0
 | [],w,_,_,_=>by cases w<;>rfl
 | f :: r,w,h1,h2,h3=>by
  obtain⟨r1,r2⟩:=zbs.1 h2
  have hg:geF w f=false:=by
   cases w with
   | none=>rfl
   | some q=>exact decide_eq_false fun hc=>(cmp_lt.1 hc) (h3 q rfl f zah)
  rw[Zf5,if_neg (fun hc=>hc (h1 f zah)),if_neg (by rw[hg];decide)]
  exact row_of (fun g hg=>h1 g (zae _ hg)) r2 fun q hq g hg=>by injection hq with hq;subst hq;exact r1 g hg
theorem Zn3:∀(n:Nat) (l m:List Fct),(Zng n l m).length<=l.length+m.length
 | 0,_,_=>by simp[Zng]
 | _+1,[],m=>by simp[Zng]
 | _+1,f :: l,[]=>by simp[Zng]
 | n+1,f :: l,g :: m=>by
  rw[Zng]
  have h1:=Zn3 n l (g :: m)
  have h2:=Zn3 n (f :: l) m
  have h3:=Zn3 n l m
  simp only[List.length_cons]at h1 h2 ⊢
  split
  ·simp only[List.length_cons];omega
  ·split
   ·simp only[List.length_cons];omega
   ·simp only[List.length_cons];omega
theorem Zn2:∀(n:Nat) (l m:List Fct),Zom l->Zom m->Zom (Zng n l m)
 | 0,_,_,_,_=>List.Pairwise.nil
 | _+1,[],m,_,hm=>hm
 | _+1,f :: l,[],hl,_=>hl
 | n+1,f :: l,g :: m,hl,hm=>by
  obtain⟨l1,l2⟩:=zbs.1 hl
  obtain⟨m1,m2⟩:=zbs.1 hm
  rw[Zng]
  split
  ·rename_i h
   refine zbs.2 ⟨Znn (P:=fun x=>f.1<x.1) n l (g :: m) l1 (fun x hx=>?_) fun a ha _ _ _=>l1 a ha,Zn2 n l (g :: m) l2 hm⟩
   rcases zao.1 hx with rfl|hx
   ·exact h
   ·exact List.lt_trans h (m1 x hx)
  ·split
   ·rename_i h
    have hx:∀x∈f :: l,g.1<x.1:=fun x hx=>by
     rcases zao.1 hx with rfl|hx
     ·exact h
     ·exact List.lt_trans h (l1 x hx)
    exact zbs.2 ⟨Znn (P:=fun x=>g.1<x.1) n (f :: l) m hx m1 fun a ha _ _ _=>hx a ha,Zn2 n (f :: l) m hl m2⟩
   ·rename_i h1 h2
    have he:=Zpp h1 h2
    exact zbs.2 ⟨Znn (P:=fun x=>f.1<x.1) n l m l1 (fun x hx=>he ▸ m1 x hx) fun a ha _ _ _=>l1 a ha,Zn2 n l m l2 m2⟩
theorem gd_of {x:Shp} {f:Fct} (h:Zb8 x f=0):Gd f.2:=by
 have h:=(Zcp h).2.2
 unfold Zbw at h
 simp only[zaA,decide_eq_true_eq]at h
 exact .inr h.1.1.1.2
theorem Zpl {x:Shp} {f g:Fct} (hf:Zb8 x f=0) (hg:Zb8 x g=0) (wf:WAg 1 f.2) (wg:WAg 1 g.2):Zb8 x (f.1,jt f.2 g.2)=0/\WAg 2 (jt f.2 g.2):=by
 have hj:=Zon wf wg (show 1+1<=2000 by decide)
 obtain⟨c,h1,h2⟩:=Zkv wf wg (show 1+1<=2000 by decide)
 rw[hj]at h1
 injection h1 with h1
 obtain⟨k1,k2,k3⟩:=Zcp hf
 have hm:=ZlJ k3 (Zcp hg).2.2 hj
 refine⟨?_,h1 ▸ h2⟩
 unfold Zb8
 rw[if_neg (fun h=>h k1),if_neg (fun h=>h k2),if_neg (by rw[hm];decide)]
theorem WAg.inn {a:Ag} (h:WAg 2 a):Zho a:=by
 obtain⟨h0,h1,h2,h3,h4⟩:=h
 exact⟨by unfold In64;omega,by unfold In64;omega,by unfold In64;omega,by unfold In64;omega⟩
theorem Zof {facts:List Fct} (hf:∀f∈facts,WAg 2 f.2):∀(part:List Nat) (a:Ag) (k:Nat),WAg k a->k+2 * part.length<=2000->(∀i∈part,i<facts.length)->∃b,ZdJ facts a part=some b/\WAg (k+2 * part.length) b
 | [],a,k,ha,_,_=>⟨a,rfl,ha⟩
 | i :: r,a,k,ha,hl,hp=>by
  have hi:=hp i zah
  have hg:facts.getD i ([],ag0)=facts[i]:=by rw[zaf,zab hi];rfl
  simp only[List.length_cons]at hl
  obtain⟨c,h1,h2⟩:=Zkv ha (hf _ (zal hi)) (by omega)
  obtain⟨b,h3,h4⟩:=Zof hf r c (k+2) h2 (by omega) fun j hj=>hp j (zae _ hj)
  refine⟨b,?_,h4.more (by simp only[List.length_cons];omega)⟩
  unfold ZdJ
  rw[hg,h1]
  exact h3
theorem Zn9 {S:Sc} {facts:List Fct} (hs:scE S=0) (hl:facts.length<=500) (hw:∀f∈facts,WAg 2 f.2):ZdW (Za3 S) (Zan S) facts (Zcn S facts)/\(Zcn S facts).over=false:=by
 have hLl:(Zan S).length=S.dims.length:=by unfold Zan;rw[zaa]
 have hs1:=(Zb7 hs).1
 unfold Zcn
 split
 ·exact⟨Zf8,rfl⟩
 ·rename_i hne
  have hp:=Zhu hne
  have h1:=Zls (x:=Za3 S) (L:=Zan S) (facts:=facts) ((Zan S).length - 1) (by omega) ⟨[],[],false⟩ _ hp Zf8
  rw[show(Zan S).length - 1+1=(Zan S).length by omega]at h1
  refine⟨h1.1,Zit (fun p hp=>?_) _ _ _ hp.ok⟩
  obtain⟨b,hb,_⟩:=Zof hw p ag0 0 wag0 (by have:=hp.2.1;omega) hp.2.2
  rw[hb];rfl
theorem ptW_in {S:Sc} {facts:List Fct} {w:List (Int×Int)}:(ptW S facts w).length<=facts.length/\∀i∈ptW S facts w,i<facts.length:=by
 unfold ptW
 exact⟨zaM (zb9 _ _) (by simp),fun i hi=>by simpa using (zbb.1 hi).1⟩
theorem ZqJ {S:Sc} {facts:List Fct} {w:List (Int×Int)} (hf:∀f∈facts,WAg 2 f.2/\Gd f.2) (hl:facts.length<=500):ZdJ facts ag0 (ptW S facts w)=some (Zqk (Znq (Zan S) 0 w) facts)/\WAg (2 * facts.length) (Zqk (Znq (Zan S) 0 w) facts):=by
 obtain⟨h1,h2⟩:=ptW_in (S:=S) (facts:=facts) (w:=w)
 have h3:ZdJ facts ag0 (ptW S facts w)=some (Zqk (Znq (Zan S) 0 w) facts):=by
  rw[ZqM hf _ ag0 0 wag0 gd0 (by omega) h2,jt_l]
  unfold Zqk
  rw[<- Zqm,zbw]
  rfl
 obtain⟨b,h4,h5⟩:=Zof (fun f h=>(hf f h).1) (ptW S facts w) ag0 0 wag0 (by omega) h2
 rw[h3]at h4
 injection h4 with h4
 exact⟨h3,h4 ▸ h5.more (by omega)⟩
structure MrgOk (S:Sc) (l m all:List Fct):Prop where
 law:AllOf S l m all (Zcn S l) (Zcn S m)
 row:Zd7 (Za3 S) none all=0
 inn:∀f∈all,Zho f.2
 wide:∀f∈all,WAg 2 f.2
 over:(Zcn S all).over=false
 doc:ZdW (Za3 S) (Zan S) all (Zcn S all)
theorem mrg_ok {S:Sc} {l m:List Fct} {n:Nat} (hs:scE S=0) (hl:Zd7 (Za3 S) none l=0) (hm:Zd7 (Za3 S) none m=0) (wl:∀f∈l,WAg 1 f.2) (wm:∀f∈m,WAg 1 f.2) (ll:l.length<=200) (lm:m.length<=200) (hn:l.length+m.length<=n):MrgOk S l m (Zng n l m):=by
 have fl:=Zcu hl
 have fm:=Zcu hm
 have w2l:∀f∈l,WAg 2 f.2:=fun f h=>(wl f h).more (by decide)
 have w2m:∀f∈m,WAg 2 f.2:=fun f h=>(wm f h).more (by decide)
 have gl:∀f∈l,Gd f.2:=fun f h=>gd_of (fl f h)
 have gm:∀f∈m,Gd f.2:=fun f h=>gd_of (fm f h)
 have fa:∀f∈Zng n l m,Zb8 (Za3 S) f=0:=Znn n l m fl fm fun f hf g hg _=>(Zpl (fl f hf) (fm g hg) (wl f hf) (wm g hg)).1
 have wa:∀f∈Zng n l m,WAg 2 f.2:=Znn n l m w2l w2m fun f hf g hg _=>(Zpl (fl f hf) (fm g hg) (wl f hf) (wm g hg)).2
 have ha:Zd7 (Za3 S) none (Zng n l m)=0:=row_of fa (Zn2 n l m (ZnY hl).1 (ZnY hm).1) fun q hq=>by cases hq
 have la:=Zn3 n l m
 have key:∀P:List Int->Prop,(∀f∈Zng n l m,P f.1) ↔ (∀f∈l,P f.1)/\∀f∈m,P f.1:=fun P=>by
  constructor
  ·intro h
   refine⟨fun f hf=>?_,fun f hf=>?_⟩
   ·obtain⟨g,hg,he⟩:=(ZnN n l m hn f.1).2 (.inl ⟨f,hf,rfl⟩)
    exact he ▸ h g hg
   ·obtain⟨g,hg,he⟩:=(ZnN n l m hn f.1).2 (.inr ⟨f,hf,rfl⟩)
    exact he ▸ h g hg
  ·rintro⟨h1,h2⟩ f hf
   rcases (ZnN n l m hn f.1).1 ⟨f,hf,rfl⟩with⟨g,hg,he⟩|⟨g,hg,he⟩
   ·exact he ▸ h1 g hg
   ·exact he ▸ h2 g hg
 have ia:∀f∈Zng n l m,Zho f.2:=fun f h=>(wa f h).inn
 obtain⟨d1,d2⟩:=Zn9 hs (by omega) wa
 refine⟨⟨ZdS hs hl (by omega) fun f h=>(w2l f h).inn,ZdS hs hm (by omega) fun f h=>(w2m f h).inn,ZdS hs ha (by omega) ia,(Zn9 hs (by omega) w2l).1,(Zn9 hs (by omega) w2m).1,fun w w'=>?_,fun w=>?_,fun w _=>?_⟩,ha,ia,wa,d2,d1⟩
 ·rw[Zpy,Zpy,Zpy]
  exact key fun k=>Znq (Zan S) 0 w k=Znq (Zan S) 0 w' k
 ·rw[ZpC,ZpC,ZpC]
  exact key fun k=>Znq (Zan S) 0 w k=false
 ·obtain⟨s1,v1⟩:=ZqJ (S:=S) (w:=w) (fun f h=>⟨w2l f h,gl f h⟩) (by omega)
  obtain⟨s2,v2⟩:=ZqJ (S:=S) (w:=w) (fun f h=>⟨w2m f h,gm f h⟩) (by omega)
  obtain⟨s3,v3⟩:=ZqJ (S:=S) (w:=w) (fun f h=>⟨wa f h,gd_of (fa f h)⟩) (by omega)
  rw[s1,s2,s3,Zor _ n l m hn gl gm]
  exact⟨_,Zon v1 v2 (by omega),rfl⟩
theorem Zov {α β:Type} {R:α->β->Prop}:∀{l:List α} {m:List β},ZeK R l m->∀a∈l,∃b∈m,R a b
 | _,_,.nil,a,h=>by cases h
 | _,_,.cons h t,a,ha=>by
  rcases zao.1 ha with rfl|ha
  ·exact⟨_,zah,h⟩
  ·obtain⟨b,hb,hr⟩:=Zov t a ha
   exact⟨b,zae _ hb,hr⟩
theorem grs_keys {key:Nat->Int} {n:Nat} {p:List Nat} {g:Int×List Nat} (hg:g∈grs key n p):0<=g.1/\g.1<n:=by
 unfold grs at hg
 obtain⟨k,hk0,hk⟩:=zbB.1 hg
 have:=zbq.1 hk0
 split at hk
 ·cases hk
 ·injection hk with hk
  subst hk
  simp only
  omega
section
variable {x:Shp} {L:List (List (List Int))} {facts:List Fct} {c:DSt}
theorem ZqF {b d:Nat} {p:List Nat} {z:Cel} (h:ZiH L facts c b d p z) (ha:∀f∈facts,Zho f.2) (hl:c.N.length<=1000000) (hk:0<=z.key/\z.key<=1000000):CelIn z:=by
 have hz:In64 z.key:=by unfold In64;omega
 unfold ZiH at h
 split at h
 ·obtain⟨h1,h2⟩:=h
  refine⟨hz,by rw[h1];decide,?_⟩
  rw[h2]
  cases hs:ZdJ facts ag0 p with
  | none=>exact Zpn
  | some g=>exact Zqz ha Zpn hs
 ·obtain⟨h1,j,h2,_,h4,_⟩:=h
  exact⟨hz,by rw[h2];unfold In64;omega,by rw[h1];exact Zpn⟩
theorem doc_in (hF:ZbI x L facts) (hD:ZdW x L facts c) (hl:c.N.length<=1000000):∀n∈c.N,NodIn n:=fun n hn=>by
 obtain⟨i,hi,rfl⟩:=zaw hn
 obtain⟨d,hd,h1,h2,h3,h4⟩:=hD.nod i hi
 rw[show c.N.getD i ZdH=c.N[i] by rw[zaf,zab hi];rfl]at h1 h2 h3 h4
 refine⟨fun t ht z hz=>?_,ZqF h3 hF.ag hl (by rw[h2];omega)⟩
 obtain⟨gs,hgs,hr⟩:=Zov h4 t ht
 obtain⟨g,hg,hk,hc⟩:=Zov hr z hz
 unfold ZaC at hgs
 obtain⟨k,_,rfl⟩:=zan.1 hgs
 have:=grs_keys hg
 have hsz:=hF.size d k
 exact ZqF hc hF.ag hl (by rw[hk];omega)
end
theorem Zqn {S:Sc} {most:Int} {facts:List Fct} (h:Zet S most facts=0) (ha:∀f∈facts,Zho f.2):ZbS (Za3 S)=true/\most<=131072/\Grown (Za3 S) most (Ze6 S most facts):=by
 unfold Zet at h
 split at h
 ·rename_i h1;exact absurd h h1
 rename_i h1
 split at h
 ·rename_i h2;exact absurd h h2
 rename_i h2
 split at h
 ·omega
 rename_i h3
 split at h
 ·omega
 rename_i h4
 have h4:newE (Za3 S) most=0:=zaW.1 h4
 have hm:ZbS (Za3 S)=true/\0<=most/\most<=131072:=by
  unfold newE at h4
  split at h4
  ·assumption
  ·omega
 refine⟨hm.1,hm.2.2,?_⟩
 split at h
 ·rename_i h5
  have e:Ze6 S most facts=[]:=by unfold Ze6;rw[if_pos h5]
  rw[e]
  exact⟨fun i hi=>by simp at hi,fun n hn=>by simp at hn⟩
 ·rename_i h5
  have e:Ze6 S most facts=(Zfa S most facts).N:=by unfold Ze6;rw[if_neg h5]
  rw[e]
  have hF:=ZdS (zaW.1 h1) (zaW.1 h2) (by omega) ha
  exact Zfj hF _ (zai _) _ _ ⟨fun i hi=>by simp at hi,fun n hn=>by simp at hn⟩
theorem ZnR {S:Sc} {most:Int} {facts:List Fct} (hF:ZbI (Za3 S) (Zan S) facts) (h:Zet S most facts=0) (hL:Ze6 S most facts=(Zcn S facts).N) (hD:ZdW (Za3 S) (Zan S) facts (Zcn S facts)) (hlen:(Zcn S facts).N.length<=100000) :
  Prw (Za3 S) (Zcn S facts).N/\∀i (hi:i<(Zcn S facts).N.length),ZbF (Za3 S) most ((Zcn S facts).N.take i) (Zcn S facts).N[i]=0:=by
 obtain⟨h1,h2,h3⟩:=Zqn h hF.ag
 rw[hL]at h3
 exact⟨Zqt (load_ofA h1 h2 h3.1) hlen h3.2 (doc_in hF hD (by omega)),h3.1⟩
theorem ZpL {S:Sc} {l m all:List Fct} {ml mm ma:Int} (hs:scE S=0) (hM:MrgOk S l m all) (el:Zet S ml l=0) (em:Zet S mm m=0) (ea:Zet S ma all=0)
  (bl:Ze6 S ml l=(Zcn S l).N) (bm:Ze6 S mm m=(Zcn S m).N) (ba:Ze6 S ma all=(Zcn S all).N) (nl:(Zcn S l).N.length<=100000) (nm:(Zcn S m).N.length<=100000) (na:(Zcn S all).N.length<=100000) :
  (ZoF (Za3 S) (Zcn S l).N (Zcn S m).N ma).e=0/\(ZoF (Za3 S) (Zcn S l).N (Zcn S m).N ma).N=(Zcn S all).N:=by
 have pl:=ZnR hM.law.fl el bl hM.law.dl nl
 have pm:=ZnR hM.law.fm em bm hM.law.dm nm
 have pa:=ZnR hM.law.fa ea ba hM.doc na
 exact Zqu hs hM.law pl.1 pm.1 pa.2
theorem Zsy {S:Sc} {most:Int} {facts:List Fct} (h:Zet S most facts=0):scE S=0/\Zd7 (Za3 S) none facts=0:=by
 unfold Zet at h
 split at h
 ·rename_i h1;exact absurd h h1
 rename_i h1
 split at h
 ·rename_i h2;exact absurd h h2
 rename_i h2
 exact⟨zaW.1 h1,zaW.1 h2⟩
theorem Zsp {S:Sc} {facts:List Fct} (hF:ZbI (Za3 S) (Zan S) facts) (hD:ZdW (Za3 S) (Zan S) facts (Zcn S facts)) (hd:S.dims.length<=4):(Zcn S facts).N.length<=facts.length * 156:=by
 have hLl:(Zan S).length=S.dims.length:=by unfold Zan;rw[zaa]
 by_cases hf:facts=[]
 ·have e:(Zcn S facts).N=[]:=by unfold Zcn;rw[if_pos hf]
  rw[e];exact zaT _
 have h4:∀d,((Zan S).getD d []).length<=4:=fun d=>by
  by_cases h:d<(Zan S).length
  ·rw[zaf,zab h];exact(hF.tier d h).2.1
  ·rw[zaf,zba (by omega)];exact zaT _
 have ha:Zru (Za3 S) (Zan S) facts ⟨[],[],false⟩ (Zcn S facts):=by
  unfold Zcn
  rw[if_neg hf]
  refine Zr0 _ (zai _) _ _ ?_
  rw[zcd]
  exact zat.2 rfl
 refine zaM (ZsJ hD ha h4 hf) (zcv _ ?_)
 have:∀n,n<=4->pow5 n<=156:=by decide
 exact this _ (by omega)
theorem Zs4 {S:Sc} {most:Int} {facts:List Fct} (hs:scE S=0) (hr:Zd7 (Za3 S) none facts=0) (ha:∀f∈facts,Zho f.2) (hfl:facts.length<=4000) (ho:(Zcn S facts).over=false) (hD:ZdW (Za3 S) (Zan S) facts (Zcn S facts)) (hd:S.dims.length<=4) (hm:((facts.length * 156:Nat):Int)<=most) (h1:most<=131072) :
  Zet S most facts=0/\Ze6 S most facts=(Zcn S facts).N/\Zlb (Za3 S) (Zcn S facts).N=true:=by
 have hw:ZsE S most facts=0:=by
  unfold ZsE
  rw[if_neg (fun h=>h hs),if_neg (fun h=>h hr),if_neg (by omega)]
 obtain⟨_,_,h3⟩:=ZkG hfl ha hw
 have hF:=ZdS hs hr hfl ha
 have:=Zsp hF hD hd
 exact h3 ho (by omega)
theorem Zr6 {S:Sc} {most:Int} {facts:List Fct} (hs:scE S=0) (hr:Zd7 (Za3 S) none facts=0) (ha:∀f∈facts,Zho f.2) (hfl:facts.length<=4000) (ho:(Zcn S facts).over=false) (h0:0<=most/\most<=131072) :
  Zet S most facts=7\/(Zet S most facts=0/\Ze6 S most facts=(Zcn S facts).N/\(Zcn S facts).N.length<=most/\Zlb (Za3 S) (Zcn S facts).N=true):=by
 have hw:ZsE S most facts=0:=by
  unfold ZsE
  rw[if_neg (fun h=>h hs),if_neg (fun h=>h hr),if_neg (by omega)]
 obtain⟨_,h2,h3⟩:=ZkG hfl ha hw
 by_cases c:(Zcn S facts).N.length<=most
 ·obtain⟨q1,q2,q3⟩:=h3 ho c
  exact .inr ⟨q1,q2,c,q3⟩
 ·exact .inl (h2 ho (by omega))
structure OrdOk (S:Sc) (l m all:List Fct):Prop where
 bl:Ze6 S 20000 l=(Zcn S l).N
 bm:Ze6 S 20000 m=(Zcn S m).N
 pa:Prw (Za3 S) (Zcn S l).N
 pb:Prw (Za3 S) (Zcn S m).N
 wa:Zlb (Za3 S) (Zcn S l).N=true
 wb:Zlb (Za3 S) (Zcn S m).N=true
 mt:(ZoF (Za3 S) (Zcn S l).N (Zcn S m).N 131072).e=0/\(ZoF (Za3 S) (Zcn S l).N (Zcn S m).N 131072).N=(Zcn S all).N
 ia:isB (Za3 S) (Zcn S l).N=true
 ib:isB (Za3 S) (Zcn S m).N=true
 ic:isB (Za3 S) (Zcn S all).N=true
 pc:Prw (Za3 S) (Zcn S all).N
theorem order_ok {S:Sc} {l m:List Fct} (a1:Zet S 20000 l=0) (c1:Zet S 20000 m=0) (wl:ZlW l) (wm:ZlW m) (ll:l.length<=8) (lm:m.length<=8) (hd:S.dims.length<=4):OrdOk S l m (Zng (l.length+m.length) l m):=by
 obtain⟨hs,hl⟩:=Zsy a1
 have hm:=(Zsy c1).2
 have vl:=wl.wag (m:=(Za3 S).measures) fun f hf=>(Zcp (Zcu hl f hf)).2.2
 have vm:=wm.wag (m:=(Za3 S).measures) fun f hf=>(Zcp (Zcu hm f hf)).2.2
 have hM:=mrg_ok (n:=l.length+m.length) hs hl hm vl vm (by omega) (by omega) (zai _)
 have hbl:=Zr6 (most:=20000) hs hl hM.law.fl.ag (by omega) (ZlB hs hl (by omega) vl).2 (by decide)
 have hbm:=Zr6 (most:=20000) hs hm hM.law.fm.ag (by omega) (ZlB hs hm (by omega) vm).2 (by decide)
 obtain⟨a2,a3,a4⟩:Ze6 S 20000 l=(Zcn S l).N/\(Zcn S l).N.length<=(20000:Int)/\Zlb (Za3 S) (Zcn S l).N=true:=by
  rcases hbl with h|⟨_,h⟩
  ·omega
  ·exact h
 obtain⟨c2,c3,c4⟩:Ze6 S 20000 m=(Zcn S m).N/\(Zcn S m).N.length<=(20000:Int)/\Zlb (Za3 S) (Zcn S m).N=true:=by
  rcases hbm with h|⟨_,h⟩
  ·omega
  ·exact h
 have hln:=Zn3 (l.length+m.length) l m
 obtain⟨d1,d2,d4⟩:=Zs4 (most:=131072) hs hM.row hM.inn (by omega) hM.over hM.doc hd (by omega) (by omega)
 have hdl:=Zsp hM.law.fa hM.doc hd
 have hx:(Zan S).length=(Za3 S).sizes.length:=hM.law.fl.len
 have h1:1<=(Zan S).length:=by unfold Zan;rw[zaa];exact(Zb7 hs).1
 exact⟨a2,c2,(ZnR hM.law.fl a1 a2 hM.law.dl (by omega)).1,(ZnR hM.law.fm c1 c2 hM.law.dm (by omega)).1,a4,c4,
  ZpL hs hM a1 c1 d1 a2 c2 d2 (by omega) (by omega) (by omega),Zs7 hx h1 a4,Zs7 hx h1 c4,Zs7 hx h1 d4,(ZnR hM.law.fa d1 d2 hM.doc (by omega)).1⟩
def Zr9:Zar:=.seq (.reg [io 93 (.ld 2 true (.t 4)),im 94 1,io 95 (.call (jf 12) [.t 93,ik 20000,.t 94]),im 92 95,io 96 (.ext (.t 92) 0),io 97 (.ext (.t 92) 1),im 13 96,im 14 97]) (.seq (.reg [io 99 (.ld 2 true (.t 4)),im 100 2,io 101 (.call (jf 12) [.t 99,ik 20000,.t 100]),im 98 101,io 102 (.ext (.t 98) 0),io 103 (.ext (.t 98) 1),im 15 102,im 16 103]) (.seq (.seq (.reg [im 104 14,io 105 (.bin .neq (.t 104) (ik 0)),im 106 105,ih 106 107 (.mv (.t 16)),ih 106 108 (.bin .neq (.t 107) (ik 0)),io 109 (.pick (.t 106) (ib true) (.t 108))]) (.cond (.t 109) (.seq (.reg [io 110 (.call (jf 41) []),im 8 110]) .ret) .skip)) (.seq (.reg [im 112 13,im 113 15,io 114 (.call (jf 32) [.t 112,.t 113,ik 131072]),im 111 114,io 115 (.ext (.t 111) 0),io 116 (.ext (.t 111) 1),im 17 115,im 18 116]) (.seq (.reg [im 117 18,io 118 (.bin .eql (.t 117) (ik 0)),im 119 118,ig 119 120 (.mv (.t 13)),ig 119 121 (.call (jf 46) [.t 120]),io 122 (.pick (.t 119) (.t 121) (ib false)),im 123 122,ig 123 124 (.mv (.t 15)),ig 123 125 (.call (jf 46) [.t 124]),io 126 (.pick (.t 123) (.t 125) (ib false)),im 127 126,ig 127 128 (.mv (.t 17)),ig 127 129 (.call (jf 46) [.t 128]),io 130 (.pick (.t 127) (.t 129) (ib false)),im 131 130,ig 131 132 (.call (jf 41) []),io 133 (.pick (.t 131) (.t 132) (ib false)),im 8 133]) .ret))))
def ZrJ:Zar:=.seq (.reg [io 55 (.ld 2 true (.t 4)),io 56 (.call (jf 15) [.t 55]),im 57 3,io 58 (.call (jf 36) [.t 56,.t 57]),im 54 58,io 59 (.ext (.t 54) 0),io 60 (.ext (.t 54) 1),im 9 59,im 10 60]) (.seq (.reg [im 61 10,io 62 (.bin .eql (.t 61) (ik 0)),im 63 62,ig 63 64 (.mv (.t 9)),ig 63 65 (.call (jf 19) [.t 64]),io 66 (.pick (.t 63) (.t 65) (ib false)),im 67 66,ig 67 68 (.mv (.t 9)),ig 67 69 (.call (jf 42) [.t 68]),ig 67 70 (.bin .gtr (.t 69) (ik 0)),io 71 (.pick (.t 67) (.t 70) (ib false))]) (.cond (.t 71) (.seq (.reg [im 73 9,im 74 9,io 75 (.call (jf 44) [.t 74]),io 76 (.call (jf 43) [.t 73,.t 75]),im 72 76,io 77 (.ext (.t 72) 0),io 78 (.ext (.t 72) 1),im 11 77,im 12 78]) (.seq (.reg [im 79 12,io 80 (.bin .neq (.t 79) (ik 0)),im 81 80,ih 81 82 (.mv (.t 9)),ih 81 83 (.mv (.t 11)),ih 81 84 (.call (jf 45) [.t 82,.t 83]),ih 81 85 (.un .not (.t 84)),io 86 (.pick (.t 81) (ib true) (.t 85)),im 87 86,ih 87 88 (.mv (.t 11)),ih 87 89 (.call (jf 46) [.t 88]),ih 87 90 (.un .not (.t 89)),io 91 (.pick (.t 87) (ib true) (.t 90))]) (.cond (.t 91) (.seq (.reg [io 8 (.mv (ib false))]) .ret) .skip))) .skip))
set_option maxRecDepth 10000 in
theorem ok_split:Zq4=.seq (.reg [io 4 (.box 25 (.t 0)),io 8 (.mv (ib false))]) (.seq (.seq (.reg [io 19 (.ld 2 true (.t 4)),io 20 (.call (jf 27) [.t 19]),io 21 (.un .not (.t 20)),im 22 21,ih 22 23 (.fla 0 (.t 4)),ih 22 24 (.ld 1 false (.t 23)),ih 22 25 (.len false (.t 24)),ih 22 26 (.bin .gtr (.t 25) (ik 4)),io 27 (.pick (.t 22) (ib true) (.t 26)),im 28 27,ih 28 29 (.mv (.t 1)),ih 28 30 (.call (jf 28) [.t 29,ik 8]),ih 28 31 (.un .not (.t 30)),io 32 (.pick (.t 28) (ib true) (.t 31)),im 33 32,ih 33 34 (.mv (.t 2)),ih 33 35 (.call (jf 28) [.t 34,ik 8]),ih 33 36 (.un .not (.t 35)),io 37 (.pick (.t 33) (ib true) (.t 36)),im 38 37,ih 38 39 (.mv (.t 1)),ih 38 40 (.call (jf 20) [.t 39]),ih 38 41 (.un .not (.t 40)),io 42 (.pick (.t 38) (ib true) (.t 41)),im 43 42,ih 43 44 (.mv (.t 2)),ih 43 45 (.call (jf 20) [.t 44]),ih 43 46 (.un .not (.t 45)),io 47 (.pick (.t 43) (ib true) (.t 46)),im 48 47,ih 48 49 (.mv (.t 3)),ih 48 50 (.call (jf 34) [.t 49,ik 15]),ih 48 51 (.un .not (.t 50)),io 52 (.pick (.t 48) (ib true) (.t 51))]) (.cond (.t 52) (.seq (.reg [io 53 (.call (jf 41) []),im 8 53]) .ret) .skip)) (.seq ZrJ Zr9)):=rfl
def w33x:Shp:=⟨[[1]],1⟩
def w33n:Nod:=⟨0,[[⟨0,0,⟨1,0,0,0,0,0,0,0,0,0⟩⟩]],⟨0,0,⟨1,0,0,0,0,0,0,0,0,0⟩⟩⟩
theorem Zr5:∀n∈[w33n],Zdb n:=fun n hn=>by
 rw[zat.1 hn];unfold Zdb;decide
theorem ZsU:ArW w33x [w33n]:=(Zr3 (by decide) (by decide) Zr5).1
theorem Ztb:Zq6 w33x [w33n] 0=[0]/\isB w33x [w33n]=true:=by decide
set_option maxHeartbeats 2000000 in
theorem Zq0 (H:Zaa):Zay Tryz.prog 41 [] H (ZrY H (.b true)):=by
 have hL:=fun lt G=>Zqd lt w33x [w33n] G (by decide) Zr5
 have hI:∀t u G,Zay Tryz.prog 26 [.sl t (rI [0]),.sl u (rI [0])] G (Pure G (.b true)):=fun t u G=>by
  have h:=ZkA t u [0] [0] G (by decide)
  rw[decide_eq_true rfl]at h
  exact h
 refine Zak hE cf41 (zad rfl) fun Q qr qn=>?_
 ((have hd:=tv;repeat' first|(first|apply Zad|apply Zac|apply Zab)<;>intro hd<;>try simp only[hd]|simp(disch:=first|assumption|omega|simp only[nx]<;>omega|fail)only[hd,qr,qn,ZsN,↓YA,YY,sevalprocAttr])<;>try revert hd;refine ttr ?_)
 refine Zap.use (Zay.wknA (hL .no _) rfl fun i a b ha hb=>?_) ?_
 ·match i with
  | 0=>simp only[List.getElem?_cons_zero,zac]at ha hb;subst ha hb;exact Zea (n:=10) rfl
  | 1=>simp only[List.getElem?_cons_zero,List.getElem?_cons_succ,zac]at ha hb;subst ha hb;exact Zea (n:=10) rfl
  | i+2=>simp at ha
 rintro r G1 ⟨hx1,hr⟩
 rcases hr with⟨h1,_⟩|⟨_,aid,rfl,hA⟩
 ·exact absurd (show Zm5 w33x [w33n]=0 by decide) h1
 have hA1:ArA G1 aid w33x [w33n]:=Zsc.arw hA
 have hx1:Zaa.Ext H G1:=((Zaa.Ext.refl H).alloc).trans hx1
 have hV:=fun G (h:Zaa.Ext G1 G)=>Zrb (hA1.ext h) ZsU 0
 have hS:=fun G (h:Zaa.Ext G1 G)=>Zq9 (hA1.ext h) ZsU
 rw[Ztb.1]at hV
 rw[Ztb.2]at hS
 ((have hd:=tv;repeat' first|(first|apply Zad|apply Zac|apply Zab)<;>intro hd<;>try simp only[hd]|simp(disch:=first|assumption|omega|simp only[nx]<;>omega|fail)only[hd,qr,qn,ZsN,↓YA,YY,sevalprocAttr])<;>try revert hd;refine ttr ?_)
 (refine Zap.use (hV G1 (Zaa.Ext.refl _)) ?_;rintro _ _ ⟨rfl,k1,rfl⟩)
 ((have hd:=tv;repeat' first|(first|apply Zad|apply Zac|apply Zab)<;>intro hd<;>try simp only[hd]|simp(disch:=first|assumption|omega|simp only[nx]<;>omega|fail)only[hd,qr,qn,ZsN,↓YA,YY,sevalprocAttr])<;>try revert hd;refine ttr ?_)
 (refine Zap.use (hI .no .full (G1.bump k1)) ?_;rintro _ _ ⟨rfl,k2,rfl⟩)
 ((have hd:=tv;repeat' first|(first|apply Zad|apply Zac|apply Zab)<;>intro hd<;>try simp only[hd]|simp(disch:=first|assumption|omega|simp only[nx]<;>omega|fail)only[hd,qr,qn,ZsN,↓YA,YY,sevalprocAttr])<;>try revert hd;refine ttr ?_)
 refine Zap.use (hS ((G1.bump k1).bump k2) ((Zaa.Ext.refl G1).bump.bump)) ?_
 rintro _ G4 ⟨rfl,hx4⟩
 have hx4:Zaa.Ext H G4:=hx1.trans ((Zaa.Ext.refl G1).bump.bump.trans hx4)
 ((have hd:=tv;repeat' first|(first|apply Zad|apply Zac|apply Zab)<;>intro hd<;>try simp only[hd]|simp(disch:=first|assumption|omega|simp only[nx]<;>omega|fail)only[hd,qr,qn,ZsN,↓YA,YY,sevalprocAttr])<;>try revert hd;refine ttr ?_)
 exact Zaq ⟨rfl,hx4⟩
set_option maxRecDepth 10000 in
set_option maxHeartbeats 8000000 in
theorem Zrt {S:Sc} {n:List Nod} {is:Nat} {Q:AEx->Fr->Zaa->Prop} {F:Fr} {G0:Zaa} (hd:S.dims.length<=1000000) (hdt:∀d∈S.dims,d.tiers.length<=1000000) (hl:n.length<=15) (hs:∀m∈n,Zdb m)
  (f3:Fr.get F 3=.sl .no (rN n)) (f4:Fr.get F 4=.ptr is 0) (g6:G0.get is=some (.cells (eSc S) 25)) (hQ:∀F' G',Fr.get F' 1=Fr.get F 1->Fr.get F' 2=Fr.get F 2->Fr.get F' 4=Fr.get F 4->Zaa.Ext G0 G'->Q .normal F' G'):AW Tryz.prog ZrJ Q F G0:=by
 obtain⟨e0,e1,e2,e3⟩:=ZbB S
 have qr:=trivial
 have qn:=trivial
 unfold ZrJ
 ((have hd:=tv;repeat' first|(first|apply Zad|apply Zac|apply Zab)<;>intro hd<;>try simp only[hd]|simp(disch:=first|assumption|omega|simp only[nx]<;>omega|fail)only[hd,qr,qn,Zq4,↓YA,YY,sevalprocAttr,f3,f4,g6,e0,e3])<;>try revert hd;refine ttr ?_)
 (refine Zap.use (ZeM S _ hd hdt) ?_;rintro _ _ ⟨rfl,k1,rfl⟩)
 ((have hd:=tv;repeat' first|(first|apply Zad|apply Zac|apply Zab)<;>intro hd<;>try simp only[hd]|simp(disch:=first|assumption|omega|simp only[nx]<;>omega|fail)only[hd,qr,qn,Zq4,↓YA,YY,sevalprocAttr,f3,f4,g6,e0,e3])<;>try revert hd;refine ttr ?_)
 refine Zap.use (Zqd .no (Za3 S) n _ (by omega) hs) ?_
 rintro r G1 ⟨hx1,hr⟩
 have hx1:Zaa.Ext G0 G1:=((Zaa.Ext.refl G0).bump).trans hx1
 by_cases e1:Zm5 (Za3 S) n=0
 case neg =>
  obtain⟨_,rfl⟩:Zm5 (Za3 S) n≠0/\r=_:=hr.elim id fun h=>absurd h.1 e1
  have d1:(Zm5 (Za3 S) n == 0)=false:=by simpa using e1
  ((have hd:=tv;repeat' first|(first|apply Zad|apply Zac|apply Zab)<;>intro hd<;>try simp only[hd]|simp(disch:=first|assumption|omega|simp only[nx]<;>omega|fail)only[hd,qr,qn,Zq4,↓YA,YY,sevalprocAttr,d1,f3,f4])<;>try revert hd;refine ttr ?_)
  exact hQ _ _ rfl rfl rfl hx1
 obtain⟨_,ia,rfl,hA⟩:=hr.elim (fun h=>absurd e1 h.1) id
 have hA1:=Zsc.arw hA
 obtain⟨wa,da⟩:=Zr3 e1 (by omega) hs
 have hwh:=fun G (h:Zaa.Ext G1 G)=>Znm (hA1.ext h) wa
 obtain⟨p1,p2,p3⟩:=wa.bounds
 have hlen:=fun G (h:Zaa.Ext G1 G)=>ZhQ (hA1.ext h) p1
 have htop:=fun G (h:Zaa.Ext G1 G)=>Ziu (hA1.ext h) p1 (by omega)
 have w1:=bfd (Zlb (Za3 S) n)
 rcases w1 with w1|w1
 ·rw[w1]at hwh
  ((have hd:=tv;repeat' first|(first|apply Zad|apply Zac|apply Zab)<;>intro hd<;>try simp only[hd]|simp(disch:=first|assumption|omega|simp only[nx]<;>omega|fail)only[hd,qr,qn,Zq4,↓YA,YY,sevalprocAttr,e1])<;>try revert hd;refine ttr ?_)
  (refine Zap.use (hwh G1 (Zaa.Ext.refl _)) ?_;rintro _ _ ⟨rfl,k2,rfl⟩)
  ((have hd:=tv;repeat' first|(first|apply Zad|apply Zac|apply Zab)<;>intro hd<;>try simp only[hd]|simp(disch:=first|assumption|omega|simp only[nx]<;>omega|fail)only[hd,qr,qn,Zq4,↓YA,YY,sevalprocAttr])<;>try revert hd;refine ttr ?_)
  exact hQ _ _ rfl rfl rfl (hx1.bump)
 rw[w1]at hwh
 by_cases h0:n.length=0
 case pos =>
  have d0:decide ((n.length:Int) > 0)=false:=by simp[h0]
  ((have hd:=tv;repeat' first|(first|apply Zad|apply Zac|apply Zab)<;>intro hd<;>try simp only[hd]|simp(disch:=first|assumption|omega|simp only[nx]<;>omega|fail)only[hd,qr,qn,Zq4,↓YA,YY,sevalprocAttr,e1])<;>try revert hd;refine ttr ?_)
  (refine Zap.use (hwh G1 (Zaa.Ext.refl _)) ?_;rintro _ _ ⟨rfl,k2,rfl⟩)
  ((have hd:=tv;repeat' first|(first|apply Zad|apply Zac|apply Zab)<;>intro hd<;>try simp only[hd]|simp(disch:=first|assumption|omega|simp only[nx]<;>omega|fail)only[hd,qr,qn,Zq4,↓YA,YY,sevalprocAttr])<;>try revert hd;refine ttr ?_)
  refine Zap.use (hlen _ ((Zaa.Ext.refl G1).bump)) ?_
  rintro _ G2 ⟨rfl,hx2⟩
  ((have hd:=tv;repeat' first|(first|apply Zad|apply Zac|apply Zab)<;>intro hd<;>try simp only[hd]|simp(disch:=first|assumption|omega|simp only[nx]<;>omega|fail)only[hd,qr,qn,Zq4,↓YA,YY,sevalprocAttr,d0])<;>try revert hd;refine ttr ?_)
  exact hQ _ _ rfl rfl rfl (hx1.bump.trans hx2)
 have d0:decide ((n.length:Int) > 0)=true:=by simp;omega
 obtain⟨C,hC,wc,hcl,t1,i1⟩:=Zto e1 (by omega) hs h0 w1
 have hcan:=fun G (h:Zaa.Ext G1 G)=>ZrU (hA1.ext h) wa e1 ((n.length:Int) - 1) (by omega) hC
 ((have hd:=tv;repeat' first|(first|apply Zad|apply Zac|apply Zab)<;>intro hd<;>try simp only[hd]|simp(disch:=first|assumption|omega|simp only[nx]<;>omega|fail)only[hd,qr,qn,Zq4,↓YA,YY,sevalprocAttr,e1])<;>try revert hd;refine ttr ?_)
 (refine Zap.use (hwh G1 (Zaa.Ext.refl _)) ?_;rintro _ _ ⟨rfl,k2,rfl⟩)
 ((have hd:=tv;repeat' first|(first|apply Zad|apply Zac|apply Zab)<;>intro hd<;>try simp only[hd]|simp(disch:=first|assumption|omega|simp only[nx]<;>omega|fail)only[hd,qr,qn,Zq4,↓YA,YY,sevalprocAttr])<;>try revert hd;refine ttr ?_)
 refine Zap.use (hlen _ ((Zaa.Ext.refl G1).bump)) ?_
 rintro _ G2 ⟨rfl,hx2⟩
 have hx2:Zaa.Ext G1 G2:=((Zaa.Ext.refl G1).bump).trans hx2
 ((have hd:=tv;repeat' first|(first|apply Zad|apply Zac|apply Zab)<;>intro hd<;>try simp only[hd]|simp(disch:=first|assumption|omega|simp only[nx]<;>omega|fail)only[hd,qr,qn,Zq4,↓YA,YY,sevalprocAttr,d0])<;>try revert hd;refine ttr ?_)
 refine Zap.use (htop _ hx2) ?_
 rintro _ G3 ⟨rfl,hx3⟩
 have hx3:Zaa.Ext G1 G3:=hx2.trans hx3
 ((have hd:=tv;repeat' first|(first|apply Zad|apply Zac|apply Zab)<;>intro hd<;>try simp only[hd]|simp(disch:=first|assumption|omega|simp only[nx]<;>omega|fail)only[hd,qr,qn,Zq4,↓YA,YY,sevalprocAttr])<;>try revert hd;refine ttr ?_)
 refine Zap.use (hcan _ hx3) ?_
 rintro r G4 ⟨hx4,ic,rfl,hA2⟩
 have hx4:Zaa.Ext G1 G4:=hx3.trans hx4
 have htl:=Zsd (hA1.ext hx4) hA2 wa wc
 rw[t1]at htl
 ((have hd:=tv;repeat' first|(first|apply Zad|apply Zac|apply Zab)<;>intro hd<;>try simp only[hd]|simp(disch:=first|assumption|omega|simp only[nx]<;>omega|fail)only[hd,qr,qn,Zq4,↓YA,YY,sevalprocAttr])<;>try revert hd;refine ttr ?_)
 refine Zap.use htl ?_
 rintro _ G5 ⟨rfl,hx5⟩
 have his:=Zq9 (hA2.ext hx5) wc
 rw[i1]at his
 ((have hd:=tv;repeat' first|(first|apply Zad|apply Zac|apply Zab)<;>intro hd<;>try simp only[hd]|simp(disch:=first|assumption|omega|simp only[nx]<;>omega|fail)only[hd,qr,qn,Zq4,↓YA,YY,sevalprocAttr])<;>try revert hd;refine ttr ?_)
 refine Zap.use his ?_
 rintro _ G6 ⟨rfl,hx6⟩
 ((have hd:=tv;repeat' first|(first|apply Zad|apply Zac|apply Zab)<;>intro hd<;>try simp only[hd]|simp(disch:=first|assumption|omega|simp only[nx]<;>omega|fail)only[hd,qr,qn,Zq4,↓YA,YY,sevalprocAttr])<;>try revert hd;refine ttr ?_)
 exact hQ _ _ rfl rfl rfl (((hx1.trans hx4).trans hx5).trans hx6)
set_option maxRecDepth 10000 in
set_option maxHeartbeats 8000000 in
theorem ZrK {S:Sc} {l m:List Fct} {is:Nat} {Q:AEx->Fr->Zaa->Prop} {F:Fr} {G0:Zaa} (hS:Zh1 S) (hd:S.dims.length<=4) (wl:ZlW l) (wm:ZlW m) (ll:l.length<=8) (lm:m.length<=8) (al:∀f∈l,Zho f.2) (am:∀f∈m,Zho f.2)
  (f1:Fr.get F 1=.sl .no (rF l)) (f2:Fr.get F 2=.sl .no (rF m)) (f4:Fr.get F 4=.ptr is 0) (g6:G0.get is=some (.cells (eSc S) 25)) (hQ:∀F G,Fr.get F 8=.b true->Q .ret F G):AW Tryz.prog Zr9 Q F G0:=by
 obtain⟨e0,e1,e2,e3⟩:=ZbB S
 have hbl:=fun G=>ZfY .no S 20000 l G hS (by omega) (fun q1 q2 q3 _=>ZdS q1 q2 q3 al)
 have hbm:=fun G=>ZfY .no S 20000 m G hS (by omega) (fun q1 q2 q3 _=>ZdS q1 q2 q3 am)
 have qr:=trivial
 have qn:=trivial
 have use:∀{facts:List Fct} {H G:Zaa} {r:AV},ZdZ S 20000 facts H r G->Zaa.Ext H G/\∃p e,r=.tup [p,.i e]/\((e != 0)=true\/(e=0/\Zet S 20000 facts=0/\∃id,p=.ptr id 0/\ArA G id (Za3 S) (Ze6 S 20000 facts))):=by
  rintro facts H G r ⟨hx,h⟩
  refine⟨hx,?_⟩
  rcases h with⟨h1,h2⟩|⟨h1,id,h2,h3⟩
  ·exact⟨_,_,h2,.inl (by simpa using h1)⟩
  ·exact⟨_,_,h2,.inr ⟨rfl,h1,id,rfl,h3⟩⟩
 unfold Zr9
 ((have hd:=tv;repeat' first|(first|apply Zad|apply Zac|apply Zab)<;>intro hd<;>try simp only[hd]|simp(disch:=first|assumption|omega|simp only[nx]<;>omega|fail)only[hd,qr,qn,Zq4,↓YA,YY,sevalprocAttr,f1,f2,f4,g6,e0,e3])<;>try revert hd;refine ttr ?_)
 refine Zap.use (hbl _) ?_
 rintro r G7 hr
 obtain⟨hy7,p7,e7,rfl,hr7⟩:=use hr
 have g6:=hy7.get _ _ g6
 ((have hd:=tv;repeat' first|(first|apply Zad|apply Zac|apply Zab)<;>intro hd<;>try simp only[hd]|simp(disch:=first|assumption|omega|simp only[nx]<;>omega|fail)only[hd,qr,qn,Zq4,↓YA,YY,sevalprocAttr,f1,f2,f4,g6,e0,e3])<;>try revert hd;refine ttr ?_)
 refine Zap.use (hbm _) ?_
 rintro r G8 hr
 obtain⟨hy8,p8,e8,rfl,hr8⟩:=use hr
 rcases hr7 with d7|⟨rfl,a1,i7,rfl,a5⟩
 ·((have hd:=tv;repeat' first|(first|apply Zad|apply Zac|apply Zab)<;>intro hd<;>try simp only[hd]|simp(disch:=first|assumption|omega|simp only[nx]<;>omega|fail)only[hd,qr,qn,Zq4,↓YA,YY,sevalprocAttr,d7])<;>try revert hd;refine ttr ?_)
  refine Zap.use (Zq0 _) ?_
  rintro r _ ⟨rfl,_⟩
  ((have hd:=tv;repeat' first|(first|apply Zad|apply Zac|apply Zab)<;>intro hd<;>try simp only[hd]|simp(disch:=first|assumption|omega|simp only[nx]<;>omega|fail)only[hd,qr,qn,Zq4,↓YA,YY,sevalprocAttr])<;>try revert hd;refine ttr ?_)
  exact hQ _ _ rfl
 rcases hr8 with d8|⟨rfl,c1,i8,rfl,c5⟩
 ·((have hd:=tv;repeat' first|(first|apply Zad|apply Zac|apply Zab)<;>intro hd<;>try simp only[hd]|simp(disch:=first|assumption|omega|simp only[nx]<;>omega|fail)only[hd,qr,qn,Zq4,↓YA,YY,sevalprocAttr,d8])<;>try revert hd;refine ttr ?_)
  refine Zap.use (Zq0 _) ?_
  rintro r _ ⟨rfl,_⟩
  ((have hd:=tv;repeat' first|(first|apply Zad|apply Zac|apply Zab)<;>intro hd<;>try simp only[hd]|simp(disch:=first|assumption|omega|simp only[nx]<;>omega|fail)only[hd,qr,qn,Zq4,↓YA,YY,sevalprocAttr])<;>try revert hd;refine ttr ?_)
  exact hQ _ _ rfl
 have hO:=order_ok a1 c1 wl wm ll lm hd
 rw[hO.bl]at a5
 rw[hO.bm]at c5
 have a5:=a5.ext hy8
 have hmg:=Zok 131072 a5 c5 hO.pa hO.pb
 ((have hd:=tv;repeat' first|(first|apply Zad|apply Zac|apply Zab)<;>intro hd<;>try simp only[hd]|simp(disch:=first|assumption|omega|simp only[nx]<;>omega|fail)only[hd,qr,qn,Zq4,↓YA,YY,sevalprocAttr])<;>try revert hd;refine ttr ?_)
 refine Zap.use hmg ?_
 rintro r G10 ⟨hy10,hr⟩
 rw[if_pos ⟨hO.wa,hO.wb,by decide,by decide⟩,if_neg (fun h=>h hO.mt.1),hO.mt.2]at hr
 obtain⟨did,rfl,hA3,_⟩:=hr
 have hi1:=fun G (h:Zaa.Ext G10 G)=>Zq9 ((a5.ext hy10).ext h) hO.pa.k.w
 have hi2:=fun G (h:Zaa.Ext G10 G)=>Zq9 ((c5.ext hy10).ext h) hO.pb.k.w
 have hi3:=fun G (h:Zaa.Ext G10 G)=>Zq9 (hA3.ext h) hO.pc.k.w
 rw[hO.ia]at hi1
 rw[hO.ib]at hi2
 rw[hO.ic]at hi3
 ((have hd:=tv;repeat' first|(first|apply Zad|apply Zac|apply Zab)<;>intro hd<;>try simp only[hd]|simp(disch:=first|assumption|omega|simp only[nx]<;>omega|fail)only[hd,qr,qn,Zq4,↓YA,YY,sevalprocAttr])<;>try revert hd;refine ttr ?_)
 refine Zap.use (hi1 _ (Zaa.Ext.refl _)) ?_
 rintro _ G11 ⟨rfl,hx11⟩
 ((have hd:=tv;repeat' first|(first|apply Zad|apply Zac|apply Zab)<;>intro hd<;>try simp only[hd]|simp(disch:=first|assumption|omega|simp only[nx]<;>omega|fail)only[hd,qr,qn,Zq4,↓YA,YY,sevalprocAttr])<;>try revert hd;refine ttr ?_)
 refine Zap.use (hi2 _ hx11) ?_
 rintro _ G12 ⟨rfl,hx12⟩
 have hx12:=hx11.trans hx12
 ((have hd:=tv;repeat' first|(first|apply Zad|apply Zac|apply Zab)<;>intro hd<;>try simp only[hd]|simp(disch:=first|assumption|omega|simp only[nx]<;>omega|fail)only[hd,qr,qn,Zq4,↓YA,YY,sevalprocAttr])<;>try revert hd;refine ttr ?_)
 refine Zap.use (hi3 _ hx12) ?_
 rintro _ G13 ⟨rfl,hx13⟩
 ((have hd:=tv;repeat' first|(first|apply Zad|apply Zac|apply Zab)<;>intro hd<;>try simp only[hd]|simp(disch:=first|assumption|omega|simp only[nx]<;>omega|fail)only[hd,qr,qn,Zq4,↓YA,YY,sevalprocAttr])<;>try revert hd;refine ttr ?_)
 refine Zap.use (Zq0 _) ?_
 rintro r _ ⟨rfl,_⟩
 ((have hd:=tv;repeat' first|(first|apply Zad|apply Zac|apply Zab)<;>intro hd<;>try simp only[hd]|simp(disch:=first|assumption|omega|simp only[nx]<;>omega|fail)only[hd,qr,qn,Zq4,↓YA,YY,sevalprocAttr])<;>try revert hd;refine ttr ?_)
 exact hQ _ _ rfl
set_option maxRecDepth 10000 in
set_option maxHeartbeats 8000000 in
theorem Ztq (S:Sc) (l m:List Fct) (n:List Nod) (H:Zaa) (al:∀f∈l,Zho f.2) (am:∀f∈m,Zho f.2):Zay Tryz.prog 9 [.agg (eSc S),.sl .no (rF l),.sl .no (rF m),.sl .no (rN n)] H fun r _=>r=.b true:=by
 obtain⟨f0,f1,f2,f3⟩:=ZbB S
 have g1:(H.alloc (.cells (eSc S) 25)).get H.next=some (.cells (eSc S) 25):=Zaa.Zae
 have hx0:Zaa.Ext H (H.alloc (.cells (eSc S) 25)):=(Zaa.Ext.refl H).alloc
 refine Zak hE cf9 (zad rfl) fun Q qr qn=>?_
 rw[ok_split]
 have hQf:∀F G,Fr.get F 8=.b true->Q .ret F G:=fun F G h=>by rw[qr];show ∃r2 H2,Zb6 (Fr.get F 8) G r2 H2/\r2=.b true;rw[h];exact Zaq rfl
 ((have hd:=tv;repeat' first|(first|apply Zad|apply Zac|apply Zab)<;>intro hd<;>try simp only[hd]|simp(disch:=first|assumption|omega|simp only[nx]<;>omega|fail)only[hd,qr,qn,Zq4,↓YA,YY,sevalprocAttr,f0,f3])<;>try revert hd;refine ttr ?_)
 refine Zap.use (ZiT S _) ?_
 rintro r H1 ⟨hx1,b,rfl,hb⟩
 have g1:=hx1.ext.get _ _ g1
 have hx1:=hx0.trans hx1.ext
 cases b with
 | false =>
  ((have hd:=tv;repeat' first|(first|apply Zad|apply Zac|apply Zab)<;>intro hd<;>try simp only[hd]|simp(disch:=first|assumption|omega|simp only[nx]<;>omega|fail)only[hd,qr,qn,Zq4,↓YA,YY,sevalprocAttr])<;>try revert hd;refine ttr ?_)
  refine Zap.use (Zq0 _) ?_
  rintro r H2 ⟨rfl,hx2⟩
  ((have hd:=tv;repeat' first|(first|apply Zad|apply Zac|apply Zab)<;>intro hd<;>try simp only[hd]|simp(disch:=first|assumption|omega|simp only[nx]<;>omega|fail)only[hd,qr,qn,Zq4,↓YA,YY,sevalprocAttr])<;>try revert hd;refine ttr ?_)
  exact Zaq rfl
 | true =>
 have hfs:=hb rfl
 have hS:Zh1 S:=fun d hd t ht=>by have:=((hfs.2 d hd).2 t ht).2;unfold Zgr;omega
 by_cases h6:(S.dims.length:Int) > 4
 ·have d6:decide ((S.dims.length:Int) > 4)=true:=decide_eq_true h6
  ((have hd:=tv;repeat' first|(first|apply Zad|apply Zac|apply Zab)<;>intro hd<;>try simp only[hd]|simp(disch:=first|assumption|omega|simp only[nx]<;>omega|fail)only[hd,qr,qn,Zq4,↓YA,YY,sevalprocAttr,g1,f0,f1,f3,d6,zaa])<;>try revert hd;refine ttr ?_)
  refine Zap.use (Zq0 _) ?_
  rintro r H2 ⟨rfl,hx2⟩
  ((have hd:=tv;repeat' first|(first|apply Zad|apply Zac|apply Zab)<;>intro hd<;>try simp only[hd]|simp(disch:=first|assumption|omega|simp only[nx]<;>omega|fail)only[hd,qr,qn,Zq4,↓YA,YY,sevalprocAttr])<;>try revert hd;refine ttr ?_)
  exact Zaq rfl
 have d6:decide ((S.dims.length:Int) > 4)=false:=decide_eq_false h6
 have hdt:∀d∈S.dims,d.tiers.length<=1000000:=fun d hd=>by have:=(hfs.2 d hd).1;omega
 ((have hd:=tv;repeat' first|(first|apply Zad|apply Zac|apply Zab)<;>intro hd<;>try simp only[hd]|simp(disch:=first|assumption|omega|simp only[nx]<;>omega|fail)only[hd,qr,qn,Zq4,↓YA,YY,sevalprocAttr,g1,f0,f1,f3,d6,zaa])<;>try revert hd;refine ttr ?_)
 refine Zap.use (Zfs .no l 8 _ (by decide)) ?_
 rintro r H2 ⟨hx2,b,rfl,hl⟩
 have g1:=hx2.ext.get _ _ g1
 have hx2:=hx1.trans hx2.ext
 cases b with
 | false =>
  ((have hd:=tv;repeat' first|(first|apply Zad|apply Zac|apply Zab)<;>intro hd<;>try simp only[hd]|simp(disch:=first|assumption|omega|simp only[nx]<;>omega|fail)only[hd,qr,qn,Zq4,↓YA,YY,sevalprocAttr])<;>try revert hd;refine ttr ?_)
  refine Zap.use (Zq0 _) ?_
  rintro r _ ⟨rfl,_⟩
  ((have hd:=tv;repeat' first|(first|apply Zad|apply Zac|apply Zab)<;>intro hd<;>try simp only[hd]|simp(disch:=first|assumption|omega|simp only[nx]<;>omega|fail)only[hd,qr,qn,Zq4,↓YA,YY,sevalprocAttr])<;>try revert hd;refine ttr ?_)
  exact Zaq rfl
 | true =>
 have hl:=hl rfl
 ((have hd:=tv;repeat' first|(first|apply Zad|apply Zac|apply Zab)<;>intro hd<;>try simp only[hd]|simp(disch:=first|assumption|omega|simp only[nx]<;>omega|fail)only[hd,qr,qn,Zq4,↓YA,YY,sevalprocAttr])<;>try revert hd;refine ttr ?_)
 refine Zap.use (Zfs .no m 8 _ (by decide)) ?_
 rintro r H3 ⟨hx3,b,rfl,hm⟩
 have g1:=hx3.ext.get _ _ g1
 have hx3:=hx2.trans hx3.ext
 cases b with
 | false =>
  ((have hd:=tv;repeat' first|(first|apply Zad|apply Zac|apply Zab)<;>intro hd<;>try simp only[hd]|simp(disch:=first|assumption|omega|simp only[nx]<;>omega|fail)only[hd,qr,qn,Zq4,↓YA,YY,sevalprocAttr])<;>try revert hd;refine ttr ?_)
  refine Zap.use (Zq0 _) ?_
  rintro r _ ⟨rfl,_⟩
  ((have hd:=tv;repeat' first|(first|apply Zad|apply Zac|apply Zab)<;>intro hd<;>try simp only[hd]|simp(disch:=first|assumption|omega|simp only[nx]<;>omega|fail)only[hd,qr,qn,Zq4,↓YA,YY,sevalprocAttr])<;>try revert hd;refine ttr ?_)
  exact Zaq rfl
 | true =>
 have hm:=hm rfl
 ((have hd:=tv;repeat' first|(first|apply Zad|apply Zac|apply Zab)<;>intro hd<;>try simp only[hd]|simp(disch:=first|assumption|omega|simp only[nx]<;>omega|fail)only[hd,qr,qn,Zq4,↓YA,YY,sevalprocAttr])<;>try revert hd;refine ttr ?_)
 refine Zap.use (Zkx .no l _ (by omega)) ?_
 rintro r H4 ⟨hx4,b,rfl,wl⟩
 have g1:=hx4.ext.get _ _ g1
 have hx4:=hx3.trans hx4.ext
 cases b with
 | false =>
  ((have hd:=tv;repeat' first|(first|apply Zad|apply Zac|apply Zab)<;>intro hd<;>try simp only[hd]|simp(disch:=first|assumption|omega|simp only[nx]<;>omega|fail)only[hd,qr,qn,Zq4,↓YA,YY,sevalprocAttr])<;>try revert hd;refine ttr ?_)
  refine Zap.use (Zq0 _) ?_
  rintro r _ ⟨rfl,_⟩
  ((have hd:=tv;repeat' first|(first|apply Zad|apply Zac|apply Zab)<;>intro hd<;>try simp only[hd]|simp(disch:=first|assumption|omega|simp only[nx]<;>omega|fail)only[hd,qr,qn,Zq4,↓YA,YY,sevalprocAttr])<;>try revert hd;refine ttr ?_)
  exact Zaq rfl
 | true =>
 have wl:=wl rfl
 ((have hd:=tv;repeat' first|(first|apply Zad|apply Zac|apply Zab)<;>intro hd<;>try simp only[hd]|simp(disch:=first|assumption|omega|simp only[nx]<;>omega|fail)only[hd,qr,qn,Zq4,↓YA,YY,sevalprocAttr])<;>try revert hd;refine ttr ?_)
 refine Zap.use (Zkx .no m _ (by omega)) ?_
 rintro r H5 ⟨hx5,b,rfl,wm⟩
 have g1:=hx5.ext.get _ _ g1
 have hx5:=hx4.trans hx5.ext
 cases b with
 | false =>
  ((have hd:=tv;repeat' first|(first|apply Zad|apply Zac|apply Zab)<;>intro hd<;>try simp only[hd]|simp(disch:=first|assumption|omega|simp only[nx]<;>omega|fail)only[hd,qr,qn,Zq4,↓YA,YY,sevalprocAttr])<;>try revert hd;refine ttr ?_)
  refine Zap.use (Zq0 _) ?_
  rintro r _ ⟨rfl,_⟩
  ((have hd:=tv;repeat' first|(first|apply Zad|apply Zac|apply Zab)<;>intro hd<;>try simp only[hd]|simp(disch:=first|assumption|omega|simp only[nx]<;>omega|fail)only[hd,qr,qn,Zq4,↓YA,YY,sevalprocAttr])<;>try revert hd;refine ttr ?_)
  exact Zaq rfl
 | true =>
 have wm:=wm rfl
 ((have hd:=tv;repeat' first|(first|apply Zad|apply Zac|apply Zab)<;>intro hd<;>try simp only[hd]|simp(disch:=first|assumption|omega|simp only[nx]<;>omega|fail)only[hd,qr,qn,Zq4,↓YA,YY,sevalprocAttr])<;>try revert hd;refine ttr ?_)
 refine Zap.use (Zs8 .no n 15 _ (by omega)) ?_
 rintro r H6 ⟨hx6,b,rfl,hn⟩
 have g1:=hx6.ext.get _ _ g1
 have hx6:=hx5.trans hx6.ext
 cases b with
 | false =>
  ((have hd:=tv;repeat' first|(first|apply Zad|apply Zac|apply Zab)<;>intro hd<;>try simp only[hd]|simp(disch:=first|assumption|omega|simp only[nx]<;>omega|fail)only[hd,qr,qn,Zq4,↓YA,YY,sevalprocAttr])<;>try revert hd;refine ttr ?_)
  refine Zap.use (Zq0 _) ?_
  rintro r _ ⟨rfl,_⟩
  ((have hd:=tv;repeat' first|(first|apply Zad|apply Zac|apply Zab)<;>intro hd<;>try simp only[hd]|simp(disch:=first|assumption|omega|simp only[nx]<;>omega|fail)only[hd,qr,qn,Zq4,↓YA,YY,sevalprocAttr])<;>try revert hd;refine ttr ?_)
  exact Zaq rfl
 | true =>
 have hn:=hn rfl
 ((have hd:=tv;repeat' first|(first|apply Zad|apply Zac|apply Zab)<;>intro hd<;>try simp only[hd]|simp(disch:=first|assumption|omega|simp only[nx]<;>omega|fail)only[hd,qr,qn,Zq4,↓YA,YY,sevalprocAttr])<;>try revert hd;refine ttr ?_)
 refine Zrt (S:=S) (n:=n) (is:=H.next) (by omega) hdt hn.1 hn.small rfl rfl g1 fun F' G' q1 q2 q4 hx7=>?_
 have g7:=hx7.get _ _ g1
 have q1:Fr.get F' 1=.sl .no (rF l):=q1
 have q2:Fr.get F' 2=.sl .no (rF m):=q2
 have q4:Fr.get F' 4=.ptr H.next 0:=q4
 ((have hd:=tv;repeat' first|(first|apply Zad|apply Zac|apply Zab)<;>intro hd<;>try simp only[hd]|simp(disch:=first|assumption|omega|simp only[nx]<;>omega|fail)only[hd,qr,qn,Zq4,↓YA,YY,sevalprocAttr])<;>try revert hd;refine ttr ?_)
 exact ZrK hS (by omega) wl wm hl hm al am q1 q2 q4 g7 hQf
end Go.Proofs.YtaapiigfmdhobaaGreat
