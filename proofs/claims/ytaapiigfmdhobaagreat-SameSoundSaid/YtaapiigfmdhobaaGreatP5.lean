/- Texts of the walk. -/
import Derived.Test.YtaapiigfmdhobaaGreatP3
import Derived.Test.YtaapiigfmdhobaaGreatMw
namespace Go.Proofs.YtaapiigfmdhobaaGreat
set_option linter.defProp false
set_option linter.unusedSimpArgs false
set_option linter.unusedVariables false
open Go.RowKit
section
variable {x:Shp} {L:List (List (List Int))} {facts:List Fct}
end
section
variable (x:Shp) (L:List (List (List Int))) (facts:List Fct)
def cuts:Nat->List (List Nat)
 | 0=>[List.range facts.length]
 | d+1=>(cuts d).flatMap fun p=>p :: (ZaC x L facts d p).flatMap fun t=>t.map (·.2)
def Zru (c c':DSt):Prop:=∃N' P',c'.N=c.N++N'/\c'.P=c.P++P'/\ZeK (fun(n:Nod) p=>∃d:Nat,n.dim=(d:Int)/\p∈cuts x L facts d) N' P'
end
theorem ZeK.app {α β:Type} {R:α->β->Prop} {l l':List α} {m m':List β} (h:ZeK R l m) (k:ZeK R l' m'):ZeK R (l++l') (m++m'):=by
 induction h with
 | nil=>exact k
 | cons h _ ih=>exact .cons h ih
section
variable {x:Shp} {L:List (List (List Int))} {facts:List Fct}
theorem Zru.refl (c:DSt):Zru x L facts c c:=⟨[],[],by simp,by simp,.nil⟩
theorem Zru.trans {c c' c'':DSt} (h:Zru x L facts c c') (k:Zru x L facts c' c''):Zru x L facts c c'':=by
 obtain⟨N1,P1,h1,h2,h3⟩:=h
 obtain⟨N2,P2,k1,k2,k3⟩:=k
 exact⟨N1++N2,P1++P2,by rw[k1,h1,zaM],by rw[k2,h2,zaM],h3.app k3⟩
theorem cuts_all {d:Nat} {p:List Nat} (h:p∈cuts x L facts d):p∈cuts x L facts (d+1):=zbr.2 ⟨p,h,zaf⟩
theorem cuts_grp {d:Nat} {p:List Nat} (h:p∈cuts x L facts d):∀t∈ZaC x L facts d p,∀q∈t,q.2∈cuts x L facts (d+1):=fun t ht q hq =>
 zbr.2 ⟨p,h,zad _ (zbr.2 ⟨t,ht,zcj hq⟩)⟩
theorem Zry {d:Nat} {h:DSt->Int->List Nat->DSt×Cel} (hh:∀c k p,p∈cuts x L facts d->Zru x L facts c (h c k p).1):∀(l:List (Int×List Nat)) (c:DSt),(∀q∈l,q.2∈cuts x L facts d)->Zru x L facts c (cellsD h c l).1
 | [],c,_=>Zru.refl c
 | p :: ps,c,hp=>(hh c p.1 p.2 (hp p zaf)).trans (Zry hh ps _ fun q hq=>hp q (zad _ hq))
theorem Zrz {d:Nat} {h:DSt->Int->List Nat->DSt×Cel} (hh:∀c k p,p∈cuts x L facts d->Zru x L facts c (h c k p).1):∀(l:List (List (Int×List Nat))) (c:DSt),(∀t∈l,∀q∈t,q.2∈cuts x L facts d)->Zru x L facts c (ZbW h c l).1
 | [],c,_=>Zru.refl c
 | p :: ps,c,hp=>(Zry hh p c (hp p zaf)).trans (Zrz hh ps _ fun q hq=>hp q (zad _ hq))
theorem vis_adds {d:Nat} {f:DSt->List Nat->DSt×Int} (hf:∀c p,p∈cuts x L facts (d+1)->Zru x L facts c (f c p).1) (c:DSt) (p:List Nat) (hp:p∈cuts x L facts d):Zru x L facts c (ZpU x L facts f d c p).1:=by
 have hcel:∀c k p,p∈cuts x L facts (d+1)->Zru x L facts c (Zc2 facts f (decide (d+1=L.length)) c k p).1:=fun c k p hp=>by
  unfold Zc2
  split
  ·exact⟨[],[],by simp,by simp,.nil⟩
  ·exact hf c p hp
 have h1:=Zrz hcel (ZaC x L facts d p) c (cuts_grp hp)
 unfold ZpU
 generalize (ZbW (Zc2 facts f (decide (d+1=L.length))) c (ZaC x L facts d p))=U at *
 have h2:=hcel U.1 0 p (cuts_all hp)
 generalize (Zc2 facts f (decide (d+1=L.length)) U.1 0 p)=B at *
 cases Ze3 d p c.N c.P with
 | some i=>exact Zru.refl c
 | none =>
  refine(h1.trans h2).trans ?_
  exact⟨[⟨d,U.2,B.2⟩],[p],rfl,rfl,.cons ⟨d,rfl,hp⟩ .nil⟩
theorem Zr0:∀(n:Nat),n<=L.length->∀c p,p∈cuts x L facts (L.length - n)->Zru x L facts c (Zhq x L facts n c p).1
 | 0,_,c,_,_=>Zru.refl c
 | n+1,h,c,p,hp=>vis_adds (d:=L.length - (n+1)) (fun c p hp=>Zr0 n (by omega) c p (by rw[show L.length - (n+1)+1=L.length - n by omega]at hp;exact hp)) c p hp
def lens (l:List (List Nat)):Nat:=(l.map List.length).sum
theorem lens_app (l m:List (List Nat)):lens (l++m)=lens l+lens m:=by simp[lens]
theorem Zrr {α:Type} {f:α->List (List Nat)} {g:α->Nat} {b:Nat}:∀{l:List α},(∀a∈l,lens (f a)<=g a * b)->lens (l.flatMap f)<=(l.map g).sum * b
 | [],_=>by simp[lens]
 | a :: l,h=>by
  rw[zaU,lens_app,zar,List.sum_cons,za1]
  exact Nat.add_le_add (h a zaf) (Zrr fun c hc=>h c (zad _ hc))
theorem one_le (k:Int):∀(l:List Nat),l.Nodup->((l.map fun j:Nat=>if k=(j:Int) then 1 else 0).sum:Nat)<=1
 | [],_=>by simp
 | a :: l,h=>by
  obtain⟨h1,h2⟩:=zbB.1 h
  rw[zar,List.sum_cons]
  split
  ·rename_i e
   have:(l.map fun j:Nat=>if k=(j:Int) then 1 else 0).sum=0:=by
    clear h h2
    induction l with
    | nil=>rfl
    | cons b l ih =>
     rw[zar,List.sum_cons,if_neg (fun hb=>h1 (by rw[zan];exact .inl (by omega))),ih fun hb=>h1 (zad _ hb)]
   omega
  ·have:=one_le k l h2;omega
theorem Zsz (key:Nat->Int) {ks:List Nat} (hk:ks.Nodup):∀(p:List Nat),((ks.map fun k:Nat=>(p.filter fun i=>decide (key i=(k:Int))).length).sum:Nat)<=p.length
 | []=>by
  have:∀l:List Nat,(l.map fun k:Nat=>(([]:List Nat).filter fun i=>decide (key i=(k:Int))).length).sum=0:=fun l=>by
   induction l with
   | nil=>rfl
   | cons a l ih=>rw[zar,List.sum_cons,ih];rfl
  rw[this];exact zah _
 | a :: p=>by
  have h1:=Zsz key hk p
  have h2:=one_le (key a) ks hk
  have e:∀l:List Nat,(l.map fun k:Nat=>((a :: p).filter fun i=>decide (key i=(k:Int))).length).sum=(l.map fun k:Nat=>(p.filter fun i=>decide (key i=(k:Int))).length).sum+(l.map fun j:Nat=>if key a=(j:Int) then 1 else 0).sum:=fun l=>by
   induction l with
   | nil=>rfl
   | cons b l ih =>
    rw[zar,List.sum_cons,ih,zar,List.sum_cons,zar,List.sum_cons]
    by_cases hb:key a=(b:Int)
    ·rw[zbS (by simpa using hb),if_pos hb,List.length_cons];omega
    ·rw[zbG (by simpa using hb),if_neg hb];omega
  rw[e,List.length_cons]
  omega
theorem grs_lens (key:Nat->Int) (n:Nat) (p:List Nat):lens ((grs key n p).map (·.2))<=p.length:=by
 refine zay ?_ (Zsz key (List.nodup_range (n:=n)) p)
 unfold grs
 generalize List.range n=ks
 induction ks with
 | nil=>simp[lens]
 | cons k ks ih =>
  rw[List.filterMap_cons,zar,List.sum_cons]
  split
  ·rename_i h;omega
  ·rename_i b h
   split at h
   ·cases h
   ·injection h with h
    subst h
    simp only[lens,zar,List.sum_cons]at ih ⊢
    omega
theorem cut_lens (h4:∀d,(L.getD d []).length<=4) (d:Nat) (p:List Nat):lens (p :: (ZaC x L facts d p).flatMap fun t=>t.map (·.2))<=p.length * 5:=by
 have h1:lens ((ZaC x L facts d p).flatMap fun t=>t.map (·.2))<=((ZaC x L facts d p).map fun _=>1).sum * p.length:=Zrr fun t ht=>by
  unfold ZaC at ht
  obtain⟨k,_,rfl⟩:=zaq.1 ht
  rw[zbD]
  exact grs_lens _ _ _
 have h2:((ZaC x L facts d p).map fun _=>1).sum=(ZaC x L facts d p).length:=by
  generalize ZaC x L facts d p=l
  induction l with
  | nil=>rfl
  | cons a l ih=>rw[zar,List.sum_cons,ih,List.length_cons];omega
 have h3:(ZaC x L facts d p).length<=4:=by unfold ZaC;rw[zaj,zcs];exact h4 d
 rw[h2]at h1
 have h5:=zbi p.length h3
 show p.length+lens _<=_
 omega
theorem ZrQ (h4:∀d,(L.getD d []).length<=4):∀d,lens (cuts x L facts d)<=facts.length * 5 ^ d
 | 0=>by simp[cuts,lens]
 | d+1=>by
  have ih:=ZrQ h4 d
  have h1:lens (cuts x L facts (d+1))<=((cuts x L facts d).map List.length).sum * 5:=Zrr fun p _=>cut_lens h4 d p
  have h2:((cuts x L facts d).map List.length).sum<=facts.length * 5 ^ d:=ih
  rw[Nat.pow_succ,<- Nat.mul_assoc]
  exact zay h1 (zbi 5 h2)
theorem Zth (hf:facts≠[]):∀d,∀p∈cuts x L facts d,p≠[]
 | 0,p,hp=>by
  rw[zau.1 hp]
  simpa using hf
 | d+1,p,hp=>by
  obtain⟨q,hq,hp⟩:=zbr.1 hp
  rcases zan.1 hp with rfl|hp
  ·exact Zth hf d p hq
  ·obtain⟨t,ht,hp⟩:=zbr.1 hp
   obtain⟨g,hg,rfl⟩:=zaq.1 hp
   unfold ZaC at ht
   obtain⟨k,_,rfl⟩:=zaq.1 ht
   exact(Zfb hg).1
theorem Zsw:∀{l:List (List Nat)},(∀p∈l,p≠[])->l.length<=lens l
 | [],_=>zaD _
 | p :: l,h=>by
  have h1:=Zsw fun q hq=>h q (zad _ hq)
  have h2:0<p.length:=zbI.2 (h p zaf)
  simp only[lens,zar,List.sum_cons,List.length_cons]at h1 ⊢
  omega
def pow5:Nat->Nat
 | 0=>0
 | n+1=>pow5 n+5 ^ n
theorem pairs5 (h4:∀d,(L.getD d []).length<=4) (hf:facts≠[]):∀D,((List.range D).flatMap fun d=>(cuts x L facts d).map fun p=>(d,p)).length<=facts.length * pow5 D
 | 0=>by simp
 | D+1=>by
  have ih:=pairs5 h4 hf D
  have h1:=zay (Zsw (Zth (x:=x) (L:=L) hf D)) (ZrQ h4 D)
  rw[zb8,zbJ,zak]
  simp only[zaU,List.flatMap_nil,zaG,zaj]
  rw[pow5,Nat.mul_add]
  omega
theorem ZsJ {c:DSt} (h:ZdW x L facts c) (ha:Zru x L facts ⟨[],[],false⟩ c) (h4:∀d,(L.getD d []).length<=4) (hf:facts≠[]):c.N.length<=facts.length * pow5 L.length:=by
 refine zay ?_ (pairs5 (x:=x) h4 hf L.length)
 have hl:=ZjN (l:=(List.range c.N.length).map fun i=>((c.N.getD i ZdH).dim.toNat,c.P.getD i [])) (m:=(List.range L.length).flatMap fun d=>(cuts x L facts d).map fun p=>(d,p)) ?_ ?_
 ·simpa using hl
 ·refine zb0.2 (zcu.imp_of_mem fun {i j} hi hj hij he=>?_)
  have hi:i<c.N.length:=by simpa using hi
  have hj:j<c.N.length:=by simpa using hj
  obtain⟨d,_,hn⟩:=h.nod i hi
  obtain⟨e,_,hm⟩:=h.nod j hj
  injection he with e1 e2
  have h1:=hn.1
  have h2:=hm.1
  have:=h.uniq i j hi hj (by rw[h1,h2]at e1 ⊢;omega) e2
  omega
 ·intro a ha2
  obtain⟨i,hi,rfl⟩:=zaq.1 ha2
  have hi:i<c.N.length:=by simpa using hi
  obtain⟨d,hd,hn⟩:=h.nod i hi
  obtain⟨N',P',e1,e2,e3⟩:=ha
  have e1:c.N=N':=e1
  have e2:c.P=P':=e2
  have key:∀{l:List Nod} {m:List (List Nat)},ZeK (fun(n:Nod) p=>∃d:Nat,n.dim=(d:Int)/\p∈cuts x L facts d) l m->∀i,i<l.length->∃d:Nat,(l.getD i ZdH).dim=(d:Int)/\m.getD i []∈cuts x L facts d:=by
   intro l m h
   induction h with
   | nil=>intro i hi;exact absurd hi (zbO i)
   | cons h _ ih =>
    intro i hi
    cases i with
    | zero=>exact h
    | succ i=>exact ih i (by simpa using hi)
  obtain⟨d2,k1,k2⟩:=key e3 i (by rw[<- e1];exact hi)
  rw[<- e1]at k1
  rw[<- e2]at k2
  have hd2:d2=d:=by have:=hn.1;omega
  subst hd2
  refine zbr.2 ⟨d2,by simpa using hd,zaq.2 ⟨c.P.getD i [],k2,?_⟩⟩
  rw[k1];rfl
end
def jt (a b:Ag):Ag:=if a.n=0 then b else if b.n=0 then a else Zem a b 3
def Gd (a:Ag):Prop:=a=ag0\/1<=a.n
theorem gd0:Gd ag0:=.inl rfl
theorem jt_l (b:Ag):jt ag0 b=b:=if_pos rfl
theorem Gd.z {a:Ag} (h:Gd a) (hz:a.n=0):a=ag0:=h.elim id fun h=>by omega
theorem jt_r {a:Ag} (h:Gd a):jt a ag0=a:=by
 unfold jt
 by_cases c:a.n=0
 ·rw[if_pos c,h.z c]
 ·rw[if_neg c];exact if_pos rfl
theorem ZnW (a b:Ag):Zem a b 3=⟨a.n+b.n,a.s0+b.s0,if b.l0<a.l0 then b.l0 else a.l0,if b.h0 > a.h0 then b.h0 else a.h0,a.s1+b.s1,if b.l1<a.l1 then b.l1 else a.l1,if b.h1 > a.h1 then b.h1 else a.h1,a.s2+b.s2,if b.l2<a.l2 then b.l2 else a.l2,if b.h2 > a.h2 then b.h2 else a.h2⟩:=by
 unfold Zem
 simp only[show(0:Nat)<3 from by decide,show(1:Nat)<3 from by decide,show(2:Nat)<3 from by decide,if_true]
theorem ZoD (a b:Int):(if b<a then b else a)=(if a<b then a else b):=by split<;>split<;>omega
theorem ZoA (a b:Int):(if b > a then b else a)=(if a > b then a else b):=by split<;>split<;>omega
theorem Zoe (a b c:Int):(if c<(if b<a then b else a) then c else (if b<a then b else a))=(if (if c<b then c else b)<a then (if c<b then c else b) else a):=by
 repeat' split
 all_goals omega
theorem Zoh (a b c:Int):(if c > (if b > a then b else a) then c else (if b > a then b else a))=(if (if c > b then c else b) > a then (if c > b then c else b) else a):=by
 repeat' split
 all_goals omega
theorem ZqZ {a b:Ag} (ha:Gd a) (hb:Gd b):Gd (jt a b):=by
 unfold jt
 split
 ·exact hb
 ·rename_i h1
  split
  ·exact ha
  ·rename_i h2
   right
   rw[ZnW]
   rcases ha with rfl|ha
   ·exact absurd rfl h1
   ·rcases hb with rfl|hb
    ·exact absurd rfl h2
    ·simp only;omega
theorem ZqU {a b:Ag} (ha:Gd a) (hb:Gd b):jt a b=jt b a:=by
 by_cases h1:a.n=0
 ·rw[ha.z h1,jt_l,jt_r hb]
 ·by_cases h2:b.n=0
  ·rw[hb.z h2,jt_l,jt_r ha]
  ·unfold jt
   rw[if_neg h1,if_neg h2,if_neg h2,if_neg h1,ZnW,ZnW]
   simp only[Ag.mk.injEq]
   exact⟨Int.add_comm _ _,Int.add_comm _ _,ZoD _ _,ZoA _ _,Int.add_comm _ _,ZoD _ _,ZoA _ _,Int.add_comm _ _,ZoD _ _,ZoA _ _⟩
theorem Znl {a b c:Ag} (ha:Gd a) (hb:Gd b) (hc:Gd c):jt (jt a b) c=jt a (jt b c):=by
 by_cases h1:a.n=0
 ·rw[ha.z h1,jt_l,jt_l]
 ·by_cases h2:b.n=0
  ·rw[hb.z h2,jt_l,jt_r ha]
  ·by_cases h3:c.n=0
   ·rw[hc.z h3,jt_r hb,jt_r (ZqZ ha hb)]
   ·have e1:jt a b=Zem a b 3:=by unfold jt;rw[if_neg h1,if_neg h2]
    have e2:jt b c=Zem b c 3:=by unfold jt;rw[if_neg h2,if_neg h3]
    have a1:1<=a.n:=ha.elim (fun h=>absurd (h ▸ rfl) h1) id
    have b1:1<=b.n:=hb.elim (fun h=>absurd (h ▸ rfl) h2) id
    have c1:1<=c.n:=hc.elim (fun h=>absurd (h ▸ rfl) h3) id
    rw[e1,e2]
    unfold jt
    rw[if_neg (by rw[ZnW];simp only;omega),if_neg h3,if_neg h1,if_neg (by rw[ZnW];simp only;omega)]
    rw[ZnW,ZnW,ZnW,ZnW]
    simp only[Ag.mk.injEq]
    exact⟨zcM _ _ _,zcM _ _ _,Zoe _ _ _,Zoh _ _ _,zcM _ _ _,Zoe _ _ _,Zoh _ _ _,zcM _ _ _,Zoe _ _ _,Zoh _ _ _⟩
theorem Zon {j k:Nat} {a b:Ag} (ha:WAg j a) (hb:WAg k b) (hjk:j+k<=2000):Zdl a b=some (jt a b):=by
 obtain⟨c,hc,_⟩:=Zkv ha hb hjk
 rw[hc]
 unfold Zdl at hc
 unfold jt
 split at hc
 ·rename_i h;rw[if_pos h];exact hc.symm
 rename_i h1
 rw[if_neg h1]
 split at hc
 ·rename_i h;rw[if_pos h];exact hc.symm
 rename_i h2
 rw[if_neg h2]
 split at hc
 ·cases hc
 split at hc
 ·cases hc
 split at hc
 ·cases hc
 split at hc
 ·cases hc
 exact hc.symm
def sumJ (l:List Ag):Ag:=l.foldr jt ag0
theorem ZpA:∀{l:List Ag},(∀a∈l,Gd a)->Gd (sumJ l)
 | [],_=>gd0
 | a :: l,h=>ZqZ (h a zaf) (ZpA fun b hb=>h b (zad _ hb))
theorem ZqM {facts:List Fct} (hf:∀f∈facts,WAg 2 f.2/\Gd f.2):∀(part:List Nat) (a:Ag) (k:Nat),WAg k a->Gd a->k+2 * part.length<=2000->(∀i∈part,i<facts.length)->ZdJ facts a part=some (jt a (sumJ (part.map fun i=>(facts.getD i ([],ag0)).2)))
 | [],a,k,_,hg,_,_=>by rw[zaW];exact congrArg some (jt_r hg).symm
 | i :: r,a,k,ha,hg,hl,hp=>by
  have hi:=hp i zaf
  have hgi:facts.getD i ([],ag0)=facts[i]:=by rw[zae,zab hi];rfl
  have hfi:=hf _ (zai hi)
  simp only[List.length_cons]at hl
  have h1:=Zon ha hfi.1 (show k+2<=2000 by omega)
  obtain⟨c,h2,h3⟩:=Zkv ha hfi.1 (show k+2<=2000 by omega)
  rw[h1]at h2
  injection h2 with h2
  unfold ZdJ
  rw[hgi,h1]
  simp only
  rw[ZqM hf r _ (k+2) (h2 ▸ h3) (ZqZ hg hfi.2) (by omega) (fun j hj=>hp j (zad _ hj)),zar,hgi]
  congr 1
  show _=jt a (jt facts[i].2 (sumJ _))
  refine Znl hg hfi.2 (ZpA fun b hb=>?_)
  obtain⟨j,hj,rfl⟩:=zaq.1 hb
  have hjl:=hp j (zad _ hj)
  rw[zae,zab hjl]
  exact(hf _ (zai hjl)).2
def keyV (L:List (List (List Int))) (k:List Int) (d t:Nat):Int:=((L.getD d []).getD t []).getD (k.getD d 0).toNat 0
def Znq (L:List (List (List Int))):Nat->List (Int×Int)->List Int->Bool
 | _,[],_=>true
 | d,q :: w,k=>(decide (q.1<0) || (keyV L k d q.1.toNat == q.2))&&Znq L (d+1) w k
theorem Zob (L:List (List (List Int))) (facts:List Fct) (i:Nat):∀(w:List (Int×Int)) (d:Nat),Za9 L facts d w i=Znq L d w (facts.getD i ([],ag0)).1
 | [],_=>rfl
 | q :: w,d=>by rw[Za9,Znq,Zob L facts i w (d+1)];rfl
theorem ZqS {α:Type} (l:List α) (a:α):(List.range l.length).map (fun i=>l.getD i a)=l:=by
 refine zcg (by simp) fun i h1 h2=>?_
 rw[zbl,zck,zae,zab h2];rfl
theorem Zqm (S:Sc) (facts:List Fct) (w:List (Int×Int)):(ptW S facts w).map (fun i=>facts.getD i ([],ag0))=facts.filter fun f=>Znq (Zan S) 0 w f.1:=by
 conv=>rhs;rw[<- ZqS facts ([],ag0),List.filter_map]
 unfold ptW
 congr 1
 refine zbZ fun i _=>?_
 exact Zob _ _ _ _ _
theorem Zpy (S:Sc) (facts:List Fct) (w w':List (Int×Int)):ptW S facts w=ptW S facts w' ↔ ∀f∈facts,Znq (Zan S) 0 w f.1=Znq (Zan S) 0 w' f.1:=by
 constructor
 ·intro h f hf
  obtain⟨i,hi,rfl⟩:=zaw hf
  have hg:facts.getD i ([],ag0)=facts[i]:=by rw[zae,zab hi];rfl
  have h1:=Zob (Zan S) facts i w 0
  have h2:=Zob (Zan S) facts i w' 0
  rw[hg]at h1 h2
  rw[<- h1,<- h2,zaT]
  have hm:i∈ptW S facts w ↔ i∈ptW S facts w':=by rw[h]
  unfold ptW at hm
  simp only[za2,zbF]at hm
  exact⟨fun q=>(hm.1 ⟨hi,q⟩).2,fun q=>(hm.2 ⟨hi,q⟩).2⟩
 ·intro h
  unfold ptW
  refine zbZ fun i hi=>?_
  have hi:i<facts.length:=by simpa using hi
  have hg:facts.getD i ([],ag0)=facts[i]:=by rw[zae,zab hi];rfl
  rw[Zob,Zob,hg]
  exact h _ (zai hi)
theorem ZpC (S:Sc) (facts:List Fct) (w:List (Int×Int)):ptW S facts w=[] ↔ ∀f∈facts,Znq (Zan S) 0 w f.1=false:=by
 have h:=Zqm S facts w
 constructor
 ·intro he f hf
  rw[he,zaW]at h
  have:=zbU.1 h.symm f hf
  simpa using this
 ·intro hf
  rw[zbU.2 fun f hm=>by rw[hf f hm];decide]at h
  exact List.map_eq_nil_iff.1 h
def Zng:Nat->List Fct->List Fct->List Fct
 | 0,_,_=>[]
 | _+1,[],m=>m
 | _+1,f :: l,[]=>f :: l
 | n+1,f :: l,g :: m=>if f.1<g.1 then f :: Zng n l (g :: m) else if g.1<f.1 then g :: Zng n (f :: l) m else (f.1,jt f.2 g.2) :: Zng n l m
theorem Zpp {f g:List Int} (h1:¬f<g) (h2:¬g<f):f=g:=by
 rcases List.le_iff_lt_or_eq.mp (List.not_lt.mp h1)with h|h
 ·exact absurd h h2
 ·exact h.symm
theorem ZpH {P:Fct->Prop} {a:Fct} {l:List Fct}:(∃f∈a :: l,P f) ↔ P a\/∃f∈l,P f:=by
 constructor
 ·rintro⟨f,hf,h⟩
  rcases zan.1 hf with rfl|hf
  ·exact .inl h
  ·exact .inr ⟨f,hf,h⟩
 ·rintro(h|⟨f,hf,h⟩)
  ·exact⟨a,zaf,h⟩
  ·exact⟨f,zad _ hf,h⟩
theorem ZnN:∀(n:Nat) (l m:List Fct),l.length+m.length<=n->∀k:List Int,(∃f∈Zng n l m,f.1=k) ↔ (∃f∈l,f.1=k)\/(∃f∈m,f.1=k)
 | 0,[],[],_,k=>by simp[Zng]
 | 0,f :: l,m,h,k=>by simp at h
 | 0,[],g :: m,h,k=>by simp at h
 | n+1,[],m,_,k=>by simp[Zng]
 | n+1,f :: l,[],_,k=>by simp[Zng]
 | n+1,f :: l,g :: m,h,k=>by
  simp only[List.length_cons]at h
  rw[Zng]
  split
  ·have ih:=ZnN n l (g :: m) (by simp only[List.length_cons];omega) k
   simp only[ZpH]at ih ⊢
   rw[ih]
   constructor
   ·rintro(h|h|h)
    ·exact .inl (.inl h)
    ·exact .inl (.inr h)
    ·exact .inr h
   ·rintro((h|h)|h)
    ·exact .inl h
    ·exact .inr (.inl h)
    ·exact .inr (.inr h)
  ·split
   ·have ih:=ZnN n (f :: l) m (by simp only[List.length_cons];omega) k
    simp only[ZpH]at ih ⊢
    rw[ih]
    constructor
    ·rintro(h|h|h)
     ·exact .inr (.inl h)
     ·exact .inl h
     ·exact .inr (.inr h)
    ·rintro(h|h|h)
     ·exact .inr (.inl h)
     ·exact .inl h
     ·exact .inr (.inr h)
   ·rename_i h1 h2
    have he:=Zpp h1 h2
    have ih:=ZnN n l m (by omega) k
    simp only[ZpH]at ih ⊢
    rw[ih,he]
    constructor
    ·rintro(h|h|h)
     ·exact .inl (.inl h)
     ·exact .inl (.inr h)
     ·exact .inr (.inr h)
    ·rintro((h|h)|h|h)
     ·exact .inl h
     ·exact .inr (.inl h)
     ·exact .inl h
     ·exact .inr (.inr h)
theorem Znn {P:Fct->Prop}:∀(n:Nat) (l m:List Fct),(∀f∈l,P f)->(∀f∈m,P f)->(∀f∈l,∀g∈m,f.1=g.1->P (f.1,jt f.2 g.2))->∀f∈Zng n l m,P f
 | 0,_,_,_,_,_,f,hf=>by simp[Zng]at hf
 | _+1,[],m,_,hm,_,f,hf=>hm f hf
 | _+1,f' :: l,[],hl,_,_,f,hf=>hl f hf
 | n+1,a :: l,g :: m,hl,hm,hj,f,hf=>by
  have hl':=fun f hf=>hl f (zad _ hf)
  have hm':=fun f hf=>hm f (zad _ hf)
  rw[Zng]at hf
  split at hf
  ·rcases zan.1 hf with rfl|hf
   ·exact hl _ zaf
   ·exact Znn n l (g :: m) hl' hm (fun f hf=>hj f (zad _ hf)) f hf
  ·split at hf
   ·rcases zan.1 hf with rfl|hf
    ·exact hm _ zaf
    ·exact Znn n (a :: l) m hl hm' (fun f hf g hg=>hj f hf g (zad _ hg)) f hf
   ·rename_i h1 h2
    rcases zan.1 hf with rfl|hf
    ·exact hj _ zaf _ zaf (Zpp h1 h2)
    ·exact Znn n l m hl' hm' (fun f hf g hg=>hj f (zad _ hf) g (zad _ hg)) f hf
def Zqk (p:List Int->Bool) (l:List Fct):Ag:=sumJ ((l.filter fun f=>p f.1).map (·.2))
theorem Zni (p:List Int->Bool) (f:Fct) (l:List Fct):Zqk p (f :: l)=if p f.1=true then jt f.2 (Zqk p l) else Zqk p l:=by
 unfold Zqk
 rw[List.filter_cons]
 split
 ·rw[zar];rfl
 ·rfl
theorem ZnU {p:List Int->Bool} {l:List Fct} (h:∀f∈l,Gd f.2):Gd (Zqk p l):=ZpA fun a ha=>by
 obtain⟨f,hf,rfl⟩:=zaq.1 ha
 exact h f (za2.1 hf).1
theorem Zor (p:List Int->Bool):∀(n:Nat) (l m:List Fct),l.length+m.length<=n->(∀f∈l,Gd f.2)->(∀f∈m,Gd f.2)->Zqk p (Zng n l m)=jt (Zqk p l) (Zqk p m)
 | 0,[],[],_,_,_=>(jt_l _).symm
 | 0,f :: l,m,h,_,_=>by simp at h
 | 0,[],g :: m,h,_,_=>by simp at h
 | n+1,[],m,_,_,_=>(jt_l _).symm
 | n+1,f :: l,[],_,hl,_=>(jt_r (ZnU hl)).symm
 | n+1,f :: l,g :: m,h,hl,hm=>by
  simp only[List.length_cons]at h
  have hl':=fun f hf=>hl f (zad _ hf)
  have hm':=fun f hf=>hm f (zad _ hf)
  have gf:=hl f zaf
  have gg:=hm g zaf
  have sl:=ZnU (p:=p) hl'
  have sm:=ZnU (p:=p) hm'
  rw[Zng]
  split
  ·rw[Zni,Zor p n l (g :: m) (by simp only[List.length_cons];omega) hl' hm,Zni p f l]
   split
   ·exact(Znl gf sl (ZnU hm)).symm
   ·rfl
  ·split
   ·rw[Zni,Zor p n (f :: l) m (by simp only[List.length_cons];omega) hl hm',Zni p g m]
    split
    ·rw[<- Znl gg (ZnU hl) sm,ZqU gg (ZnU hl),Znl (ZnU hl) gg sm]
    ·rfl
   ·rename_i h1 h2
    have he:=Zpp h1 h2
    rw[Zni,Zor p n l m (by omega) hl' hm',Zni p f l,Zni p g m,<- he]
    simp only
    split
    ·rw[Znl gf gg (ZqZ sl sm),Znl gf sl (ZqZ gg sm),<- Znl gg sl sm,ZqU gg sl,Znl sl gg sm]
    ·rfl
abbrev Zom (l:List Fct):Prop:=l.Pairwise fun a b=>a.1<b.1
theorem cmp_lt {a b:List Int}:cmpL a b≥0 ↔ ¬a<b:=by
 have h:=Zjt a b
 by_cases c:a<b
 ·rw[decide_eq_true c]at h
  have h:decide (cmpL a b≥0)=false:=by simpa using h.symm
  exact⟨fun q=>absurd q (of_decide_eq_false h),fun q=>absurd c q⟩
 ·rw[decide_eq_false c]at h
  have h:decide (cmpL a b≥0)=true:=by simpa using h.symm
  exact⟨fun _=>c,fun _=>of_decide_eq_true h⟩
theorem ZnY {x:Shp}:∀{l:List Fct} {w:Option Fct},Zd7 x w l=0->Zom l/\∀q,w=some q->∀f∈l,q.1<f.1
 | [],w,_=>⟨List.Pairwise.nil,fun _ _ f hf=>by cases hf⟩
 | f :: r,w,h=>by
  rw[Zf5]at h
  split at h
  ·rename_i h1;exact absurd h h1
  ·split at h
   ·omega
   ·rename_i h1 h2
    obtain⟨i1,i2⟩:=ZnY h
    refine⟨zba.2 ⟨i2 f rfl,i1⟩,fun q hq g hg=>?_⟩
    subst hq
    have h3:q.1<f.1:=by
     refine zaz fun hn=>h2 ?_
     exact decide_eq_true (cmp_lt.2 hn)
    rcases zan.1 hg with rfl|hg
    ·exact h3
    ·exact List.lt_trans h3 (i2 f rfl g hg)
theorem row_of {x:Shp}:∀{l:List Fct} {w:Option Fct},(∀f∈l,Zb8 x f=0)->Zom l->(∀q,w=some q->∀f∈l,q.1<f.1)->Zd7 x w l=0
 | [],w,_,_,_=>by cases w<;>rfl
 | f :: r,w,h1,h2,h3=>by
  obtain⟨r1,r2⟩:=zba.1 h2
  have hg:geF w f=false:=by
   cases w with
   | none=>rfl
   | some q=>exact decide_eq_false fun hc=>(cmp_lt.1 hc) (h3 q rfl f zaf)
  rw[Zf5,if_neg (fun hc=>hc (h1 f zaf)),if_neg (by rw[hg];decide)]
  exact row_of (fun g hg=>h1 g (zad _ hg)) r2 fun q hq g hg=>by injection hq with hq;subst hq;exact r1 g hg
theorem Zn3:∀(n:Nat) (l m:List Fct),(Zng n l m).length<=l.length+m.length
 | 0,_,_=>by simp[Zng]
 | _+1,[],m=>by simp[Zng]
 | _+1,f :: l,[]=>by simp[Zng]
 | n+1,f :: l,g :: m=>by
  rw[Zng]
  have h1:=Zn3 n l (g :: m)
  have h2:=Zn3 n (f :: l) m
  have h3:=Zn3 n l m
  simp only[List.length_cons]at h1 h2 ⊢
  split
  ·simp only[List.length_cons];omega
  ·split
   ·simp only[List.length_cons];omega
   ·simp only[List.length_cons];omega
theorem Zn2:∀(n:Nat) (l m:List Fct),Zom l->Zom m->Zom (Zng n l m)
 | 0,_,_,_,_=>List.Pairwise.nil
 | _+1,[],m,_,hm=>hm
 | _+1,f :: l,[],hl,_=>hl
 | n+1,f :: l,g :: m,hl,hm=>by
  obtain⟨l1,l2⟩:=zba.1 hl
  obtain⟨m1,m2⟩:=zba.1 hm
  rw[Zng]
  split
  ·rename_i h
   refine zba.2 ⟨Znn (P:=fun x=>f.1<x.1) n l (g :: m) l1 (fun x hx=>?_) fun a ha _ _ _=>l1 a ha,Zn2 n l (g :: m) l2 hm⟩
   rcases zan.1 hx with rfl|hx
   ·exact h
   ·exact List.lt_trans h (m1 x hx)
  ·split
   ·rename_i h
    have hx:∀x∈f :: l,g.1<x.1:=fun x hx=>by
     rcases zan.1 hx with rfl|hx
     ·exact h
     ·exact List.lt_trans h (l1 x hx)
    exact zba.2 ⟨Znn (P:=fun x=>g.1<x.1) n (f :: l) m hx m1 fun a ha _ _ _=>hx a ha,Zn2 n (f :: l) m hl m2⟩
   ·rename_i h1 h2
    have he:=Zpp h1 h2
    exact zba.2 ⟨Znn (P:=fun x=>f.1<x.1) n l m l1 (fun x hx=>he ▸ m1 x hx) fun a ha _ _ _=>l1 a ha,Zn2 n l m l2 m2⟩
theorem gd_of {x:Shp} {f:Fct} (h:Zb8 x f=0):Gd f.2:=by
 have h:=(Zcp h).2.2
 unfold Zbw at h
 simp only[zax,decide_eq_true_eq]at h
 exact .inr h.1.1.1.2
theorem Zpl {x:Shp} {f g:Fct} (hf:Zb8 x f=0) (hg:Zb8 x g=0) (wf:WAg 1 f.2) (wg:WAg 1 g.2):Zb8 x (f.1,jt f.2 g.2)=0/\WAg 2 (jt f.2 g.2):=by
 have hj:=Zon wf wg (show 1+1<=2000 by decide)
 obtain⟨c,h1,h2⟩:=Zkv wf wg (show 1+1<=2000 by decide)
 rw[hj]at h1
 injection h1 with h1
 obtain⟨k1,k2,k3⟩:=Zcp hf
 have hm:=ZlJ k3 (Zcp hg).2.2 hj
 refine⟨?_,h1 ▸ h2⟩
 unfold Zb8
 rw[if_neg (fun h=>h k1),if_neg (fun h=>h k2),if_neg (by rw[hm];decide)]
theorem WAg.inn {a:Ag} (h:WAg 2 a):Zho a:=by
 obtain⟨h0,h1,h2,h3,h4⟩:=h
 exact⟨by unfold In64;omega,by unfold In64;omega,by unfold In64;omega,by unfold In64;omega⟩
theorem Zof {facts:List Fct} (hf:∀f∈facts,WAg 2 f.2):∀(part:List Nat) (a:Ag) (k:Nat),WAg k a->k+2 * part.length<=2000->(∀i∈part,i<facts.length)->∃b,ZdJ facts a part=some b/\WAg (k+2 * part.length) b
 | [],a,k,ha,_,_=>⟨a,rfl,ha⟩
 | i :: r,a,k,ha,hl,hp=>by
  have hi:=hp i zaf
  have hg:facts.getD i ([],ag0)=facts[i]:=by rw[zae,zab hi];rfl
  simp only[List.length_cons]at hl
  obtain⟨c,h1,h2⟩:=Zkv ha (hf _ (zai hi)) (by omega)
  obtain⟨b,h3,h4⟩:=Zof hf r c (k+2) h2 (by omega) fun j hj=>hp j (zad _ hj)
  refine⟨b,?_,h4.more (by simp only[List.length_cons];omega)⟩
  unfold ZdJ
  rw[hg,h1]
  exact h3
theorem Zn9 {S:Sc} {facts:List Fct} (hs:scE S=0) (hl:facts.length<=500) (hw:∀f∈facts,WAg 2 f.2):ZdW (Za3 S) (Zan S) facts (Zcn S facts)/\(Zcn S facts).over=false:=by
 have hLl:(Zan S).length=S.dims.length:=by unfold Zan;rw[zaj]
 have hs1:=(Zb7 hs).1
 unfold Zcn
 split
 ·exact⟨Zf8,rfl⟩
 ·rename_i hne
  have hp:=Zhu hne
  have h1:=Zls (x:=Za3 S) (L:=Zan S) (facts:=facts) ((Zan S).length - 1) (by omega) ⟨[],[],false⟩ _ hp Zf8
  rw[show(Zan S).length - 1+1=(Zan S).length by omega]at h1
  refine⟨h1.1,Zit (fun p hp=>?_) _ _ _ hp.ok⟩
  obtain⟨b,hb,_⟩:=Zof hw p ag0 0 wag0 (by have:=hp.2.1;omega) hp.2.2
  rw[hb];rfl
theorem ptW_in {S:Sc} {facts:List Fct} {w:List (Int×Int)}:(ptW S facts w).length<=facts.length/\∀i∈ptW S facts w,i<facts.length:=by
 unfold ptW
 exact⟨zay (zbC _ _) (by simp),fun i hi=>by simpa using (za2.1 hi).1⟩
theorem ZqJ {S:Sc} {facts:List Fct} {w:List (Int×Int)} (hf:∀f∈facts,WAg 2 f.2/\Gd f.2) (hl:facts.length<=500):ZdJ facts ag0 (ptW S facts w)=some (Zqk (Znq (Zan S) 0 w) facts)/\WAg (2 * facts.length) (Zqk (Znq (Zan S) 0 w) facts):=by
 obtain⟨h1,h2⟩:=ptW_in (S:=S) (facts:=facts) (w:=w)
 have h3:ZdJ facts ag0 (ptW S facts w)=some (Zqk (Znq (Zan S) 0 w) facts):=by
  rw[ZqM hf _ ag0 0 wag0 gd0 (by omega) h2,jt_l]
  unfold Zqk
  rw[<- Zqm,zbo]
  rfl
 obtain⟨b,h4,h5⟩:=Zof (fun f h=>(hf f h).1) (ptW S facts w) ag0 0 wag0 (by omega) h2
 rw[h3]at h4
 injection h4 with h4
 exact⟨h3,h4 ▸ h5.more (by omega)⟩
structure MrgOk (S:Sc) (l m all:List Fct):Prop where
 law:AllOf S l m all (Zcn S l) (Zcn S m)
 row:Zd7 (Za3 S) none all=0
 inn:∀f∈all,Zho f.2
 wide:∀f∈all,WAg 2 f.2
 over:(Zcn S all).over=false
 doc:ZdW (Za3 S) (Zan S) all (Zcn S all)
theorem mrg_ok {S:Sc} {l m:List Fct} {n:Nat} (hs:scE S=0) (hl:Zd7 (Za3 S) none l=0) (hm:Zd7 (Za3 S) none m=0) (wl:∀f∈l,WAg 1 f.2) (wm:∀f∈m,WAg 1 f.2) (ll:l.length<=200) (lm:m.length<=200) (hn:l.length+m.length<=n):MrgOk S l m (Zng n l m):=by
 have fl:=Zcu hl
 have fm:=Zcu hm
 have w2l:∀f∈l,WAg 2 f.2:=fun f h=>(wl f h).more (by decide)
 have w2m:∀f∈m,WAg 2 f.2:=fun f h=>(wm f h).more (by decide)
 have gl:∀f∈l,Gd f.2:=fun f h=>gd_of (fl f h)
 have gm:∀f∈m,Gd f.2:=fun f h=>gd_of (fm f h)
 have fa:∀f∈Zng n l m,Zb8 (Za3 S) f=0:=Znn n l m fl fm fun f hf g hg _=>(Zpl (fl f hf) (fm g hg) (wl f hf) (wm g hg)).1
 have wa:∀f∈Zng n l m,WAg 2 f.2:=Znn n l m w2l w2m fun f hf g hg _=>(Zpl (fl f hf) (fm g hg) (wl f hf) (wm g hg)).2
 have ha:Zd7 (Za3 S) none (Zng n l m)=0:=row_of fa (Zn2 n l m (ZnY hl).1 (ZnY hm).1) fun q hq=>by cases hq
 have la:=Zn3 n l m
 have key:∀P:List Int->Prop,(∀f∈Zng n l m,P f.1) ↔ (∀f∈l,P f.1)/\∀f∈m,P f.1:=fun P=>by
  constructor
  ·intro h
   refine⟨fun f hf=>?_,fun f hf=>?_⟩
   ·obtain⟨g,hg,he⟩:=(ZnN n l m hn f.1).2 (.inl ⟨f,hf,rfl⟩)
    exact he ▸ h g hg
   ·obtain⟨g,hg,he⟩:=(ZnN n l m hn f.1).2 (.inr ⟨f,hf,rfl⟩)
    exact he ▸ h g hg
  ·rintro⟨h1,h2⟩ f hf
   rcases (ZnN n l m hn f.1).1 ⟨f,hf,rfl⟩with⟨g,hg,he⟩|⟨g,hg,he⟩
   ·exact he ▸ h1 g hg
   ·exact he ▸ h2 g hg
 have ia:∀f∈Zng n l m,Zho f.2:=fun f h=>(wa f h).inn
 obtain⟨d1,d2⟩:=Zn9 hs (by omega) wa
 refine⟨⟨ZdS hs hl (by omega) fun f h=>(w2l f h).inn,ZdS hs hm (by omega) fun f h=>(w2m f h).inn,ZdS hs ha (by omega) ia,(Zn9 hs (by omega) w2l).1,(Zn9 hs (by omega) w2m).1,fun w w'=>?_,fun w=>?_,fun w _=>?_⟩,ha,ia,wa,d2,d1⟩
 ·rw[Zpy,Zpy,Zpy]
  exact key fun k=>Znq (Zan S) 0 w k=Znq (Zan S) 0 w' k
 ·rw[ZpC,ZpC,ZpC]
  exact key fun k=>Znq (Zan S) 0 w k=false
 ·obtain⟨s1,v1⟩:=ZqJ (S:=S) (w:=w) (fun f h=>⟨w2l f h,gl f h⟩) (by omega)
  obtain⟨s2,v2⟩:=ZqJ (S:=S) (w:=w) (fun f h=>⟨w2m f h,gm f h⟩) (by omega)
  obtain⟨s3,v3⟩:=ZqJ (S:=S) (w:=w) (fun f h=>⟨wa f h,gd_of (fa f h)⟩) (by omega)
  rw[s1,s2,s3,Zor _ n l m hn gl gm]
  exact⟨_,Zon v1 v2 (by omega),rfl⟩
theorem Zov {α β:Type} {R:α->β->Prop}:∀{l:List α} {m:List β},ZeK R l m->∀a∈l,∃b∈m,R a b
 | _,_,.nil,a,h=>by cases h
 | _,_,.cons h t,a,ha=>by
  rcases zan.1 ha with rfl|ha
  ·exact⟨_,zaf,h⟩
  ·obtain⟨b,hb,hr⟩:=Zov t a ha
   exact⟨b,zad _ hb,hr⟩
theorem grs_keys {key:Nat->Int} {n:Nat} {p:List Nat} {g:Int×List Nat} (hg:g∈grs key n p):0<=g.1/\g.1<n:=by
 unfold grs at hg
 obtain⟨k,hk0,hk⟩:=zbx.1 hg
 have:=zbF.1 hk0
 split at hk
 ·cases hk
 ·injection hk with hk
  subst hk
  simp only
  omega
section
variable {x:Shp} {L:List (List (List Int))} {facts:List Fct} {c:DSt}
theorem ZqF {b d:Nat} {p:List Nat} {z:Cel} (h:ZiH L facts c b d p z) (ha:∀f∈facts,Zho f.2) (hl:c.N.length<=1000000) (hk:0<=z.key/\z.key<=1000000):Zvb z:=by
 have hz:In64 z.key:=by unfold In64;omega
 unfold ZiH at h
 split at h
 ·obtain⟨h1,h2⟩:=h
  refine⟨hz,by rw[h1];decide,?_⟩
  rw[h2]
  cases hs:ZdJ facts ag0 p with
  | none=>exact Zpn
  | some g=>exact Zqz ha Zpn hs
 ·obtain⟨h1,j,h2,_,h4,_⟩:=h
  exact⟨hz,by rw[h2];unfold In64;omega,by rw[h1];exact Zpn⟩
theorem doc_in (hF:ZbI x L facts) (hD:ZdW x L facts c) (hl:c.N.length<=1000000):∀n∈c.N,Zt7 n:=fun n hn=>by
 obtain⟨i,hi,rfl⟩:=zaw hn
 obtain⟨d,hd,h1,h2,h3,h4⟩:=hD.nod i hi
 rw[show c.N.getD i ZdH=c.N[i] by rw[zae,zab hi];rfl]at h1 h2 h3 h4
 refine⟨fun t ht z hz=>?_,ZqF h3 hF.ag hl (by rw[h2];omega)⟩
 obtain⟨gs,hgs,hr⟩:=Zov h4 t ht
 obtain⟨g,hg,hk,hc⟩:=Zov hr z hz
 unfold ZaC at hgs
 obtain⟨k,_,rfl⟩:=zaq.1 hgs
 have:=grs_keys hg
 have hsz:=hF.size d k
 exact ZqF hc hF.ag hl (by rw[hk];omega)
end
theorem Zqn {S:Sc} {most:Int} {facts:List Fct} (h:Zet S most facts=0) (ha:∀f∈facts,Zho f.2):ZbS (Za3 S)=true/\most<=131072/\Grown (Za3 S) most (Ze6 S most facts):=by
 unfold Zet at h
 split at h
 ·rename_i h1;exact absurd h h1
 rename_i h1
 split at h
 ·rename_i h2;exact absurd h h2
 rename_i h2
 split at h
 ·omega
 rename_i h3
 split at h
 ·omega
 rename_i h4
 have h4:newE (Za3 S) most=0:=zaQ.1 h4
 have hm:ZbS (Za3 S)=true/\0<=most/\most<=131072:=by
  unfold newE at h4
  split at h4
  ·assumption
  ·omega
 refine⟨hm.1,hm.2.2,?_⟩
 split at h
 ·rename_i h5
  have e:Ze6 S most facts=[]:=by unfold Ze6;rw[if_pos h5]
  rw[e]
  exact⟨fun i hi=>by simp at hi,fun n hn=>by simp at hn⟩
 ·rename_i h5
  have e:Ze6 S most facts=(Zfa S most facts).N:=by unfold Ze6;rw[if_neg h5]
  rw[e]
  have hF:=ZdS (zaQ.1 h1) (zaQ.1 h2) (by omega) ha
  exact Zfj hF _ (zah _) _ _ ⟨fun i hi=>by simp at hi,fun n hn=>by simp at hn⟩
theorem ZnR {S:Sc} {most:Int} {facts:List Fct} (hF:ZbI (Za3 S) (Zan S) facts) (h:Zet S most facts=0) (hL:Ze6 S most facts=(Zcn S facts).N) (hD:ZdW (Za3 S) (Zan S) facts (Zcn S facts)) (hlen:(Zcn S facts).N.length<=100000) :
  Prw (Za3 S) (Zcn S facts).N/\∀i (hi:i<(Zcn S facts).N.length),ZbF (Za3 S) most ((Zcn S facts).N.take i) (Zcn S facts).N[i]=0:=by
 obtain⟨h1,h2,h3⟩:=Zqn h hF.ag
 rw[hL]at h3
 exact⟨Zqt (ZtW h1 h2 h3.1) hlen h3.2 (doc_in hF hD (by omega)),h3.1⟩
theorem ZpL {S:Sc} {l m all:List Fct} {ml mm ma:Int} (hs:scE S=0) (hM:MrgOk S l m all) (el:Zet S ml l=0) (em:Zet S mm m=0) (ea:Zet S ma all=0)
  (bl:Ze6 S ml l=(Zcn S l).N) (bm:Ze6 S mm m=(Zcn S m).N) (ba:Ze6 S ma all=(Zcn S all).N) (nl:(Zcn S l).N.length<=100000) (nm:(Zcn S m).N.length<=100000) (na:(Zcn S all).N.length<=100000) :
  (ZoF (Za3 S) (Zcn S l).N (Zcn S m).N ma).e=0/\(ZoF (Za3 S) (Zcn S l).N (Zcn S m).N ma).N=(Zcn S all).N:=by
 have pl:=ZnR hM.law.fl el bl hM.law.dl nl
 have pm:=ZnR hM.law.fm em bm hM.law.dm nm
 have pa:=ZnR hM.law.fa ea ba hM.doc na
 exact Zqu hs hM.law pl.1 pm.1 pa.2
theorem Zsy {S:Sc} {most:Int} {facts:List Fct} (h:Zet S most facts=0):scE S=0/\Zd7 (Za3 S) none facts=0:=by
 unfold Zet at h
 split at h
 ·rename_i h1;exact absurd h h1
 rename_i h1
 split at h
 ·rename_i h2;exact absurd h h2
 rename_i h2
 exact⟨zaQ.1 h1,zaQ.1 h2⟩
theorem Zsp {S:Sc} {facts:List Fct} (hF:ZbI (Za3 S) (Zan S) facts) (hD:ZdW (Za3 S) (Zan S) facts (Zcn S facts)) (hd:S.dims.length<=4):(Zcn S facts).N.length<=facts.length * 156:=by
 have hLl:(Zan S).length=S.dims.length:=by unfold Zan;rw[zaj]
 by_cases hf:facts=[]
 ·have e:(Zcn S facts).N=[]:=by unfold Zcn;rw[if_pos hf]
  rw[e];exact zaD _
 have h4:∀d,((Zan S).getD d []).length<=4:=fun d=>by
  by_cases h:d<(Zan S).length
  ·rw[zae,zab h];exact(hF.tier d h).2.1
  ·rw[zae,zbb (by omega)];exact zaD _
 have ha:Zru (Za3 S) (Zan S) facts ⟨[],[],false⟩ (Zcn S facts):=by
  unfold Zcn
  rw[if_neg hf]
  refine Zr0 _ (zah _) _ _ ?_
  rw[zcG]
  exact zau.2 rfl
 refine zay (ZsJ hD ha h4 hf) (zcI _ ?_)
 have:∀n,n<=4->pow5 n<=156:=by decide
 exact this _ (by omega)
theorem Zs4 {S:Sc} {most:Int} {facts:List Fct} (hs:scE S=0) (hr:Zd7 (Za3 S) none facts=0) (ha:∀f∈facts,Zho f.2) (hfl:facts.length<=4000) (ho:(Zcn S facts).over=false) (hD:ZdW (Za3 S) (Zan S) facts (Zcn S facts)) (hd:S.dims.length<=4) (hm:((facts.length * 156:Nat):Int)<=most) (h1:most<=131072) :
  Zet S most facts=0/\Ze6 S most facts=(Zcn S facts).N/\Zlb (Za3 S) (Zcn S facts).N=true:=by
 have hw:ZsE S most facts=0:=by
  unfold ZsE
  rw[if_neg (fun h=>h hs),if_neg (fun h=>h hr),if_neg (by omega)]
 obtain⟨_,_,h3⟩:=ZkG hfl ha hw
 have hF:=ZdS hs hr hfl ha
 have:=Zsp hF hD hd
 exact h3 ho (by omega)
theorem Zr6 {S:Sc} {most:Int} {facts:List Fct} (hs:scE S=0) (hr:Zd7 (Za3 S) none facts=0) (ha:∀f∈facts,Zho f.2) (hfl:facts.length<=4000) (ho:(Zcn S facts).over=false) (h0:0<=most/\most<=131072) :
  Zet S most facts=7\/(Zet S most facts=0/\Ze6 S most facts=(Zcn S facts).N/\(Zcn S facts).N.length<=most/\Zlb (Za3 S) (Zcn S facts).N=true):=by
 have hw:ZsE S most facts=0:=by
  unfold ZsE
  rw[if_neg (fun h=>h hs),if_neg (fun h=>h hr),if_neg (by omega)]
 obtain⟨_,h2,h3⟩:=ZkG hfl ha hw
 by_cases c:(Zcn S facts).N.length<=most
 ·obtain⟨q1,q2,q3⟩:=h3 ho c
  exact .inr ⟨q1,q2,c,q3⟩
 ·exact .inl (h2 ho (by omega))
structure OrdOk (S:Sc) (l m all:List Fct):Prop where
 bl:Ze6 S 20000 l=(Zcn S l).N
 bm:Ze6 S 20000 m=(Zcn S m).N
 pa:Prw (Za3 S) (Zcn S l).N
 pb:Prw (Za3 S) (Zcn S m).N
 wa:Zlb (Za3 S) (Zcn S l).N=true
 wb:Zlb (Za3 S) (Zcn S m).N=true
 mt:(ZoF (Za3 S) (Zcn S l).N (Zcn S m).N 131072).e=0/\(ZoF (Za3 S) (Zcn S l).N (Zcn S m).N 131072).N=(Zcn S all).N
 wc:Zlb (Za3 S) (Zcn S all).N=true
 hx:(Zan S).length=(Za3 S).sizes.length
 h1:1<=(Zan S).length
 pc:Prw (Za3 S) (Zcn S all).N
theorem Zu6 {S:Sc} {l m:List Fct} (a1:Zet S 20000 l=0) (c1:Zet S 20000 m=0) (wl:ZlW l) (wm:ZlW m) (ll:l.length<=8) (lm:m.length<=8) (hd:S.dims.length<=4):OrdOk S l m (Zng (l.length+m.length) l m):=by
 obtain⟨hs,hl⟩:=Zsy a1
 have hm:=(Zsy c1).2
 have vl:=wl.wag (m:=(Za3 S).measures) fun f hf=>(Zcp (Zcu hl f hf)).2.2
 have vm:=wm.wag (m:=(Za3 S).measures) fun f hf=>(Zcp (Zcu hm f hf)).2.2
 have hM:=mrg_ok (n:=l.length+m.length) hs hl hm vl vm (by omega) (by omega) (zah _)
 have hbl:=Zr6 (most:=20000) hs hl hM.law.fl.ag (by omega) (ZlB hs hl (by omega) vl).2 (by decide)
 have hbm:=Zr6 (most:=20000) hs hm hM.law.fm.ag (by omega) (ZlB hs hm (by omega) vm).2 (by decide)
 obtain⟨a2,a3,a4⟩:Ze6 S 20000 l=(Zcn S l).N/\(Zcn S l).N.length<=(20000:Int)/\Zlb (Za3 S) (Zcn S l).N=true:=by
  rcases hbl with h|⟨_,h⟩
  ·omega
  ·exact h
 obtain⟨c2,c3,c4⟩:Ze6 S 20000 m=(Zcn S m).N/\(Zcn S m).N.length<=(20000:Int)/\Zlb (Za3 S) (Zcn S m).N=true:=by
  rcases hbm with h|⟨_,h⟩
  ·omega
  ·exact h
 have hln:=Zn3 (l.length+m.length) l m
 obtain⟨d1,d2,d4⟩:=Zs4 (most:=131072) hs hM.row hM.inn (by omega) hM.over hM.doc hd (by omega) (by omega)
 have hdl:=Zsp hM.law.fa hM.doc hd
 have hx:(Zan S).length=(Za3 S).sizes.length:=hM.law.fl.len
 have h1:1<=(Zan S).length:=by unfold Zan;rw[zaj];exact(Zb7 hs).1
 exact⟨a2,c2,(ZnR hM.law.fl a1 a2 hM.law.dl (by omega)).1,(ZnR hM.law.fm c1 c2 hM.law.dm (by omega)).1,a4,c4,
  ZpL hs hM a1 c1 d1 a2 c2 d2 (by omega) (by omega) (by omega),d4,hx,h1,(ZnR hM.law.fa d1 d2 hM.doc (by omega)).1⟩
end Go.Proofs.YtaapiigfmdhobaaGreat
