/- Texts of the walk. -/
import Derived.Test.YtaapiigfmdhobaaGreatMp
import Derived.Test.YtaapiigfmdhobaaGreatP4
import Derived.Test.YtaapiigfmdhobaaGreatP3
import Derived.Test.YtaapiigfmdhobaaGreatP5
import Derived.Test.YtaapiigfmdhobaaGreatMk
import Derived.Test.YtaapiigfmdhobaaGreatMw
namespace Go.Proofs.YtaapiigfmdhobaaGreat
set_option linter.defProp false
set_option linter.unusedSimpArgs false
set_option linter.unusedVariables false
open Go.RowKit
theorem Zvu {N N':List Nod} (hp:N <+: N') {i:Int} (h0:0<=i) (h1:i<N.length):Zdw N' i=Zdw N i:=by
 obtain⟨t,rfl⟩:=hp
 unfold Zdw
 rw[if_pos h0,if_pos h0,zaC (by omega)]
def Made (x:Shp) (L:List (List (List Int))) (facts:List Fct) (N:List Nod):Nat->List Nat->Int->Prop
 | 0,_,_=>False
 | n+1,part,i=>0<=i/\i<N.length/\(Zdw N i).dim=((L.length - (n+1):Nat):Int) /\
  ZeK (fun(c:Cel) (g:Int×List Nat)=>c.key=g.1/\if n=0 then c.agg=(ZdJ facts ag0 g.2).getD ag0 else Made x L facts N n g.2 c.child) ((Zdw N i).lists.headD []) (grs (Zdm L facts (L.length - (n+1)) 0) (Zch x (L.length - (n+1)) 0) part)
theorem Made.pre {x:Shp} {L:List (List (List Int))} {facts:List Fct} {N N':List Nod} (hp:N <+: N'):∀{n:Nat} {part:List Nat} {i:Int},Made x L facts N n part i->Made x L facts N' n part i
 | 0,_,_,h=>h
 | n+1,part,i,h=>by
  obtain⟨h0,h1,h2,h3⟩:=h
  have hl:=hp.length_le
  have e:=Zvu hp h0 h1
  refine⟨h0,by omega,by rw[e];exact h2,?_⟩
  rw[e]
  refine h3.imp fun c g ⟨k1,k2⟩=>⟨k1,?_⟩
  split at k2
  ·rename_i hn;rw[if_pos hn];exact k2
  ·rename_i hn;rw[if_neg hn];exact k2.pre hp
def ZtU (x:Shp) (L:List (List (List Int))) (facts:List Fct) (s:BSt):Prop:=∀(n:Nat),n<L.length->∀(part:List Nat) (i:Int),Zbz facts part->Zcz (nmP (L.length - (n+1)) part) s.M=some i->Made x L facts s.N (n+1) part i
theorem b2_inj {i j:Nat} (hi:i<65536) (hj:j<65536) (h:b2 i=b2 j):i=j:=by
 unfold b2 at h
 injection h with h1 h2
 injection h2 with h2 _
 have e1:=congrArg UInt8.toNat h1
 have e2:=congrArg UInt8.toNat h2
 simp only[UInt8.toNat_ofNat']at e1 e2
 omega
theorem ZtZ:∀{p q:List Nat},(∀i∈p,i<65536)->(∀i∈q,i<65536)->p.flatMap b2=q.flatMap b2->p=q
 | [],[],_,_,_=>rfl
 | [],a :: q,_,_,h=>by simp[b2]at h
 | a :: p,[],_,_,h=>by simp[b2]at h
 | a :: p,b :: q,hp,hq,h=>by
  rw[zaU,zaU]at h
  obtain⟨h1,h2⟩:=List.append_inj h rfl
  rw[b2_inj (hp a zaf) (hq b zaf) h1,ZtZ (fun i hi=>hp i (zad _ hi)) (fun i hi=>hq i (zad _ hi)) h2]
theorem nmP_inj {d e:Nat} {p q:List Nat} (hd:d<256) (he:e<256) (hp:∀i∈p,i<65536) (hq:∀i∈q,i<65536) (h:nmP d p=nmP e q):d=e/\p=q:=by
 unfold nmP at h
 injection h with h1 h2
 have e1:=congrArg UInt8.toNat h1
 simp only[UInt8.toNat_ofNat']at e1
 exact⟨by omega,ZtZ hp hq h2⟩
section
variable {x:Shp} {L:List (List (List Int))} {facts:List Fct} {most:Int}
def Zvd (x:Shp) (L:List (List (List Int))) (facts:List Fct) (n:Nat) (N:List Nod) (c:Cel) (g:Int×List Nat):Prop:=c.key=g.1/\if n=0 then c.agg=(ZdJ facts ag0 g.2).getD ag0 else Made x L facts N n g.2 c.child
theorem Zvd.pre {n:Nat} {N N':List Nod} (hp:N <+: N') {c:Cel} {g:Int×List Nat} (h:Zvd x L facts n N c g):Zvd x L facts n N' c g:=by
 obtain⟨k1,k2⟩:=h
 refine⟨k1,?_⟩
 split at k2
 ·rename_i hn;rw[if_pos hn];exact k2
 ·rename_i hn;rw[if_neg hn];exact k2.pre hp
def CelR (x:Shp) (L:List (List (List Int))) (facts:List Fct) (n:Nat) (g:BSt->Int->List Nat->BSt×Cel):Prop:=∀s k p,Zbz facts p->(g s k p).1.e=0->s.e=0/\s.N <+: (g s k p).1.N/\(ZtU x L facts s->ZtU x L facts (g s k p).1/\Zvd x L facts n (g s k p).1.N (g s k p).2 (k,p))
theorem Zt1 {n:Nat} {g:BSt->Int->List Nat->BSt×Cel} (hg:CelR x L facts n g):∀(l:List (Int×List Nat)) (s:BSt),(∀p∈l,Zbz facts p.2)->(ZbG g s l).1.e=0->s.e=0/\s.N <+: (ZbG g s l).1.N/\(ZtU x L facts s->ZtU x L facts (ZbG g s l).1/\ZeK (Zvd x L facts n (ZbG g s l).1.N) (ZbG g s l).2 l)
 | [],s,_,h=>⟨h,zbd _,fun hm=>⟨hm,.nil⟩⟩
 | p :: ps,s,hp,h=>by
  obtain⟨k1,k2,k3⟩:=Zt1 hg ps (g s p.1 p.2).1 (fun q hq=>hp q (zad _ hq)) h
  obtain⟨h1,h2,h3⟩:=hg s p.1 p.2 (hp p zaf) k1
  refine⟨h1,h2.trans k2,fun hm=>?_⟩
  obtain⟨m1,m2⟩:=h3 hm
  obtain⟨m3,m4⟩:=k3 m1
  exact⟨m3,.cons (m2.pre k2) m4⟩
theorem ZtY {n:Nat} {g:BSt->Int->List Nat->BSt×Cel} (hg:CelR x L facts n g):∀(l:List (List (Int×List Nat))) (s:BSt),(∀t∈l,∀p∈t,Zbz facts p.2)->(Zbc g s l).1.e=0->s.e=0/\s.N <+: (Zbc g s l).1.N/\(ZtU x L facts s->ZtU x L facts (Zbc g s l).1/\(l≠[]->ZeK (Zvd x L facts n (Zbc g s l).1.N) ((Zbc g s l).2.headD []) (l.headD [])))
 | [],s,_,h=>⟨h,zbd _,fun hm=>⟨hm,fun h=>absurd rfl h⟩⟩
 | p :: ps,s,hp,h=>by
  obtain⟨k1,k2,k3⟩:=ZtY hg ps (ZbG g s p).1 (fun q hq=>hp q (zad _ hq)) h
  obtain⟨h1,h2,h3⟩:=Zt1 hg p s (hp p zaf) k1
  refine⟨h1,h2.trans k2,fun hm=>?_⟩
  obtain⟨m1,m2⟩:=h3 hm
  obtain⟨m3,_⟩:=k3 m1
  exact⟨m3,fun _=>m2.imp fun c g h=>h.pre k2⟩
def NdM (x:Shp) (L:List (List (List Int))) (facts:List Fct) (n:Nat) (f:BSt->List Nat->BSt×Int):Prop:=∀s p,Zbz facts p->(f s p).1.e=0->s.e=0/\s.N <+: (f s p).1.N/\(ZtU x L facts s->ZtU x L facts (f s p).1/\Made x L facts (f s p).1.N n p (f s p).2)
theorem Zve {f:BSt->List Nat->BSt×Int} {n:Nat} {last:Bool} (hl:last=decide (n=0)) (hf:n≠0->NdM x L facts n f):CelR x L facts n (ZbM facts f last):=by
 intro s k p hp
 by_cases hn:n=0
 ·have e:ZbM facts f last s k p=(sumE s (ZdJ facts ag0 p),⟨k,0,(ZdJ facts ag0 p).getD ag0⟩):=by unfold ZbM;rw[if_pos (by rw[hl,decide_eq_true hn])]
  rw[e]
  cases hs:ZdJ facts ag0 p with
  | none=>exact fun h=>absurd (show(12:Int)=0 from h) (by decide)
  | some a=>exact fun h=>⟨h,zbd _,fun hm=>⟨hm,rfl,by rw[if_pos hn,hs]⟩⟩
 ·have e:ZbM facts f last s k p=((f s p).1,⟨k,(f s p).2,ag0⟩):=by unfold ZbM;rw[if_neg (by rw[hl,decide_eq_false hn];decide)]
  rw[e]
  intro h
  obtain⟨h1,h2,h3⟩:=hf hn s p hp h
  refine⟨h1,h2,fun hm=>?_⟩
  obtain⟨m1,m2⟩:=h3 hm
  exact⟨m1,rfl,by rw[if_neg hn];exact m2⟩
theorem Zui {f:BSt->List Nat->BSt×Int} {n:Nat} (hF:ZbI x L facts) (hn:n<L.length) (hf:n≠0->NdM x L facts n f):NdM x L facts (n+1) (Zdq x L facts most f (L.length - (n+1))):=by
 intro s p hp
 have hd:L.length - (n+1)<L.length:=by omega
 have hg:=Zve (x:=x) (L:=L) (facts:=facts) (f:=f) (n:=n) (last:=decide (L.length - (n+1)+1=L.length)) (by rw[decide_eq_decide];omega) hf
 have hgp:∀t∈ZaC x L facts (L.length - (n+1)) p,∀q∈t,Zbz facts q.2:=fun t ht q hq=>by
  unfold ZaC at ht
  obtain⟨k,_,rfl⟩:=zaq.1 ht
  exact hp.grs hq
 have ht:=ZtY hg (ZaC x L facts (L.length - (n+1)) p) s hgp
 have ha:=fun s=>hg s 0 p hp
 obtain⟨t1,t2,t3⟩:=hF.tier _ hd
 have hG0:(ZaC x L facts (L.length - (n+1)) p)≠[]/\(ZaC x L facts (L.length - (n+1)) p).headD []=grs (Zdm L facts (L.length - (n+1)) 0) (Zch x (L.length - (n+1)) 0) p:=by
  have e:(L.getD (L.length - (n+1)) []).length=L[L.length - (n+1)].length:=by simp[zab hd]
  unfold ZaC
  rw[e]
  generalize L[L.length - (n+1)].length=m at *
  cases m with
  | zero=>omega
  | succ m=>rw[List.range_succ_eq_map];exact⟨by simp,rfl⟩
 have hdl:=hF.dims
 have hfew:=hF.few
 unfold Zdq
 split
 ·rename_i i hi
  exact fun h=>⟨h,zbd _,fun hm=>⟨hm,hm n hn p i hp hi⟩⟩
 ·rename_i hnone
  split
  ·rename_i h1;exact fun h=>absurd h h1
  ·generalize (Zbc (ZbM facts f (decide (L.length - (n+1)+1=L.length))) s (ZaC x L facts (L.length - (n+1)) p))=T at *
   have ha:=ha T.1
   generalize (ZbM facts f (decide (L.length - (n+1)+1=L.length)) T.1 0 p)=a at *
   unfold Zha
   split
   ·rename_i h1;exact fun h=>absurd h h1
   ·rename_i h1
    split
    ·rename_i h2;exact fun h=>absurd h h2
    ·intro _
     obtain⟨a1,a2,a3⟩:=ha (zaQ.1 h1)
     obtain⟨b1,b2,b3⟩:=ht a1
     have hpre:a.1.N <+: a.1.N++[⟨((L.length - (n+1):Nat):Int),T.2,a.2⟩]:=zb9 _ _
     refine⟨b1,(b2.trans a2).trans hpre,fun hm=>?_⟩
     obtain⟨m1,m2⟩:=b3 hm
     obtain⟨m3,_⟩:=a3 m1
     have hnew:Zdw (a.1.N++[⟨((L.length - (n+1):Nat):Int),T.2,a.2⟩]) (a.1.N.length:Int)=⟨((L.length - (n+1):Nat):Int),T.2,a.2⟩:=by
      unfold Zdw
      rw[if_pos (by omega)]
      simp
     have hmade:Made x L facts (a.1.N++[⟨((L.length - (n+1):Nat):Int),T.2,a.2⟩]) (n+1) p (a.1.N.length:Int):=by
      refine⟨by omega,by rw[zak];simp only[List.length_cons,List.length_nil];omega,by rw[hnew],?_⟩
      rw[hnew]
      have:=m2 hG0.1
      rw[hG0.2]at this
      exact this.imp fun c g h=>h.pre (a2.trans hpre)
     refine⟨fun n' hn' part' i' hp' hi'=>?_,hmade⟩
     simp only at hi'
     rw[Zeg]at hi'
     split at hi'
     ·rename_i he
      obtain⟨e1,e2⟩:=nmP_inj (by omega) (by omega) (fun i hi=>by have:=hp'.2.2 i hi;omega) (fun i hi=>by have:=hp.2.2 i hi;omega) he
      have e3:n'=n:=by omega
      subst e3 e2
      injection hi' with hi'
      rw[<- hi']
      exact hmade
     ·exact(m3 n' hn' part' i' hp' hi').pre hpre
theorem Zue (hF:ZbI x L facts):∀(n:Nat),n<L.length->NdM x L facts (n+1) (ZcV x L facts most (n+1))
 | 0,h=>Zui hF h (fun h=>absurd rfl h)
 | n+1,h=>Zui hF h (fun _=>Zue hF n (by omega))
end
def ky (facts:List Fct) (j d:Nat):Int:=(facts.getD j ([],ag0)).1.getD d 0
def Lex (facts:List Fct) (D j k:Nat):Prop:=∃m,m<D/\(∀q,q<m->ky facts j q=ky facts k q)/\ky facts j m<ky facts k m
theorem Lex.trans {facts:List Fct} {D i j k:Nat} (h:Lex facts D i j) (g:Lex facts D j k):Lex facts D i k:=by
 obtain⟨m,hm,h1,h2⟩:=h
 obtain⟨n,hn,g1,g2⟩:=g
 by_cases c:m<n
 ·exact⟨m,hm,fun q hq=>(h1 q hq).trans (g1 q (by omega)),by rw[<- g1 m c];exact h2⟩
 ·by_cases c2:n<m
  ·exact⟨n,hn,fun q hq=>(h1 q (by omega)).trans (g1 q hq),by rw[h1 n c2];exact g2⟩
  ·obtain rfl:m=n:=by omega
   exact⟨m,hm,fun q hq=>(h1 q hq).trans (g1 q hq),by omega⟩
theorem Zu1:∀{a b:List Int},a.length=b.length->cmpL a b<0->∃m,m<a.length/\(∀q,q<m->a.getD q 0=b.getD q 0)/\a.getD m 0<b.getD m 0
 | [],[],_,h=>by simp[cmpL]at h
 | [],_ :: _,h,_=>by simp at h
 | _ :: _,[],h,_=>by simp at h
 | a :: r,b :: t,hl,h=>by
  unfold cmpL at h
  by_cases c:Zgz a b≠0
  ·rw[if_pos c]at h
   have:a<b:=by
    unfold Zgz at h
    split at h
    ·assumption
    ·split at h<;>omega
   exact⟨0,by simp,fun q hq=>by omega,by simpa using this⟩
  ·rw[if_neg c]at h
   have e:a=b:=by
    unfold Zgz at c
    split at c
    ·omega
    ·split at c<;>omega
   obtain⟨m,hm,h1,h2⟩:=Zu1 (by simpa using hl) h
   refine⟨m+1,by simpa using hm,fun q hq=>?_,by simpa using h2⟩
   cases q with
   | zero=>simpa using e
   | succ q=>simpa using h1 q (by omega)
theorem Zu0 {x:Shp}:∀{l:List Fct} {w:Option Fct},Zd7 x w l=0->(∀q,w=some q->∀h:0<l.length,cmpL q.1 l[0].1<0)/\∀k (h:k+1<l.length),cmpL l[k].1 l[k+1].1<0
 | [],w,_=>⟨fun q _ h=>by simp at h,fun k h=>by simp at h⟩
 | f :: r,w,h=>by
  rw[Zf5]at h
  split at h
  ·rename_i h1;exact absurd h h1
  ·split at h
   ·omega
   ·rename_i h2
    obtain⟨k1,k2⟩:=Zu0 h
    refine⟨fun q hq _=>?_,fun k hk=>?_⟩
    ·subst hq
     have:¬cmpL q.1 f.1≥0:=fun hc=>h2 (by unfold geF;simpa using hc)
     simpa using this
    ·cases k with
     | zero=>exact k1 f rfl (by simpa using hk)
     | succ k=>simpa using k2 k (by simpa using hk)
theorem ZvJ {facts:List Fct} {x:Shp} {D:Nat} (h:Zd7 x none facts=0) (hk:∀f∈facts,f.1.length=D):∀k,k<facts.length->∀j,j<k->Lex facts D j k
 | 0,_,j,hj=>by omega
 | k+1,hl,j,hj=>by
  have h1:Lex facts D k (k+1):=by
   have h2:=(Zu0 h).2 k hl
   have e1:=hk _ (zai (show k<facts.length by omega))
   have e2:=hk _ (zai hl)
   obtain⟨m,hm,q1,q2⟩:=Zu1 (by omega) h2
   have g1:facts.getD k ([],ag0)=facts[k]:=by rw[zae,zab (by omega)];rfl
   have g2:facts.getD (k+1) ([],ag0)=facts[k+1]:=by rw[zae,zab hl];rfl
   unfold Lex ky
   rw[g1,g2]
   exact⟨m,by omega,q1,q2⟩
  by_cases c:j=k
  ·subst c;exact h1
  ·exact(ZvJ h hk k (by omega) j (by omega)).trans h1
theorem Zuz (key:Nat->Int):∀(n:Nat) {part:List Nat},part.Pairwise (fun j k=>key j<=key k)->(∀j∈part,0<=key j)->(List.range n).flatMap (fun k:Nat=>part.filter fun i=>decide (key i=(k:Int)))=part.filter fun i=>decide (key i<(n:Int))
 | 0,part,_,h0=>by
  rw[List.range_zero,List.flatMap_nil]
  refine(zbU.2 fun j hj=>?_).symm
  have:=h0 j hj
  simp;omega
 | n+1,part,hs,h0=>by
  rw[zb8,zbJ,Zuz key n hs h0]
  simp only[zaU,List.flatMap_nil,zaG]
  clear h0
  induction part with
  | nil=>rfl
  | cons a r ih =>
   obtain⟨h1,h2⟩:=zba.1 hs
   have ih:=ih h2
   by_cases c:key a<(n:Int)
   ·rw[zbS (by simpa using c),zbG (by simp;omega),zbS (by simp;omega),List.cons_append,ih]
   ·have hz:r.filter (fun i=>decide (key i<(n:Int)))=[]:=zbU.2 fun j hj=>by have:=h1 j hj;simp;omega
    rw[zbG (by simpa using c),hz,List.nil_append]
    rw[hz,List.nil_append]at ih
    by_cases c2:key a=(n:Int)
    ·rw[zbS (by simpa using c2),zbS (by simp;omega),ih]
    ·rw[zbG (by simpa using c2),zbG (by simp;omega),ih]
theorem grs_flat {key:Nat->Int} {n:Nat} {part:List Nat} (hs:part.Pairwise (fun j k=>key j<=key k)) (h0:∀j∈part,0<=key j/\key j<n):(grs key n part).flatMap (·.2)=part:=by
 have h1:=Zuz key n hs (fun j hj=>(h0 j hj).1)
 have h2:part.filter (fun i=>decide (key i<(n:Int)))=part:=List.filter_eq_self.2 fun j hj=>by simpa using (h0 j hj).2
 rw[h2]at h1
 refine Eq.trans ?_ h1
 unfold grs
 generalize List.range n=l
 induction l with
 | nil=>rfl
 | cons k l ih =>
  rw[zaU,List.filterMap_cons]
  by_cases c:part.filter (fun i=>decide (key i=(k:Int)))=[]
  ·rw[c,if_pos rfl,List.nil_append]
   exact ih
  ·rw[if_neg c,zaU,ih]
theorem ZuG {α β γ:Type} {R:α->β->Prop} {F:α->List γ} {G:β->List γ}:∀{l:List α} {m:List β},ZeK R l m->(∀a b,b∈m->R a b->F a=G b)->l.flatMap F=m.flatMap G
 | _,_,.nil,_=>rfl
 | _,_,.cons h t,hg=>by
  rw[zaU,zaU,hg _ _ zaf h,ZuG t fun a b hb=>hg a b (zad _ hb)]
structure SPart (facts:List Fct) (d:Nat) (part:List Nat):Prop where
 up:part.Pairwise (·<·)
 lt:∀j∈part,j<facts.length
 eq:∀j∈part,∀k∈part,∀q,q<d->ky facts j q=ky facts k q
theorem ZuV {x:Shp} {L:List (List (List Int))} {facts:List Fct} {N:List Nod} (hD:L.length=x.sizes.length) (hd:Down x N) (hk:∀f∈facts,f.1.length=L.length) (hlex:∀k,k<facts.length->∀j,j<k->Lex facts L.length j k)
  (hkey:∀d,d<L.length->∀j,j<facts.length->Zdm L facts d 0 j=ky facts j d/\0<=ky facts j d/\ky facts j d<Zch x d 0)
  {n:Nat} {part:List Nat} {i:Int} {ks:List Int} (hn:n<L.length) (hM:Made x L facts N (n+1) part i) (hS:SPart facts (L.length - (n+1)) part)
  (ih:n≠0->∀(part:List Nat) (i:Int) (ks:List Int),Made x L facts N n part i->SPart facts (L.length - n) part->fct x N ks i=part.map fun j=>(ks++(facts.getD j ([],ag0)).1.drop (L.length - n),(facts.getD j ([],ag0)).2)) :
  fct x N ks i=part.map fun j=>(ks++(facts.getD j ([],ag0)).1.drop (L.length - (n+1)),(facts.getD j ([],ag0)).2):=by
 obtain⟨h0,h1,h2,h3⟩:=hM
 have hdl:L.length - (n+1)<L.length:=by omega
 have hkp:∀j∈part,Zdm L facts (L.length - (n+1)) 0 j=ky facts j (L.length - (n+1))/\0<=ky facts j (L.length - (n+1))/\ky facts j (L.length - (n+1))<Zch x (L.length - (n+1)) 0:=fun j hj=>hkey _ hdl j (hS.lt j hj)
 have hle:∀j∈part,∀k∈part,j<k->ky facts j (L.length - (n+1))<=ky facts k (L.length - (n+1)):=fun j hj k hk' hjk=>by
  obtain⟨m,hm,g1,g2⟩:=hlex k (hS.lt k hk') j hjk
  by_cases c:m<L.length - (n+1)
  ·have:=hS.eq j hj k hk' m c;omega
  ·by_cases c2:m=L.length - (n+1)
   ·rw[<- c2];omega
   ·rw[g1 _ (by omega)];omega
 have hpw:part.Pairwise (fun j k=>Zdm L facts (L.length - (n+1)) 0 j<=Zdm L facts (L.length - (n+1)) 0 k):=hS.up.imp_of_mem fun {j k} hj hk' hjk=>by
  rw[(hkp j hj).1,(hkp k hk').1];exact hle j hj k hk' hjk
 have hfl:=grs_flat hpw (fun j hj=>by rw[(hkp j hj).1];exact(hkp j hj).2)
 rw[Zuu hd ks h0 h1]
 conv=>rhs;rw[<- hfl]
 rw[List.map_flatMap]
 refine ZuG h3 fun c g hg ⟨k1,k2⟩=>?_
 obtain⟨g1,g2,g3⟩:=Zfb hg
 have hgf:g.2=part.filter (fun j=>decide (Zdm L facts (L.length - (n+1)) 0 j=g.1)):=by
  unfold grs at hg
  obtain⟨k,_,h⟩:=zbx.1 hg
  split at h
  ·cases h
  ·injection h with h;rw[<- h]
 have hgk:∀j∈g.2,ky facts j (L.length - (n+1))=g.1:=fun j hj=>by
  rw[hgf]at hj
  obtain⟨j1,j2⟩:=za2.1 hj
  rw[<- (hkp j j1).1]
  simpa using j2
 have hgu:g.2.Pairwise (·<·):=by rw[hgf];exact hS.up.filter _
 have hdr:∀j∈g.2,(facts.getD j ([],ag0)).1.drop (L.length - (n+1))=g.1 :: (facts.getD j ([],ag0)).1.drop (L.length - n):=fun j hj=>by
  have hjl:=hS.lt j (g3 j hj)
  have e:facts.getD j ([],ag0)=facts[j]:=by rw[zae,zab hjl];rfl
  have hlen:=hk _ (zai hjl)
  have h5:=hgk j hj
  unfold ky at h5
  rw[e]at h5 ⊢
  rw[zae,zab (by omega)]at h5
  rw[zao (by omega),show L.length - (n+1)+1=L.length - n by omega]
  congr 1
 have hlb:lastB x (Zdw N i).dim=decide (n=0):=by
  unfold lastB
  rw[h2,zaT]
  simp only[beq_iff_eq,decide_eq_true_eq]
  omega
 unfold ZtS
 by_cases hz:n=0
 ·subst hz
  rw[if_pos (by rw[hlb];rfl)]
  rw[if_pos rfl]at k2
  match hg2:g.2,g1 with
  | [j],_ =>
   have hd1:=hdr j (by rw[hg2];exact zau.2 rfl)
   have hjl:=hS.lt j (g3 j (by rw[hg2];exact zau.2 rfl))
   have e:facts.getD j ([],ag0)=facts[j]:=by rw[zae,zab hjl];rfl
   have hlen:=hk _ (zai hjl)
   have ht:(facts.getD j ([],ag0)).1.drop (L.length - 0)=[]:=by rw[e];exact zbq (by omega)
   have hs1:ZdJ facts ag0 g.2=some (facts.getD j ([],ag0)).2:=by
    rw[hg2]
    simp only[ZdJ]
    have:Zdl ag0 (facts.getD j ([],ag0)).2=some (facts.getD j ([],ag0)).2:=by unfold Zdl;exact if_pos (show ag0.n=0 from rfl)
    rw[this]
   rw[zar,zaW,hd1,ht,k1,k2,hs1]
   rfl
  | j :: k :: r,_ =>
   exfalso
   rw[hg2]at hgu
   have hjk:j<k:=(zba.1 hgu).1 k zaf
   have mj:j∈g.2:=by rw[hg2];exact zaf
   have mk:k∈g.2:=by rw[hg2];exact zad _ zaf
   obtain⟨m,hm,q1,q2⟩:=hlex k (hS.lt k (g3 k mk)) j hjk
   by_cases c:m<L.length - (0+1)
   ·have:=hS.eq j (g3 j mj) k (g3 k mk) m c;omega
   ·obtain rfl:m=L.length - (0+1):=by omega
    have:=hgk j mj
    have:=hgk k mk
    omega
  | [],h=>exact absurd rfl h
 ·rw[if_neg (by rw[hlb,decide_eq_false hz];decide)]
  rw[if_neg hz]at k2
  rw[ih hz g.2 c.child (ks++[c.key]) k2 ⟨hgu,fun j hj=>hS.lt j (g3 j hj),fun j hj k hk' q hq=>?_⟩]
  ·refine zcL fun j hj=>?_
   rw[hdr j hj,k1,zaM];rfl
  ·by_cases c:q<L.length - (n+1)
   ·exact hS.eq j (g3 j hj) k (g3 k hk') q c
   ·obtain rfl:q=L.length - (n+1):=by omega
    rw[hgk j hj,hgk k hk']
theorem fct_made {x:Shp} {L:List (List (List Int))} {facts:List Fct} {N:List Nod} (hD:L.length=x.sizes.length) (hd:Down x N) (hk:∀f∈facts,f.1.length=L.length) (hlex:∀k,k<facts.length->∀j,j<k->Lex facts L.length j k)
  (hkey:∀d,d<L.length->∀j,j<facts.length->Zdm L facts d 0 j=ky facts j d/\0<=ky facts j d/\ky facts j d<Zch x d 0) :
  ∀(n:Nat) (part:List Nat) (i:Int) (ks:List Int),n<L.length->Made x L facts N (n+1) part i->SPart facts (L.length - (n+1)) part->fct x N ks i=part.map fun j=>(ks++(facts.getD j ([],ag0)).1.drop (L.length - (n+1)),(facts.getD j ([],ag0)).2):=by
 intro n
 induction n with
 | zero =>
  intro part i ks hn hM hS
  exact ZuV hD hd hk hlex hkey hn hM hS (fun h=>absurd rfl h)
 | succ n ih =>
  intro part i ks hn hM hS
  exact ZuV hD hd hk hlex hkey hn hM hS (fun _ part i ks h1 h2=>ih part i ks (by omega) h1 h2)
theorem lift0 {S:Sc} {facts:List Fct} (hF:ZbI (Za3 S) (Zan S) facts):∀d,d<(Zan S).length->∀j,j<facts.length->Zdm (Zan S) facts d 0 j=ky facts j d/\0<=ky facts j d/\ky facts j d<Zch (Za3 S) d 0:=fun d hd j hj=>by
 have hm:=zai hj
 have ht:=(hF.tier d hd).1
 obtain⟨n,e1,hn,e2,e3⟩:=hF.key _ hm d hd 0 (by omega)
 have hds:d<S.dims.length:=by
  have:(Zan S).length=S.dims.length:=by unfold Zan;simp
  omega
 have e4:(Zan S)[d][0][n]=(n:Int):=by
  have h1:(Zan S)[d]=Zct S.dims[d]:=zbl ..
  have h2:(Zan S)[d][0]=mapD S.dims[d] 0:=by simp[h1,Zct]
  simp only[h2]
  simp only[mapD,zbl,zck]
  unfold Zdo bot
  rw[List.take_zero,ups]
  exact if_neg (by omega)
 have e5:facts.getD j ([],ag0)=facts[j]:=by rw[zae,zab hj];rfl
 have e6:ky facts j d=(n:Int):=by unfold ky;rw[e5,e1]
 have e7:Zdm (Zan S) facts d 0 j=(Zan S)[d][0][n]:=by
  unfold Zdm
  rw[e5,e1]
  simp[zab hd,zab (show 0<(Zan S)[d].length by omega),zab hn]
 rw[e7,e6]
 rw[e4]at e2 e3 ⊢
 exact⟨rfl,e2,e3⟩
structure Back (x:Shp) (facts:List Fct) (N:List Nod):Prop where
 load:Zm5 x N=0
 sm:∀n∈N,Zdb n
 len:N.length<=20000
 nil:facts=[]->N=[]
 ne:facts≠[]->N≠[]
 whole:Zlb x N=true
 fct:facts≠[]->fct x N [] ((N.length:Int) - 1)=facts
theorem bld_back {S:Sc} {facts:List Fct} (h:Zet S 20000 facts=0) (ha:∀f∈facts,Zho f.2):Back (Za3 S) facts (Ze6 S 20000 facts):=by
 obtain⟨hard,hled⟩:=ZlU h ha
 unfold Zet at h
 split at h
 ·rename_i h1;exact absurd h h1
 rename_i h1
 split at h
 ·rename_i h2;exact absurd h h2
 rename_i h2
 split at h
 ·omega
 rename_i h3
 split at h
 ·omega
 split at h
 ·rename_i h5
  have e:Ze6 S 20000 facts=[]:=by unfold Ze6;rw[if_pos h5]
  rw[e]
  exact⟨ZtW (most:=20000) hard.may (by omega) (fun i hi=>by simp at hi),by simp,by simp,fun _=>rfl,fun h=>absurd h5 h,rfl,fun h=>absurd h5 h⟩
 ·rename_i h5
  have e:Ze6 S 20000 facts=(Zfa S 20000 facts).N:=by unfold Ze6;rw[if_neg h5]
  rw[e]at hard hled ⊢
  have h1:=zaQ.1 h1
  have h2:=zaQ.1 h2
  have hF:=ZdS h1 h2 (by omega) ha
  have hG:Grown (Za3 S) 20000 (Zfa S 20000 facts).N:=Zfj hF _ (zah _) _ _ ⟨fun i hi=>by simp at hi,fun n hn=>by simp at hn⟩
  have hlen:(Zfa S 20000 facts).N.length<=20000:=by
   refine zaz fun hc=>?_
   have:=(add_zero' (hG.1 20000 (by omega))).2.2
   rw[zaL]at this
   omega
  have hld:=ZtW hard.may (by omega) hG.1
  have hL1:1<=(Zan S).length:=by have:=(Zby hard.may).1;have:=hF.len;omega
  have hpo:Zbz facts (List.range facts.length):=⟨by simp;exact h5,by simp,fun i hi=>by simpa using hi⟩
  have hmd:=Zue (most:=20000) hF ((Zan S).length - 1) (by omega) ⟨[],[],0⟩ (List.range facts.length) hpo
  have hrl:=ZhY (x:=Za3 S) (L:=Zan S) (facts:=facts) (most:=20000) ((Zan S).length - 1) ⟨[],[],0⟩ (List.range facts.length) rfl
  rw[show(Zan S).length - 1+1=(Zan S).length by omega]at hmd hrl
  have hrl:=hrl h
  obtain⟨_,_,hmd⟩:=hmd h
  obtain⟨_,hmd⟩:=hmd (fun n hn part i hp hi=>by simp[Zcz]at hi)
  have htop:(ZcV (Za3 S) (Zan S) facts 20000 (Zan S).length ⟨[],[],0⟩ (List.range facts.length)).2=((Zfa S 20000 facts).N.length:Int) - 1:=by
   have:(ZcV (Za3 S) (Zan S) facts 20000 (Zan S).length ⟨[],[],0⟩ (List.range facts.length)).2+1=((Zfa S 20000 facts).N.length:Int):=hrl
   omega
  rw[htop]at hmd
  have hmd:Made (Za3 S) (Zan S) facts (Zfa S 20000 facts).N (Zan S).length (List.range facts.length) (((Zfa S 20000 facts).N.length:Int) - 1):=hmd
  generalize hN:(Zfa S 20000 facts).N=N at *
  obtain⟨hw,_⟩:=Zr3 hld (by omega) hG.2
  have hmd':Made (Za3 S) (Zan S) facts N ((Zan S).length - 1+1) (List.range facts.length) ((N.length:Int) - 1):=by rw[show(Zan S).length - 1+1=(Zan S).length by omega];exact hmd
  have hdim:(Zdw N ((N.length:Int) - 1)).dim=0:=by
   have:=hmd'.2.2.1
   rw[this]
   omega
  have hpos:0<N.length:=by have:=hmd'.1;omega
  refine⟨hld,hG.2,hlen,fun h=>absurd h h5,fun _ hc=>by rw[hc]at hpos;simp at hpos,?_,fun _=>?_⟩
  ·unfold Zlb
   rw[if_neg (by omega),hdim]
   simp only[beq_self_eq_true,zaE,zbQ]
   refine Bool.eq_false_iff.2 fun hc=>?_
   rw[zaY]at hc
   obtain⟨j,hj,hje⟩:=zaw hc
   have hj':j<N.length - 1:=by rw[zaL,ZlV]at hj;omega
   rw[zbY,ZqA (by omega)]at hje
   have hcz:List.count (j:Int) (kids (Za3 S) N)=0:=by omega
   rw[zcl]at hcz
   obtain⟨k,hk,hkd,c,hcm,hcc⟩:=hled j (by omega)
   refine hcz ?_
   unfold kids
   refine zbr.2 ⟨N[k],zai hk,?_⟩
   have hlb:lastB (Za3 S) N[k].dim=false:=by unfold lastB;rw[beq_eq_false_iff_ne];omega
   rw[if_neg (by rw[hlb];decide)]
   exact zaq.2 ⟨c,hcm,hcc⟩
  ·have hkl:∀f∈facts,f.1.length=(Zan S).length:=hF.keys
   have:=fct_made hF.len hw.down hkl (ZvJ h2 hkl) (lift0 hF) ((Zan S).length - 1) (List.range facts.length) ((N.length:Int) - 1) [] (by omega) hmd' ⟨zcu,fun j hj=>by simpa using hj,fun j _ k _ q hq=>by omega⟩
   rw[this,show(Zan S).length - ((Zan S).length - 1+1)=0 by omega]
   refine zcg (by simp) fun i hi1 hi2=>?_
   rw[zbl,zck,zaZ,List.nil_append,zae,zab hi2]
   rfl
theorem Zu5:∀{ks:List Int} {ss:List (List Int)},ks.length=ss.length->(∀d,d<ss.length->0<=ks.getD d 0/\ks.getD d 0<(ss.getD d []).headD 0)->Zdr ks ss=0
 | [],_,_,_=>rfl
 | k :: ks,[],h,_=>by simp at h
 | k :: ks,s :: ss,h,hk=>by
  have h0:=hk 0 (by simp)
  have h0:0<=k/\k<s.headD 0:=h0
  unfold Zdr
  rw[if_neg (by
   rintro(e|e|e)
   ·have:s=[]:=za3.1 e
    rw[this]at h0
    have:k<0:=h0.2
    omega
   ·omega
   ·omega)]
  exact Zu5 (by simpa using h) fun d hd=>hk (d+1) (by simpa using hd)
theorem ZvA:∀(ks:List Int) {j k:Int} {r s:List Int},j<k->ks++j :: r<ks++k :: s
 | [],j,k,r,s,h=>zbX.2 (.inl h)
 | a :: ks,j,k,r,s,h=>zbX.2 (.inr ⟨rfl,ZvA ks h⟩)
theorem ZuB {hi:Int}:∀{l:List Cel} {lo:Int},Zol hi lo l->l.Pairwise (fun a b=>a.key<b.key)/\∀c∈l,lo<=c.key/\c.key<hi
 | [],_,_=>⟨List.Pairwise.nil,fun c hc=>by cases hc⟩
 | c :: r,lo,h=>by
  obtain⟨h1,h2,_,h3⟩:=h
  obtain⟨i1,i2⟩:=ZuB h3
  refine⟨zba.2 ⟨fun b hb=>by have:=(i2 b hb).1;omega,i1⟩,fun d hd=>?_⟩
  rcases zan.1 hd with rfl|hd
  ·exact⟨h1,h2⟩
  ·have:=i2 d hd;omega
theorem Zuh {x:Shp} {dim size:Int}:∀{l:List Cel} {p:Option Int},ZcA x dim size p l=0->∀c∈l,ZbQ x dim c=true
 | [],_,_,c,hc=>by cases hc
 | a :: r,p,h,c,hc=>by
  unfold ZcA at h
  split at h
  ·cases h
  ·split at h
   ·cases h
   ·split at h
    ·cases h
    ·rename_i h3
     rcases zan.1 hc with rfl|hc
     ·simpa using h3
     ·exact Zuh h c hc
theorem ZvI {x:Shp} {n:Nod} (hc:Zbf x n=0):(∀c∈n.lists.headD [],ZbQ x n.dim c=true)/\Zol ((x.sizes.getD n.dim.toNat []).headD 0) 0 (n.lists.headD []):=by
 unfold Zbf at hc
 simp only at hc
 split at hc
 ·cases hc
 split at hc
 ·cases hc
 rename_i h2
 split at hc
 ·rename_i h3;exact absurd hc h3
 rename_i h3
 have h3:ZbH x n.dim none (x.sizes.getD n.dim.toNat []) n.lists=0:=by simpa using h3
 have hr:=ZoP (ls:=n.lists) (by omega) h3 0
 generalize x.sizes.getD n.dim.toNat []=ss at *
 cases hl:n.lists with
 | nil=>exact absurd (.inr (by rw[hl];rfl)) h2
 | cons a r =>
  rw[hl]at h3 hr
  cases ss with
  | nil=>rw[hl]at h2;simp at h2
  | cons s ss =>
   refine⟨?_,hr⟩
   unfold ZbH at h3
   split at h3
   ·rename_i h4;exact absurd h3 h4
   ·rename_i h4
    have h4:ZbN x n.dim s a=0:=by simpa using h4
    unfold ZbN at h4
    split at h4
    ·cases h4
    ·exact Zuh h4
theorem fct_ok {x:Shp} {l:List Nod} (hp:Prw x l) (hc:∀n∈l,Zbf x n=0):∀(n:Nat) (a:Int) (ks:List Int),0<=a->a<l.length->a<(n:Int)->(ks.length:Int)=(Zdw l a).dim ->
  (∀f∈fct x l ks a,(∃r,f.1=ks++r)/\f.1.length=x.sizes.length/\(∀j,ks.length<=j->j<x.sizes.length->0<=f.1.getD j 0/\f.1.getD j 0<(x.sizes.getD j []).headD 0)/\Zbw x.measures f.2=true)/\Zom (fct x l ks a)
 | 0,a,ks,h0,h1,h2,h3=>by omega
 | n+1,a,ks,h0,h1,h2,h3=>by
  obtain⟨b,rfl⟩:∃b:Nat,a=b:=⟨a.toNat,by omega⟩
  have hb:b<l.length:=by omega
  have hnod:=Zm8 hb
  have hck:=ZvI (hc l[b] (zai hb))
  rw[<- hnod]at hck
  obtain⟨hck,hri⟩:=hck
  obtain⟨hpair,hkey⟩:=ZuB hri
  obtain⟨d0,d1⟩:=hp.k.dm b hb
  have htn:(Zdw l (b:Int)).dim.toNat=ks.length:=by omega
  rw[htn]at hkey
  rw[Zuu hp.k.w.down ks h0 h1]
  have hsub:∀c∈(Zdw l (b:Int)).lists.headD [],c∈each (Zdw l (b:Int)):=fun c hcm=>by
   unfold each
   refine zbp _ (zbc.2 ⟨(Zdw l (b:Int)).lists.headD [],?_,hcm⟩)
   cases hl:(Zdw l (b:Int)).lists with
   | nil=>rw[hl]at hcm;cases hcm
   | cons a r=>exact zaf
  have key:∀c∈(Zdw l (b:Int)).lists.headD [],(∀f∈ZtS x l (b:Int) ks c,(∃r,f.1=ks++c.key :: r)/\f.1.length=x.sizes.length/\(∀j,ks.length<=j->j<x.sizes.length->0<=f.1.getD j 0/\f.1.getD j 0<(x.sizes.getD j []).headD 0)/\Zbw x.measures f.2=true)/\Zom (ZtS x l (b:Int) ks c):=by
   intro c hcm
   have hkc:=hkey c hcm
   have hgd:∀r:List Int,(ks++c.key :: r).getD ks.length 0=c.key:=fun r=>by simp
   unfold ZtS
   by_cases hl:lastB x (Zdw l (b:Int)).dim=true
   ·rw[if_pos hl]
    have hok:=hck c hcm
    unfold ZbQ at hok
    rw[if_pos hl,zax]at hok
    have hD:ks.length+1=x.sizes.length:=by unfold lastB at hl;simp at hl;omega
    refine⟨fun f hf=>?_,List.pairwise_singleton _ _⟩
    rw[zau.1 hf]
    refine⟨⟨[],rfl⟩,by simp;omega,fun j hj1 hj2=>?_,hok.2⟩
    have:j=ks.length:=by omega
    subst this
    show 0<=(ks++[c.key]).getD ks.length 0/\(ks++[c.key]).getD ks.length 0<_
    rw[hgd []]
    exact hkc
   ·have hl':lastB x (Zdw l (b:Int)).dim=false:=by simpa using hl
    rw[if_neg hl]
    obtain⟨c0,c1⟩:=hp.k.w.down b hb hl' c (hsub c hcm)
    have hdc:=hp.k.dim b hb hl' c (hsub c hcm)
    obtain⟨i1,i2⟩:=fct_ok hp hc n c.child (ks++[c.key]) c0 (by omega) (by omega) (by rw[hdc];simp;omega)
    refine⟨fun f hf=>?_,i2⟩
    obtain⟨⟨r,hr⟩,k1,k2,k3⟩:=i1 f hf
    refine⟨⟨r,by rw[hr];simp⟩,k1,fun j hj1 hj2=>?_,k3⟩
    by_cases hj:j=ks.length
    ·subst hj
     rw[hr,zaM,List.singleton_append,hgd r]
     exact hkc
    ·exact k2 j (by simp;omega) hj2
  generalize (Zdw l (b:Int)).lists.headD []=cs at *
  refine⟨fun f hf=>?_,?_⟩
  ·obtain⟨c,hcm,hf⟩:=zbr.1 hf
   obtain⟨⟨r,hr⟩,k⟩:=(key c hcm).1 f hf
   exact⟨⟨_,hr⟩,k⟩
  ·refine List.pairwise_flatMap.2 ⟨fun c hcm=>(key c hcm).2,?_⟩
   refine hpair.imp_of_mem fun {c e} hcm hem hlt f hf g hg=>?_
   obtain⟨⟨r,hr⟩,_⟩:=(key c hcm).1 f hf
   obtain⟨⟨s,hs⟩,_⟩:=(key e hem).1 g hg
   rw[hr,hs]
   exact ZvA ks hlt
theorem fct_row {x:Shp} {l:List Nod} (hp:Prw x l) (hc:∀n∈l,Zbf x n=0) (hl:l.length≠0) (hw:Zlb x l=true):Zd7 x none (fct x l [] ((l.length:Int) - 1))=0:=by
 have hd:=ZuF hw hl
 obtain⟨h1,h2⟩:=fct_ok hp hc l.length ((l.length:Int) - 1) [] (by omega) (by omega) (by omega) (by rw[hd];rfl)
 refine row_of (fun f hf=>?_) h2 (fun q hq=>by cases hq)
 obtain⟨_,k1,k2,k3⟩:=h1 f hf
 unfold Zb8
 rw[if_neg (fun h=>h k1),if_neg (fun h=>h (Zu5 k1 fun d hd=>k2 d (zaD _) hd)),if_neg (by rw[k3];decide)]
def ZtA (S:Sc) (N:List Nod):List Fct:=if N.length=0 then [] else fct (Za3 S) N [] ((N.length:Int) - 1)
def Zua (S:Sc) (N:List Nod):Bool:=decide (scE S=0)&&(Zlb (Za3 S) N&&(decide ((ZtA S N).length<=4000)&&(decide (Zet S N.length (ZtA S N)=0)&&decide (N=Ze6 S N.length (ZtA S N)))))
theorem ZvM (S:Sc) (N:List Nod):(∃e:Int,e≠0/\Zty (Za3 S) N 4000=.tup [.sl .no [],.i e]/\Zua S N=false)\/(Zty (Za3 S) N 4000=.tup [.sl .no (rF (ZtA S N)),.i 0]/\Zlb (Za3 S) N=true/\(ZtA S N).length<=4000):=by
 unfold Zty
 rcases bfd (Zlb (Za3 S) N)with hw|hw
 ·rw[if_pos hw]
  exact .inl ⟨2,by decide,rfl,by unfold Zua;rw[hw];simp⟩
 rw[if_neg (by rw[hw];decide)]
 by_cases h0:N.length=0
 ·rw[if_pos h0]
  have e:ZtA S N=[]:=by unfold ZtA;rw[if_pos h0]
  rw[e]
  exact .inr ⟨rfl,hw,zaD _⟩
 rw[if_neg h0]
 have e:ZtA S N=fct (Za3 S) N [] ((N.length:Int) - 1):=by unfold ZtA;rw[if_neg h0]
 rw[<- e]
 unfold resF fill
 simp only[List.nil_append]
 by_cases hl:((ZtA S N).length:Int)<=4000
 ·rw[if_pos hl,if_pos rfl]
  exact .inr ⟨rfl,hw,by omega⟩
 ·rw[if_neg hl,if_neg (show ¬(6:Int)=0 by decide)]
  exact .inl ⟨6,by decide,rfl,by unfold Zua;rw[show decide ((ZtA S N).length<=4000)=false from decide_eq_false (by omega)];simp⟩
theorem Zvr {x:Shp} {most:Int} {N:List Nod} (h:Grown x most N) (h0:0<=most):(N.length:Int)<=most:=by
 refine zaz fun hc=>?_
 have:=(add_zero' (h.1 most.toNat (by omega))).2.2
 rw[zaL]at this
 omega
set_option maxHeartbeats 8000000 in
theorem ZtD {S:Sc} {aid:Nat} {N:List Nod} {H:Zaa} (hS:Zh1 S) (hd:S.dims.length<=1000000) (hdt:∀d∈S.dims,d.tiers.length<=1000000) (ha:ArA H aid (Za3 S) N) (hw:Wlk (Za3 S) N) (hi:∀f∈ZtA S N,Zho f.2) :
  Zay Tryz.prog 40 [.agg (eSc S),.ptr aid 0] H (ZrY H (.b (Zua S N))):=by
 obtain⟨f0,f1,f2,f3⟩:=ZbB S
 obtain⟨p1,p2,p3⟩:=hw.w.bounds
 have hlen:=hw.w.len
 obtain⟨_,_,_,g1⟩:=ha.eAr
 have hx0:Zaa.Ext H (H.alloc (.cells (eSc S) 25)):=(Zaa.Ext.refl H).alloc
 have g2:(H.alloc (.cells (eSc S) 25)).get H.next=some (.cells (eSc S) 25):=Zaa.Zae
 refine Zak hE cf40 (zaa rfl) fun Q qr qn=>?_
 have hZ:=an7 f0<|f3;refine Bz1 ?_
 refine qcp (Zc9 S _ hS) fun k1=>?_
 by_cases h1:scE S=0
 case neg =>
  have d1:(scE S != 0)=true:=by simpa using h1
  have hB:Zua S N=false:=by unfold Zua;rw[decide_eq_false h1];rfl
  have hZ:=d1;refine Bz1 ?_
  exact Zaq ⟨by rw[hB],by exact AXT⟩
 have g3:=((Zaa.Ext.refl (H.alloc (.cells (eSc S) 25))).bump (k:=k1)).get _ _ g2
 have hx1:Zaa.Ext H ((H.alloc (.cells (eSc S) 25)).bump k1):=hx0.bump
 have d0:((0:Int) != 0)=false:=rfl
 have dx:decide (Za3 S=Za3 S)=true:=decide_eq_true rfl
 have hZ:=an7 h1<|an7 d0<|an7 g3<|an7 f0<|f3;refine Bz1 ?_
 refine qcp (ZiK S _ hd hdt) fun k2=>?_
 refine Bz0 ?_
 have g1:=(hx1.bump (k:=k2)).get _ _ g1
 have g3:=((Zaa.Ext.refl ((H.alloc (.cells (eSc S) 25)).bump k1)).bump (k:=k2)).get _ _ g3
 have hx2:Zaa.Ext H (((H.alloc (.cells (eSc S) 25)).bump k1).bump k2):=hx1.bump
 refine Zap.use (ZlR g1 hw.w.may) ?_
 rintro _ G3 ⟨hx3,t3,rfl⟩
 have g3:=hx3.get _ _ g3
 have g3a:=g3
 have hx3:=hx2.trans hx3
 have hsh:=fun G=>ZrL .no t3 (Za3 S) (Za3 S) G (by omega) (fun s hs=>by have:=p3 s hs;omega)
 rw[dx]at hsh
 refine Bz0 ?_
 refine qcp (hsh _) fun k3=>?_
 refine Bz0 ?_
 have ha3:ArA (G3.bump k3) aid (Za3 S) N:=ha.ext hx3.bump
 have g3:=((Zaa.Ext.refl G3).bump (k:=k3)).get _ _ g3
 have hfs:=ZuS (most:=4000) hw ha3 (by decide) (by omega)
 rcases ZvM S N with⟨e,he,hr,hB⟩|⟨hr,hwh,hl4⟩
 ·rw[hr]at hfs
  have d1:(e != 0)=true:=by simpa using he
  refine qcp (hfs) fun k4=>?_
  have hZ:=d1;refine Bz1 ?_
  exact Zaq ⟨by rw[hB],(hx3.bump).bump⟩
 rw[hr]at hfs
 refine qcp (hfs) fun k4=>?_
 have g3:=((Zaa.Ext.refl (G3.bump k3)).bump (k:=k4)).get _ _ g3
 have ha4:ArA ((G3.bump k3).bump k4) aid (Za3 S) N:=ha.ext hx3.bump.bump
 have hZ:=an7 d0<|an7 g3a<|an7 f0<|f3;refine Bz1 ?_
 refine Zap.use (ZhQ ha4 p1) ?_
 rintro _ G5 ⟨rfl,hx5⟩
 have g5:=hx5.get _ _ g3
 have ha5:=ha4.ext hx5
 have hx5:=(hx3.bump.bump).trans hx5
 have hZ:=an7 g3a<|an7 g5<|an7 f0<|f3;refine Bz1 ?_
 refine Zap.use (ZfY .no S N.length (ZtA S N) G5 hS (by omega) (fun q1 q2 q3 _=>ZdS q1 q2 q3 hi)) ?_
 rintro r G6 ⟨hx6,hr⟩
 have hx6':=hx5.trans hx6
 have hB:Zua S N=(decide (Zet S N.length (ZtA S N)=0)&&decide (N=Ze6 S N.length (ZtA S N))):=by
  unfold Zua
  rw[decide_eq_true h1,hwh,decide_eq_true hl4,zaE,zaE,zaE]
 rcases hr with⟨hne,rfl⟩|⟨he,ib,rfl,hA⟩
 ·have d1:(Zet S N.length (ZtA S N) == 0)=false:=by simpa using hne
  rw[decide_eq_false hne,zbm]at hB
  have hZ:=d1;refine Bz1 ?_
  exact Zaq ⟨by rw[hB],hx6'⟩
 obtain⟨b1,b2,b3⟩:=Zqn he hi
 have hgl:=Zvr b3 (by omega)
 have wb:=(Zr3 (ZtW b1 b2 b3.1) (by omega) b3.2).1
 rw[decide_eq_true he,zaE]at hB
 have heq:=Zt3 (ha5.ext hx6) hA hw.w wb
 rw[show eqB (Za3 S) (Za3 S) N (Ze6 S N.length (ZtA S N))=Zua S N by rw[hB];unfold eqB;rw[dx,zaE]]at heq
 refine Bz0 ?_
 refine Zap.use heq ?_
 rintro _ G7 ⟨rfl,hx7⟩
 refine Bz0 ?_
 exact Zaq ⟨rfl,hx6'.trans hx7⟩
theorem Zvy {S:Sc} {facts:List Fct} (hs:scE S=0):ZdW (Za3 S) (Zan S) facts (Zcn S facts):=by
 have hLl:(Zan S).length=S.dims.length:=by unfold Zan;rw[zaj]
 have hs1:=(Zb7 hs).1
 unfold Zcn
 split
 ·exact Zf8
 ·rename_i hne
  have h1:=Zls (x:=Za3 S) (L:=Zan S) (facts:=facts) ((Zan S).length - 1) (by omega) ⟨[],[],false⟩ _ (Zhu hne) Zf8
  rw[show(Zan S).length - 1+1=(Zan S).length by omega]at h1
  exact h1.1
theorem fct_in {x:Shp} {l:List Nod} (hd:Down x l) (hi:∀n∈l,Zt7 n):∀(n:Nat) (a:Int) (ks:List Int),0<=a->a<l.length->a<(n:Int)->∀f∈fct x l ks a,Zho f.2
 | 0,a,ks,h0,h1,h2=>by omega
 | n+1,a,ks,h0,h1,h2=>by
  obtain⟨b,rfl⟩:∃b:Nat,a=b:=⟨a.toNat,by omega⟩
  have hb:b<l.length:=by omega
  have hnod:=Zm8 hb
  rw[Zuu hd ks h0 h1]
  intro f hf
  obtain⟨c,hcm,hf⟩:=zbr.1 hf
  have hcl:(Zdw l (b:Int)).lists.headD []∈(Zdw l (b:Int)).lists:=by
   cases hl:(Zdw l (b:Int)).lists with
   | nil=>rw[hl]at hcm;cases hcm
   | cons a r=>exact zaf
  have hci:=((hi _ (zai hb)).1 ((Zdw l (b:Int)).lists.headD []) (by rw[<- hnod];exact hcl) c hcm)
  unfold ZtS at hf
  by_cases hl:lastB x (Zdw l (b:Int)).dim=true
  ·rw[if_pos hl]at hf
   rw[zau.1 hf]
   exact hci.agg
  ·rw[if_neg hl]at hf
   obtain⟨c0,c1⟩:=hd b hb (by simpa using hl) c (by unfold each;exact zbp _ (zbc.2 ⟨_,hcl,hcm⟩))
   exact fct_in hd hi n c.child _ c0 (by omega) (by omega) f hf
theorem ZuH {S:Sc} {N:List Nod} (hd:Down (Za3 S) N) (hi:∀n∈N,Zt7 n):∀f∈ZtA S N,Zho f.2:=by
 unfold ZtA
 split
 ·simp
 ·exact fct_in hd hi N.length _ [] (by omega) (by omega) (by omega)
theorem Zvw {S:Sc} {N:List Nod} (hp:Prw (Za3 S) N) (he:Zm5 (Za3 S) N=0) (hw:Zlb (Za3 S) N=true):Zd7 (Za3 S) none (ZtA S N)=0:=by
 unfold ZtA
 split
 ·rfl
 ·rename_i h0
  refine fct_row hp (fun n hn=>?_) h0 hw
  obtain⟨i,hi,rfl⟩:=zaw hn
  exact(add_zero' ((Zoo he).2 i hi)).1
theorem snd_law {S:Sc} {N:List Nod} (hs:scE S=0) (hp:Prw (Za3 S) N) (he:Zm5 (Za3 S) N=0) (hw:Zlb (Za3 S) N=true) (hl:(ZtA S N).length<=60) (hd:S.dims.length<=4) :
  Zua S N=(!(Zcn S (ZtA S N)).over&&decide ((Zcn S (ZtA S N)).N=N)):=by
 have hi:=ZuH (S:=S) hp.k.w.down hp.inn
 have hr:=Zvw hp he hw
 have hlen:=hp.k.w.len
 have hwt:ZsE S N.length (ZtA S N)=0:=by
  unfold ZsE
  rw[if_neg (fun h=>h hs),if_neg (fun h=>h hr),if_neg (by omega)]
 obtain⟨b1,b2,b3⟩:=ZkG (by omega) hi hwt
 unfold Zua
 rw[decide_eq_true hs,hw,decide_eq_true (show(ZtA S N).length<=4000 by omega),zaE,zaE,zaE]
 rcases bfd (Zcn S (ZtA S N)).over with ho|ho
 ·rw[ho,zaX,zaE]
  by_cases hc:((Zcn S (ZtA S N)).N.length:Int)<=N.length
  ·obtain⟨k1,k2,_⟩:=b3 ho hc
   rw[decide_eq_true k1,zaE,k2]
   exact decide_eq_decide.2 eq_comm
  ·have:=b2 ho (by omega)
   rw[decide_eq_false (by omega),zbm]
   exact(decide_eq_false fun h=>hc (by rw[h];exact zci _)).symm
 ·rw[ho,zbh,zbm]
  have:Zet S N.length (ZtA S N)≠0:=by
   rcases b1 ho with h|⟨h,_⟩<;>omega
  rw[decide_eq_false this,zbm]
theorem Zvs {S:Sc} {N:List Nod} (h:¬(scE S=0/\Zlb (Za3 S) N=true)):Zua S N=false:=by
 unfold Zua
 by_cases hs:scE S=0
 ·rcases bfd (Zlb (Za3 S) N)with hw|hw
  ·rw[hw];simp
  ·exact absurd ⟨hs,hw⟩ h
 ·rw[decide_eq_false hs,zbm]
theorem snd_nil {S:Sc} (hs:scE S=0):Zua S []=true:=by
 have hF:ZtA S []=[]:=rfl
 have hD:Zcn S []=⟨[],[],false⟩:=by unfold Zcn;rw[if_pos rfl]
 have hwt:ZsE S ([]:List Nod).length (ZtA S [])=0:=by
  unfold ZsE
  rw[if_neg (fun h=>h hs),if_neg (fun h=>h rfl),if_neg (by decide)]
 obtain⟨_,_,b3⟩:=ZkG (by rw[hF];decide) (by rw[hF];simp) hwt
 obtain⟨k1,k2,_⟩:=b3 (by rw[hF,hD]) (by rw[hF,hD];decide)
 unfold Zua
 rw[decide_eq_true hs,show Zlb (Za3 S) []=true from rfl,k1,k2,hF,hD]
 rfl
theorem Zvz {S:Sc} {facts:List Fct} (hb:Back (Za3 S) facts (Zcn S facts).N) (hs:scE S=0) (hr:Zd7 (Za3 S) none facts=0) (ha:∀f∈facts,Zho f.2) (hfl:facts.length<=4000) (ho:(Zcn S facts).over=false):Zua S (Zcn S facts).N=true/\ZtA S (Zcn S facts).N=facts:=by
 have hF:ZtA S (Zcn S facts).N=facts:=by
  unfold ZtA
  by_cases h0:facts=[]
  ·rw[hb.nil h0];exact h0.symm
  ·have:=hb.ne h0
   rw[if_neg (fun h=>this (za3.1 h))]
   exact hb.fct h0
 have hlen:=hb.len
 have hwt:ZsE S (Zcn S facts).N.length facts=0:=by
  unfold ZsE
  rw[if_neg (fun h=>h hs),if_neg (fun h=>h hr),if_neg (by omega)]
 obtain⟨_,_,b3⟩:=ZkG hfl ha hwt
 obtain⟨k1,k2,k3⟩:=b3 ho (zci _)
 refine⟨?_,hF⟩
 unfold Zua
 rw[hF,decide_eq_true hs,k3,decide_eq_true hfl,k1,k2]
 simp
theorem Zvk {S:Sc} {facts:List Fct} (hF:ZbI (Za3 S) (Zan S) facts) (hD:ZdW (Za3 S) (Zan S) facts (Zcn S facts)):∀n∈(Zcn S facts).N,Zdb n:=fun n hn=>by
 obtain⟨i,hi,rfl⟩:=zaw hn
 obtain⟨d,hd,h1,h2,h3,h4⟩:=hD.nod i hi
 rw[show(Zcn S facts).N.getD i ZdH=(Zcn S facts).N[i] by rw[zae,zab hi];rfl]at h4
 have k1:(Zcn S facts).N[i].lists.length<=4:=by
  rw[h4.length]
  unfold ZaC
  rw[zaj,zcs,zae,zab hd]
  exact(hF.tier d hd).2.1
 have k2:∀l∈(Zcn S facts).N[i].lists,l.length<=200:=fun l hl=>by
  obtain⟨gs,hgs,hr⟩:=Zov h4 l hl
  rw[hr.length]
  unfold ZaC at hgs
  obtain⟨k,_,rfl⟩:=zaq.1 hgs
  have h5:=hF.size d k
  have h6:(grs (Zdm (Zan S) facts d k) (Zch (Za3 S) d k) ((Zcn S facts).P.getD i [])).length<=Zch (Za3 S) d k:=by
   unfold grs
   exact zay (List.length_filterMap_le _ _) (by simp)
  omega
 have k3:∀ls:List (List Cel),(∀l∈ls,l.length<=200)->ls.flatten.length<=ls.length * 200:=by
  intro ls
  induction ls with
  | nil=>intro _;simp
  | cons a ls ih =>
   intro h
   have:=ih fun l hl=>h l (zad _ hl)
   have:=h a zaf
   rw[List.flatten_cons,zak,List.length_cons]
   omega
 have k4:=k3 _ k2
 exact⟨by omega,by omega,fun l hl=>by have:=k2 l hl;omega⟩
set_option maxHeartbeats 4000000 in
theorem Zvc {S:Sc} {H:Zaa} (hS:Zh1 S) (hd:S.dims.length<=1000000) (hdt:∀d∈S.dims,d.tiers.length<=1000000) (hm:ZbS (Za3 S)=true) :
  Zay Tryz.prog 40 [.agg (eSc S),.sc (.pointer none)] H (ZrY H (.b false)):=by
 obtain⟨f0,f1,f2,f3⟩:=ZbB S
 obtain⟨m1,m2,m3,m4,m5⟩:=Zby hm
 have hx0:Zaa.Ext H (H.alloc (.cells (eSc S) 25)):=(Zaa.Ext.refl H).alloc
 have g2:(H.alloc (.cells (eSc S) 25)).get H.next=some (.cells (eSc S) 25):=Zaa.Zae
 refine Zak hE cf40 (zaa rfl) fun Q qr qn=>?_
 have hZ:=an7 f0<|f3;refine Bz1 ?_
 refine qcp (Zc9 S _ hS) fun k1=>?_
 by_cases h1:scE S=0
 case neg =>
  have d1:(scE S != 0)=true:=by simpa using h1
  have hZ:=d1;refine Bz1 ?_
  exact Zaq ⟨rfl,by exact AXT⟩
 have g3:=((Zaa.Ext.refl (H.alloc (.cells (eSc S) 25))).bump (k:=k1)).get _ _ g2
 have hx1:Zaa.Ext H ((H.alloc (.cells (eSc S) 25)).bump k1):=hx0.bump
 have d0:((0:Int) != 0)=false:=rfl
 have dx:decide (Za3 S=(⟨[],0⟩:Shp))=false:=decide_eq_false fun h=>by rw[h]at m3;exact absurd m3 (by decide)
 have hsh:=fun t G=>ZrL .no t (Za3 S) ⟨[],0⟩ G (by omega) (fun s hs=>by have:=m5 s hs;unfold ZbT at this;simp at this;omega)
 rw[dx]at hsh
 have hZ:=an7 h1<|an7 d0<|an7 g3<|an7 f0<|f3;refine Bz1 ?_
 refine qcp (ZiK S _ hd hdt) fun k2=>?_
 refine Bz0 ?_
 refine Zap.use (shape_no (.inl rfl)) ?_
 rintro _ G3 ⟨rfl,hx3⟩
 have hx3:=(hx1.bump (k:=k2)).trans hx3
 refine Bz0 ?_
 refine qcp (hsh .full _) fun k3=>?_
 refine Bz0 ?_
 exact Zaq ⟨rfl,hx3.bump⟩
def ZuQ:Zar:=rs 113 [.L 2 4,.M 1,.C 12 [.t 114,ik 20000,.t 115],.s 113,.e 113 0,.e 113 1,.m 15 117,.s 16]<|rs 119 [.L 2 4,.M 2,.C 12 [.t 120,ik 20000,.t 121],.s 119,.e 119 0,.e 119 1,.m 17 123,.s 18]<|ri 124 [.i .neq 16 0,.h 126,.i .neq 18 0,.z] 130 (rr 130 [.c 35 [],.s 8])<|rs 132 [.M 15,.M 17,.C 32 [.t 133,.t 134,ik 131072],.s 132,.e 132 0,.e 132 1,.m 19 136,.s 20]<|rr 137 [.i .eql 20 0,.y 139,.L 2 4,.M 15,.c 40 [141,142],.z,.y 144,.L 2 4,.M 19,.c 40 [146,147],.z,.y 149,.L 2 4,.C 40 [.t 151,.c (.sc (.pointer none))],.u 152,.z,.y 154,.c 35 [],.z,.s 8]
def Zu2:Zar:=rs 107 [.L 2 4,.M 10,.c 40 [108,109],.M 12,.O (.bnb true (.t 110) (.t 111))]<|.cond (.t 112) (rr 0 [.K 8])<|.skip
def Zvn:Zar:=rs 71 [.L 2 4,.c 13 [72],.B .eql 73 0,.y 74,.L 2 9,.M 3,.c 38 [76,77],.z,.s 12]<|ri 79 [.M 12,.y 80,.R 3,.B .gtr 83 0,.z] 85 (rs 85 [.L 2 9,.M 3,.R 3,.B .sub 89 1,.C 39 [.t 86,.t 87,.t 90,jn,ik 60],.s 13]<|ri 91 [.R 13,.B .gtr 93 60] 94 (rr 94 [.c 35 [],.s 8])<|rs 95 [.L 2 4,.M 13,.c 16 [96,97],.o 14 (.box 41 (.c (.agg [.sl .full [],.sl .full [],.sc (.bool false)]))),.Z 3 14 98]<|ry 98 [.F 2 14,.u 100,.y 101,.F 0 14,.M 3,.c 17 [104,105],.z,.s 12])<|Zu2
def ZuK:Zar:=rs 58 [.L 2 9,.M 3,.c 36 [59,60],.s 58,.e 58 0,.e 58 1,.m 10 62,.s 11]<|rs 63 [.i .eql 11 0,.y 65,.L 2 9,.M 3,.c 37 [67,68],.B .eql 69 0,.z]<|.cond (.t 71) Zvn<|.skip
set_option maxRecDepth 10000 in
theorem ss_split:Ztx=.seq (.reg [io 4 (.box 25 (.t 0)),io 8 (.mv (ib false))]) (.seq (.reg [io 21 (.ld 2 true (.t 4)),io 22 (.call (jf 15) [.t 21]),io 9 (.box 37 (.c (.agg [.sl .full [],.sc (.int .i64 0)]))),iz (.st 2 (.t 9) (.t 22))]) (.seq (.seq (.reg [io 23 (.ld 2 true (.t 4)),io 24 (.call (jf 27) [.t 23]),io 25 (.un .not (.t 24)),im 26 25,ih 26 27 (.fla 0 (.t 4)),ih 26 28 (.ld 1 false (.t 27)),ih 26 29 (.len false (.t 28)),ih 26 30 (.bin .gtr (.t 29) (ik 4)),io 31 (.pick (.t 26) (ib true) (.t 30)),im 32 31,ih 32 33 (.mv (.t 1)),ih 32 34 (.call (jf 28) [.t 33,ik 8]),ih 32 35 (.un .not (.t 34)),io 36 (.pick (.t 32) (ib true) (.t 35)),im 37 36,ih 37 38 (.mv (.t 2)),ih 37 39 (.call (jf 28) [.t 38,ik 8]),ih 37 40 (.un .not (.t 39)),io 41 (.pick (.t 37) (ib true) (.t 40)),im 42 41,ih 42 43 (.mv (.t 1)),ih 42 44 (.call (jf 20) [.t 43]),ih 42 45 (.un .not (.t 44)),io 46 (.pick (.t 42) (ib true) (.t 45)),im 47 46,ih 47 48 (.mv (.t 2)),ih 47 49 (.call (jf 20) [.t 48]),ih 47 50 (.un .not (.t 49)),io 51 (.pick (.t 47) (ib true) (.t 50)),im 52 51,ih 52 53 (.mv (.t 3)),ih 52 54 (.call (jf 34) [.t 53,ik 15]),ih 52 55 (.un .not (.t 54)),io 56 (.pick (.t 52) (ib true) (.t 55))]) (.cond (.t 56) (.seq (.reg [io 57 (.call (jf 35) []),im 8 57]) .ret) .skip)) (.seq ZuK ZuQ))):=rfl
def w31x:Shp:=⟨[[1]],1⟩
theorem Zuk:ArW w31x []:=(Zr3 (by decide) (by decide) (by simp)).1
theorem Zu4:ZrV w31x w31x [] []=true/\eqB w31x w31x [] []=true:=by decide
set_option maxHeartbeats 2000000 in
theorem Ztu (H:Zaa):Zay Tryz.prog 35 [] H (ZrY H (.b true)):=by
 have hN1:=fun G=>Zfe w31x 1 G
 have hN2:=fun G=>Zfe w31x 2 G
 refine Zak hE cf35 (zaa rfl) fun Q qr qn=>?_
 refine Bz0 ?_
 refine Zap.use (Zay.wknA (hN1 _) rfl fun i a b ha hb=>?_) ?_
 ·match i with
  | 0=>simp only[List.getElem?_cons_zero,zac]at ha hb;subst ha hb;exact Zea (n:=10) rfl
  | 1=>simp only[List.getElem?_cons_zero,List.getElem?_cons_succ,zac]at ha hb;subst ha hb;exact .refl _
  | i+2=>simp at ha
 rintro r G1 ⟨hx1,hr⟩
 rw[if_pos (by decide)]at hr
 obtain⟨aid,tok1,rfl,_,ga⟩:=hr
 have hA1:ArA G1 aid w31x []:=⟨_,_,_,ga⟩
 have g1:=hx1.get H.next _ Zaa.Zae
 have hx1:Zaa.Ext H G1:=((Zaa.Ext.refl H).alloc).trans hx1
 have hZ:=g1;refine Bz1 ?_
 refine Zap.use (Zay.wknA (hN2 _) rfl fun i a b ha hb=>?_) ?_
 ·match i with
  | 0=>simp only[List.getElem?_cons_zero,zac]at ha hb;subst ha hb;exact Zea (n:=10) rfl
  | 1=>simp only[List.getElem?_cons_zero,List.getElem?_cons_succ,zac]at ha hb;subst ha hb;exact .refl _
  | i+2=>simp at ha
 rintro r G2 ⟨hx2,hr⟩
 rw[if_pos (by decide)]at hr
 obtain⟨bid,tok2,rfl,_,gb⟩:=hr
 have hA2:ArA G2 bid w31x []:=⟨_,_,_,gb⟩
 have hA1:=hA1.ext hx2
 have hx2:=hx1.trans hx2
 have ht:=Zsd hA1 hA2 Zuk Zuk
 rw[Zu4.1]at ht
 refine Bz0 ?_
 refine Zap.use ht ?_
 rintro _ G3 ⟨rfl,hx3⟩
 have he:=Zt3 (hA1.ext hx3) (hA2.ext hx3) Zuk Zuk
 rw[Zu4.2]at he
 refine Bz0 ?_
 refine Zap.use he ?_
 rintro _ G4 ⟨rfl,hx4⟩
 refine Bz0 ?_
 exact Zaq ⟨rfl,(hx2.trans hx3).trans hx4⟩
theorem Zvq {S:Sc} {facts:List Fct} (a1:Zet S 20000 facts=0) (a2:Ze6 S 20000 facts=(Zcn S facts).N) (ha:∀f∈facts,Zho f.2):Back (Za3 S) facts (Zcn S facts).N:=by
 have:=bld_back a1 ha
 rwa [a2]at this
theorem sound_ok {S:Sc} {l m:List Fct} (a1:Zet S 20000 l=0) (c1:Zet S 20000 m=0) (wl:ZlW l) (wm:ZlW m) (ll:l.length<=8) (lm:m.length<=8) (hd:S.dims.length<=4) :
  Zua S (Zcn S l).N=true/\Zua S (Zcn S (Zng (l.length+m.length) l m)).N=true:=by
 have hO:=Zu6 a1 c1 wl wm ll lm hd
 obtain⟨hs,hl⟩:=Zsy a1
 have hm:=(Zsy c1).2
 have vl:=wl.wag (m:=(Za3 S).measures) fun f hf=>(Zcp (Zcu hl f hf)).2.2
 have vm:=wm.wag (m:=(Za3 S).measures) fun f hf=>(Zcp (Zcu hm f hf)).2.2
 have hM:=mrg_ok (n:=l.length+m.length) hs hl hm vl vm (by omega) (by omega) (zah _)
 have hln:=Zn3 (l.length+m.length) l m
 obtain⟨d1,d2,d4⟩:=Zs4 (most:=20000) hs hM.row hM.inn (by omega) hM.over hM.doc hd (by omega) (by omega)
 exact⟨(Zvz (Zvq a1 hO.bl hM.law.fl.ag) hs hl hM.law.fl.ag (by omega) (ZlB hs hl (by omega) vl).2).1,(Zvz (Zvq d1 d2 hM.inn) hs hM.row hM.inn (by omega) hM.over).1⟩
set_option maxRecDepth 10000 in
set_option maxHeartbeats 8000000 in
theorem Zul {S:Sc} {l m:List Fct} {is:Nat} {Q:AEx->Fr->Zaa->Prop} {F:Fr} {G0:Zaa} (hS:Zh1 S) (hdt:∀d∈S.dims,d.tiers.length<=1000000) (hd:S.dims.length<=4) (wl:ZlW l) (wm:ZlW m) (ll:l.length<=8) (lm:m.length<=8) (al:∀f∈l,Zho f.2) (am:∀f∈m,Zho f.2)
  (f1:Fr.get F 1=.sl .no (rF l)) (f2:Fr.get F 2=.sl .no (rF m)) (f4:Fr.get F 4=.ptr is 0) (g6:G0.get is=some (.cells (eSc S) 25)) (hQ:∀F G,Fr.get F 8=.b true->Q .ret F G):AW Tryz.prog ZuQ Q F G0:=by
 obtain⟨e0,e1,e2,e3⟩:=ZbB S
 have hbl:=fun G=>ZfY .no S 20000 l G hS (by omega) (fun q1 q2 q3 _=>ZdS q1 q2 q3 al)
 have hbm:=fun G=>ZfY .no S 20000 m G hS (by omega) (fun q1 q2 q3 _=>ZdS q1 q2 q3 am)
 have qr:=trivial
 have qn:=trivial
 have use:∀{facts:List Fct} {H G:Zaa} {r:AV},ZdZ S 20000 facts H r G->Zaa.Ext H G/\∃p e,r=.tup [p,.i e]/\((e != 0)=true\/(e=0/\Zet S 20000 facts=0/\∃id,p=.ptr id 0/\ArA G id (Za3 S) (Ze6 S 20000 facts))):=by
  rintro facts H G r ⟨hx,h⟩
  refine⟨hx,?_⟩
  rcases h with⟨h1,h2⟩|⟨h1,id,h2,h3⟩
  ·exact⟨_,_,h2,.inl (by simpa using h1)⟩
  ·exact⟨_,_,h2,.inr ⟨rfl,h1,id,rfl,h3⟩⟩
 unfold ZuQ
 have hZ:=an7 f1<|an7 f2<|an7 f4<|an7 g6<|an7 e0<|e3;refine Bz1 ?_
 refine Zap.use (hbl _) ?_
 rintro r G7 hr
 obtain⟨hy7,p7,e7,rfl,hr7⟩:=use hr
 have g6:=hy7.get _ _ g6
 have hZ:=an7 f1<|an7 f2<|an7 f4<|an7 g6<|an7 e0<|e3;refine Bz1 ?_
 refine Zap.use (hbm _) ?_
 rintro r G8 hr
 obtain⟨hy8,p8,e8,rfl,hr8⟩:=use hr
 have g6:=hy8.get _ _ g6
 rcases hr7 with d7|⟨rfl,a1,i7,rfl,a5⟩
 ·have hZ:=d7;refine Bz1 ?_
  refine Zap.use (Ztu _) ?_
  rintro r _ ⟨rfl,_⟩
  refine Bz0 ?_
  exact hQ _ _ rfl
 rcases hr8 with d8|⟨rfl,c1,i8,rfl,c5⟩
 ·have hZ:=d8;refine Bz1 ?_
  refine Zap.use (Ztu _) ?_
  rintro r _ ⟨rfl,_⟩
  refine Bz0 ?_
  exact hQ _ _ rfl
 have hO:=Zu6 a1 c1 wl wm ll lm hd
 obtain⟨s1,s2⟩:=sound_ok a1 c1 wl wm ll lm hd
 rw[hO.bl]at a5
 rw[hO.bm]at c5
 have a5:=a5.ext hy8
 have hmg:=Zok 131072 a5 c5 hO.pa hO.pb
 refine Bz0 ?_
 refine Zap.use hmg ?_
 rintro r G10 ⟨hy10,hr⟩
 rw[if_pos ⟨hO.wa,hO.wb,by decide,by decide⟩,if_neg (fun h=>h hO.mt.1),hO.mt.2]at hr
 obtain⟨did,rfl,hA3,_⟩:=hr
 have g6:=hy10.get _ _ g6
 have hi1:=fun G (h:Zaa.Ext G10 G)=>ZtD (S:=S) hS (by omega) hdt ((a5.ext hy10).ext h) hO.pa.k (ZuH hO.pa.k.w.down hO.pa.inn)
 have hi3:=fun G (h:Zaa.Ext G10 G)=>ZtD (S:=S) hS (by omega) hdt (hA3.ext h) hO.pc.k (ZuH hO.pc.k.w.down hO.pc.inn)
 have hni:=fun G=>Zvc (S:=S) (H:=G) hS (by omega) hdt hO.pa.k.w.may
 rw[s1]at hi1
 rw[s2]at hi3
 have hZ:=an7 g6<|an7 e0<|an7 e3<|f4;refine Bz1 ?_
 refine Zap.use (hi1 _ (Zaa.Ext.refl _)) ?_
 rintro _ G11 ⟨rfl,hx11⟩
 have g11:=hx11.get _ _ g6
 have hZ:=an7 g11<|an7 e0<|an7 e3<|f4;refine Bz1 ?_
 refine Zap.use (hi3 _ hx11) ?_
 rintro _ G12 ⟨rfl,hx12⟩
 have g12:=hx12.get _ _ g11
 have hZ:=an7 g12<|an7 e0<|an7 e3<|f4;refine Bz1 ?_
 refine Zap.use (hni _) ?_
 rintro _ G13 ⟨rfl,hx13⟩
 refine Bz0 ?_
 refine Zap.use (Ztu _) ?_
 rintro r _ ⟨rfl,_⟩
 refine Bz0 ?_
 exact hQ _ _ rfl
theorem Zuy (t u:Tok) (c:DSt):(Ztt t u c).length=3/\(Ztt t u c)[0]?=some (.sl t (rN c.N))/\(Ztt t u c)[2]?=some (.b c.over)/\(Ztt t u c).take 3=Ztt t u c:=⟨rfl,rfl,rfl,rfl⟩
set_option maxRecDepth 10000 in
set_option maxHeartbeats 8000000 in
theorem ZuC {S:Sc} {n:List Nod} {is ia:Nat} {v:Bool} {Q:AEx->Fr->Zaa->Prop} {F:Fr} {G0:Zaa} (hS:Zh1 S) (hd:S.dims.length<=1000000) (hdt:∀d∈S.dims,d.tiers.length<=1000000) (hp:Prw (Za3 S) n) (hv:Zua S n=v)
  (f4:Fr.get F 4=.ptr is 0) (f10:Fr.get F 10=.ptr ia 0) (f12:Fr.get F 12=.b v) (gs:G0.get is=some (.cells (eSc S) 25)) (hA:ArA G0 ia (Za3 S) n)
  (hQ:∀F' G',Fr.get F' 1=Fr.get F 1->Fr.get F' 2=Fr.get F 2->Fr.get F' 4=Fr.get F 4->Zaa.Ext G0 G'->Q .normal F' G'):AW Tryz.prog Zu2 Q F G0:=by
 obtain⟨e0,e1,e2,e3⟩:=ZbB S
 have hi:=ZtD (S:=S) hS hd hdt hA hp.k (ZuH hp.k.w.down hp.inn)
 rw[hv]at hi
 have qr:=trivial
 have qn:=trivial
 unfold Zu2
 cases v with
 | false =>
  have hZ:=an7 f4<|an7 f10<|an7 f12<|an7 gs<|an7 e0<|e3;refine Bz1 ?_
  refine Zap.use hi ?_
  rintro _ G1 ⟨rfl,hx1⟩
  have hZ:=f12;refine Bz1 ?_
  exact hQ _ _ rfl rfl rfl hx1
 | true =>
  have hZ:=an7 f4<|an7 f10<|an7 f12<|an7 gs<|an7 e0<|e3;refine Bz1 ?_
  refine Zap.use hi ?_
  rintro _ G1 ⟨rfl,hx1⟩
  have hZ:=f12;refine Bz1 ?_
  exact hQ _ _ rfl rfl rfl hx1
set_option maxRecDepth 10000 in
set_option maxHeartbeats 8000000 in
theorem Zur {S:Sc} {n:List Nod} {is ix ia:Nat} {Q:AEx->Fr->Zaa->Prop} {F:Fr} {G0:Zaa} (hS:Zh1 S) (hd:S.dims.length<=4) (hdt:∀d∈S.dims,d.tiers.length<=1000000) (he:Zm5 (Za3 S) n=0) (hp:Prw (Za3 S) n) (hl:n.length<=15)
  (f3:Fr.get F 3=.sl .no (rN n)) (f4:Fr.get F 4=.ptr is 0) (f9:Fr.get F 9=.ptr ix 0) (f10:Fr.get F 10=.ptr ia 0) (gs:G0.get is=some (.cells (eSc S) 25)) (gx:G0.get ix=some (.cells (Zc3 (Za3 S)) 37)) (hA:ArA G0 ia (Za3 S) n)
  (hQ:∀F' G',Fr.get F' 1=Fr.get F 1->Fr.get F' 2=Fr.get F 2->Fr.get F' 4=Fr.get F 4->Zaa.Ext G0 G'->Q .normal F' G') (hR:∀F G,Fr.get F 8=.b true->Q .ret F G):AW Tryz.prog Zvn Q F G0:=by
 obtain⟨e0,e1,e2,e3⟩:=ZbB S
 obtain⟨x0,x1,x2,x3⟩:=Zc6 (Za3 S)
 obtain⟨p1,p2,p3⟩:=hp.k.w.bounds
 have hsn:=hp.k.w.small
 obtain⟨_,da⟩:=Zr3 he (by omega) hsn
 have qr:=trivial
 have qn:=trivial
 have snd:∀{v:Bool} {F1:Fr} {G1:Zaa},Zua S n=v->Zaa.Ext G0 G1->Fr.get F1 1=Fr.get F 1->Fr.get F1 2=Fr.get F 2->Fr.get F1 4=Fr.get F 4->Fr.get F1 10=Fr.get F 10->Fr.get F1 12=.b v->AW Tryz.prog Zu2 Q F1 G1:=fun hv hx q1 q2 q4 q10 q12 =>
  ZuC hS (by omega) hdt hp hv (q4.trans f4) (q10.trans f10) q12 (hx.get _ _ gs) (hA.ext hx) fun F' G' k1 k2 k4 hx2=>hQ F' G' (k1.trans q1) (k2.trans q2) (k4.trans q4) (hx.trans hx2)
 have hwr:=fun G=>ZeE S G hS
 have hwh:=fun G=>Zus .no (Za3 S) n G (by omega) (by omega) hsn da
 unfold Zvn
 by_cases hs:scE S=0
 case neg =>
  have d1:(scE S == 0)=false:=by simpa using hs
  have hZ:=an7 f3<|an7 f4<|an7 f9<|an7 gs<|an7 gx<|an7 e0<|e3;refine Bz1 ?_
  refine qcp (hwr _) fun k1=>?_
  have hZ:=an7 d1<|an7 f3<|an7 f4<|f9;refine Bz1 ?_
  exact snd (Zvs fun h=>hs h.1) ((Zaa.Ext.refl G0).bump) rfl rfl rfl rfl rfl
 rw[hs]at hwr
 have gx1:=fun k=>((Zaa.Ext.refl G0).bump (k:=k)).get _ _ gx
 rcases bfd (Zlb (Za3 S) n)with w1|w1
 ·rw[w1]at hwh
  have hZ:=an7 f3<|an7 f4<|an7 f9<|an7 gs<|an7 gx<|an7 e0<|e3;refine Bz1 ?_
  refine qcp (hwr _) fun k1=>?_
  have hZ:=an7 f3<|an7 f4<|an7 f9<|an7 gx<|an7 x0<|x3;refine Bz1 ?_
  refine qcp (hwh _) fun k2=>?_
  refine Bz0 ?_
  exact snd (Zvs fun h=>by rw[w1]at h;exact absurd h.2 (by decide)) ((Zaa.Ext.refl G0).bump.bump) rfl rfl rfl rfl rfl
 rw[w1]at hwh
 by_cases h0:n.length=0
 case pos =>
  have hn:n=[]:=za3.1 h0
  have d0:decide ((n.length:Int) > 0)=false:=by simp[h0]
  have hZ:=an7 f3<|an7 f4<|an7 f9<|an7 gs<|an7 gx<|an7 e0<|e3;refine Bz1 ?_
  refine qcp (hwr _) fun k1=>?_
  have hZ:=an7 f3<|an7 f4<|an7 f9<|an7 gx<|an7 x0<|x3;refine Bz1 ?_
  refine qcp (hwh _) fun k2=>?_
  have hZ:=an7 f3<|d0;refine Bz3 ?_
  exact snd (by rw[hn];exact snd_nil hs) ((Zaa.Ext.refl G0).bump.bump) rfl rfl rfl rfl rfl
 have d0:decide ((n.length:Int) > 0)=true:=by simp;omega
 have hown:ZtA S n=fct (Za3 S) n [] ((n.length:Int) - 1):=by unfold ZtA;rw[if_neg h0]
 have hrf:=fun G=>ZtE (x:=Za3 S) (l:=n) (by omega) (by omega) hsn hp.k.ne hp.k.w.down n.length .full [] ((n.length:Int) - 1) 60 G (by omega) (by omega) (by omega) (by simp;omega) (by decide)
 have hwp:IntKind.i64.wrap ((n.length:Int) - 1)=(n.length:Int) - 1:=Zaw (by omega) (by omega)
 by_cases hlo:(ZtA S n).length<=60
 case neg =>
  have hll:(Zut (Za3 S) n [] ((n.length:Int) - 1) 60).length=61:=by unfold Zut;rw[<- hown,zaL];omega
  have d61:decide (((Zut (Za3 S) n [] ((n.length:Int) - 1) 60).length:Int) > 60)=true:=by rw[hll];decide
  have hZ:=an7 f3<|an7 f4<|an7 f9<|an7 gs<|an7 gx<|an7 e0<|e3;refine Bz1 ?_
  refine qcp (hwr _) fun k1=>?_
  have hZ:=an7 f3<|an7 f4<|an7 f9<|an7 gx<|an7 x0<|x3;refine Bz1 ?_
  refine qcp (hwh _) fun k2=>?_
  have hZ:=an7 f3<|an7 d0<|an7 f9<|an7 gx<|an7 x0<|an7 x3<|hwp;refine Bz3 ?_
  refine Zap.use (hrf _) ?_
  rintro _ _ ⟨rfl,k3,rfl⟩
  have hZ:=d61;refine Bz3 ?_
  refine Zap.use (Ztu _) ?_
  rintro r _ ⟨rfl,_⟩
  refine Bz0 ?_
  exact hR _ _ rfl
 have hrr:Zut (Za3 S) n [] ((n.length:Int) - 1) 60=ZtA S n:=by unfold Zut;rw[<- hown,zaA (by omega)]
 rw[hrr]at hrf
 have d60:decide (((ZtA S n).length:Int) > 60)=false:=by simp;omega
 have hi:=ZuH (S:=S) hp.k.w.down hp.inn
 have hr:=Zvw hp he w1
 have hF:=ZdS hs hr (by omega) hi
 have hD:=Zvy (S:=S) (facts:=ZtA S n) hs
 have hdl:=Zsp hF hD hd
 have hbd:=fun G=>Zt6 .no G hs hr (by omega) hi (show(Zcn S (ZtA S n)).N.length<=ZvN by unfold ZvN;omega)
 have hal:=fun G=>ZoI .no .no (Zcn S (ZtA S n)).N n G (by omega) (Zvk hF hD)
 have hlaw:=snd_law hs hp he w1 hlo hd
 obtain⟨c0,c1,c2,c3⟩:=Zuy .no .no (Zcn S (ZtA S n))
 rcases bfd (Zcn S (ZtA S n)).over with ho|ho
 ·rw[ho]at c2 hlaw
  have hZ:=an7 f3<|an7 f4<|an7 f9<|an7 gs<|an7 gx<|an7 e0<|e3;refine Bz1 ?_
  refine qcp (hwr _) fun k1=>?_
  have hZ:=an7 f3<|an7 f4<|an7 f9<|an7 gx<|an7 x0<|x3;refine Bz1 ?_
  refine qcp (hwh _) fun k2=>?_
  have hZ:=an7 f3<|an7 d0<|an7 f9<|an7 gx<|an7 x0<|an7 x3<|hwp;refine Bz3 ?_
  refine Zap.use (hrf _) ?_
  rintro _ _ ⟨rfl,k3,rfl⟩
  have hZ:=an7 d60<|an7 f4<|an7 gs<|an7 e0<|e3;refine Bz3 ?_
  refine qcp (hbd _) fun k4=>?_
  have hZ:=an7 c0<|an7 c1<|an7 c2<|an7 c3<|f3;refine Bz1 ?_
  refine qcp (hal _) fun k5=>?_
  refine Bz0 ?_
  exact snd (by rw[hlaw];rfl) (by exact AXT) rfl rfl rfl rfl rfl
 ·rw[ho]at c2 hlaw
  have hZ:=an7 f3<|an7 f4<|an7 f9<|an7 gs<|an7 gx<|an7 e0<|e3;refine Bz1 ?_
  refine qcp (hwr _) fun k1=>?_
  have hZ:=an7 f3<|an7 f4<|an7 f9<|an7 gx<|an7 x0<|x3;refine Bz1 ?_
  refine qcp (hwh _) fun k2=>?_
  have hZ:=an7 f3<|an7 d0<|an7 f9<|an7 gx<|an7 x0<|an7 x3<|hwp;refine Bz3 ?_
  refine Zap.use (hrf _) ?_
  rintro _ _ ⟨rfl,k3,rfl⟩
  have hZ:=an7 d60<|an7 f4<|an7 gs<|an7 e0<|e3;refine Bz3 ?_
  refine qcp (hbd _) fun k4=>?_
  have hZ:=an7 c0<|an7 c1<|an7 c2<|an7 c3<|f3;refine Bz1 ?_
  exact snd (by rw[hlaw];rfl) (by exact AXT) rfl rfl rfl rfl rfl
set_option maxRecDepth 10000 in
set_option maxHeartbeats 8000000 in
theorem Zup {S:Sc} {n:List Nod} {is ix:Nat} {Q:AEx->Fr->Zaa->Prop} {F:Fr} {G0:Zaa} (hS:Zh1 S) (hd:S.dims.length<=4) (hdt:∀d∈S.dims,d.tiers.length<=1000000) (hl:n.length<=15) (hs:∀m∈n,Zdb m) (hi:∀m∈n,Zt7 m)
  (f3:Fr.get F 3=.sl .no (rN n)) (f4:Fr.get F 4=.ptr is 0) (f9:Fr.get F 9=.ptr ix 0) (gs:G0.get is=some (.cells (eSc S) 25)) (gx:G0.get ix=some (.cells (Zc3 (Za3 S)) 37))
  (hQ:∀F' G',Fr.get F' 1=Fr.get F 1->Fr.get F' 2=Fr.get F 2->Fr.get F' 4=Fr.get F 4->Zaa.Ext G0 G'->Q .normal F' G') (hR:∀F G,Fr.get F 8=.b true->Q .ret F G):AW Tryz.prog ZuK Q F G0:=by
 obtain⟨x0,x1,x2,x3⟩:=Zc6 (Za3 S)
 have qr:=trivial
 have qn:=trivial
 have hld:=fun G=>ZuM .no (Za3 S) n G (by omega) hs
 unfold ZuK
 have hZ:=an7 f3<|an7 f9<|an7 gx<|an7 x0<|x3;refine Bz1 ?_
 refine Zap.use (Zqd .no (Za3 S) n _ (by omega) hs) ?_
 rintro r G1 ⟨hx1,hr⟩
 have gx1:=hx1.get _ _ gx
 have gs1:=hx1.get _ _ gs
 by_cases e1:Zm5 (Za3 S) n=0
 case neg =>
  obtain⟨_,rfl⟩:Zm5 (Za3 S) n≠0/\r=_:=hr.elim id fun h=>absurd h.1 e1
  have d1:(Zm5 (Za3 S) n == 0)=false:=by simpa using e1
  have hZ:=an7 d1<|an7 f3<|f4;refine Bz1 ?_
  exact hQ _ _ rfl rfl rfl hx1
 obtain⟨_,ia,rfl,hA⟩:=hr.elim (fun h=>absurd e1 h.1) id
 have hA1:=Zsc.arw hA
 have hp:=Zqt e1 (by omega) hs hi
 rw[e1]at hld
 have hZ:=an7 f3<|an7 f9<|an7 gx1<|an7 x0<|x3;refine Bz1 ?_
 refine qcp (hld _) fun k1=>?_
 refine Bz0 ?_
 exact Zur hS hd hdt e1 hp hl f3 f4 f9 rfl (((Zaa.Ext.refl G1).bump).get _ _ gs1) (((Zaa.Ext.refl G1).bump).get _ _ gx1) (hA1.ext ((Zaa.Ext.refl G1).bump)) (fun F' G' q1 q2 q4 hx=>hQ F' G' q1 q2 q4 ((hx1.bump).trans hx)) hR
set_option maxRecDepth 10000 in
set_option maxHeartbeats 8000000 in
theorem samesound_walk (S:Sc) (l m:List Fct) (n:List Nod) (H:Zaa) (hd:S.dims.length<=4000000000000) (hdt0:∀d∈S.dims,d.tiers.length<=4000000000000) (al:∀f∈l,Zho f.2) (am:∀f∈m,Zho f.2) (hin:∀k∈n,Zt7 k):Zay Tryz.prog 8 [.agg (eSc S),.sl .no (rF l),.sl .no (rF m),.sl .no (rN n)] H fun r _=>r=.b true:=by
 obtain⟨f0,f1,f2,f3⟩:=ZbB S
 have g1:(H.alloc (.cells (eSc S) 25)).get H.next=some (.cells (eSc S) 25):=Zaa.Zae
 have hx0:Zaa.Ext H (H.alloc (.cells (eSc S) 25)):=(Zaa.Ext.refl H).alloc
 refine Zak hE cf8 (zaa rfl) fun Q qr qn=>?_
 rw[ss_split]
 have hQf:∀F G,Fr.get F 8=.b true->Q .ret F G:=fun F G h=>by rw[qr];show ∃r2 H2,Zb6 (Fr.get F 8) G r2 H2/\r2=.b true;rw[h];exact Zaq rfl
 have hZ:=an7 f0<|f3;refine Bz1 ?_
 refine qcp (ZoZ S _ hd hdt0) fun k1=>?_
 have hZ:=an7 f0<|f3;refine Bz1 ?_
 have g1:(((H.alloc (.cells (eSc S) 25)).bump k1).alloc (.cells (Zc3 (Za3 S)) 37)).get H.next=some (.cells (eSc S) 25):=by rw[Zaa.Zag (by simp only[nx];omega)];exact g1
 have g2:(((H.alloc (.cells (eSc S) 25)).bump k1).alloc (.cells (Zc3 (Za3 S)) 37)).get (H.next+1+k1)=some (.cells (Zc3 (Za3 S)) 37):=Zaa.Zae (H:=(H.alloc _).bump k1)
 have hx0:Zaa.Ext H (((H.alloc (.cells (eSc S) 25)).bump k1).alloc (.cells (Zc3 (Za3 S)) 37)):=by exact AXT
 refine Zap.use (ZiT S _) ?_
 rintro r H1 ⟨hx1,b,rfl,hb⟩
 have g1:=hx1.ext.get _ _ g1
 have g2:=hx1.ext.get _ _ g2
 have hx1:=hx0.trans hx1.ext
 cases b with
 | false =>
  refine Bz0 ?_
  refine Zap.use (Ztu _) ?_
  rintro r H2 ⟨rfl,hx2⟩
  refine Bz0 ?_
  exact Zaq rfl
 | true =>
 have hfs:=hb rfl
 have hS:Zh1 S:=fun d hd t ht=>by have:=((hfs.2 d hd).2 t ht).2;unfold Zgr;omega
 by_cases h6:(S.dims.length:Int) > 4
 ·have d6:decide ((S.dims.length:Int) > 4)=true:=decide_eq_true h6
  have hZ:=an7 g1<|an7 f0<|an7 f1<|an7 f3<|d6;refine Bz3 ?_
  refine Zap.use (Ztu _) ?_
  rintro r H2 ⟨rfl,hx2⟩
  refine Bz0 ?_
  exact Zaq rfl
 have d6:decide ((S.dims.length:Int) > 4)=false:=decide_eq_false h6
 have hdt:∀d∈S.dims,d.tiers.length<=1000000:=fun d hd=>by have:=(hfs.2 d hd).1;omega
 have hZ:=an7 g1<|an7 f0<|an7 f1<|an7 f3<|d6;refine Bz3 ?_
 refine Zap.use (Zfs .no l 8 _ (by decide)) ?_
 rintro r H2 ⟨hx2,b,rfl,hl⟩
 have g1:=hx2.ext.get _ _ g1
 have g2:=hx2.ext.get _ _ g2
 have hx2:=hx1.trans hx2.ext
 cases b with
 | false =>
  refine Bz0 ?_
  refine Zap.use (Ztu _) ?_
  rintro r _ ⟨rfl,_⟩
  refine Bz0 ?_
  exact Zaq rfl
 | true =>
 have hl:=hl rfl
 refine Bz0 ?_
 refine Zap.use (Zfs .no m 8 _ (by decide)) ?_
 rintro r H3 ⟨hx3,b,rfl,hm⟩
 have g1:=hx3.ext.get _ _ g1
 have g2:=hx3.ext.get _ _ g2
 have hx3:=hx2.trans hx3.ext
 cases b with
 | false =>
  refine Bz0 ?_
  refine Zap.use (Ztu _) ?_
  rintro r _ ⟨rfl,_⟩
  refine Bz0 ?_
  exact Zaq rfl
 | true =>
 have hm:=hm rfl
 refine Bz0 ?_
 refine Zap.use (Zkx .no l _ (by omega)) ?_
 rintro r H4 ⟨hx4,b,rfl,wl⟩
 have g1:=hx4.ext.get _ _ g1
 have g2:=hx4.ext.get _ _ g2
 have hx4:=hx3.trans hx4.ext
 cases b with
 | false =>
  refine Bz0 ?_
  refine Zap.use (Ztu _) ?_
  rintro r _ ⟨rfl,_⟩
  refine Bz0 ?_
  exact Zaq rfl
 | true =>
 have wl:=wl rfl
 refine Bz0 ?_
 refine Zap.use (Zkx .no m _ (by omega)) ?_
 rintro r H5 ⟨hx5,b,rfl,wm⟩
 have g1:=hx5.ext.get _ _ g1
 have g2:=hx5.ext.get _ _ g2
 have hx5:=hx4.trans hx5.ext
 cases b with
 | false =>
  refine Bz0 ?_
  refine Zap.use (Ztu _) ?_
  rintro r _ ⟨rfl,_⟩
  refine Bz0 ?_
  exact Zaq rfl
 | true =>
 have wm:=wm rfl
 refine Bz0 ?_
 refine Zap.use (Zs8 .no n 15 _ (by omega)) ?_
 rintro r H6 ⟨hx6,b,rfl,hn⟩
 have g1:=hx6.ext.get _ _ g1
 have g2:=hx6.ext.get _ _ g2
 have hx6:=hx5.trans hx6.ext
 cases b with
 | false =>
  refine Bz0 ?_
  refine Zap.use (Ztu _) ?_
  rintro r _ ⟨rfl,_⟩
  refine Bz0 ?_
  exact Zaq rfl
 | true =>
 have hn:=hn rfl
 refine Bz0 ?_
 refine Zup (S:=S) (n:=n) (is:=H.next) (ix:=H.next+1+k1) hS (by omega) hdt hn.1 hn.small hin rfl rfl rfl g1 g2 (fun F' G' q1 q2 q4 hx7=>?_) ?_
 ·have g7:=hx7.get _ _ g1
  have q1:Fr.get F' 1=.sl .no (rF l):=q1
  have q2:Fr.get F' 2=.sl .no (rF m):=q2
  have q4:Fr.get F' 4=.ptr H.next 0:=q4
  refine Bz0 ?_
  exact Zul hS hdt (by omega) wl wm hl hm al am q1 q2 q4 g7 hQf
 ·intro F' G' h
  refine Bz0 ?_
  rw[h]
  exact Zaq rfl
end Go.Proofs.YtaapiigfmdhobaaGreat
