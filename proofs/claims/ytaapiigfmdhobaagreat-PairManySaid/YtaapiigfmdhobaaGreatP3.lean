/- Texts of the walk. -/
import Derived.Test.YtaapiigfmdhobaaGreatN1
import Derived.Test.YtaapiigfmdhobaaGreatMw
namespace Go.Proofs.YtaapiigfmdhobaaGreat
set_option linter.defProp false
set_option linter.unusedSimpArgs false
set_option linter.unusedVariables false
open Go.RowKit
def ptW (S:Sc) (facts:List Fct) (w:List (Int×Int)):List Nat:=(List.range facts.length).filter (Za9 (Zan S) facts 0 w)
theorem Zop (S:Sc) (facts:List Fct) (w:List (Int×Int)) (q:Int×Int):ptW S facts (w++[q])=ZeD (Zan S) facts w.length (ptW S facts w) q:=by
 unfold ptW ZeD
 split
 ·rename_i h
  refine zb4 fun i _=>?_
  rw[ZgG,decide_eq_true h,Bool.true_or,Bool.and_true]
 ·rename_i h
  rw[List.filter_filter]
  refine zb4 fun i _=>?_
  rw[ZgG,decide_eq_false h,zbP,Bool.and_comm,zaH]
  congr 1
theorem ZoY (S:Sc) (facts:List Fct) (w:List (Int×Int)):ptW S facts (w++[(-1,0)])=ptW S facts w:=by
 rw[Zop];unfold ZeD;rw[if_pos (by decide)]
def Ix (S:Sc) (facts:List Fct) (c:DSt) (w:List (Int×Int)) (i:Int):Prop:=(ptW S facts w=[]/\i = -1)\/(ptW S facts w≠[]/\∃j:Nat,i=(j:Int)/\j<c.N.length/\(c.N.getD j ZdH).dim=(w.length:Int)/\c.P.getD j []=ptW S facts w)
section
variable {S:Sc} {facts l m all:List Fct} {a b c:DSt}
theorem Ix.eq (hc:ZdW (Za3 S) (Zan S) facts c) {w w':List (Int×Int)} {i i':Int} (h:Ix S facts c w i) (h':Ix S facts c w' i') (hl:w.length=w'.length) (hp:ptW S facts w=ptW S facts w'):i=i':=by
 rcases h with⟨h1,h2⟩|⟨h1,j,h2,h3,h4,h5⟩
 ·rcases h' with⟨k1,k2⟩|⟨k1,_⟩
  ·rw[h2,k2]
  ·exact absurd (hp ▸ h1) k1
 ·rcases h' with⟨k1,k2⟩|⟨k1,j',k2,k3,k4,k5⟩
  ·exact absurd (hp.trans k1) h1
  ·have:=hc.uniq j j' h3 k3 (by rw[h4,k4,hl]) (by rw[h5,k5,hp])
   rw[h2,k2,this]
theorem Ix.inj {w w':List (Int×Int)} {i:Int} (h:Ix S facts c w i) (h':Ix S facts c w' i):ptW S facts w=ptW S facts w'/\(ptW S facts w≠[]->w.length=w'.length):=by
 rcases h with⟨h1,h2⟩|⟨h1,j,h2,h3,h4,h5⟩
 ·rcases h' with⟨k1,k2⟩|⟨k1,j',k2,_⟩
  ·exact⟨h1.trans k1.symm,fun h=>absurd h1 h⟩
  ·omega
 ·rcases h' with⟨k1,k2⟩|⟨k1,j',k2,k3,k4,k5⟩
  ·omega
  ·obtain rfl:j=j':=by omega
   exact⟨h5.symm.trans k5,fun _=>by omega⟩
def Zo6 (S:Sc) (facts:List Fct) (c:DSt) (d:Nat) (w:List (Int×Int)) (z:Cel):Prop:=(ptW S facts w=[]/\z=noC)\/(ptW S facts w≠[]/\∃b,ZiH (Zan S) facts c b d (ptW S facts w) z)
theorem Zo6.child {d:Nat} {w:List (Int×Int)} {z:Cel} (h:Zo6 S facts c d w z):0<=z.child ↔ ptW S facts w≠[]:=by
 rcases h with⟨h1,rfl⟩|⟨h1,b,h2⟩
 ·exact⟨fun h=>absurd h (by decide),fun h=>absurd h1 h⟩
 ·refine⟨fun _=>h1,fun _=>?_⟩
  unfold ZiH at h2
  split at h2
  ·rw[h2.1];exact zcd _
  ·obtain⟨_,j,h3,_⟩:=h2
   rw[h3];omega
theorem Zo6.ix {d:Nat} {w:List (Int×Int)} {z:Cel} (h:Zo6 S facts c d w z) (hd:d+1≠(Zan S).length) (hw:w.length=d+1):Ix S facts c w z.child:=by
 rcases h with⟨h1,rfl⟩|⟨h1,b,h2⟩
 ·exact .inl ⟨h1,rfl⟩
 ·unfold ZiH at h2
  rw[if_neg hd]at h2
  obtain⟨_,j,h3,_,h4,h5,h6⟩:=h2
  exact .inr ⟨h1,j,h3,h4,by rw[h5,hw],h6⟩
theorem Zo6.agg {d:Nat} {w:List (Int×Int)} {z:Cel} (h:Zo6 S facts c d w z) (hd:d+1=(Zan S).length):z.agg=(ZdJ facts ag0 (ptW S facts w)).getD ag0:=by
 rcases h with⟨h1,rfl⟩|⟨h1,b,h2⟩
 ·rw[h1];rfl
 ·unfold ZiH at h2
  rw[if_pos hd]at h2
  exact h2.2
theorem ZoT {i:Int} {j:Nat} (h:i=(j:Int)) (N:List Nod):Zm3 N i=N.getD j ZdH:=by
 unfold Zm3
 rw[if_neg (by omega),h,ZkF (by omega),Int.toNat_natCast]
theorem ZqX (hF:ZbI (Za3 S) (Zan S) facts) (hc:ZdW (Za3 S) (Zan S) facts c) {w:List (Int×Int)} {i:Int} (h:Ix S facts c w i) {t:Nat} {key:Int} (ht:t<((Zan S).getD w.length []).length) (hk:0<=key/\key<Zch (Za3 S) w.length t) :
  Zo6 S facts c w.length (w++[((t:Int),key)]) (ofC ((Zm3 c.N i).lists.getD t []) key):=by
 rcases h with⟨h1,h2⟩|⟨h1,j,h2,h3,h4,h5⟩
 ·refine .inl ⟨?_,?_⟩
  ·rw[Zop,h1];unfold ZeD;split<;>rfl
  ·have:Zm3 c.N i=nodZ:=by unfold Zm3;rw[if_pos h2]
   rw[this];rfl
 ·obtain⟨s1,s2⟩:=ZjL hF hc (q:=((t:Int),key)) h3 h4 (.inr ⟨t,rfl,ht,hk.1,hk.2⟩)
  rw[h5,<- Zop]at s1 s2
  obtain⟨e,he,hn1,hn2,hn3,hn4⟩:=hc.nod j h3
  obtain rfl:e=w.length:=by rw[h4]at hn1;omega
  have hgl:(ZaC (Za3 S) (Zan S) facts w.length (c.P.getD j [])).length=((Zan S).getD w.length []).length:=by unfold ZaC;simp
  have hll:=hn4.length
  have hst:ZcB c.N j w.length ((t:Int),key)=ZmK (((c.N.getD j ZdH).lists.getD t []).find? fun c=>c.key == key):=by
   unfold ZcB Zek
   rw[if_neg (by omega),Int.toNat_natCast,if_neg (by rw[h4];simp only;omega),if_neg (by simp only;omega),if_neg (by simp only;omega)]
   rfl
  rw[hst]at s1 s2
  have hg:Zm3 c.N i=c.N.getD j ZdH:=ZoT h2 c.N
  rw[hg]
  have hof:ofC ((c.N.getD j ZdH).lists.getD t []) key=(((c.N.getD j ZdH).lists.getD t []).find? fun c=>c.key == key).getD noC:=rfl
  rw[hof]
  generalize ((c.N.getD j ZdH).lists.getD t []).find? (fun c=>c.key == key)=o at *
  by_cases hp:ptW S facts (w++[((t:Int),key)])=[]
  ·have:=s1 hp
   cases o with
   | none=>exact .inl ⟨hp,rfl⟩
   | some z=>exact absurd (congrArg Prod.snd this) (by simp[ZmK])
  ·obtain⟨s3,s4⟩:=s2 hp
   cases o with
   | none=>exact absurd s3 (by simp[ZmK])
   | some z=>exact .inr ⟨hp,j,s4⟩
theorem ix_all (hc:ZdW (Za3 S) (Zan S) facts c) {w:List (Int×Int)} {i:Int} (h:Ix S facts c w i):Zo6 S facts c w.length w (ZnV (Zm3 c.N i) i):=by
 rcases h with⟨h1,h2⟩|⟨h1,j,h2,h3,h4,h5⟩
 ·exact .inl ⟨h1,by unfold ZnV;rw[if_pos h2]⟩
 ·obtain⟨e,he,hn1,hn2,hn3,hn4⟩:=hc.nod j h3
  obtain rfl:e=w.length:=by rw[h4]at hn1;omega
  rw[h5]at hn3
  refine .inr ⟨h1,j,?_⟩
  unfold ZnV
  rw[if_neg (by omega),ZoT h2]
  exact hn3
theorem ZpZ (hc:ZdW (Za3 S) (Zan S) facts c) {w:List (Int×Int)} {i:Int} (h:Ix S facts c w i):(Zm3 c.N i).lists.length=(if ptW S facts w=[] then 0 else ((Zan S).getD w.length []).length)/\(Zm3 c.N i).dim=(if ptW S facts w=[] then 0 else (w.length:Int)):=by
 rcases h with⟨h1,h2⟩|⟨h1,j,h2,h3,h4,h5⟩
 ·have:Zm3 c.N i=nodZ:=by unfold Zm3;rw[if_pos h2]
  rw[this,if_pos h1,if_pos h1];exact⟨rfl,rfl⟩
 ·obtain⟨e,he,hn1,hn2,hn3,hn4⟩:=hc.nod j h3
  obtain rfl:e=w.length:=by rw[h4]at hn1;omega
  have hgl:(ZaC (Za3 S) (Zan S) facts w.length (c.P.getD j [])).length=((Zan S).getD w.length []).length:=by unfold ZaC;simp
  rw[ZoT h2,if_neg h1,if_neg h1,hn4.length,hgl]
  exact⟨rfl,h4⟩
end
section
variable (S:Sc) (l m all:List Fct) (a b:DSt)
structure RelM (s:MSt) (c:DSt):Prop where
 e:s.e=0
 N:s.N=c.N
 len:c.N.length=c.P.length
 lenP:s.P.length=c.P.length
 pr:∀j,j<c.N.length->∃w:List (Int×Int),(c.N.getD j ZdH).dim=(w.length:Int)/\c.P.getD j []=ptW S all w/\Ix S l a w (s.P.getD j (0,0)).1/\Ix S m b w (s.P.getD j (0,0)).2
structure AllOf:Prop where
 fl:ZbI (Za3 S) (Zan S) l
 fm:ZbI (Za3 S) (Zan S) m
 fa:ZbI (Za3 S) (Zan S) all
 dl:ZdW (Za3 S) (Zan S) l a
 dm:ZdW (Za3 S) (Zan S) m b
 part:∀w w',ptW S all w=ptW S all w' ↔ (ptW S l w=ptW S l w'/\ptW S m w=ptW S m w')
 emp:∀w,ptW S all w=[] ↔ (ptW S l w=[]/\ptW S m w=[])
 sum:∀w,ptW S all w≠[]->∃g,Zdl ((ZdJ l ag0 (ptW S l w)).getD ag0) ((ZdJ m ag0 (ptW S m w)).getD ag0)=some g/\ZdJ all ag0 (ptW S all w)=some g
end
theorem Zn6 {g:DSt->Int->List Nat->DSt×Cel} (hg:∀c k p,c.N <+: (g c k p).1.N):∀(l:List (Int×List Nat)) (c:DSt),c.N <+: (cellsD g c l).1.N
 | [],c=>zbs _
 | q :: l,c=>(hg c q.1 q.2).trans (Zn6 hg l _)
theorem Zog {g:DSt->Int->List Nat->DSt×Cel} (hg:∀c k p,c.N <+: (g c k p).1.N):∀(l:List (List (Int×List Nat))) (c:DSt),c.N <+: (ZbW g c l).1.N
 | [],c=>zbs _
 | q :: l,c=>(Zn6 hg q c).trans (Zog hg l _)
theorem Zn5 {facts:List Fct} {f:DSt->List Nat->DSt×Int} {last:Bool} (hf:last=false->∀c p,c.N <+: (f c p).1.N) (c:DSt) (k:Int) (p:List Nat):c.N <+: (Zc2 facts f last c k p).1.N:=by
 cases last with
 | true=>exact zbs _
 | false=>exact hf rfl c p
theorem Zo0 {x:Shp} {L:List (List (List Int))} {facts:List Fct}:∀(n:Nat) (c:DSt) (p:List Nat),c.N <+: (Zhq x L facts n c p).1.N
 | 0,c,p=>zbs _
 | n+1,c,p=>by
  have hc:=Zn5 (facts:=facts) (f:=Zhq x L facts n) (last:=decide (L.length - (n+1)+1=L.length)) (fun _=>Zo0 n)
  show c.N <+: (ZpU x L facts (Zhq x L facts n) (L.length - (n+1)) c p).1.N
  unfold ZpU visM
  split
  ·exact zbs _
  ·exact((Zog hc _ c).trans (hc _ 0 p)).trans (zcj _ _)
section
variable {S:Sc} {l m all:List Fct} {a b:DSt}
theorem find_law (hA:AllOf S l m all a b) {s:MSt} {c:DSt} (h:RelM S l m all a b s c) {w:List (Int×Int)} {i k:Int} (hi:Ix S l a w i) (hk:Ix S m b w k) (hne:ptW S all w≠[]):s.P.findIdx? (· == (i,k))=Ze3 w.length (ptW S all w) c.N c.P:=by
 have key:∀j,j<c.N.length->(ZgB w.length (ptW S all w) c.N c.P j=true ↔ s.P.getD j (0,0)=(i,k)):=fun j hj=>by
  obtain⟨w',h1,h2,h3,h4⟩:=h.pr j hj
  unfold ZgB
  rw[zax,decide_eq_true_eq,decide_eq_true_eq,h1,h2]
  constructor
  ·rintro⟨q1,q2⟩
   obtain⟨p1,p2⟩:=(hA.part w' w).1 q2
   have e1:=h3.eq hA.dl hi (by omega) p1
   have e2:=h4.eq hA.dm hk (by omega) p2
   exact Prod.ext e1 e2
  ·intro q
   rw[q]at h3 h4
   obtain⟨p1,l1⟩:=h3.inj hi
   obtain⟨p2,l2⟩:=h4.inj hk
   have hp:=(hA.part w' w).2 ⟨p1,p2⟩
   refine⟨?_,hp⟩
   by_cases hz:ptW S l w'=[]
   ·have hz2:ptW S m w'≠[]:=fun hz2=>hne (by rw[<- hp];exact(hA.emp w').2 ⟨hz,hz2⟩)
    rw[l2 hz2]
   ·rw[l1 hz]
 have hPN:s.P.length=c.N.length:=by rw[h.lenP,h.len]
 have hget:∀j (hj:j<s.P.length),s.P[j]=s.P.getD j (0,0):=fun j hj=>by rw[zah,zaa hj];rfl
 cases hf:Ze3 w.length (ptW S all w) c.N c.P with
 | some j =>
  unfold Ze3 at hf
  rw[List.find?_range_eq_some]at hf
  obtain⟨f1,f2,f3⟩:=hf
  have f2:j<c.N.length:=by simpa using f2
  rw[List.findIdx?_eq_some_iff_getElem]
  refine⟨by omega,?_,fun j' hj'=>?_⟩
  ·rw[hget];simpa using (key j f2).1 f1
  ·have:=f3 j' hj'
   rw[hget]
   intro hc
   have hc:s.P.getD j' (0,0)=(i,k):=by simpa using hc
   rw[(key j' (by omega)).2 hc]at this
   cases this
 | none =>
  unfold Ze3 at hf
  rw[zcl]at hf
  rw[List.findIdx?_eq_none_iff]
  intro q hq
  obtain⟨j,hj,rfl⟩:=zay hq
  rw[hget]
  have:=hf j (by simp;omega)
  rw[key j (by omega)]at this
  simpa using this
def NodM (S:Sc) (l m all:List Fct) (a b:DSt) (Nf:List Nod) (d:Nat) (f:MSt->Int×Int->MSt×Int) (h:DSt->List Nat->DSt×Int):Prop :=
 ∀s c w i k,RelM S l m all a b s c->w.length=d->Ix S l a w i->Ix S m b w k->ptW S all w≠[]->(h c (ptW S all w)).1.N <+: Nf->RelM S l m all a b (f s (i,k)).1 (h c (ptW S all w)).1/\(f s (i,k)).2=(h c (ptW S all w)).2
theorem ZqL (hA:AllOf S l m all a b) {Nf:List Nod} {d:Nat} {f:MSt->Int×Int->MSt×Int} {h:DSt->List Nat->DSt×Int} (hlb:lastB (Za3 S) d=decide (d+1=(Zan S).length)) (hf:d+1≠(Zan S).length->NodM S l m all a b Nf (d+1) f h)
  {s:MSt} {c:DSt} {key:Int} {w:List (Int×Int)} {z1 z2:Cel} (hw:w.length=d+1) (h1:Zo6 S l a d w z1) (h2:Zo6 S m b d w z2) (hne:ptW S all w≠[]) (hr:RelM S l m all a b s c) (hp:(Zc2 all h (decide (d+1=(Zan S).length)) c key (ptW S all w)).1.N <+: Nf) :
  RelM S l m all a b (Znj (Za3 S) f d s key z1 z2).1 (Zc2 all h (decide (d+1=(Zan S).length)) c key (ptW S all w)).1/\(Znj (Za3 S) f d s key z1 z2).2=(Zc2 all h (decide (d+1=(Zan S).length)) c key (ptW S all w)).2:=by
 by_cases hl:d+1=(Zan S).length
 ·have e:Zc2 all h (decide (d+1=(Zan S).length)) c key (ptW S all w)=(⟨c.N,c.P,c.over || (ZdJ all ag0 (ptW S all w)).isNone⟩,⟨key,0,(ZdJ all ag0 (ptW S all w)).getD ag0⟩):=by unfold Zc2;rw[decide_eq_true hl,if_pos rfl]
  obtain⟨g,g1,g2⟩:=hA.sum w hne
  have e2:Znj (Za3 S) f d s key z1 z2=(s,⟨key,0,g⟩):=by
   unfold Znj
   rw[if_neg (by rw[hr.e];decide),hlb,decide_eq_true hl,if_pos rfl,h1.agg hl,h2.agg hl,g1]
  rw[e,e2,g2]
  exact⟨⟨hr.e,hr.N,hr.len,hr.lenP,hr.pr⟩,rfl⟩
 ·have e:Zc2 all h (decide (d+1=(Zan S).length)) c key (ptW S all w)=((h c (ptW S all w)).1,⟨key,(h c (ptW S all w)).2,ag0⟩):=by unfold Zc2;rw[decide_eq_false hl,if_neg (by simp)]
  have e2:Znj (Za3 S) f d s key z1 z2=((f s (z1.child,z2.child)).1,⟨key,(f s (z1.child,z2.child)).2,ag0⟩):=by
   unfold Znj
   rw[if_neg (by rw[hr.e];decide),hlb,decide_eq_false hl,if_neg (by simp)]
   rfl
  rw[e]at hp
  obtain⟨q1,q2⟩:=hf hl s c w z1.child z2.child hr hw (h1.ix hl hw) (h2.ix hl hw) hne hp
  rw[e,e2]
  refine⟨q1,?_⟩
  show(⟨_,_,_⟩:Cel)=⟨_,_,_⟩
  rw[q2]
def Zne (S:Sc) (all:List Fct) (w:List (Int×Int)) (t k cnt:Nat):List (Int×List Nat):=(List.range' k cnt).filterMap fun k:Nat=>if ptW S all (w++[((t:Int),(k:Int))])=[] then none else some ((k:Int),ptW S all (w++[((t:Int),(k:Int))]))
theorem grs_from (S:Sc) (all:List Fct) (w:List (Int×Int)) (t n:Nat):grs (Zdm (Zan S) all w.length t) n (ptW S all w)=Zne S all w t 0 n:=by
 unfold grs Zne
 rw[zcE]
 congr 1
 funext k
 have e:ptW S all (w++[((t:Int),(k:Int))])=(ptW S all w).filter fun i=>decide (Zdm (Zan S) all w.length t i=(k:Int)):=by
  rw[Zop]
  unfold ZeD
  rw[if_neg (by simp only;omega),Int.toNat_natCast]
 rw[e]
theorem ZpR (hA:AllOf S l m all a b) {Nf:List Nod} {d:Nat} {f:MSt->Int×Int->MSt×Int} {h:DSt->List Nat->DSt×Int} (hlb:lastB (Za3 S) d=decide (d+1=(Zan S).length)) (hf:d+1≠(Zan S).length->NodM S l m all a b Nf (d+1) f h) (hpre:d+1≠(Zan S).length->∀c p,c.N <+: (h c p).1.N)
  {w:List (Int×Int)} (hw:w.length=d) {t:Nat} {xs ys:List Cel} {n:Nat} (hx:∀k:Nat,k<n->Zo6 S l a d (w++[((t:Int),(k:Int))]) (ofC xs k)) (hy:∀k:Nat,k<n->Zo6 S m b d (w++[((t:Int),(k:Int))]) (ofC ys k)) :
  ∀(cnt k:Nat),k+cnt=n->∀s c,RelM S l m all a b s c->(cellsD (Zc2 all h (decide (d+1=(Zan S).length))) c (Zne S all w t k cnt)).1.N <+: Nf ->
   RelM S l m all a b (Zm9 (Za3 S) f d s (ZnO (ofC xs) (ofC ys) cnt k)).1 (cellsD (Zc2 all h (decide (d+1=(Zan S).length))) c (Zne S all w t k cnt)).1/\(Zm9 (Za3 S) f d s (ZnO (ofC xs) (ofC ys) cnt k)).2=(cellsD (Zc2 all h (decide (d+1=(Zan S).length))) c (Zne S all w t k cnt)).2
 | 0,k,_,s,c,hr,_=>⟨hr,rfl⟩
 | cnt+1,k,hk,s,c,hr,hp=>by
  have ih:=ZpR hA hlb hf hpre hw hx hy cnt (k+1) (by omega)
  have hz1:=hx k (by omega)
  have hz2:=hy k (by omega)
  have hcpre:=Zn5 (facts:=all) (f:=h) (last:=decide (d+1=(Zan S).length)) (fun h=>hpre (of_decide_eq_false h))
  have hcast:((k:Int)+1)=((k+1:Nat):Int):=by omega
  by_cases hz:ptW S all (w++[((t:Int),(k:Int))])=[]
  ·have hg:Zne S all w t k (cnt+1)=Zne S all w t (k+1) cnt:=by
    unfold Zne
    rw[zbF,List.filterMap_cons_none (by rw[if_pos hz])]
   obtain⟨p1,p2⟩:=(hA.emp _).1 hz
   have hrk:ZnO (ofC xs) (ofC ys) (cnt+1) k=ZnO (ofC xs) (ofC ys) cnt ((k+1:Nat):Int):=by
    rw[ZnO,if_neg (by rw[hz1.child,hz2.child];rintro(h|h);exact h p1;exact h p2),hcast]
   rw[hg]at hp ⊢
   rw[hrk]
   exact ih s c hr hp
  ·have hg:Zne S all w t k (cnt+1)=((k:Int),ptW S all (w++[((t:Int),(k:Int))])) :: Zne S all w t (k+1) cnt:=by
    unfold Zne
    rw[zbF,List.filterMap_cons_some (by rw[if_neg hz])]
   have hor:0<=(ofC xs k).child\/0<=(ofC ys k).child:=by
    rw[hz1.child,hz2.child]
    refine zaA fun hc=>hz ((hA.emp _).2 ⟨?_,?_⟩)
    ·exact zaA fun h=>hc (.inl h)
    ·exact zaA fun h=>hc (.inr h)
   have hrk:ZnO (ofC xs) (ofC ys) (cnt+1) k=((k:Int),ofC xs k,ofC ys k) :: ZnO (ofC xs) (ofC ys) cnt ((k+1:Nat):Int):=by rw[ZnO,if_pos hor,hcast]
   rw[hg]at hp ⊢
   rw[hrk]
   have hp1:(cellsD (Zc2 all h (decide (d+1=(Zan S).length))) (Zc2 all h (decide (d+1=(Zan S).length)) c k (ptW S all (w++[((t:Int),(k:Int))]))).1 (Zne S all w t (k+1) cnt)).1.N <+: Nf:=hp
   obtain⟨q1,q2⟩:=ZqL (key:=(k:Int)) hA hlb hf (w:=w++[((t:Int),(k:Int))]) (by simp[hw]) hz1 hz2 hz hr ((Zn6 hcpre _ _).trans hp1)
   obtain⟨r1,r2⟩:=ih _ _ q1 hp1
   refine⟨r1,?_⟩
   show _ :: _=_ :: _
   rw[q2,r2]
end
theorem Zqo {S:Sc} {facts:List Fct} {c:DSt} (pa:Prw (Za3 S) c.N) {w:List (Int×Int)} {i:Int} (h:Ix S facts c w i) (t:Nat):Zol (0+(Zch (Za3 S) w.length t:Int)) 0 ((Zm3 c.N i).lists.getD t []):=by
 rcases h with⟨_,h2⟩|⟨_,j,h2,h3,h4,h5⟩
 ·have:Zm3 c.N i=nodZ:=by unfold Zm3;rw[if_pos h2]
  rw[this,show nodZ.lists.getD t []=[]from rfl]
  trivial
 ·rw[ZoT h2]
  have hm:c.N.getD j ZdH∈c.N:=by rw[zah,zaa h3];exact zaq h3
  have hr:=pa.rise _ hm t
  rw[h4,Int.toNat_natCast]at hr
  have hv:0<=((Za3 S).sizes.getD w.length []).getD t 0:=by
   by_cases h1:w.length<(Za3 S).sizes.length
   ·have e1:(Za3 S).sizes.getD w.length []=(Za3 S).sizes[w.length]:=by rw[zah,zaa h1];rfl
    rw[e1]
    by_cases h2:t<((Za3 S).sizes[w.length]).length
    ·rw[zah,zaa h2]
     have:=pa.size _ (zaq h1) _ (zaq h2)
     simp only[Option.getD_some];omega
    ·rw[zah,za2 (by omega)];exact zcd _
   ·rw[zah (l:=(Za3 S).sizes),za2 (by omega)];simp
  have e:(0:Int)+(Zch (Za3 S) w.length t:Int)=((Za3 S).sizes.getD w.length []).getD t 0:=by unfold Zch;omega
  rw[e]
  exact hr
section
variable {S:Sc} {l m all:List Fct} {a b:DSt}
theorem ZoR (hA:AllOf S l m all a b) (pa:Prw (Za3 S) a.N) (pb:Prw (Za3 S) b.N) {Nf:List Nod} {d:Nat} {f:MSt->Int×Int->MSt×Int} {h:DSt->List Nat->DSt×Int} (hlb:lastB (Za3 S) d=decide (d+1=(Zan S).length)) (hf:d+1≠(Zan S).length->NodM S l m all a b Nf (d+1) f h) (hpre:d+1≠(Zan S).length->∀c p,c.N <+: (h c p).1.N)
  {w:List (Int×Int)} (hw:w.length=d) {i k:Int} (hi:Ix S l a w i) (hk:Ix S m b w k) :
  ∀(ts:List Nat),(∀t∈ts,t<((Zan S).getD d []).length)->∀s c,RelM S l m all a b s c->(ZbW (Zc2 all h (decide (d+1=(Zan S).length))) c (ts.map fun t=>grs (Zdm (Zan S) all d t) (Zch (Za3 S) d t) (ptW S all w))).1.N <+: Nf ->
   RelM S l m all a b (Zm4 (Za3 S) f d s (ts.map fun t=>Zm2 (((Zm3 a.N i).lists.getD t []).length+((Zm3 b.N k).lists.getD t []).length) ((Zm3 a.N i).lists.getD t []) ((Zm3 b.N k).lists.getD t []))).1 (ZbW (Zc2 all h (decide (d+1=(Zan S).length))) c (ts.map fun t=>grs (Zdm (Zan S) all d t) (Zch (Za3 S) d t) (ptW S all w))).1 /\
   (Zm4 (Za3 S) f d s (ts.map fun t=>Zm2 (((Zm3 a.N i).lists.getD t []).length+((Zm3 b.N k).lists.getD t []).length) ((Zm3 a.N i).lists.getD t []) ((Zm3 b.N k).lists.getD t []))).2=(ZbW (Zc2 all h (decide (d+1=(Zan S).length))) c (ts.map fun t=>grs (Zdm (Zan S) all d t) (Zch (Za3 S) d t) (ptW S all w))).2
 | [],_,s,c,hr,_=>⟨hr,rfl⟩
 | t :: ts,hts,s,c,hr,hp=>by
  have ih:=ZoR hA pa pb hlb hf hpre hw hi hk ts fun t ht=>hts t (zad _ ht)
  have ht:=hts t zae
  have hcpre:=Zn5 (facts:=all) (f:=h) (last:=decide (d+1=(Zan S).length)) (fun h=>hpre (of_decide_eq_false h))
  subst hw
  have hrk:=ZpS (Zch (Za3 S) w.length t) 0 ((Zm3 a.N i).lists.getD t []) ((Zm3 b.N k).lists.getD t []) _ (Zqo pa hi t) (Zqo pb hk t) (zaf _)
  have hx:∀j:Nat,j<Zch (Za3 S) w.length t->Zo6 S l a w.length (w++[((t:Int),(j:Int))]) (ofC ((Zm3 a.N i).lists.getD t []) j):=fun j hj=>ZqX hA.fl hA.dl hi ht ⟨by omega,by omega⟩
  have hy:∀j:Nat,j<Zch (Za3 S) w.length t->Zo6 S m b w.length (w++[((t:Int),(j:Int))]) (ofC ((Zm3 b.N k).lists.getD t []) j):=fun j hj=>ZqX hA.fm hA.dm hk ht ⟨by omega,by omega⟩
  have hL:=ZpR (t:=t) hA hlb hf hpre rfl hx hy (Zch (Za3 S) w.length t) 0 (by omega) s c hr
  rw[<- grs_from]at hL
  rw[zas]at hp
  have hp1:(ZbW (Zc2 all h (decide (w.length+1=(Zan S).length))) (cellsD (Zc2 all h (decide (w.length+1=(Zan S).length))) c (grs (Zdm (Zan S) all w.length t) (Zch (Za3 S) w.length t) (ptW S all w))).1 (ts.map fun t=>grs (Zdm (Zan S) all w.length t) (Zch (Za3 S) w.length t) (ptW S all w))).1.N <+: Nf:=hp
  obtain⟨q1,q2⟩:=hL ((Zog hcpre _ _).trans hp1)
  have hrk':ZnO (ofC ((Zm3 a.N i).lists.getD t [])) (ofC ((Zm3 b.N k).lists.getD t [])) (Zch (Za3 S) w.length t) ((0:Nat):Int)=Zm2 (((Zm3 a.N i).lists.getD t []).length+((Zm3 b.N k).lists.getD t []).length) ((Zm3 a.N i).lists.getD t []) ((Zm3 b.N k).lists.getD t []):=hrk
  rw[hrk']at q1 q2
  obtain⟨r1,r2⟩:=ih _ _ q1 hp1
  rw[zas,zas]
  refine⟨r1,?_⟩
  show _ :: _=_ :: _
  rw[q2,r2]
theorem Zp5 (hA:AllOf S l m all a b) (pa:Prw (Za3 S) a.N) (pb:Prw (Za3 S) b.N) {Nf:List Nod} {most:Int} (hG:∀i (hi:i<Nf.length),ZbF (Za3 S) most (Nf.take i) Nf[i]=0) {d:Nat} {f:MSt->Int×Int->MSt×Int} {h:DSt->List Nat->DSt×Int} (hd:d<(Zan S).length) (hf:d+1≠(Zan S).length->NodM S l m all a b Nf (d+1) f h) (hpre:d+1≠(Zan S).length->∀c p,c.N <+: (h c p).1.N) :
  NodM S l m all a b Nf d (Znh (Za3 S) a.N b.N most f) (ZpU (Za3 S) (Zan S) all h d):=by
 intro s c w i k hr hw hi hk hne hp
 have hlb:lastB (Za3 S) d=decide (d+1=(Zan S).length):=by
  unfold lastB
  rw[za8]
  simp only[beq_iff_eq,decide_eq_true_eq]
  have:=hA.fl.len
  omega
 have hfi:=find_law hA hr hi hk hne
 rw[hw]at hfi
 unfold ZpU at hp ⊢
 cases hfn:Ze3 d (ptW S all w) c.N c.P with
 | some j =>
  rw[hfn]at hfi
  have e:Znh (Za3 S) a.N b.N most f s (i,k)=(s,(j:Int)):=by unfold Znh;rw[hfi]
  rw[e]
  exact⟨hr,rfl⟩
 | none =>
  rw[hfn]at hfi hp
  have hgroups:ZaC (Za3 S) (Zan S) all d (ptW S all w)=(List.range ((Zan S).getD d []).length).map fun t=>grs (Zdm (Zan S) all d t) (Zch (Za3 S) d t) (ptW S all w):=rfl
  rw[hgroups]at hp ⊢
  have hcpre:=Zn5 (facts:=all) (f:=h) (last:=decide (d+1=(Zan S).length)) (fun h=>hpre (of_decide_eq_false h))
  obtain⟨x1,x2⟩:=ZpZ hA.dl hi
  obtain⟨y1,y2⟩:=ZpZ hA.dm hk
  rw[hw]at x1 x2 y1 y2
  have hor:ptW S l w≠[]\/ptW S m w≠[]:=zaA fun hc=>hne ((hA.emp w).2 ⟨zaA fun h=>hc (.inl h),zaA fun h=>hc (.inr h)⟩)
  have hmaxd:max (Zm3 a.N i).dim (Zm3 b.N k).dim=(d:Int):=by
   rw[x2,y2]
   rcases hor with h|h
   ·rw[if_neg h];split<;>omega
   ·rw[if_neg h];split<;>omega
  have hmaxl:max (Zm3 a.N i).lists.length (Zm3 b.N k).lists.length=((Zan S).getD d []).length:=by
   rw[x1,y1]
   rcases hor with h|h
   ·rw[if_neg h];split<;>omega
   ·rw[if_neg h];split<;>omega
  have hT:=ZoR hA pa pb hlb hf hpre hw hi hk (List.range ((Zan S).getD d []).length) (fun t ht=>by simpa using ht) s c hr
  have hx1:=ix_all hA.dl hi
  have hx2:=ix_all hA.dm hk
  have hca:Zo6 S l a d (w++[(-1,0)]) (ZnV (Zm3 a.N i) i):=by
   unfold Zo6 at hx1 ⊢;rw[ZoY,<- hw];exact hx1
  have hcb:Zo6 S m b d (w++[(-1,0)]) (ZnV (Zm3 b.N k) k):=by
   unfold Zo6 at hx2 ⊢;rw[ZoY,<- hw];exact hx2
  have hC:=fun s c hr hp=>ZqL (key:=0) (s:=s) (c:=c) hA hlb hf (w:=w++[(-1,0)]) (by simp[hw]) hca hcb (by rw[ZoY];exact hne) hr hp
  rw[ZoY]at hC
  have hmk:Zm7 (Zm3 a.N i) (Zm3 b.N k) ((Zan S).getD d []).length=(List.range ((Zan S).getD d []).length).map fun t=>Zm2 (((Zm3 a.N i).lists.getD t []).length+((Zm3 b.N k).lists.getD t []).length) ((Zm3 a.N i).lists.getD t []) ((Zm3 b.N k).lists.getD t []):=rfl
  rw[<- hmk]at hT
  have e:Znh (Za3 S) a.N b.N most f s (i,k)=ZnQ (Za3 S) most d (i,k) (Znj (Za3 S) f d (Zm4 (Za3 S) f d s (Zm7 (Zm3 a.N i) (Zm3 b.N k) ((Zan S).getD d []).length)).1 0 (ZnV (Zm3 a.N i) i) (ZnV (Zm3 b.N k) k)) (Zm4 (Za3 S) f d s (Zm7 (Zm3 a.N i) (Zm3 b.N k) ((Zan S).getD d []).length)).2:=by
   unfold Znh ZnQ
   rw[hfi]
   simp only[hmaxd,hmaxl]
   exact if_neg (by rw[hr.e];decide)
  rw[e]
  generalize Zm4 (Za3 S) f d s (Zm7 (Zm3 a.N i) (Zm3 b.N k) ((Zan S).getD d []).length)=r at *
  generalize hU:ZbW (Zc2 all h (decide (d+1=(Zan S).length))) c ((List.range ((Zan S).getD d []).length).map fun t=>grs (Zdm (Zan S) all d t) (Zch (Za3 S) d t) (ptW S all w))=U at *
  have hC:=hC r.1 U.1
  have hBU:U.1.N <+: (Zc2 all h (decide (d+1=(Zan S).length)) U.1 0 (ptW S all w)).1.N:=hcpre _ _ _
  generalize Znj (Za3 S) f d r.1 0 (ZnV (Zm3 a.N i) i) (ZnV (Zm3 b.N k) k)=t at *
  generalize Zc2 all h (decide (d+1=(Zan S).length)) U.1 0 (ptW S all w)=B at *
  have hpB:B.1.N++[(⟨d,U.2,B.2⟩:Nod)] <+: Nf:=hp
  have hpB1:B.1.N <+: Nf:=(zcj _ _).trans hpB
  obtain⟨q1,q2⟩:=hT (hBU.trans hpB1)
  obtain⟨r1,r2⟩:=hC q1 hpB1
  have ha:ZbF (Za3 S) most B.1.N ⟨d,U.2,B.2⟩=0:=by
   obtain⟨z,hz⟩:=hpB
   have hlt:B.1.N.length<Nf.length:=by rw[<- hz];simp
   have:=hG B.1.N.length hlt
   have e1:Nf.take B.1.N.length=B.1.N:=by rw[<- hz,zaM,zcM]
   have e2:Nf[B.1.N.length]=⟨d,U.2,B.2⟩:=by
    have:Nf[B.1.N.length]?=some ⟨d,U.2,B.2⟩:=by rw[<- hz];simp
    rw[zaa hlt]at this
    exact zbZ this
   rw[e1,e2]at this
   exact this
  have e3:ZnQ (Za3 S) most d (i,k) t r.2=(⟨B.1.N++[⟨d,U.2,B.2⟩],t.1.P++[(i,k)],0⟩,(B.1.N.length:Int)):=by
   unfold ZnQ
   rw[if_neg (by rw[r1.e];decide),r1.N,q2,r2,ha,if_neg (by decide)]
  rw[e3]
  refine⟨⟨rfl,rfl,?_,?_,fun j hj=>?_⟩,rfl⟩
  ·show(B.1.N++[_]).length=(B.1.P++[_]).length
   rw[zai,zai,r1.len];rfl
  ·show(t.1.P++[_]).length=(B.1.P++[_]).length
   rw[zai,zai,r1.lenP];rfl
  ·have hj:j<(B.1.N++[(⟨d,U.2,B.2⟩:Nod)]).length:=hj
   rw[zai,List.length_singleton]at hj
   show ∃w',((B.1.N++[(⟨d,U.2,B.2⟩:Nod)]).getD j ZdH).dim=_/\(B.1.P++[ptW S all w]).getD j []=_/\Ix S l a w' ((t.1.P++[(i,k)]).getD j (0,0)).1/\Ix S m b w' ((t.1.P++[(i,k)]).getD j (0,0)).2
   have hl1:=r1.len
   have hl2:=r1.lenP
   by_cases hjo:j<B.1.N.length
   ·rw[ZjP hjo,ZjP (by omega),ZjP (by omega)]
    exact r1.pr j hjo
   ·have hje:j=B.1.N.length:=by omega
    subst hje
    rw[Zih,hl1,Zih,<- hl2,Zih]
    exact⟨w,by rw[hw],rfl,hi,hk⟩
theorem Zo9 (hA:AllOf S l m all a b) (pa:Prw (Za3 S) a.N) (pb:Prw (Za3 S) b.N) {Nf:List Nod} {most:Int} (hG:∀i (hi:i<Nf.length),ZbF (Za3 S) most (Nf.take i) Nf[i]=0):∀(n:Nat),n+1<=(Zan S).length->NodM S l m all a b Nf ((Zan S).length - (n+1)) (Zoy (Za3 S) a.N b.N most (n+1)) (Zhq (Za3 S) (Zan S) all (n+1))
 | 0,h=>by
  rw[ZnK]
  exact Zp5 (d:=(Zan S).length - 1) (f:=Zoy (Za3 S) a.N b.N most 0) (h:=Zhq (Za3 S) (Zan S) all 0) hA pa pb hG (by have:1<=(Zan S).length:=h;omega) (fun h2=>absurd (show(Zan S).length - 1+1=(Zan S).length by have:1<=(Zan S).length:=h;omega) h2) (fun _=>Zo0 0)
 | n+1,h=>by
  rw[ZnK]
  refine Zp5 (d:=(Zan S).length - (n+1+1)) (f:=Zoy (Za3 S) a.N b.N most (n+1)) (h:=Zhq (Za3 S) (Zan S) all (n+1)) hA pa pb hG (by omega) (fun _=>?_) (fun _=>Zo0 (n+1))
  have:=Zo9 hA pa pb hG n (by omega)
  rw[show(Zan S).length - (n+1+1)+1=(Zan S).length - (n+1) by omega]
  exact this
end
theorem ZnT (S:Sc) (facts:List Fct):ptW S facts []=List.range facts.length:=List.filter_eq_self.2 fun i _=>rfl
theorem ix_top {S:Sc} {facts:List Fct} (hs:scE S=0):Ix S facts (Zcn S facts) [] (((Zcn S facts).N.length:Int) - 1):=by
 by_cases h:facts=[]
 ·subst h
  exact .inl ⟨rfl,rfl⟩
 ·obtain⟨t1,t2,t3⟩:=ZmL hs h
  refine .inr ⟨by rw[ZnT];simp;exact h,(Zcn S facts).N.length - 1,by omega,by omega,t2,by rw[t3,ZnT]⟩
theorem Zqu {S:Sc} {l m all:List Fct} (hs:scE S=0) (hA:AllOf S l m all (Zcn S l) (Zcn S m)) (pa:Prw (Za3 S) (Zcn S l).N) (pb:Prw (Za3 S) (Zcn S m).N) {most:Int} (hG:∀i (hi:i<(Zcn S all).N.length),ZbF (Za3 S) most ((Zcn S all).N.take i) (Zcn S all).N[i]=0) :
  (ZoF (Za3 S) (Zcn S l).N (Zcn S m).N most).e=0/\(ZoF (Za3 S) (Zcn S l).N (Zcn S m).N most).N=(Zcn S all).N:=by
 have hLl:(Zan S).length=S.dims.length:=by unfold Zan;rw[zaj]
 have hs1:=(Zb7 hs).1
 have hxl:(Za3 S).sizes.length=(Zan S).length:=hA.fl.len.symm
 have hnil:∀facts:List Fct,(Zcn S facts).N=[] ↔ facts=[]:=fun facts=>by
  constructor
  ·intro h
   refine zaA fun hne=>?_
   have:=(ZmL hs hne).1
   rw[h]at this;simp at this
  ·rintro rfl;rfl
 have hall:=hA.emp []
 rw[ZnT,ZnT,ZnT]at hall
 have hr0:∀facts:List Fct,List.range facts.length=[] ↔ facts=[]:=fun facts=>by simp
 rw[hr0,hr0,hr0]at hall
 unfold ZoF
 by_cases hz:(Zcn S l).N=[]/\(Zcn S m).N=[]
 ·rw[if_pos hz]
  have ha:all=[]:=hall.2 ⟨(hnil l).1 hz.1,(hnil m).1 hz.2⟩
  rw[ha]
  exact⟨rfl,rfl⟩
 ·rw[if_neg hz]
  have ha:all≠[]:=fun h=>hz ⟨(hnil l).2 (hall.1 h).1,(hnil m).2 (hall.1 h).2⟩
  have hpa:ptW S all []≠[]:=by rw[ZnT];simp;exact ha
  have hd:Zcn S all=(Zhq (Za3 S) (Zan S) all (Zan S).length ⟨[],[],false⟩ (ptW S all [])).1:=by unfold Zcn;rw[if_neg ha,ZnT]
  have h0:RelM S l m all (Zcn S l) (Zcn S m) ⟨[],[],0⟩ ⟨[],[],false⟩:=⟨rfl,rfl,rfl,rfl,fun j hj=>absurd hj (zbO j)⟩
  have hN:=Zo9 (most:=most) hA pa pb hG ((Zan S).length - 1) (by omega) ⟨[],[],0⟩ ⟨[],[],false⟩ [] (((Zcn S l).N.length:Int) - 1) (((Zcn S m).N.length:Int) - 1) h0
  rw[show(Zan S).length - 1+1=(Zan S).length by omega,Nat.sub_self]at hN
  have hN:=(hN rfl (ix_top hs) (ix_top hs) hpa (by rw[<- hd];exact zbs _)).1
  rw[hxl]
  rw[<- hd]at hN
  exact⟨hN.e,hN.N⟩
theorem ZtW {x:Shp} {most:Int} {N:List Nod} (hm:ZbS x=true) (hmost:most<=131072) (ha:∀i (hi:i<N.length),ZbF x most (N.take i) N[i]=0):Zm5 x N=0:=by
 have ha2:∀i (hi:i<N.length),ZbF x 131072 (N.take i) N[i]=0:=fun i hi=>by
  obtain⟨h1,h2,h3⟩:=add_zero' (ha i hi)
  unfold ZbF
  rw[if_neg (by rw[h1];decide),if_neg (by rw[h2];decide),if_neg (by omega)]
 have key:∀d k,k+d=N.length->Znc x 131072 (N.take k) (N.drop k)=0:=by
  intro d
  induction d with
  | zero=>intro k hk;rw[zbn (by omega)];rfl
  | succ d ih =>
   intro k hk
   rw[Znw x 131072 N k (by omega),if_neg (by rw[ha2 k (by omega)];decide)]
   exact ih (k+1) (by omega)
 unfold Zm5
 rw[if_neg (by rw[hm];decide)]
 exact key N.length 0 (by omega)
theorem Zr3 {x:Shp} {l:List Nod} (h:Zm5 x l=0) (hlen:l.length<=100000) (hs:∀n∈l,Zdb n):ArW x l/\∀n∈l,0<=n.dim/\n.dim<x.sizes.length:=by
 obtain⟨hm,ha⟩:=Zoo h
 refine⟨⟨hm,hlen,hs,fun i hi hl c hc=>?_⟩,fun n hn=>?_⟩
 ·rw[Zm8 hi]at hl hc
  obtain⟨h1,h2,_⟩:=add_zero' (ha i hi)
  unfold ZeO at h2
  rw[hl,zbP,zaO]at h2
  have h3:=h2 c hc
  simp only[zax,decide_eq_true_eq,za9]at h3
  exact⟨Zfu h1 hl c hc,by omega⟩
 ·obtain⟨i,hi,rfl⟩:=zay hn
  have:=Zfw (add_zero' (ha i hi)).1
  exact⟨this.1,this.2.1⟩
theorem Zoz {x:Shp} {dim:Int}:∀(ls:List (List Cel)) (p:Option Nat) (s:List Int),ls.length=s.length->ZbH x dim p s ls=0->∀c∈ls,c≠[]
 | [],_,_,_,_=>by simp
 | l :: ls,p,[],h,_=>by simp at h
 | l :: ls,p,s :: ss,h,he=>by
  have he:(if ZbN x dim s l≠0 then ZbN x dim s l else if Zkf p l.length=true then 14 else ZbH x dim (some l.length) ss ls)=0:=by
   cases p<;>exact he
  split at he
  ·rename_i h1;exact absurd he h1
  ·rename_i h1
   split at he
   ·cases he
   ·intro c hc
    rcases zal.1 hc with rfl|hc
    ·rintro rfl
     exact h1 (by unfold ZbN;simp)
    ·exact Zoz ls _ ss (by simpa using h) he c hc
theorem lists_ne {x:Shp} {n:Nod} (h:Zbf x n=0):∀c∈n.lists,c≠[]:=by
 unfold Zbf at h
 simp only at h
 split at h
 ·cases h
 ·split at h
  ·cases h
  ·rename_i h1
   split at h
   ·rename_i h2;exact absurd h h2
   ·rename_i h2
    have h2':ZbH x n.dim none (x.sizes.getD n.dim.toNat []) n.lists=0:=by simpa using h2
    exact Zoz n.lists none _ (by omega) h2'
theorem ZpI {x:Shp} {l:List Nod} (he:Zm5 x l=0):∀n∈l,∀c∈n.lists,c≠[]:=by
 intro n hn
 obtain⟨i,hi,rfl⟩:=zay hn
 exact lists_ne (add_zero' ((Zoo he).2 i hi)).1
theorem wlk_of {x:Shp} {l:List Nod} (h:Zm5 x l=0) (hlen:l.length<=100000) (hs:∀n∈l,Zdb n):Wlk x l:=by
 obtain⟨hw,hd⟩:=Zr3 h hlen hs
 have ha:=(Zoo h).2
 refine⟨hw,fun n hn=>?_,ZpI h,fun i hi=>?_,fun i hi hb c hc=>?_⟩
 ·obtain⟨i,hi,rfl⟩:=zay hn
  have:=(add_zero' (ha i hi)).1
  unfold Zbf at this
  simp only at this
  split at this
  ·cases this
  ·split at this
   ·cases this
   ·rename_i h2
    intro e
    rw[e]at h2
    simp at h2
 ·rw[Zm8 hi]
  exact hd _ (zaq hi)
 ·have hl:=(add_zero' (ha i hi)).2.1
  rw[Zm8 hi]at hb hc ⊢
  unfold ZeO at hl
  rw[hb,zbP,zaO]at hl
  have:=hl c hc
  rw[zax,decide_eq_true_eq,decide_eq_true_eq,za9]at this
  have hc0:0<=c.child/\c.child<i:=by
   have:=hw.down i hi
   rw[Zm8 hi]at this
   exact this hb c hc
  obtain⟨b,hbb⟩:∃b:Nat,c.child=b:=⟨c.child.toNat,by omega⟩
  have hbl:b<l.length:=by omega
  have h2:=this.2
  rw[hbb,Int.toNat_natCast,zah,za1,if_pos (by omega),zaa hbl,Option.getD_some]at h2
  rw[hbb,Zm8 hbl]
  exact h2
theorem Zqw {x:Shp} {dim size:Int}:∀{l:List Cel} {p:Option Int},ZcA x dim size p l=0->Zol size (match p with|none=>0|some k=>k+1) l
 | [],_,_=>trivial
 | c :: r,p,h=>by
  unfold ZcA at h
  split at h
  ·cases h
  ·rename_i h1
   split at h
   ·cases h
   ·rename_i h2
    split at h
    ·cases h
    ·rename_i h3
     have ih:=Zqw h
     have hc:0<=c.child:=by
      have h3:ZbQ x dim c=true:=by simpa using h3
      unfold ZbQ at h3
      split at h3
      ·rw[zax,decide_eq_true_eq]at h3;omega
      ·rw[zax,decide_eq_true_eq]at h3;exact h3.1
     refine⟨?_,by omega,hc,ih⟩
     cases p with
     | none=>show 0<=c.key;omega
     | some k =>
      unfold ZiJ at h2
      simp at h2
      show k+1<=c.key
      omega
theorem ZoP {x:Shp} {dim:Int}:∀{ls:List (List Cel)} {ss:List Int} {p:Option Nat},ls.length=ss.length->ZbH x dim p ss ls=0->∀t:Nat,Zol (ss.getD t 0) 0 (ls.getD t [])
 | [],_,_,_,_,t=>by rw[show([]:List (List Cel)).getD t []=[]from rfl];trivial
 | l :: r,[],_,h,_,_=>by simp at h
 | l :: r,s :: ss,p,hl,h,t=>by
  unfold ZbH at h
  split at h
  ·rename_i h1;exact absurd h h1
  ·rename_i h1
   split at h
   ·cases h
   ·cases t with
    | zero =>
     have h1:ZbN x dim s l=0:=zaA h1
     unfold ZbN at h1
     split at h1
     ·cases h1
     ·exact Zqw h1
    | succ t=>exact ZoP (ls:=r) (ss:=ss) (by simpa using hl) h t
theorem Zp0:∀{l:List Int} {p:Option Int},ZcZ p l=true->∀k∈l,1<=k/\k<=200
 | [],_,_,_,h=>by simp at h
 | n :: r,p,h,k,hk=>by
  unfold ZcZ at h
  simp only[zax,decide_eq_true_eq]at h
  rcases zal.1 hk with rfl|hk
  ·exact⟨h.1.1.1,h.1.1.2⟩
  ·exact Zp0 h.2 k hk
theorem Zqt {x:Shp} {l:List Nod} (h:Zm5 x l=0) (hlen:l.length<=100000) (hs:∀n∈l,Zdb n) (hi:∀n∈l,Zt7 n):Prw x l:=by
 have hk:=wlk_of h hlen hs
 have ha:=(Zoo h).2
 have hc:∀n∈l,Zbf x n=0:=fun n hn=>by
  obtain⟨i,hi,rfl⟩:=zay hn
  exact(add_zero' (ha i hi)).1
 have hp:∀n∈l,n.lists.length=(x.sizes.getD n.dim.toNat []).length/\ZbH x n.dim none (x.sizes.getD n.dim.toNat []) n.lists=0/\0<=n.all.child:=fun n hn=>by
  have:=hc n hn
  unfold Zbf at this
  simp only at this
  split at this
  ·cases this
  ·split at this
   ·cases this
   ·rename_i h2
    split at this
    ·rename_i h3;exact absurd this h3
    ·rename_i h3
     split at this
     ·cases this
     ·rename_i h4
      refine⟨zaA fun h=>h2 (.inl h),zaA h3,?_⟩
      have h4:ZbQ x n.dim n.all=true:=zaA fun h=>h4 (.inr (by simpa using h))
      unfold ZbQ at h4
      split at h4
      ·rw[zax,decide_eq_true_eq]at h4;omega
      ·rw[zax,decide_eq_true_eq]at h4;exact h4.1
 refine⟨hk,hi,fun n hn=>(hp n hn).1,fun n hn t=>ZoP (hp n hn).1 (hp n hn).2.1 t,fun n hn=>(hp n hn).2.2,fun s hs k hk'=>?_⟩
 have hm:=hk.w.may
 unfold ZbS at hm
 simp only[zax,zaO]at hm
 have:=hm.2 s hs
 unfold ZbT at this
 simp only[zax]at this
 exact Zp0 this.2 k hk'
end Go.Proofs.YtaapiigfmdhobaaGreat
