/- Texts of the walk, joined: Ek El Em Es En Eo Et Gg Gh Gi Ep. -/
import Derived.Test.YtaapiigfmdhobaaGreatN1
import Derived.Test.YtaapiigfmdhobaaGreatMy
import Derived.Test.YtaapiigfmdhobaaGreatMv
namespace Go.Proofs.YtaapiigfmdhobaaGreat
set_option linter.unusedSimpArgs false
set_option linter.unusedVariables false
open Go.RowKit
def ptW (S:Sc) (facts:List Fct) (w:List (Int×Int)):List Nat:=(List.range facts.length).filter (Za9 (Zan S) facts 0 w)
theorem Zop (S:Sc) (facts:List Fct) (w:List (Int×Int)) (q:Int×Int):ptW S facts (w++[q])=ZeD (Zan S) facts w.length (ptW S facts w) q:=by
 unfold ptW ZeD
 split
 ·rename_i h
  refine zbV fun i _=>?_
  rw[ZgG,decide_eq_true h,Bool.true_or,Bool.and_true]
 ·rename_i h
  rw[List.filter_filter]
  refine zbV fun i _=>?_
  rw[ZgG,decide_eq_false h,zbK,Bool.and_comm,zay]
  congr 1
theorem ZoY (S:Sc) (facts:List Fct) (w:List (Int×Int)):ptW S facts (w++[(-1,0)])=ptW S facts w:=by
 rw[Zop];unfold ZeD;rw[if_pos (by decide)]
def Ix (S:Sc) (facts:List Fct) (c:DSt) (w:List (Int×Int)) (i:Int):Prop:=(ptW S facts w=[]/\i = -1)∨(ptW S facts w≠[]/\∃j:Nat,i=(j:Int)/\j<c.N.length/\(c.N.getD j ZdH).dim=(w.length:Int)/\c.P.getD j []=ptW S facts w)
section
variable {S:Sc} {facts l m all:List Fct} {a b c:DSt}
theorem Ix.eq (hc:ZdW (Za3 S) (Zan S) facts c) {w w':List (Int×Int)} {i i':Int} (h:Ix S facts c w i) (h':Ix S facts c w' i') (hl:w.length=w'.length) (hp:ptW S facts w=ptW S facts w'):i=i':=by
 rcases h with⟨h1,h2⟩|⟨h1,j,h2,h3,h4,h5⟩
 ·rcases h' with⟨k1,k2⟩|⟨k1,_⟩
  ·rw[h2,k2]
  ·exact absurd (hp ▸ h1) k1
 ·rcases h' with⟨k1,k2⟩|⟨k1,j',k2,k3,k4,k5⟩
  ·exact absurd (hp.trans k1) h1
  ·have:=hc.uniq j j' h3 k3 (by rw[h4,k4,hl]) (by rw[h5,k5,hp])
   rw[h2,k2,this]
theorem Ix.inj {w w':List (Int×Int)} {i:Int} (h:Ix S facts c w i) (h':Ix S facts c w' i):ptW S facts w=ptW S facts w'/\(ptW S facts w≠[]->w.length=w'.length):=by
 rcases h with⟨h1,h2⟩|⟨h1,j,h2,h3,h4,h5⟩
 ·rcases h' with⟨k1,k2⟩|⟨k1,j',k2,_⟩
  ·exact⟨h1.trans k1.symm,fun h=>absurd h1 h⟩
  ·omega
 ·rcases h' with⟨k1,k2⟩|⟨k1,j',k2,k3,k4,k5⟩
  ·omega
  ·obtain rfl:j=j':=by omega
   exact⟨h5.symm.trans k5,fun _=>by omega⟩
def Zo6 (S:Sc) (facts:List Fct) (c:DSt) (d:Nat) (w:List (Int×Int)) (z:Cel):Prop:=(ptW S facts w=[]/\z=noC)∨(ptW S facts w≠[]/\∃b,ZiH (Zan S) facts c b d (ptW S facts w) z)
theorem Zo6.child {d:Nat} {w:List (Int×Int)} {z:Cel} (h:Zo6 S facts c d w z):0<=z.child ↔ ptW S facts w≠[]:=by
 rcases h with⟨h1,rfl⟩|⟨h1,b,h2⟩
 ·exact⟨fun h=>absurd h (by decide),fun h=>absurd h1 h⟩
 ·refine⟨fun _=>h1,fun _=>?_⟩
  unfold ZiH at h2
  split at h2
  ·rw[h2.1];exact Int.le_refl _
  ·obtain⟨_,j,h3,_⟩:=h2
   rw[h3];omega
theorem Zo6.ix {d:Nat} {w:List (Int×Int)} {z:Cel} (h:Zo6 S facts c d w z) (hd:d+1≠(Zan S).length) (hw:w.length=d+1):Ix S facts c w z.child:=by
 rcases h with⟨h1,rfl⟩|⟨h1,b,h2⟩
 ·exact .inl ⟨h1,rfl⟩
 ·unfold ZiH at h2
  rw[if_neg hd]at h2
  obtain⟨_,j,h3,_,h4,h5,h6⟩:=h2
  exact .inr ⟨h1,j,h3,h4,by rw[h5,hw],h6⟩
theorem Zo6.agg {d:Nat} {w:List (Int×Int)} {z:Cel} (h:Zo6 S facts c d w z) (hd:d+1=(Zan S).length):z.agg=(ZdJ facts ag0 (ptW S facts w)).getD ag0:=by
 rcases h with⟨h1,rfl⟩|⟨h1,b,h2⟩
 ·rw[h1];rfl
 ·unfold ZiH at h2
  rw[if_pos hd]at h2
  exact h2.2
theorem ZoT {i:Int} {j:Nat} (h:i=(j:Int)) (N:List Nod):Zm3 N i=N.getD j ZdH:=by
 unfold Zm3
 rw[if_neg (by omega),h,ZkF (by omega),Int.toNat_natCast]
theorem ZqX (hF:ZbI (Za3 S) (Zan S) facts) (hc:ZdW (Za3 S) (Zan S) facts c) {w:List (Int×Int)} {i:Int} (h:Ix S facts c w i) {t:Nat} {key:Int} (ht:t<((Zan S).getD w.length []).length) (hk:0<=key/\key<Zch (Za3 S) w.length t) :
  Zo6 S facts c w.length (w++[((t:Int),key)]) (ofC ((Zm3 c.N i).lists.getD t []) key):=by
 rcases h with⟨h1,h2⟩|⟨h1,j,h2,h3,h4,h5⟩
 ·refine .inl ⟨?_,?_⟩
  ·rw[Zop,h1];unfold ZeD;split<;>rfl
  ·have:Zm3 c.N i=nodZ:=by unfold Zm3;rw[if_pos h2]
   rw[this];rfl
 ·obtain⟨s1,s2⟩:=ZjL hF hc (q:=((t:Int),key)) h3 h4 (.inr ⟨t,rfl,ht,hk.1,hk.2⟩)
  rw[h5,← Zop]at s1 s2
  obtain⟨e,he,hn1,hn2,hn3,hn4⟩:=hc.nod j h3
  obtain rfl:e=w.length:=by rw[h4]at hn1;omega
  have hgl:(ZaC (Za3 S) (Zan S) facts w.length (c.P.getD j [])).length=((Zan S).getD w.length []).length:=by unfold ZaC;simp
  have hll:=hn4.length
  have hst:ZcB c.N j w.length ((t:Int),key)=ZmK (((c.N.getD j ZdH).lists.getD t []).find? fun c=>c.key == key):=by
   unfold ZcB Zek
   rw[if_neg (by omega),Int.toNat_natCast,if_neg (by rw[h4];simp only;omega),if_neg (by simp only;omega),if_neg (by simp only;omega)]
   rfl
  rw[hst]at s1 s2
  have hg:Zm3 c.N i=c.N.getD j ZdH:=ZoT h2 c.N
  rw[hg]
  have hof:ofC ((c.N.getD j ZdH).lists.getD t []) key=(((c.N.getD j ZdH).lists.getD t []).find? fun c=>c.key == key).getD noC:=rfl
  rw[hof]
  generalize ((c.N.getD j ZdH).lists.getD t []).find? (fun c=>c.key == key)=o at *
  by_cases hp:ptW S facts (w++[((t:Int),key)])=[]
  ·have:=s1 hp
   cases o with
   | none=>exact .inl ⟨hp,rfl⟩
   | some z=>exact absurd (congrArg Prod.snd this) (by simp[ZmK])
  ·obtain⟨s3,s4⟩:=s2 hp
   cases o with
   | none=>exact absurd s3 (by simp[ZmK])
   | some z=>exact .inr ⟨hp,j,s4⟩
theorem ix_all (hc:ZdW (Za3 S) (Zan S) facts c) {w:List (Int×Int)} {i:Int} (h:Ix S facts c w i):Zo6 S facts c w.length w (ZnV (Zm3 c.N i) i):=by
 rcases h with⟨h1,h2⟩|⟨h1,j,h2,h3,h4,h5⟩
 ·exact .inl ⟨h1,by unfold ZnV;rw[if_pos h2]⟩
 ·obtain⟨e,he,hn1,hn2,hn3,hn4⟩:=hc.nod j h3
  obtain rfl:e=w.length:=by rw[h4]at hn1;omega
  rw[h5]at hn3
  refine .inr ⟨h1,j,?_⟩
  unfold ZnV
  rw[if_neg (by omega),ZoT h2]
  exact hn3
theorem ZpZ (hc:ZdW (Za3 S) (Zan S) facts c) {w:List (Int×Int)} {i:Int} (h:Ix S facts c w i):(Zm3 c.N i).lists.length=(if ptW S facts w=[] then 0 else ((Zan S).getD w.length []).length)/\(Zm3 c.N i).dim=(if ptW S facts w=[] then 0 else (w.length:Int)):=by
 rcases h with⟨h1,h2⟩|⟨h1,j,h2,h3,h4,h5⟩
 ·have:Zm3 c.N i=nodZ:=by unfold Zm3;rw[if_pos h2]
  rw[this,if_pos h1,if_pos h1];exact⟨rfl,rfl⟩
 ·obtain⟨e,he,hn1,hn2,hn3,hn4⟩:=hc.nod j h3
  obtain rfl:e=w.length:=by rw[h4]at hn1;omega
  have hgl:(ZaC (Za3 S) (Zan S) facts w.length (c.P.getD j [])).length=((Zan S).getD w.length []).length:=by unfold ZaC;simp
  rw[ZoT h2,if_neg h1,if_neg h1,hn4.length,hgl]
  exact⟨rfl,h4⟩
end
section
variable (S:Sc) (l m all:List Fct) (a b:DSt)
structure RelM (s:MSt) (c:DSt):Prop where
 e:s.e=0
 N:s.N=c.N
 len:c.N.length=c.P.length
 lenP:s.P.length=c.P.length
 pr:∀j,j<c.N.length->∃w:List (Int×Int),(c.N.getD j ZdH).dim=(w.length:Int)/\c.P.getD j []=ptW S all w/\Ix S l a w (s.P.getD j (0,0)).1/\Ix S m b w (s.P.getD j (0,0)).2
structure AllOf:Prop where
 fl:ZbI (Za3 S) (Zan S) l
 fm:ZbI (Za3 S) (Zan S) m
 fa:ZbI (Za3 S) (Zan S) all
 dl:ZdW (Za3 S) (Zan S) l a
 dm:ZdW (Za3 S) (Zan S) m b
 part:∀w w',ptW S all w=ptW S all w' ↔ (ptW S l w=ptW S l w'/\ptW S m w=ptW S m w')
 emp:∀w,ptW S all w=[] ↔ (ptW S l w=[]/\ptW S m w=[])
 sum:∀w,ptW S all w≠[]->∃g,Zdl ((ZdJ l ag0 (ptW S l w)).getD ag0) ((ZdJ m ag0 (ptW S m w)).getD ag0)=some g/\ZdJ all ag0 (ptW S all w)=some g
end
theorem Zn6 {g:DSt->Int->List Nat->DSt×Cel} (hg:∀c k p,c.N <+: (g c k p).1.N):∀(l:List (Int×List Nat)) (c:DSt),c.N <+: (cellsD g c l).1.N
 | [],c=>zbs _
 | q :: l,c=>(hg c q.1 q.2).trans (Zn6 hg l _)
theorem Zog {g:DSt->Int->List Nat->DSt×Cel} (hg:∀c k p,c.N <+: (g c k p).1.N):∀(l:List (List (Int×List Nat))) (c:DSt),c.N <+: (ZbW g c l).1.N
 | [],c=>zbs _
 | q :: l,c=>(Zn6 hg q c).trans (Zog hg l _)
theorem Zn5 {facts:List Fct} {f:DSt->List Nat->DSt×Int} {last:Bool} (hf:last=false->∀c p,c.N <+: (f c p).1.N) (c:DSt) (k:Int) (p:List Nat):c.N <+: (Zc2 facts f last c k p).1.N:=by
 cases last with
 | true=>exact zbs _
 | false=>exact hf rfl c p
theorem Zo0 {x:Shp} {L:List (List (List Int))} {facts:List Fct}:∀(n:Nat) (c:DSt) (p:List Nat),c.N <+: (Zhq x L facts n c p).1.N
 | 0,c,p=>zbs _
 | n+1,c,p=>by
  have hc:=Zn5 (facts:=facts) (f:=Zhq x L facts n) (last:=decide (L.length - (n+1)+1=L.length)) (fun _=>Zo0 n)
  show c.N <+: (ZpU x L facts (Zhq x L facts n) (L.length - (n+1)) c p).1.N
  unfold ZpU visM
  split
  ·exact zbs _
  ·exact((Zog hc _ c).trans (hc _ 0 p)).trans (List.prefix_append _ _)
section
variable {S:Sc} {l m all:List Fct} {a b:DSt}
theorem find_law (hA:AllOf S l m all a b) {s:MSt} {c:DSt} (h:RelM S l m all a b s c) {w:List (Int×Int)} {i k:Int} (hi:Ix S l a w i) (hk:Ix S m b w k) (hne:ptW S all w≠[]):s.P.findIdx? (· == (i,k))=Ze3 w.length (ptW S all w) c.N c.P:=by
 have key:∀j,j<c.N.length->(ZgB w.length (ptW S all w) c.N c.P j=true ↔ s.P.getD j (0,0)=(i,k)):=fun j hj=>by
  obtain⟨w',h1,h2,h3,h4⟩:=h.pr j hj
  unfold ZgB
  rw[zaB,decide_eq_true_eq,decide_eq_true_eq,h1,h2]
  constructor
  ·rintro⟨q1,q2⟩
   obtain⟨p1,p2⟩:=(hA.part w' w).1 q2
   have e1:=h3.eq hA.dl hi (by omega) p1
   have e2:=h4.eq hA.dm hk (by omega) p2
   exact Prod.ext e1 e2
  ·intro q
   rw[q]at h3 h4
   obtain⟨p1,l1⟩:=h3.inj hi
   obtain⟨p2,l2⟩:=h4.inj hk
   have hp:=(hA.part w' w).2 ⟨p1,p2⟩
   refine⟨?_,hp⟩
   by_cases hz:ptW S l w'=[]
   ·have hz2:ptW S m w'≠[]:=fun hz2=>hne (by rw[← hp];exact(hA.emp w').2 ⟨hz,hz2⟩)
    rw[l2 hz2]
   ·rw[l1 hz]
 have hPN:s.P.length=c.N.length:=by rw[h.lenP,h.len]
 have hget:∀j (hj:j<s.P.length),s.P[j]=s.P.getD j (0,0):=fun j hj=>by rw[zaj,zab hj];rfl
 cases hf:Ze3 w.length (ptW S all w) c.N c.P with
 | some j =>
  unfold Ze3 at hf
  rw[List.find?_range_eq_some]at hf
  obtain⟨f1,f2,f3⟩:=hf
  have f2:j<c.N.length:=by simpa using f2
  rw[List.findIdx?_eq_some_iff_getElem]
  refine⟨by omega,?_,fun j' hj'=>?_⟩
  ·rw[hget];simpa using (key j f2).1 f1
  ·have:=f3 j' hj'
   rw[hget]
   intro hc
   have hc:s.P.getD j' (0,0)=(i,k):=by simpa using hc
   rw[(key j' (by omega)).2 hc]at this
   cases this
 | none =>
  unfold Ze3 at hf
  rw[List.find?_eq_none]at hf
  rw[List.findIdx?_eq_none_iff]
  intro q hq
  obtain⟨j,hj,rfl⟩:=zaA hq
  rw[hget]
  have:=hf j (by simp;omega)
  rw[key j (by omega)]at this
  simpa using this
def NodM (S:Sc) (l m all:List Fct) (a b:DSt) (Nf:List Nod) (d:Nat) (f:MSt->Int×Int->MSt×Int) (h:DSt->List Nat->DSt×Int):Prop :=
 ∀s c w i k,RelM S l m all a b s c->w.length=d->Ix S l a w i->Ix S m b w k->ptW S all w≠[]->(h c (ptW S all w)).1.N <+: Nf->RelM S l m all a b (f s (i,k)).1 (h c (ptW S all w)).1/\(f s (i,k)).2=(h c (ptW S all w)).2
theorem ZqL (hA:AllOf S l m all a b) {Nf:List Nod} {d:Nat} {f:MSt->Int×Int->MSt×Int} {h:DSt->List Nat->DSt×Int} (hlb:lastB (Za3 S) d=decide (d+1=(Zan S).length)) (hf:d+1≠(Zan S).length->NodM S l m all a b Nf (d+1) f h)
  {s:MSt} {c:DSt} {key:Int} {w:List (Int×Int)} {z1 z2:Cel} (hw:w.length=d+1) (h1:Zo6 S l a d w z1) (h2:Zo6 S m b d w z2) (hne:ptW S all w≠[]) (hr:RelM S l m all a b s c) (hp:(Zc2 all h (decide (d+1=(Zan S).length)) c key (ptW S all w)).1.N <+: Nf) :
  RelM S l m all a b (Znj (Za3 S) f d s key z1 z2).1 (Zc2 all h (decide (d+1=(Zan S).length)) c key (ptW S all w)).1/\(Znj (Za3 S) f d s key z1 z2).2=(Zc2 all h (decide (d+1=(Zan S).length)) c key (ptW S all w)).2:=by
 by_cases hl:d+1=(Zan S).length
 ·have e:Zc2 all h (decide (d+1=(Zan S).length)) c key (ptW S all w)=(⟨c.N,c.P,c.over || (ZdJ all ag0 (ptW S all w)).isNone⟩,⟨key,0,(ZdJ all ag0 (ptW S all w)).getD ag0⟩):=by unfold Zc2;rw[decide_eq_true hl,if_pos rfl]
  obtain⟨g,g1,g2⟩:=hA.sum w hne
  have e2:Znj (Za3 S) f d s key z1 z2=(s,⟨key,0,g⟩):=by
   unfold Znj
   rw[if_neg (by rw[hr.e];decide),hlb,decide_eq_true hl,if_pos rfl,h1.agg hl,h2.agg hl,g1]
  rw[e,e2,g2]
  exact⟨⟨hr.e,hr.N,hr.len,hr.lenP,hr.pr⟩,rfl⟩
 ·have e:Zc2 all h (decide (d+1=(Zan S).length)) c key (ptW S all w)=((h c (ptW S all w)).1,⟨key,(h c (ptW S all w)).2,ag0⟩):=by unfold Zc2;rw[decide_eq_false hl,if_neg (by simp)]
  have e2:Znj (Za3 S) f d s key z1 z2=((f s (z1.child,z2.child)).1,⟨key,(f s (z1.child,z2.child)).2,ag0⟩):=by
   unfold Znj
   rw[if_neg (by rw[hr.e];decide),hlb,decide_eq_false hl,if_neg (by simp)]
   rfl
  rw[e]at hp
  obtain⟨q1,q2⟩:=hf hl s c w z1.child z2.child hr hw (h1.ix hl hw) (h2.ix hl hw) hne hp
  rw[e,e2]
  refine⟨q1,?_⟩
  show(⟨_,_,_⟩:Cel)=⟨_,_,_⟩
  rw[q2]
def Zne (S:Sc) (all:List Fct) (w:List (Int×Int)) (t k cnt:Nat):List (Int×List Nat):=(List.range' k cnt).filterMap fun k:Nat=>if ptW S all (w++[((t:Int),(k:Int))])=[] then none else some ((k:Int),ptW S all (w++[((t:Int),(k:Int))]))
theorem grs_from (S:Sc) (all:List Fct) (w:List (Int×Int)) (t n:Nat):grs (Zdm (Zan S) all w.length t) n (ptW S all w)=Zne S all w t 0 n:=by
 unfold grs Zne
 rw[List.range_eq_range']
 congr 1
 funext k
 have e:ptW S all (w++[((t:Int),(k:Int))])=(ptW S all w).filter fun i=>decide (Zdm (Zan S) all w.length t i=(k:Int)):=by
  rw[Zop]
  unfold ZeD
  rw[if_neg (by simp only;omega),Int.toNat_natCast]
 rw[e]
theorem ZpR (hA:AllOf S l m all a b) {Nf:List Nod} {d:Nat} {f:MSt->Int×Int->MSt×Int} {h:DSt->List Nat->DSt×Int} (hlb:lastB (Za3 S) d=decide (d+1=(Zan S).length)) (hf:d+1≠(Zan S).length->NodM S l m all a b Nf (d+1) f h) (hpre:d+1≠(Zan S).length->∀c p,c.N <+: (h c p).1.N)
  {w:List (Int×Int)} (hw:w.length=d) {t:Nat} {xs ys:List Cel} {n:Nat} (hx:∀k:Nat,k<n->Zo6 S l a d (w++[((t:Int),(k:Int))]) (ofC xs k)) (hy:∀k:Nat,k<n->Zo6 S m b d (w++[((t:Int),(k:Int))]) (ofC ys k)) :
  ∀(cnt k:Nat),k+cnt=n->∀s c,RelM S l m all a b s c->(cellsD (Zc2 all h (decide (d+1=(Zan S).length))) c (Zne S all w t k cnt)).1.N <+: Nf ->
   RelM S l m all a b (Zm9 (Za3 S) f d s (ZnO (ofC xs) (ofC ys) cnt k)).1 (cellsD (Zc2 all h (decide (d+1=(Zan S).length))) c (Zne S all w t k cnt)).1/\(Zm9 (Za3 S) f d s (ZnO (ofC xs) (ofC ys) cnt k)).2=(cellsD (Zc2 all h (decide (d+1=(Zan S).length))) c (Zne S all w t k cnt)).2
 | 0,k,_,s,c,hr,_=>⟨hr,rfl⟩
 | cnt+1,k,hk,s,c,hr,hp=>by
  have ih:=ZpR hA hlb hf hpre hw hx hy cnt (k+1) (by omega)
  have hz1:=hx k (by omega)
  have hz2:=hy k (by omega)
  have hcpre:=Zn5 (facts:=all) (f:=h) (last:=decide (d+1=(Zan S).length)) (fun h=>hpre (of_decide_eq_false h))
  have hcast:((k:Int)+1)=((k+1:Nat):Int):=by omega
  by_cases hz:ptW S all (w++[((t:Int),(k:Int))])=[]
  ·have hg:Zne S all w t k (cnt+1)=Zne S all w t (k+1) cnt:=by
    unfold Zne
    rw[zbD,List.filterMap_cons_none (by rw[if_pos hz])]
   obtain⟨p1,p2⟩:=(hA.emp _).1 hz
   have hrk:ZnO (ofC xs) (ofC ys) (cnt+1) k=ZnO (ofC xs) (ofC ys) cnt ((k+1:Nat):Int):=by
    rw[ZnO,if_neg (by rw[hz1.child,hz2.child];rintro(h|h);exact h p1;exact h p2),hcast]
   rw[hg]at hp ⊢
   rw[hrk]
   exact ih s c hr hp
  ·have hg:Zne S all w t k (cnt+1)=((k:Int),ptW S all (w++[((t:Int),(k:Int))])) :: Zne S all w t (k+1) cnt:=by
    unfold Zne
    rw[zbD,List.filterMap_cons_some (by rw[if_neg hz])]
   have hor:0<=(ofC xs k).child∨0<=(ofC ys k).child:=by
    rw[hz1.child,hz2.child]
    refine zaC fun hc=>hz ((hA.emp _).2 ⟨?_,?_⟩)
    ·exact zaC fun h=>hc (.inl h)
    ·exact zaC fun h=>hc (.inr h)
   have hrk:ZnO (ofC xs) (ofC ys) (cnt+1) k=((k:Int),ofC xs k,ofC ys k) :: ZnO (ofC xs) (ofC ys) cnt ((k+1:Nat):Int):=by rw[ZnO,if_pos hor,hcast]
   rw[hg]at hp ⊢
   rw[hrk]
   have hp1:(cellsD (Zc2 all h (decide (d+1=(Zan S).length))) (Zc2 all h (decide (d+1=(Zan S).length)) c k (ptW S all (w++[((t:Int),(k:Int))]))).1 (Zne S all w t (k+1) cnt)).1.N <+: Nf:=hp
   obtain⟨q1,q2⟩:=ZqL (key:=(k:Int)) hA hlb hf (w:=w++[((t:Int),(k:Int))]) (by simp[hw]) hz1 hz2 hz hr ((Zn6 hcpre _ _).trans hp1)
   obtain⟨r1,r2⟩:=ih _ _ q1 hp1
   refine⟨r1,?_⟩
   show _ :: _=_ :: _
   rw[q2,r2]
end
theorem Zqo {S:Sc} {facts:List Fct} {c:DSt} (pa:Prw (Za3 S) c.N) {w:List (Int×Int)} {i:Int} (h:Ix S facts c w i) (t:Nat):Zol (0+(Zch (Za3 S) w.length t:Int)) 0 ((Zm3 c.N i).lists.getD t []):=by
 rcases h with⟨_,h2⟩|⟨_,j,h2,h3,h4,h5⟩
 ·have:Zm3 c.N i=nodZ:=by unfold Zm3;rw[if_pos h2]
  rw[this,show nodZ.lists.getD t []=[]from rfl]
  trivial
 ·rw[ZoT h2]
  have hm:c.N.getD j ZdH∈c.N:=by rw[zaj,zab h3];exact zam h3
  have hr:=pa.rise _ hm t
  rw[h4,Int.toNat_natCast]at hr
  have hv:0<=((Za3 S).sizes.getD w.length []).getD t 0:=by
   by_cases h1:w.length<(Za3 S).sizes.length
   ·have e1:(Za3 S).sizes.getD w.length []=(Za3 S).sizes[w.length]:=by rw[zaj,zab h1];rfl
    rw[e1]
    by_cases h2:t<((Za3 S).sizes[w.length]).length
    ·rw[zaj,zab h2]
     have:=pa.size _ (zam h1) _ (zam h2)
     simp only[Option.getD_some];omega
    ·rw[zaj,zbf (by omega)];exact Int.le_refl _
   ·rw[zaj (l:=(Za3 S).sizes),zbf (by omega)];simp
  have e:(0:Int)+(Zch (Za3 S) w.length t:Int)=((Za3 S).sizes.getD w.length []).getD t 0:=by unfold Zch;omega
  rw[e]
  exact hr
section
variable {S:Sc} {l m all:List Fct} {a b:DSt}
theorem ZoR (hA:AllOf S l m all a b) (pa:Prw (Za3 S) a.N) (pb:Prw (Za3 S) b.N) {Nf:List Nod} {d:Nat} {f:MSt->Int×Int->MSt×Int} {h:DSt->List Nat->DSt×Int} (hlb:lastB (Za3 S) d=decide (d+1=(Zan S).length)) (hf:d+1≠(Zan S).length->NodM S l m all a b Nf (d+1) f h) (hpre:d+1≠(Zan S).length->∀c p,c.N <+: (h c p).1.N)
  {w:List (Int×Int)} (hw:w.length=d) {i k:Int} (hi:Ix S l a w i) (hk:Ix S m b w k) :
  ∀(ts:List Nat),(∀t∈ts,t<((Zan S).getD d []).length)->∀s c,RelM S l m all a b s c->(ZbW (Zc2 all h (decide (d+1=(Zan S).length))) c (ts.map fun t=>grs (Zdm (Zan S) all d t) (Zch (Za3 S) d t) (ptW S all w))).1.N <+: Nf ->
   RelM S l m all a b (Zm4 (Za3 S) f d s (ts.map fun t=>Zm2 (((Zm3 a.N i).lists.getD t []).length+((Zm3 b.N k).lists.getD t []).length) ((Zm3 a.N i).lists.getD t []) ((Zm3 b.N k).lists.getD t []))).1 (ZbW (Zc2 all h (decide (d+1=(Zan S).length))) c (ts.map fun t=>grs (Zdm (Zan S) all d t) (Zch (Za3 S) d t) (ptW S all w))).1 /\
   (Zm4 (Za3 S) f d s (ts.map fun t=>Zm2 (((Zm3 a.N i).lists.getD t []).length+((Zm3 b.N k).lists.getD t []).length) ((Zm3 a.N i).lists.getD t []) ((Zm3 b.N k).lists.getD t []))).2=(ZbW (Zc2 all h (decide (d+1=(Zan S).length))) c (ts.map fun t=>grs (Zdm (Zan S) all d t) (Zch (Za3 S) d t) (ptW S all w))).2
 | [],_,s,c,hr,_=>⟨hr,rfl⟩
 | t :: ts,hts,s,c,hr,hp=>by
  have ih:=ZoR hA pa pb hlb hf hpre hw hi hk ts fun t ht=>hts t (zae _ ht)
  have ht:=hts t zah
  have hcpre:=Zn5 (facts:=all) (f:=h) (last:=decide (d+1=(Zan S).length)) (fun h=>hpre (of_decide_eq_false h))
  subst hw
  have hrk:=ZpS (Zch (Za3 S) w.length t) 0 ((Zm3 a.N i).lists.getD t []) ((Zm3 b.N k).lists.getD t []) _ (Zqo pa hi t) (Zqo pb hk t) (zaf _)
  have hx:∀j:Nat,j<Zch (Za3 S) w.length t->Zo6 S l a w.length (w++[((t:Int),(j:Int))]) (ofC ((Zm3 a.N i).lists.getD t []) j):=fun j hj=>ZqX hA.fl hA.dl hi ht ⟨by omega,by omega⟩
  have hy:∀j:Nat,j<Zch (Za3 S) w.length t->Zo6 S m b w.length (w++[((t:Int),(j:Int))]) (ofC ((Zm3 b.N k).lists.getD t []) j):=fun j hj=>ZqX hA.fm hA.dm hk ht ⟨by omega,by omega⟩
  have hL:=ZpR (t:=t) hA hlb hf hpre rfl hx hy (Zch (Za3 S) w.length t) 0 (by omega) s c hr
  rw[← grs_from]at hL
  rw[zao]at hp
  have hp1:(ZbW (Zc2 all h (decide (w.length+1=(Zan S).length))) (cellsD (Zc2 all h (decide (w.length+1=(Zan S).length))) c (grs (Zdm (Zan S) all w.length t) (Zch (Za3 S) w.length t) (ptW S all w))).1 (ts.map fun t=>grs (Zdm (Zan S) all w.length t) (Zch (Za3 S) w.length t) (ptW S all w))).1.N <+: Nf:=hp
  obtain⟨q1,q2⟩:=hL ((Zog hcpre _ _).trans hp1)
  have hrk':ZnO (ofC ((Zm3 a.N i).lists.getD t [])) (ofC ((Zm3 b.N k).lists.getD t [])) (Zch (Za3 S) w.length t) ((0:Nat):Int)=Zm2 (((Zm3 a.N i).lists.getD t []).length+((Zm3 b.N k).lists.getD t []).length) ((Zm3 a.N i).lists.getD t []) ((Zm3 b.N k).lists.getD t []):=hrk
  rw[hrk']at q1 q2
  obtain⟨r1,r2⟩:=ih _ _ q1 hp1
  rw[zao,zao]
  refine⟨r1,?_⟩
  show _ :: _=_ :: _
  rw[q2,r2]
theorem Zp5 (hA:AllOf S l m all a b) (pa:Prw (Za3 S) a.N) (pb:Prw (Za3 S) b.N) {Nf:List Nod} {most:Int} (hG:∀i (hi:i<Nf.length),ZbF (Za3 S) most (Nf.take i) Nf[i]=0) {d:Nat} {f:MSt->Int×Int->MSt×Int} {h:DSt->List Nat->DSt×Int} (hd:d<(Zan S).length) (hf:d+1≠(Zan S).length->NodM S l m all a b Nf (d+1) f h) (hpre:d+1≠(Zan S).length->∀c p,c.N <+: (h c p).1.N) :
  NodM S l m all a b Nf d (Znh (Za3 S) a.N b.N most f) (ZpU (Za3 S) (Zan S) all h d):=by
 intro s c w i k hr hw hi hk hne hp
 have hlb:lastB (Za3 S) d=decide (d+1=(Zan S).length):=by
  unfold lastB
  rw[zbc]
  simp only[beq_iff_eq,decide_eq_true_eq]
  have:=hA.fl.len
  omega
 have hfi:=find_law hA hr hi hk hne
 rw[hw]at hfi
 unfold ZpU at hp ⊢
 cases hfn:Ze3 d (ptW S all w) c.N c.P with
 | some j =>
  rw[hfn]at hfi
  have e:Znh (Za3 S) a.N b.N most f s (i,k)=(s,(j:Int)):=by unfold Znh;rw[hfi]
  rw[e]
  exact⟨hr,rfl⟩
 | none =>
  rw[hfn]at hfi hp
  have hgroups:ZaC (Za3 S) (Zan S) all d (ptW S all w)=(List.range ((Zan S).getD d []).length).map fun t=>grs (Zdm (Zan S) all d t) (Zch (Za3 S) d t) (ptW S all w):=rfl
  rw[hgroups]at hp ⊢
  have hcpre:=Zn5 (facts:=all) (f:=h) (last:=decide (d+1=(Zan S).length)) (fun h=>hpre (of_decide_eq_false h))
  obtain⟨x1,x2⟩:=ZpZ hA.dl hi
  obtain⟨y1,y2⟩:=ZpZ hA.dm hk
  rw[hw]at x1 x2 y1 y2
  have hor:ptW S l w≠[]∨ptW S m w≠[]:=zaC fun hc=>hne ((hA.emp w).2 ⟨zaC fun h=>hc (.inl h),zaC fun h=>hc (.inr h)⟩)
  have hmaxd:max (Zm3 a.N i).dim (Zm3 b.N k).dim=(d:Int):=by
   rw[x2,y2]
   rcases hor with h|h
   ·rw[if_neg h];split<;>omega
   ·rw[if_neg h];split<;>omega
  have hmaxl:max (Zm3 a.N i).lists.length (Zm3 b.N k).lists.length=((Zan S).getD d []).length:=by
   rw[x1,y1]
   rcases hor with h|h
   ·rw[if_neg h];split<;>omega
   ·rw[if_neg h];split<;>omega
  have hT:=ZoR hA pa pb hlb hf hpre hw hi hk (List.range ((Zan S).getD d []).length) (fun t ht=>by simpa using ht) s c hr
  have hx1:=ix_all hA.dl hi
  have hx2:=ix_all hA.dm hk
  have hca:Zo6 S l a d (w++[(-1,0)]) (ZnV (Zm3 a.N i) i):=by
   unfold Zo6 at hx1 ⊢;rw[ZoY,← hw];exact hx1
  have hcb:Zo6 S m b d (w++[(-1,0)]) (ZnV (Zm3 b.N k) k):=by
   unfold Zo6 at hx2 ⊢;rw[ZoY,← hw];exact hx2
  have hC:=fun s c hr hp=>ZqL (key:=0) (s:=s) (c:=c) hA hlb hf (w:=w++[(-1,0)]) (by simp[hw]) hca hcb (by rw[ZoY];exact hne) hr hp
  rw[ZoY]at hC
  have hmk:Zm7 (Zm3 a.N i) (Zm3 b.N k) ((Zan S).getD d []).length=(List.range ((Zan S).getD d []).length).map fun t=>Zm2 (((Zm3 a.N i).lists.getD t []).length+((Zm3 b.N k).lists.getD t []).length) ((Zm3 a.N i).lists.getD t []) ((Zm3 b.N k).lists.getD t []):=rfl
  rw[← hmk]at hT
  have e:Znh (Za3 S) a.N b.N most f s (i,k)=ZnQ (Za3 S) most d (i,k) (Znj (Za3 S) f d (Zm4 (Za3 S) f d s (Zm7 (Zm3 a.N i) (Zm3 b.N k) ((Zan S).getD d []).length)).1 0 (ZnV (Zm3 a.N i) i) (ZnV (Zm3 b.N k) k)) (Zm4 (Za3 S) f d s (Zm7 (Zm3 a.N i) (Zm3 b.N k) ((Zan S).getD d []).length)).2:=by
   unfold Znh ZnQ
   rw[hfi]
   simp only[hmaxd,hmaxl]
   exact if_neg (by rw[hr.e];decide)
  rw[e]
  generalize Zm4 (Za3 S) f d s (Zm7 (Zm3 a.N i) (Zm3 b.N k) ((Zan S).getD d []).length)=r at *
  generalize hU:ZbW (Zc2 all h (decide (d+1=(Zan S).length))) c ((List.range ((Zan S).getD d []).length).map fun t=>grs (Zdm (Zan S) all d t) (Zch (Za3 S) d t) (ptW S all w))=U at *
  have hC:=hC r.1 U.1
  have hBU:U.1.N <+: (Zc2 all h (decide (d+1=(Zan S).length)) U.1 0 (ptW S all w)).1.N:=hcpre _ _ _
  generalize Znj (Za3 S) f d r.1 0 (ZnV (Zm3 a.N i) i) (ZnV (Zm3 b.N k) k)=t at *
  generalize Zc2 all h (decide (d+1=(Zan S).length)) U.1 0 (ptW S all w)=B at *
  have hpB:B.1.N++[(⟨d,U.2,B.2⟩:Nod)] <+: Nf:=hp
  have hpB1:B.1.N <+: Nf:=(List.prefix_append _ _).trans hpB
  obtain⟨q1,q2⟩:=hT (hBU.trans hpB1)
  obtain⟨r1,r2⟩:=hC q1 hpB1
  have ha:ZbF (Za3 S) most B.1.N ⟨d,U.2,B.2⟩=0:=by
   obtain⟨z,hz⟩:=hpB
   have hlt:B.1.N.length<Nf.length:=by rw[← hz];simp
   have:=hG B.1.N.length hlt
   have e1:Nf.take B.1.N.length=B.1.N:=by rw[← hz,zaP,List.take_left]
   have e2:Nf[B.1.N.length]=⟨d,U.2,B.2⟩:=by
    have:Nf[B.1.N.length]?=some ⟨d,U.2,B.2⟩:=by rw[← hz];simp
    rw[zab hlt]at this
    exact zbR this
   rw[e1,e2]at this
   exact this
  have e3:ZnQ (Za3 S) most d (i,k) t r.2=(⟨B.1.N++[⟨d,U.2,B.2⟩],t.1.P++[(i,k)],0⟩,(B.1.N.length:Int)):=by
   unfold ZnQ
   rw[if_neg (by rw[r1.e];decide),r1.N,q2,r2,ha,if_neg (by decide)]
  rw[e3]
  refine⟨⟨rfl,rfl,?_,?_,fun j hj=>?_⟩,rfl⟩
  ·show(B.1.N++[_]).length=(B.1.P++[_]).length
   rw[zak,zak,r1.len];rfl
  ·show(t.1.P++[_]).length=(B.1.P++[_]).length
   rw[zak,zak,r1.lenP];rfl
  ·have hj:j<(B.1.N++[(⟨d,U.2,B.2⟩:Nod)]).length:=hj
   rw[zak,List.length_singleton]at hj
   show ∃w',((B.1.N++[(⟨d,U.2,B.2⟩:Nod)]).getD j ZdH).dim=_/\(B.1.P++[ptW S all w]).getD j []=_/\Ix S l a w' ((t.1.P++[(i,k)]).getD j (0,0)).1/\Ix S m b w' ((t.1.P++[(i,k)]).getD j (0,0)).2
   have hl1:=r1.len
   have hl2:=r1.lenP
   by_cases hjo:j<B.1.N.length
   ·rw[ZjP hjo,ZjP (by omega),ZjP (by omega)]
    exact r1.pr j hjo
   ·have hje:j=B.1.N.length:=by omega
    subst hje
    rw[Zih,hl1,Zih,← hl2,Zih]
    exact⟨w,by rw[hw],rfl,hi,hk⟩
theorem Zo9 (hA:AllOf S l m all a b) (pa:Prw (Za3 S) a.N) (pb:Prw (Za3 S) b.N) {Nf:List Nod} {most:Int} (hG:∀i (hi:i<Nf.length),ZbF (Za3 S) most (Nf.take i) Nf[i]=0):∀(n:Nat),n+1<=(Zan S).length->NodM S l m all a b Nf ((Zan S).length - (n+1)) (Zoy (Za3 S) a.N b.N most (n+1)) (Zhq (Za3 S) (Zan S) all (n+1))
 | 0,h=>by
  rw[ZnK]
  exact Zp5 (d:=(Zan S).length - 1) (f:=Zoy (Za3 S) a.N b.N most 0) (h:=Zhq (Za3 S) (Zan S) all 0) hA pa pb hG (by have:1<=(Zan S).length:=h;omega) (fun h2=>absurd (show(Zan S).length - 1+1=(Zan S).length by have:1<=(Zan S).length:=h;omega) h2) (fun _=>Zo0 0)
 | n+1,h=>by
  rw[ZnK]
  refine Zp5 (d:=(Zan S).length - (n+1+1)) (f:=Zoy (Za3 S) a.N b.N most (n+1)) (h:=Zhq (Za3 S) (Zan S) all (n+1)) hA pa pb hG (by omega) (fun _=>?_) (fun _=>Zo0 (n+1))
  have:=Zo9 hA pa pb hG n (by omega)
  rw[show(Zan S).length - (n+1+1)+1=(Zan S).length - (n+1) by omega]
  exact this
end
theorem ZnT (S:Sc) (facts:List Fct):ptW S facts []=List.range facts.length:=List.filter_eq_self.2 fun i _=>rfl
theorem ix_top {S:Sc} {facts:List Fct} (hs:scE S=0):Ix S facts (Zcn S facts) [] (((Zcn S facts).N.length:Int) - 1):=by
 by_cases h:facts=[]
 ·subst h
  exact .inl ⟨rfl,rfl⟩
 ·obtain⟨t1,t2,t3⟩:=ZmL hs h
  refine .inr ⟨by rw[ZnT];simp;exact h,(Zcn S facts).N.length - 1,by omega,by omega,t2,by rw[t3,ZnT]⟩
theorem Zqu {S:Sc} {l m all:List Fct} (hs:scE S=0) (hA:AllOf S l m all (Zcn S l) (Zcn S m)) (pa:Prw (Za3 S) (Zcn S l).N) (pb:Prw (Za3 S) (Zcn S m).N) {most:Int} (hG:∀i (hi:i<(Zcn S all).N.length),ZbF (Za3 S) most ((Zcn S all).N.take i) (Zcn S all).N[i]=0) :
  (ZoF (Za3 S) (Zcn S l).N (Zcn S m).N most).e=0/\(ZoF (Za3 S) (Zcn S l).N (Zcn S m).N most).N=(Zcn S all).N:=by
 have hLl:(Zan S).length=S.dims.length:=by unfold Zan;rw[zaa]
 have hs1:=(Zb7 hs).1
 have hxl:(Za3 S).sizes.length=(Zan S).length:=hA.fl.len.symm
 have hnil:∀facts:List Fct,(Zcn S facts).N=[] ↔ facts=[]:=fun facts=>by
  constructor
  ·intro h
   refine zaC fun hne=>?_
   have:=(ZmL hs hne).1
   rw[h]at this;simp at this
  ·rintro rfl;rfl
 have hall:=hA.emp []
 rw[ZnT,ZnT,ZnT]at hall
 have hr0:∀facts:List Fct,List.range facts.length=[] ↔ facts=[]:=fun facts=>by simp
 rw[hr0,hr0,hr0]at hall
 unfold ZoF
 by_cases hz:(Zcn S l).N=[]/\(Zcn S m).N=[]
 ·rw[if_pos hz]
  have ha:all=[]:=hall.2 ⟨(hnil l).1 hz.1,(hnil m).1 hz.2⟩
  rw[ha]
  exact⟨rfl,rfl⟩
 ·rw[if_neg hz]
  have ha:all≠[]:=fun h=>hz ⟨(hnil l).2 (hall.1 h).1,(hnil m).2 (hall.1 h).2⟩
  have hpa:ptW S all []≠[]:=by rw[ZnT];simp;exact ha
  have hd:Zcn S all=(Zhq (Za3 S) (Zan S) all (Zan S).length ⟨[],[],false⟩ (ptW S all [])).1:=by unfold Zcn;rw[if_neg ha,ZnT]
  have h0:RelM S l m all (Zcn S l) (Zcn S m) ⟨[],[],0⟩ ⟨[],[],false⟩:=⟨rfl,rfl,rfl,rfl,fun j hj=>absurd hj (zbS j)⟩
  have hN:=Zo9 (most:=most) hA pa pb hG ((Zan S).length - 1) (by omega) ⟨[],[],0⟩ ⟨[],[],false⟩ [] (((Zcn S l).N.length:Int) - 1) (((Zcn S m).N.length:Int) - 1) h0
  rw[show(Zan S).length - 1+1=(Zan S).length by omega,Nat.sub_self]at hN
  have hN:=(hN rfl (ix_top hs) (ix_top hs) hpa (by rw[← hd];exact zbs _)).1
  rw[hxl]
  rw[← hd]at hN
  exact⟨hN.e,hN.N⟩
theorem load_ofA {x:Shp} {most:Int} {N:List Nod} (hm:ZbS x=true) (hmost:most<=131072) (ha:∀i (hi:i<N.length),ZbF x most (N.take i) N[i]=0):Zm5 x N=0:=by
 have ha2:∀i (hi:i<N.length),ZbF x 131072 (N.take i) N[i]=0:=fun i hi=>by
  obtain⟨h1,h2,h3⟩:=add_zero' (ha i hi)
  unfold ZbF
  rw[if_neg (by rw[h1];decide),if_neg (by rw[h2];decide),if_neg (by omega)]
 have key:∀d k,k+d=N.length->Znc x 131072 (N.take k) (N.drop k)=0:=by
  intro d
  induction d with
  | zero=>intro k hk;rw[zbo (by omega)];rfl
  | succ d ih =>
   intro k hk
   rw[Znw x 131072 N k (by omega),if_neg (by rw[ha2 k (by omega)];decide)]
   exact ih (k+1) (by omega)
 unfold Zm5
 rw[if_neg (by rw[hm];decide)]
 exact key N.length 0 (by omega)
theorem load_w {x:Shp} {l:List Nod} (h:Zm5 x l=0) (hlen:l.length<=100000) (hs:∀n∈l,Zdb n):ArW x l/\∀n∈l,0<=n.dim/\n.dim<x.sizes.length:=by
 obtain⟨hm,ha⟩:=Zoo h
 refine⟨⟨hm,hlen,hs,fun i hi hl c hc=>?_⟩,fun n hn=>?_⟩
 ·rw[Zm8 hi]at hl hc
  obtain⟨h1,h2,_⟩:=add_zero' (ha i hi)
  unfold ZeO at h2
  rw[hl,zbK,zaX]at h2
  have h3:=h2 c hc
  simp only[zaB,decide_eq_true_eq,zbd]at h3
  exact⟨Zfu h1 hl c hc,by omega⟩
 ·obtain⟨i,hi,rfl⟩:=zaA hn
  have:=Zfw (add_zero' (ha i hi)).1
  exact⟨this.1,this.2.1⟩
theorem Zoz {x:Shp} {dim:Int}:∀(ls:List (List Cel)) (p:Option Nat) (s:List Int),ls.length=s.length->ZbH x dim p s ls=0->∀c∈ls,c≠[]
 | [],_,_,_,_=>by simp
 | l :: ls,p,[],h,_=>by simp at h
 | l :: ls,p,s :: ss,h,he=>by
  have he:(if ZbN x dim s l≠0 then ZbN x dim s l else if Zkf p l.length=true then 14 else ZbH x dim (some l.length) ss ls)=0:=by
   cases p<;>exact he
  split at he
  ·rename_i h1;exact absurd he h1
  ·rename_i h1
   split at he
   ·cases he
   ·intro c hc
    rcases zal.1 hc with rfl|hc
    ·rintro rfl
     exact h1 (by unfold ZbN;simp)
    ·exact Zoz ls _ ss (by simpa using h) he c hc
theorem lists_ne {x:Shp} {n:Nod} (h:Zbf x n=0):∀c∈n.lists,c≠[]:=by
 unfold Zbf at h
 simp only at h
 split at h
 ·cases h
 ·split at h
  ·cases h
  ·rename_i h1
   split at h
   ·rename_i h2;exact absurd h h2
   ·rename_i h2
    have h2':ZbH x n.dim none (x.sizes.getD n.dim.toNat []) n.lists=0:=by simpa using h2
    exact Zoz n.lists none _ (by omega) h2'
theorem ZpI {x:Shp} {l:List Nod} (he:Zm5 x l=0):∀n∈l,∀c∈n.lists,c≠[]:=by
 intro n hn
 obtain⟨i,hi,rfl⟩:=zaA hn
 exact lists_ne (add_zero' ((Zoo he).2 i hi)).1
theorem wlk_of {x:Shp} {l:List Nod} (h:Zm5 x l=0) (hlen:l.length<=100000) (hs:∀n∈l,Zdb n):Wlk x l:=by
 obtain⟨hw,hd⟩:=load_w h hlen hs
 have ha:=(Zoo h).2
 refine⟨hw,fun n hn=>?_,ZpI h,fun i hi=>?_,fun i hi hb c hc=>?_⟩
 ·obtain⟨i,hi,rfl⟩:=zaA hn
  have:=(add_zero' (ha i hi)).1
  unfold Zbf at this
  simp only at this
  split at this
  ·cases this
  ·split at this
   ·cases this
   ·rename_i h2
    intro e
    rw[e]at h2
    simp at h2
 ·rw[Zm8 hi]
  exact hd _ (zam hi)
 ·have hl:=(add_zero' (ha i hi)).2.1
  rw[Zm8 hi]at hb hc ⊢
  unfold ZeO at hl
  rw[hb,zbK,zaX]at hl
  have:=hl c hc
  rw[zaB,decide_eq_true_eq,decide_eq_true_eq,zbd]at this
  have hc0:0<=c.child/\c.child<i:=by
   have:=hw.down i hi
   rw[Zm8 hi]at this
   exact this hb c hc
  obtain⟨b,hbb⟩:∃b:Nat,c.child=b:=⟨c.child.toNat,by omega⟩
  have hbl:b<l.length:=by omega
  have h2:=this.2
  rw[hbb,Int.toNat_natCast,zaj,zbe,if_pos (by omega),zab hbl,Option.getD_some]at h2
  rw[hbb,Zm8 hbl]
  exact h2
theorem Zqw {x:Shp} {dim size:Int}:∀{l:List Cel} {p:Option Int},ZcA x dim size p l=0->Zol size (match p with|none=>0|some k=>k+1) l
 | [],_,_=>trivial
 | c :: r,p,h=>by
  unfold ZcA at h
  split at h
  ·cases h
  ·rename_i h1
   split at h
   ·cases h
   ·rename_i h2
    split at h
    ·cases h
    ·rename_i h3
     have ih:=Zqw h
     have hc:0<=c.child:=by
      have h3:ZbQ x dim c=true:=by simpa using h3
      unfold ZbQ at h3
      split at h3
      ·rw[zaB,decide_eq_true_eq]at h3;omega
      ·rw[zaB,decide_eq_true_eq]at h3;exact h3.1
     refine⟨?_,by omega,hc,ih⟩
     cases p with
     | none=>show 0<=c.key;omega
     | some k =>
      unfold ZiJ at h2
      simp at h2
      show k+1<=c.key
      omega
theorem ZoP {x:Shp} {dim:Int}:∀{ls:List (List Cel)} {ss:List Int} {p:Option Nat},ls.length=ss.length->ZbH x dim p ss ls=0->∀t:Nat,Zol (ss.getD t 0) 0 (ls.getD t [])
 | [],_,_,_,_,t=>by rw[show([]:List (List Cel)).getD t []=[]from rfl];trivial
 | l :: r,[],_,h,_,_=>by simp at h
 | l :: r,s :: ss,p,hl,h,t=>by
  unfold ZbH at h
  split at h
  ·rename_i h1;exact absurd h h1
  ·rename_i h1
   split at h
   ·cases h
   ·cases t with
    | zero =>
     have h1:ZbN x dim s l=0:=zaC h1
     unfold ZbN at h1
     split at h1
     ·cases h1
     ·exact Zqw h1
    | succ t=>exact ZoP (ls:=r) (ss:=ss) (by simpa using hl) h t
theorem Zp0:∀{l:List Int} {p:Option Int},ZcZ p l=true->∀k∈l,1<=k/\k<=200
 | [],_,_,_,h=>by simp at h
 | n :: r,p,h,k,hk=>by
  unfold ZcZ at h
  simp only[zaB,decide_eq_true_eq]at h
  rcases zal.1 hk with rfl|hk
  ·exact⟨h.1.1.1,h.1.1.2⟩
  ·exact Zp0 h.2 k hk
theorem Zqt {x:Shp} {l:List Nod} (h:Zm5 x l=0) (hlen:l.length<=100000) (hs:∀n∈l,Zdb n) (hi:∀n∈l,NodIn n):Prw x l:=by
 have hk:=wlk_of h hlen hs
 have ha:=(Zoo h).2
 have hc:∀n∈l,Zbf x n=0:=fun n hn=>by
  obtain⟨i,hi,rfl⟩:=zaA hn
  exact(add_zero' (ha i hi)).1
 have hp:∀n∈l,n.lists.length=(x.sizes.getD n.dim.toNat []).length/\ZbH x n.dim none (x.sizes.getD n.dim.toNat []) n.lists=0/\0<=n.all.child:=fun n hn=>by
  have:=hc n hn
  unfold Zbf at this
  simp only at this
  split at this
  ·cases this
  ·split at this
   ·cases this
   ·rename_i h2
    split at this
    ·rename_i h3;exact absurd this h3
    ·rename_i h3
     split at this
     ·cases this
     ·rename_i h4
      refine⟨zaC fun h=>h2 (.inl h),zaC h3,?_⟩
      have h4:ZbQ x n.dim n.all=true:=zaC fun h=>h4 (.inr (by simpa using h))
      unfold ZbQ at h4
      split at h4
      ·rw[zaB,decide_eq_true_eq]at h4;omega
      ·rw[zaB,decide_eq_true_eq]at h4;exact h4.1
 refine⟨hk,hi,fun n hn=>(hp n hn).1,fun n hn t=>ZoP (hp n hn).1 (hp n hn).2.1 t,fun n hn=>(hp n hn).2.2,fun s hs k hk'=>?_⟩
 have hm:=hk.w.may
 unfold ZbS at hm
 simp only[zaB,zaX]at hm
 have:=hm.2 s hs
 unfold ZbT at this
 simp only[zaB]at this
 exact Zp0 this.2 k hk'
def jt (a b:Ag):Ag:=if a.n=0 then b else if b.n=0 then a else Zem a b 3
def Gd (a:Ag):Prop:=a=ag0∨1<=a.n
theorem gd0:Gd ag0:=.inl rfl
theorem jt_l (b:Ag):jt ag0 b=b:=if_pos rfl
theorem Gd.z {a:Ag} (h:Gd a) (hz:a.n=0):a=ag0:=h.elim id fun h=>by omega
theorem jt_r {a:Ag} (h:Gd a):jt a ag0=a:=by
 unfold jt
 by_cases c:a.n=0
 ·rw[if_pos c,h.z c]
 ·rw[if_neg c];exact if_pos rfl
theorem ZnW (a b:Ag):Zem a b 3=⟨a.n+b.n,a.s0+b.s0,if b.l0<a.l0 then b.l0 else a.l0,if b.h0 > a.h0 then b.h0 else a.h0,a.s1+b.s1,if b.l1<a.l1 then b.l1 else a.l1,if b.h1 > a.h1 then b.h1 else a.h1,a.s2+b.s2,if b.l2<a.l2 then b.l2 else a.l2,if b.h2 > a.h2 then b.h2 else a.h2⟩:=by
 unfold Zem
 simp only[show(0:Nat)<3 from by decide,show(1:Nat)<3 from by decide,show(2:Nat)<3 from by decide,if_true]
theorem ZoD (a b:Int):(if b<a then b else a)=(if a<b then a else b):=by split<;>split<;>omega
theorem ZoA (a b:Int):(if b > a then b else a)=(if a > b then a else b):=by split<;>split<;>omega
theorem Zoe (a b c:Int):(if c<(if b<a then b else a) then c else (if b<a then b else a))=(if (if c<b then c else b)<a then (if c<b then c else b) else a):=by
 repeat' split
 all_goals omega
theorem Zoh (a b c:Int):(if c > (if b > a then b else a) then c else (if b > a then b else a))=(if (if c > b then c else b) > a then (if c > b then c else b) else a):=by
 repeat' split
 all_goals omega
theorem ZqZ {a b:Ag} (ha:Gd a) (hb:Gd b):Gd (jt a b):=by
 unfold jt
 split
 ·exact hb
 ·rename_i h1
  split
  ·exact ha
  ·rename_i h2
   right
   rw[ZnW]
   rcases ha with rfl|ha
   ·exact absurd rfl h1
   ·rcases hb with rfl|hb
    ·exact absurd rfl h2
    ·simp only;omega
theorem ZqU {a b:Ag} (ha:Gd a) (hb:Gd b):jt a b=jt b a:=by
 by_cases h1:a.n=0
 ·rw[ha.z h1,jt_l,jt_r hb]
 ·by_cases h2:b.n=0
  ·rw[hb.z h2,jt_l,jt_r ha]
  ·unfold jt
   rw[if_neg h1,if_neg h2,if_neg h2,if_neg h1,ZnW,ZnW]
   simp only[Ag.mk.injEq]
   exact⟨Int.add_comm _ _,Int.add_comm _ _,ZoD _ _,ZoA _ _,Int.add_comm _ _,ZoD _ _,ZoA _ _,Int.add_comm _ _,ZoD _ _,ZoA _ _⟩
theorem Znl {a b c:Ag} (ha:Gd a) (hb:Gd b) (hc:Gd c):jt (jt a b) c=jt a (jt b c):=by
 by_cases h1:a.n=0
 ·rw[ha.z h1,jt_l,jt_l]
 ·by_cases h2:b.n=0
  ·rw[hb.z h2,jt_l,jt_r ha]
  ·by_cases h3:c.n=0
   ·rw[hc.z h3,jt_r hb,jt_r (ZqZ ha hb)]
   ·have e1:jt a b=Zem a b 3:=by unfold jt;rw[if_neg h1,if_neg h2]
    have e2:jt b c=Zem b c 3:=by unfold jt;rw[if_neg h2,if_neg h3]
    have a1:1<=a.n:=ha.elim (fun h=>absurd (h ▸ rfl) h1) id
    have b1:1<=b.n:=hb.elim (fun h=>absurd (h ▸ rfl) h2) id
    have c1:1<=c.n:=hc.elim (fun h=>absurd (h ▸ rfl) h3) id
    rw[e1,e2]
    unfold jt
    rw[if_neg (by rw[ZnW];simp only;omega),if_neg h3,if_neg h1,if_neg (by rw[ZnW];simp only;omega)]
    rw[ZnW,ZnW,ZnW,ZnW]
    simp only[Ag.mk.injEq]
    exact⟨Int.add_assoc _ _ _,Int.add_assoc _ _ _,Zoe _ _ _,Zoh _ _ _,Int.add_assoc _ _ _,Zoe _ _ _,Zoh _ _ _,Int.add_assoc _ _ _,Zoe _ _ _,Zoh _ _ _⟩
theorem Zon {j k:Nat} {a b:Ag} (ha:WAg j a) (hb:WAg k b) (hjk:j+k<=2000):Zdl a b=some (jt a b):=by
 obtain⟨c,hc,_⟩:=Zkv ha hb hjk
 rw[hc]
 unfold Zdl at hc
 unfold jt
 split at hc
 ·rename_i h;rw[if_pos h];exact hc.symm
 rename_i h1
 rw[if_neg h1]
 split at hc
 ·rename_i h;rw[if_pos h];exact hc.symm
 rename_i h2
 rw[if_neg h2]
 split at hc
 ·cases hc
 split at hc
 ·cases hc
 split at hc
 ·cases hc
 split at hc
 ·cases hc
 exact hc.symm
def sumJ (l:List Ag):Ag:=l.foldr jt ag0
theorem ZpA:∀{l:List Ag},(∀a∈l,Gd a)->Gd (sumJ l)
 | [],_=>gd0
 | a :: l,h=>ZqZ (h a zah) (ZpA fun b hb=>h b (zae _ hb))
theorem ZqM {facts:List Fct} (hf:∀f∈facts,WAg 2 f.2/\Gd f.2):∀(part:List Nat) (a:Ag) (k:Nat),WAg k a->Gd a->k+2 * part.length<=2000->(∀i∈part,i<facts.length)->ZdJ facts a part=some (jt a (sumJ (part.map fun i=>(facts.getD i ([],ag0)).2)))
 | [],a,k,_,hg,_,_=>by rw[zaE];exact congrArg some (jt_r hg).symm
 | i :: r,a,k,ha,hg,hl,hp=>by
  have hi:=hp i zah
  have hgi:facts.getD i ([],ag0)=facts[i]:=by rw[zaj,zab hi];rfl
  have hfi:=hf _ (zam hi)
  simp only[List.length_cons]at hl
  have h1:=Zon ha hfi.1 (show k+2<=2000 by omega)
  obtain⟨c,h2,h3⟩:=Zkv ha hfi.1 (show k+2<=2000 by omega)
  rw[h1]at h2
  injection h2 with h2
  unfold ZdJ
  rw[hgi,h1]
  simp only
  rw[ZqM hf r _ (k+2) (h2 ▸ h3) (ZqZ hg hfi.2) (by omega) (fun j hj=>hp j (zae _ hj)),zao,hgi]
  congr 1
  show _=jt a (jt facts[i].2 (sumJ _))
  refine Znl hg hfi.2 (ZpA fun b hb=>?_)
  obtain⟨j,hj,rfl⟩:=zau.1 hb
  have hjl:=hp j (zae _ hj)
  rw[zaj,zab hjl]
  exact(hf _ (zam hjl)).2
def keyV (L:List (List (List Int))) (k:List Int) (d t:Nat):Int:=((L.getD d []).getD t []).getD (k.getD d 0).toNat 0
def Znq (L:List (List (List Int))):Nat->List (Int×Int)->List Int->Bool
 | _,[],_=>true
 | d,q :: w,k=>(decide (q.1<0) || (keyV L k d q.1.toNat == q.2))&&Znq L (d+1) w k
theorem Zob (L:List (List (List Int))) (facts:List Fct) (i:Nat):∀(w:List (Int×Int)) (d:Nat),Za9 L facts d w i=Znq L d w (facts.getD i ([],ag0)).1
 | [],_=>rfl
 | q :: w,d=>by rw[Za9,Znq,Zob L facts i w (d+1)];rfl
theorem ZqS {α:Type} (l:List α) (a:α):(List.range l.length).map (fun i=>l.getD i a)=l:=by
 refine List.ext_getElem (by simp) fun i h1 h2=>?_
 rw[zbN,List.getElem_range,zaj,zab h2];rfl
theorem Zqm (S:Sc) (facts:List Fct) (w:List (Int×Int)):(ptW S facts w).map (fun i=>facts.getD i ([],ag0))=facts.filter fun f=>Znq (Zan S) 0 w f.1:=by
 conv=>rhs;rw[← ZqS facts ([],ag0),List.filter_map]
 unfold ptW
 congr 1
 refine zbV fun i _=>?_
 exact Zob _ _ _ _ _
theorem Zpy (S:Sc) (facts:List Fct) (w w':List (Int×Int)):ptW S facts w=ptW S facts w' ↔ ∀f∈facts,Znq (Zan S) 0 w f.1=Znq (Zan S) 0 w' f.1:=by
 constructor
 ·intro h f hf
  obtain⟨i,hi,rfl⟩:=zaA hf
  have hg:facts.getD i ([],ag0)=facts[i]:=by rw[zaj,zab hi];rfl
  have h1:=Zob (Zan S) facts i w 0
  have h2:=Zob (Zan S) facts i w' 0
  rw[hg]at h1 h2
  rw[← h1,← h2,zbc]
  have hm:i∈ptW S facts w ↔ i∈ptW S facts w':=by rw[h]
  unfold ptW at hm
  simp only[zbb,zbx]at hm
  exact⟨fun q=>(hm.1 ⟨hi,q⟩).2,fun q=>(hm.2 ⟨hi,q⟩).2⟩
 ·intro h
  unfold ptW
  refine zbV fun i hi=>?_
  have hi:i<facts.length:=by simpa using hi
  have hg:facts.getD i ([],ag0)=facts[i]:=by rw[zaj,zab hi];rfl
  rw[Zob,Zob,hg]
  exact h _ (zam hi)
theorem ZpC (S:Sc) (facts:List Fct) (w:List (Int×Int)):ptW S facts w=[] ↔ ∀f∈facts,Znq (Zan S) 0 w f.1=false:=by
 have h:=Zqm S facts w
 constructor
 ·intro he f hf
  rw[he,zaE]at h
  have:=List.filter_eq_nil_iff.1 h.symm f hf
  simpa using this
 ·intro hf
  rw[List.filter_eq_nil_iff.2 fun f hm=>by rw[hf f hm];decide]at h
  exact List.map_eq_nil_iff.1 h
def Zng:Nat->List Fct->List Fct->List Fct
 | 0,_,_=>[]
 | _+1,[],m=>m
 | _+1,f :: l,[]=>f :: l
 | n+1,f :: l,g :: m=>if f.1<g.1 then f :: Zng n l (g :: m) else if g.1<f.1 then g :: Zng n (f :: l) m else (f.1,jt f.2 g.2) :: Zng n l m
theorem Zpp {f g:List Int} (h1:¬f<g) (h2:¬g<f):f=g:=by
 rcases List.le_iff_lt_or_eq.mp (List.not_lt.mp h1)with h|h
 ·exact absurd h h2
 ·exact h.symm
theorem ZpH {P:Fct->Prop} {a:Fct} {l:List Fct}:(∃f∈a :: l,P f) ↔ P a∨∃f∈l,P f:=by
 constructor
 ·rintro⟨f,hf,h⟩
  rcases zal.1 hf with rfl|hf
  ·exact .inl h
  ·exact .inr ⟨f,hf,h⟩
 ·rintro(h|⟨f,hf,h⟩)
  ·exact⟨a,zah,h⟩
  ·exact⟨f,zae _ hf,h⟩
theorem ZnN:∀(n:Nat) (l m:List Fct),l.length+m.length<=n->∀k:List Int,(∃f∈Zng n l m,f.1=k) ↔ (∃f∈l,f.1=k)∨(∃f∈m,f.1=k)
 | 0,[],[],_,k=>by simp[Zng]
 | 0,f :: l,m,h,k=>by simp at h
 | 0,[],g :: m,h,k=>by simp at h
 | n+1,[],m,_,k=>by simp[Zng]
 | n+1,f :: l,[],_,k=>by simp[Zng]
 | n+1,f :: l,g :: m,h,k=>by
  simp only[List.length_cons]at h
  rw[Zng]
  split
  ·have ih:=ZnN n l (g :: m) (by simp only[List.length_cons];omega) k
   simp only[ZpH]at ih ⊢
   rw[ih]
   constructor
   ·rintro(h|h|h)
    ·exact .inl (.inl h)
    ·exact .inl (.inr h)
    ·exact .inr h
   ·rintro((h|h)|h)
    ·exact .inl h
    ·exact .inr (.inl h)
    ·exact .inr (.inr h)
  ·split
   ·have ih:=ZnN n (f :: l) m (by simp only[List.length_cons];omega) k
    simp only[ZpH]at ih ⊢
    rw[ih]
    constructor
    ·rintro(h|h|h)
     ·exact .inr (.inl h)
     ·exact .inl h
     ·exact .inr (.inr h)
    ·rintro(h|h|h)
     ·exact .inr (.inl h)
     ·exact .inl h
     ·exact .inr (.inr h)
   ·rename_i h1 h2
    have he:=Zpp h1 h2
    have ih:=ZnN n l m (by omega) k
    simp only[ZpH]at ih ⊢
    rw[ih,he]
    constructor
    ·rintro(h|h|h)
     ·exact .inl (.inl h)
     ·exact .inl (.inr h)
     ·exact .inr (.inr h)
    ·rintro((h|h)|h|h)
     ·exact .inl h
     ·exact .inr (.inl h)
     ·exact .inl h
     ·exact .inr (.inr h)
theorem Znn {P:Fct->Prop}:∀(n:Nat) (l m:List Fct),(∀f∈l,P f)->(∀f∈m,P f)->(∀f∈l,∀g∈m,f.1=g.1->P (f.1,jt f.2 g.2))->∀f∈Zng n l m,P f
 | 0,_,_,_,_,_,f,hf=>by simp[Zng]at hf
 | _+1,[],m,_,hm,_,f,hf=>hm f hf
 | _+1,f' :: l,[],hl,_,_,f,hf=>hl f hf
 | n+1,a :: l,g :: m,hl,hm,hj,f,hf=>by
  have hl':=fun f hf=>hl f (zae _ hf)
  have hm':=fun f hf=>hm f (zae _ hf)
  rw[Zng]at hf
  split at hf
  ·rcases zal.1 hf with rfl|hf
   ·exact hl _ zah
   ·exact Znn n l (g :: m) hl' hm (fun f hf=>hj f (zae _ hf)) f hf
  ·split at hf
   ·rcases zal.1 hf with rfl|hf
    ·exact hm _ zah
    ·exact Znn n (a :: l) m hl hm' (fun f hf g hg=>hj f hf g (zae _ hg)) f hf
   ·rename_i h1 h2
    rcases zal.1 hf with rfl|hf
    ·exact hj _ zah _ zah (Zpp h1 h2)
    ·exact Znn n l m hl' hm' (fun f hf g hg=>hj f (zae _ hf) g (zae _ hg)) f hf
def Zqk (p:List Int->Bool) (l:List Fct):Ag:=sumJ ((l.filter fun f=>p f.1).map (·.2))
theorem Zni (p:List Int->Bool) (f:Fct) (l:List Fct):Zqk p (f :: l)=if p f.1=true then jt f.2 (Zqk p l) else Zqk p l:=by
 unfold Zqk
 rw[List.filter_cons]
 split
 ·rw[zao];rfl
 ·rfl
theorem ZnU {p:List Int->Bool} {l:List Fct} (h:∀f∈l,Gd f.2):Gd (Zqk p l):=ZpA fun a ha=>by
 obtain⟨f,hf,rfl⟩:=zau.1 ha
 exact h f (zbb.1 hf).1
theorem Zor (p:List Int->Bool):∀(n:Nat) (l m:List Fct),l.length+m.length<=n->(∀f∈l,Gd f.2)->(∀f∈m,Gd f.2)->Zqk p (Zng n l m)=jt (Zqk p l) (Zqk p m)
 | 0,[],[],_,_,_=>(jt_l _).symm
 | 0,f :: l,m,h,_,_=>by simp at h
 | 0,[],g :: m,h,_,_=>by simp at h
 | n+1,[],m,_,_,_=>(jt_l _).symm
 | n+1,f :: l,[],_,hl,_=>(jt_r (ZnU hl)).symm
 | n+1,f :: l,g :: m,h,hl,hm=>by
  simp only[List.length_cons]at h
  have hl':=fun f hf=>hl f (zae _ hf)
  have hm':=fun f hf=>hm f (zae _ hf)
  have gf:=hl f zah
  have gg:=hm g zah
  have sl:=ZnU (p:=p) hl'
  have sm:=ZnU (p:=p) hm'
  rw[Zng]
  split
  ·rw[Zni,Zor p n l (g :: m) (by simp only[List.length_cons];omega) hl' hm,Zni p f l]
   split
   ·exact(Znl gf sl (ZnU hm)).symm
   ·rfl
  ·split
   ·rw[Zni,Zor p n (f :: l) m (by simp only[List.length_cons];omega) hl hm',Zni p g m]
    split
    ·rw[← Znl gg (ZnU hl) sm,ZqU gg (ZnU hl),Znl (ZnU hl) gg sm]
    ·rfl
   ·rename_i h1 h2
    have he:=Zpp h1 h2
    rw[Zni,Zor p n l m (by omega) hl' hm',Zni p f l,Zni p g m,← he]
    simp only
    split
    ·rw[Znl gf gg (ZqZ sl sm),Znl gf sl (ZqZ gg sm),← Znl gg sl sm,ZqU gg sl,Znl sl gg sm]
    ·rfl
abbrev Zom (l:List Fct):Prop:=l.Pairwise fun a b=>a.1<b.1
theorem cmp_lt {a b:List Int}:cmpL a b≥0 ↔ ¬a<b:=by
 have h:=Zjt a b
 by_cases c:a<b
 ·rw[decide_eq_true c]at h
  have h:decide (cmpL a b≥0)=false:=by simpa using h.symm
  exact⟨fun q=>absurd q (of_decide_eq_false h),fun q=>absurd c q⟩
 ·rw[decide_eq_false c]at h
  have h:decide (cmpL a b≥0)=true:=by simpa using h.symm
  exact⟨fun _=>c,fun _=>of_decide_eq_true h⟩
theorem ZnY {x:Shp}:∀{l:List Fct} {w:Option Fct},Zd7 x w l=0->Zom l/\∀q,w=some q->∀f∈l,q.1<f.1
 | [],w,_=>⟨List.Pairwise.nil,fun _ _ f hf=>by cases hf⟩
 | f :: r,w,h=>by
  rw[Zf5]at h
  split at h
  ·rename_i h1;exact absurd h h1
  ·split at h
   ·omega
   ·rename_i h1 h2
    obtain⟨i1,i2⟩:=ZnY h
    refine⟨zba.2 ⟨i2 f rfl,i1⟩,fun q hq g hg=>?_⟩
    subst hq
    have h3:q.1<f.1:=by
     refine zaC fun hn=>h2 ?_
     exact decide_eq_true (cmp_lt.2 hn)
    rcases zal.1 hg with rfl|hg
    ·exact h3
    ·exact List.lt_trans h3 (i2 f rfl g hg)
theorem row_of {x:Shp}:∀{l:List Fct} {w:Option Fct},(∀f∈l,Zb8 x f=0)->Zom l->(∀q,w=some q->∀f∈l,q.1<f.1)->Zd7 x w l=0
 | [],w,_,_,_=>by cases w<;>rfl
 | f :: r,w,h1,h2,h3=>by
  obtain⟨r1,r2⟩:=zba.1 h2
  have hg:geF w f=false:=by
   cases w with
   | none=>rfl
   | some q=>exact decide_eq_false fun hc=>(cmp_lt.1 hc) (h3 q rfl f zah)
  rw[Zf5,if_neg (fun hc=>hc (h1 f zah)),if_neg (by rw[hg];decide)]
  exact row_of (fun g hg=>h1 g (zae _ hg)) r2 fun q hq g hg=>by injection hq with hq;subst hq;exact r1 g hg
theorem Zn3:∀(n:Nat) (l m:List Fct),(Zng n l m).length<=l.length+m.length
 | 0,_,_=>by simp[Zng]
 | _+1,[],m=>by simp[Zng]
 | _+1,f :: l,[]=>by simp[Zng]
 | n+1,f :: l,g :: m=>by
  rw[Zng]
  have h1:=Zn3 n l (g :: m)
  have h2:=Zn3 n (f :: l) m
  have h3:=Zn3 n l m
  simp only[List.length_cons]at h1 h2 ⊢
  split
  ·simp only[List.length_cons];omega
  ·split
   ·simp only[List.length_cons];omega
   ·simp only[List.length_cons];omega
theorem Zn2:∀(n:Nat) (l m:List Fct),Zom l->Zom m->Zom (Zng n l m)
 | 0,_,_,_,_=>List.Pairwise.nil
 | _+1,[],m,_,hm=>hm
 | _+1,f :: l,[],hl,_=>hl
 | n+1,f :: l,g :: m,hl,hm=>by
  obtain⟨l1,l2⟩:=zba.1 hl
  obtain⟨m1,m2⟩:=zba.1 hm
  rw[Zng]
  split
  ·rename_i h
   refine zba.2 ⟨Znn (P:=fun x=>f.1<x.1) n l (g :: m) l1 (fun x hx=>?_) fun a ha _ _ _=>l1 a ha,Zn2 n l (g :: m) l2 hm⟩
   rcases zal.1 hx with rfl|hx
   ·exact h
   ·exact List.lt_trans h (m1 x hx)
  ·split
   ·rename_i h
    have hx:∀x∈f :: l,g.1<x.1:=fun x hx=>by
     rcases zal.1 hx with rfl|hx
     ·exact h
     ·exact List.lt_trans h (l1 x hx)
    exact zba.2 ⟨Znn (P:=fun x=>g.1<x.1) n (f :: l) m hx m1 fun a ha _ _ _=>hx a ha,Zn2 n (f :: l) m hl m2⟩
   ·rename_i h1 h2
    have he:=Zpp h1 h2
    exact zba.2 ⟨Znn (P:=fun x=>f.1<x.1) n l m l1 (fun x hx=>he ▸ m1 x hx) fun a ha _ _ _=>l1 a ha,Zn2 n l m l2 m2⟩
theorem gd_of {x:Shp} {f:Fct} (h:Zb8 x f=0):Gd f.2:=by
 have h:=(Zcp h).2.2
 unfold Zbw at h
 simp only[zaB,decide_eq_true_eq]at h
 exact .inr h.1.1.1.2
theorem Zpl {x:Shp} {f g:Fct} (hf:Zb8 x f=0) (hg:Zb8 x g=0) (wf:WAg 1 f.2) (wg:WAg 1 g.2):Zb8 x (f.1,jt f.2 g.2)=0/\WAg 2 (jt f.2 g.2):=by
 have hj:=Zon wf wg (show 1+1<=2000 by decide)
 obtain⟨c,h1,h2⟩:=Zkv wf wg (show 1+1<=2000 by decide)
 rw[hj]at h1
 injection h1 with h1
 obtain⟨k1,k2,k3⟩:=Zcp hf
 have hm:=ZlJ k3 (Zcp hg).2.2 hj
 refine⟨?_,h1 ▸ h2⟩
 unfold Zb8
 rw[if_neg (fun h=>h k1),if_neg (fun h=>h k2),if_neg (by rw[hm];decide)]
theorem WAg.inn {a:Ag} (h:WAg 2 a):Zho a:=by
 obtain⟨h0,h1,h2,h3,h4⟩:=h
 exact⟨by unfold In64;omega,by unfold In64;omega,by unfold In64;omega,by unfold In64;omega⟩
theorem Zof {facts:List Fct} (hf:∀f∈facts,WAg 2 f.2):∀(part:List Nat) (a:Ag) (k:Nat),WAg k a->k+2 * part.length<=2000->(∀i∈part,i<facts.length)->∃b,ZdJ facts a part=some b/\WAg (k+2 * part.length) b
 | [],a,k,ha,_,_=>⟨a,rfl,ha⟩
 | i :: r,a,k,ha,hl,hp=>by
  have hi:=hp i zah
  have hg:facts.getD i ([],ag0)=facts[i]:=by rw[zaj,zab hi];rfl
  simp only[List.length_cons]at hl
  obtain⟨c,h1,h2⟩:=Zkv ha (hf _ (zam hi)) (by omega)
  obtain⟨b,h3,h4⟩:=Zof hf r c (k+2) h2 (by omega) fun j hj=>hp j (zae _ hj)
  refine⟨b,?_,h4.more (by simp only[List.length_cons];omega)⟩
  unfold ZdJ
  rw[hg,h1]
  exact h3
theorem Zn9 {S:Sc} {facts:List Fct} (hs:scE S=0) (hl:facts.length<=500) (hw:∀f∈facts,WAg 2 f.2):ZdW (Za3 S) (Zan S) facts (Zcn S facts)/\(Zcn S facts).over=false:=by
 have hLl:(Zan S).length=S.dims.length:=by unfold Zan;rw[zaa]
 have hs1:=(Zb7 hs).1
 unfold Zcn
 split
 ·exact⟨Zf8,rfl⟩
 ·rename_i hne
  have hp:=Zhu hne
  have h1:=Zls (x:=Za3 S) (L:=Zan S) (facts:=facts) ((Zan S).length - 1) (by omega) ⟨[],[],false⟩ _ hp Zf8
  rw[show(Zan S).length - 1+1=(Zan S).length by omega]at h1
  refine⟨h1.1,Zit (fun p hp=>?_) _ _ _ hp.ok⟩
  obtain⟨b,hb,_⟩:=Zof hw p ag0 0 wag0 (by have:=hp.2.1;omega) hp.2.2
  rw[hb];rfl
theorem ptW_in {S:Sc} {facts:List Fct} {w:List (Int×Int)}:(ptW S facts w).length<=facts.length/\∀i∈ptW S facts w,i<facts.length:=by
 unfold ptW
 exact⟨zaQ (List.length_filter_le _ _) (by simp),fun i hi=>by simpa using (zbb.1 hi).1⟩
theorem ZqJ {S:Sc} {facts:List Fct} {w:List (Int×Int)} (hf:∀f∈facts,WAg 2 f.2/\Gd f.2) (hl:facts.length<=500):ZdJ facts ag0 (ptW S facts w)=some (Zqk (Znq (Zan S) 0 w) facts)/\WAg (2 * facts.length) (Zqk (Znq (Zan S) 0 w) facts):=by
 obtain⟨h1,h2⟩:=ptW_in (S:=S) (facts:=facts) (w:=w)
 have h3:ZdJ facts ag0 (ptW S facts w)=some (Zqk (Znq (Zan S) 0 w) facts):=by
  rw[ZqM hf _ ag0 0 wag0 gd0 (by omega) h2,jt_l]
  unfold Zqk
  rw[← Zqm,zbA]
  rfl
 obtain⟨b,h4,h5⟩:=Zof (fun f h=>(hf f h).1) (ptW S facts w) ag0 0 wag0 (by omega) h2
 rw[h3]at h4
 injection h4 with h4
 exact⟨h3,h4 ▸ h5.more (by omega)⟩
structure MrgOk (S:Sc) (l m all:List Fct):Prop where
 law:AllOf S l m all (Zcn S l) (Zcn S m)
 row:Zd7 (Za3 S) none all=0
 inn:∀f∈all,Zho f.2
 wide:∀f∈all,WAg 2 f.2
 over:(Zcn S all).over=false
 doc:ZdW (Za3 S) (Zan S) all (Zcn S all)
theorem mrg_ok {S:Sc} {l m:List Fct} {n:Nat} (hs:scE S=0) (hl:Zd7 (Za3 S) none l=0) (hm:Zd7 (Za3 S) none m=0) (wl:∀f∈l,WAg 1 f.2) (wm:∀f∈m,WAg 1 f.2) (ll:l.length<=200) (lm:m.length<=200) (hn:l.length+m.length<=n):MrgOk S l m (Zng n l m):=by
 have fl:=Zcu hl
 have fm:=Zcu hm
 have w2l:∀f∈l,WAg 2 f.2:=fun f h=>(wl f h).more (by decide)
 have w2m:∀f∈m,WAg 2 f.2:=fun f h=>(wm f h).more (by decide)
 have gl:∀f∈l,Gd f.2:=fun f h=>gd_of (fl f h)
 have gm:∀f∈m,Gd f.2:=fun f h=>gd_of (fm f h)
 have fa:∀f∈Zng n l m,Zb8 (Za3 S) f=0:=Znn n l m fl fm fun f hf g hg _=>(Zpl (fl f hf) (fm g hg) (wl f hf) (wm g hg)).1
 have wa:∀f∈Zng n l m,WAg 2 f.2:=Znn n l m w2l w2m fun f hf g hg _=>(Zpl (fl f hf) (fm g hg) (wl f hf) (wm g hg)).2
 have ha:Zd7 (Za3 S) none (Zng n l m)=0:=row_of fa (Zn2 n l m (ZnY hl).1 (ZnY hm).1) fun q hq=>by cases hq
 have la:=Zn3 n l m
 have key:∀P:List Int->Prop,(∀f∈Zng n l m,P f.1) ↔ (∀f∈l,P f.1)/\∀f∈m,P f.1:=fun P=>by
  constructor
  ·intro h
   refine⟨fun f hf=>?_,fun f hf=>?_⟩
   ·obtain⟨g,hg,he⟩:=(ZnN n l m hn f.1).2 (.inl ⟨f,hf,rfl⟩)
    exact he ▸ h g hg
   ·obtain⟨g,hg,he⟩:=(ZnN n l m hn f.1).2 (.inr ⟨f,hf,rfl⟩)
    exact he ▸ h g hg
  ·rintro⟨h1,h2⟩ f hf
   rcases (ZnN n l m hn f.1).1 ⟨f,hf,rfl⟩with⟨g,hg,he⟩|⟨g,hg,he⟩
   ·exact he ▸ h1 g hg
   ·exact he ▸ h2 g hg
 have ia:∀f∈Zng n l m,Zho f.2:=fun f h=>(wa f h).inn
 obtain⟨d1,d2⟩:=Zn9 hs (by omega) wa
 refine⟨⟨ZdS hs hl (by omega) fun f h=>(w2l f h).inn,ZdS hs hm (by omega) fun f h=>(w2m f h).inn,ZdS hs ha (by omega) ia,(Zn9 hs (by omega) w2l).1,(Zn9 hs (by omega) w2m).1,fun w w'=>?_,fun w=>?_,fun w _=>?_⟩,ha,ia,wa,d2,d1⟩
 ·rw[Zpy,Zpy,Zpy]
  exact key fun k=>Znq (Zan S) 0 w k=Znq (Zan S) 0 w' k
 ·rw[ZpC,ZpC,ZpC]
  exact key fun k=>Znq (Zan S) 0 w k=false
 ·obtain⟨s1,v1⟩:=ZqJ (S:=S) (w:=w) (fun f h=>⟨w2l f h,gl f h⟩) (by omega)
  obtain⟨s2,v2⟩:=ZqJ (S:=S) (w:=w) (fun f h=>⟨w2m f h,gm f h⟩) (by omega)
  obtain⟨s3,v3⟩:=ZqJ (S:=S) (w:=w) (fun f h=>⟨wa f h,gd_of (fa f h)⟩) (by omega)
  rw[s1,s2,s3,Zor _ n l m hn gl gm]
  exact⟨_,Zon v1 v2 (by omega),rfl⟩
theorem Zov {α β:Type} {R:α->β->Prop}:∀{l:List α} {m:List β},ZeK R l m->∀a∈l,∃b∈m,R a b
 | _,_,.nil,a,h=>by cases h
 | _,_,.cons h t,a,ha=>by
  rcases zal.1 ha with rfl|ha
  ·exact⟨_,zah,h⟩
  ·obtain⟨b,hb,hr⟩:=Zov t a ha
   exact⟨b,zae _ hb,hr⟩
theorem grs_keys {key:Nat->Int} {n:Nat} {p:List Nat} {g:Int×List Nat} (hg:g∈grs key n p):0<=g.1/\g.1<n:=by
 unfold grs at hg
 obtain⟨k,hk0,hk⟩:=zbu.1 hg
 have:=zbx.1 hk0
 split at hk
 ·cases hk
 ·injection hk with hk
  subst hk
  simp only
  omega
section
variable {x:Shp} {L:List (List (List Int))} {facts:List Fct} {c:DSt}
theorem ZqF {b d:Nat} {p:List Nat} {z:Cel} (h:ZiH L facts c b d p z) (ha:∀f∈facts,Zho f.2) (hl:c.N.length<=1000000) (hk:0<=z.key/\z.key<=1000000):CelIn z:=by
 have hz:In64 z.key:=by unfold In64;omega
 unfold ZiH at h
 split at h
 ·obtain⟨h1,h2⟩:=h
  refine⟨hz,by rw[h1];decide,?_⟩
  rw[h2]
  cases hs:ZdJ facts ag0 p with
  | none=>exact Zpn
  | some g=>exact Zqz ha Zpn hs
 ·obtain⟨h1,j,h2,_,h4,_⟩:=h
  exact⟨hz,by rw[h2];unfold In64;omega,by rw[h1];exact Zpn⟩
theorem doc_in (hF:ZbI x L facts) (hD:ZdW x L facts c) (hl:c.N.length<=1000000):∀n∈c.N,NodIn n:=fun n hn=>by
 obtain⟨i,hi,rfl⟩:=zaA hn
 obtain⟨d,hd,h1,h2,h3,h4⟩:=hD.nod i hi
 rw[show c.N.getD i ZdH=c.N[i] by rw[zaj,zab hi];rfl]at h1 h2 h3 h4
 refine⟨fun t ht z hz=>?_,ZqF h3 hF.ag hl (by rw[h2];omega)⟩
 obtain⟨gs,hgs,hr⟩:=Zov h4 t ht
 obtain⟨g,hg,hk,hc⟩:=Zov hr z hz
 unfold ZaC at hgs
 obtain⟨k,_,rfl⟩:=zau.1 hgs
 have:=grs_keys hg
 have hsz:=hF.size d k
 exact ZqF hc hF.ag hl (by rw[hk];omega)
end
theorem Zqn {S:Sc} {most:Int} {facts:List Fct} (h:Zet S most facts=0) (ha:∀f∈facts,Zho f.2):ZbS (Za3 S)=true/\most<=131072/\Grown (Za3 S) most (Ze6 S most facts):=by
 unfold Zet at h
 split at h
 ·rename_i h1;exact absurd h h1
 rename_i h1
 split at h
 ·rename_i h2;exact absurd h h2
 rename_i h2
 split at h
 ·omega
 rename_i h3
 split at h
 ·omega
 rename_i h4
 have h4:newE (Za3 S) most=0:=zaW.1 h4
 have hm:ZbS (Za3 S)=true/\0<=most/\most<=131072:=by
  unfold newE at h4
  split at h4
  ·assumption
  ·omega
 refine⟨hm.1,hm.2.2,?_⟩
 split at h
 ·rename_i h5
  have e:Ze6 S most facts=[]:=by unfold Ze6;rw[if_pos h5]
  rw[e]
  exact⟨fun i hi=>by simp at hi,fun n hn=>by simp at hn⟩
 ·rename_i h5
  have e:Ze6 S most facts=(Zfa S most facts).N:=by unfold Ze6;rw[if_neg h5]
  rw[e]
  have hF:=ZdS (zaW.1 h1) (zaW.1 h2) (by omega) ha
  exact Zfj hF _ (zaf _) _ _ ⟨fun i hi=>by simp at hi,fun n hn=>by simp at hn⟩
theorem ZnR {S:Sc} {most:Int} {facts:List Fct} (hF:ZbI (Za3 S) (Zan S) facts) (h:Zet S most facts=0) (hL:Ze6 S most facts=(Zcn S facts).N) (hD:ZdW (Za3 S) (Zan S) facts (Zcn S facts)) (hlen:(Zcn S facts).N.length<=100000) :
  Prw (Za3 S) (Zcn S facts).N/\∀i (hi:i<(Zcn S facts).N.length),ZbF (Za3 S) most ((Zcn S facts).N.take i) (Zcn S facts).N[i]=0:=by
 obtain⟨h1,h2,h3⟩:=Zqn h hF.ag
 rw[hL]at h3
 exact⟨Zqt (load_ofA h1 h2 h3.1) hlen h3.2 (doc_in hF hD (by omega)),h3.1⟩
theorem ZpL {S:Sc} {l m all:List Fct} {ml mm ma:Int} (hs:scE S=0) (hM:MrgOk S l m all) (el:Zet S ml l=0) (em:Zet S mm m=0) (ea:Zet S ma all=0)
  (bl:Ze6 S ml l=(Zcn S l).N) (bm:Ze6 S mm m=(Zcn S m).N) (ba:Ze6 S ma all=(Zcn S all).N) (nl:(Zcn S l).N.length<=100000) (nm:(Zcn S m).N.length<=100000) (na:(Zcn S all).N.length<=100000) :
  (ZoF (Za3 S) (Zcn S l).N (Zcn S m).N ma).e=0/\(ZoF (Za3 S) (Zcn S l).N (Zcn S m).N ma).N=(Zcn S all).N:=by
 have pl:=ZnR hM.law.fl el bl hM.law.dl nl
 have pm:=ZnR hM.law.fm em bm hM.law.dm nm
 have pa:=ZnR hM.law.fa ea ba hM.doc na
 exact Zqu hs hM.law pl.1 pm.1 pa.2
def ZoG (f:Fct) (out:List Fct):Nat->Nat
 | 0=>0
 | n+1=>match out[n]? with
  | some g=>if f.1<g.1 then ZoG f out n else n+1
  | none=>n+1
def ZoH (out:List Fct) (f:Fct):List Fct:=out.take (ZoG f out out.length)++f :: out.drop (ZoG f out out.length)
def Znr (l:List Fct):List Fct:=l.foldl ZoH []
theorem ZqK (f:Fct) (out:List Fct):∀n,ZoG f out n<=n
 | 0=>zaf _
 | n+1=>by
  rw[ZoG]
  split
  ·split
   ·exact Nat.le_succ_of_le (ZqK f out n)
   ·exact zaf _
  ·exact zaf _
theorem posF_end {f:Fct} {out:List Fct} (h:∀g∈out,g.1<f.1):ZoG f out out.length=out.length:=by
 cases hn:out.length with
 | zero=>rfl
 | succ n =>
  have hlt:n<out.length:=by omega
  rw[ZoG,zab hlt]
  have:=h _ (zam hlt)
  simp only
  rw[if_neg (fun h2=>List.lt_asymm this h2)]
theorem insF_end {f:Fct} {out:List Fct} (h:∀g∈out,g.1<f.1):ZoH out f=out++[f]:=by
 rw[ZoH,posF_end h,zaN,zaT]
theorem Zn7:∀{l out:List Fct},Zom (out++l)->l.foldl ZoH out=out++l
 | [],out,_=>by simp
 | f :: l,out,h=>by
  have hf:∀g∈out,g.1<f.1:=fun g hg=>(List.pairwise_append.1 h).2.2 g hg f (by simp)
  rw[List.foldl_cons,insF_end hf,Zn7 (out:=out++[f]) (by simpa using h)]
  simp
theorem Zqh {l:List Fct} (h:Zom l):Znr l=l:=by rw[Znr,Zn7 (out:=[]) (by simpa using h)];simp
theorem insF_mem {f:Fct} {out:List Fct} (x:Fct):x∈ZoH out f ↔ x=f∨x∈out:=by
 rw[ZoH,zaz,zal]
 constructor
 ·rintro(h|h|h)
  ·exact .inr (za8 h)
  ·exact .inl h
  ·exact .inr (zbl h)
 ·rintro(h|h)
  ·exact .inr (.inl h)
  ·rw[← List.take_append_drop (ZoG f out out.length) out,zaz]at h
   rcases h with h|h
   ·exact .inl h
   ·exact .inr (.inr h)
theorem ZpN (f:Fct) (out:List Fct):(ZoH out f).length=out.length+1:=by
 have hle:=ZqK f out out.length
 rw[ZoH,zak,List.length_cons,zbd,List.length_drop];omega
theorem Zod {l:List Fct} {k:Nat} (h:k<l.length):Znr (l.take (k+1))=ZoH (Znr (l.take k)) l[k]:=by
 rw[zaq h,Znr,zbU];rfl
theorem ZoB (l:List Fct):∀k,k<=l.length->(Znr (l.take k)).length=k
 | 0,_=>by simp[Znr]
 | k+1,h=>by rw[Zod (by omega),ZpN,ZoB l k (by omega)]
theorem insF_sub {f:Fct} {out:List Fct} {P:Fct->Prop} (hf:P f) (h:∀g∈out,P g):∀g∈ZoH out f,P g:=fun g hg=>by
 rcases (insF_mem g).1 hg with rfl|hg
 ·exact hf
 ·exact h g hg
theorem ZoC {l:List Fct} {P:Fct->Prop} (h:∀g∈l,P g):∀k,k<=l.length->∀g∈Znr (l.take k),P g
 | 0,_=>by simp[Znr]
 | k+1,hk=>by
  rw[Zod (by omega)]
  exact insF_sub (h _ (zam _)) (ZoC h k (by omega))
theorem rF_take (l:List Fct) (k:Nat):rF (l.take k)=(rF l).take k:=List.map_take
theorem rF_drop (l:List Fct) (k:Nat):rF (l.drop k)=(rF l).drop k:=List.map_drop
theorem HX.thnO {O:List (Nat×Zb3)} {H H1 G:Zaa} (h:HX O H H1) (k:HX [] H1 G):HX O H G :=
 ⟨zaQ h.n k.n,fun p hp=>by
  have:=h.o p hp
  rw[k.get _ (Zaa.lt this)];exact this,fun i hi hn=>by rw[k.get _ (zbk hi h.n)];exact h.g i hi hn⟩
theorem lens19 {r q o:Nat} (h:r=q) (ho:o<=1000000) (hq:q<o):r+1<=maxLen/\(r+1) * 104<=140737488355328/\r+1+1<=maxLen/\(r+1+1) * 104<=140737488355328/\r+1+1+(o - (q+1))<=maxLen/\(r+1+1+(o - (q+1))) * 104<=140737488355328:=by
 unfold maxLen
 refine⟨?_,?_,?_,?_,?_,?_⟩<;>omega
@[simp] theorem sortF_nil:Znr []=[]:=rfl
set_option maxHeartbeats 4000000 in
theorem Zpa (t:Tok) (l:List Fct) (H:Zaa) (hl:l.length<=1000000) (hk:∀f∈l,f.1.length<=1000000):Zay Tryz.prog 31 [.sl t (rF l)] H (Pure H (.sl .no (rF (Znr l)))):=by
 refine Zak hE cf31 (zac rfl) fun Q qr qn=>?_
 ((have hd:=tv;repeat' first|(first|apply Zad|apply Zac|apply Zab)<;>intro hd<;>try simp only[hd]|simp(disch:=first|assumption|omega|simp only[nx]<;>omega|fail)only[hd,qr,qn,ZoW,↓YA,YY,sevalprocAttr,zaa])<;>try revert hd;refine ttr ?_)
 refine Zbs [8,9] (σ:=Tok) (fun(k:Nat) s=>True) (fun k s=>[(3,.sl s (rF (Znr (l.take k))))]) (fun k s=>[]) Tok.full (GStep.refl _ _) (by simp only[ZaA,Zav,Fr.put,Fr.get,↓reduceIte,Nat.reduceEqDiff];rfl) (by intro k s;rfl) (by intro k s;rfl) (by rfl) (by unfold maxLen;omega) ?_ (by simp only[ZaF,ZaX,Fr.put,Fr.get,↓reduceIte,Nat.reduceEqDiff,and_self]<;>simp) (by simp only[ZaJ]) ?_ ?_
 ·trivial
 ·(rintro k s G hk1 ht hG hn1;try simp only[nx]at hn1)
  have hlen:=ZoB l k (by omega)
  have hsub:=ZoC hk k (by omega)
  have hkf:=hk _ (zam hk1)
  have hnx:=Zod hk1
  generalize Znr (l.take k)=out at *
  have e1:(ZcI l[k]).length=11:=rfl
  have hlf:ZaE 11 [ZcI l[k]]=true:=rfl
  have e2:(ZcI l[k]).take 11=ZcI l[k]:=rfl
  generalize hfk:l[k]=f at *
  ((have hd:=tv;repeat' first|(first|apply Zad|apply Zac|apply Zab)<;>intro hd<;>try simp only[hd]|simp(disch:=first|assumption|omega|simp only[nx]<;>omega|fail)only[hd,qr,qn,ZoW,↓YA,YY,sevalprocAttr,hfk,e1,e2,hk1,zaa])<;>try revert hd;refine ttr ?_)
  have g1:(G.alloc (.cells (ZcI f) 88)).get G.next=some (.cells (ZcI f) 88):=Zaa.Zae
  have hG1:HX [] H (G.alloc (.cells (ZcI f) 88)):=hG.alloc
  have l1:G.next<(G.alloc (.cells (ZcI f) 88)).next:=Zaa.lt g1
  generalize G.next=n1 at *
  generalize G.alloc (.cells (ZcI f) 88)=G1 at *
  refine Zcw [3,5,8,9,10] (σ:=Nat) (fun s=>s<=out.length/\ZoG f out out.length=ZoG f out s) (fun s=>s) (fun s=>[(6,.i (s:Int))]) (fun s=>[]) out.length (GStep.refl _ _) (by simp only[ZaA,Zav,Fr.put,Fr.get,↓reduceIte,Nat.reduceEqDiff];rfl) ?_ (by simp only[ZaF,ZaX,Fr.put,Fr.get,↓reduceIte,Nat.reduceEqDiff,and_self]<;>simp) (by simp only[ZaJ]) ?_
  ·exact⟨zaf _,rfl⟩
  ·(rintro p G2 ⟨hp1,hp2⟩ hG2 hn2;try simp only[nx]at hn2)
   have g2:G2.get n1=_:=(hG2.get _ l1).trans g1
   have hx2:=hG2.ext
   cases p with
   | zero =>
    have d1:decide (((0:Nat):Int) > 0)=false:=rfl
    have h0:(0:Int)<=((0:Nat):Int):=Int.le_refl _
    have hs0:(0<=0/\0<=out.length/\out.length<=out.length/\((0:Nat)=0∨ZaE 11 (rF out)=true)):=⟨zaf _,zaG _,zaf _,.inl rfl⟩
    have hal:=Znt out
    have htk:List.take out.length (rF out)=rF out:=zaL (by simp)
    have m3:(1:Nat)<=maxLen:=by unfold maxLen;omega
    have m4:(104:Nat)<=140737488355328:=by omega
    have m5:(1+out.length:Nat)<=maxLen:=by unfold maxLen;omega
    have m6:(1+out.length) * 104<=140737488355328:=by omega
    have a0:(ZaE 11 []=true/\0<=maxLen/\0<=140737488355328/\ZaE 11 []=true):=⟨rfl,zaG _,zaG _,rfl⟩
    ((have hd:=tv;repeat' first|(first|apply Zad|apply Zac|apply Zab)<;>intro hd<;>try simp only[hd]|simp(disch:=first|assumption|omega|simp only[nx]<;>omega|fail)only[hd,qr,qn,ZoW,↓YA,YY,sevalprocAttr,g2,d1,e1,e2,Zdi,Zhj,if_pos h0,Int.toNat_natCast,if_pos hs0,zaU,List.take_zero,htk,hal,ZaL,List.length_nil,zaG,true_and,and_true,or_true,if_true,Zgy,hlf,m3,m4,m5,m6])<;>try revert hd;refine ttr ?_)
    have hpz:ZoG f out out.length=0:=hp2
    exact⟨.own G2.next,congrArg (AV.sl _) (show ZcI f :: rF out=rF (Znr (l.take (k+1))) by rw[hnx,ZoH,hpz];rfl),hG1.thnO hG2.alloc⟩
   | succ q =>
    have d1:decide (((q+1:Nat):Int) > 0)=true:=by simp
    have h0:(0:Int)<=((q+1:Nat):Int):=by omega
    have hs0:(0<=q+1/\q+1<=out.length/\out.length<=out.length/\((0:Nat)=0∨ZaE 11 (rF out)=true)):=⟨zaG _,hp1,zaf _,.inl rfl⟩
    have hq:q<out.length:=by omega
    have hal:=Znt out
    have htk:List.take out.length (rF out)=rF out:=zaL (by simp)
    have d2:((q+1:Nat):Int) - 1=(q:Int):=by omega
    have h1:(0:Int)<=(q:Int):=by omega
    have f1:(ZcI out[q]).length=11:=rfl
    have f2:(ZcI out[q]).take 11=ZcI out[q]:=rfl
    have hL:=fun H=>Zjw f out[q] H hkf (hsub _ (zam hq))
    obtain⟨r,rs,hA⟩:∃r rs,List.take (q+1) (rF out)=r :: rs:=by
     cases hc:rF out with
     | nil=>exact absurd (congrArg List.length hc) (by rw[zaa];simp only[List.length_nil];omega)
     | cons r rs=>exact⟨r,rs.take q,rfl⟩
    have hlA:ZaE 11 (r :: rs)=true:=by
     have:=Znt (out.take (q+1))
     rw[rF_take,hA]at this;exact this
    have hlr:rs.length=q:=by
     have:=congrArg List.length hA
     rw[zbd,zaa,List.length_cons]at this;omega
    have hd1:ZaE 11 (List.drop (q+1) (rF out))=true:=by
     have:=Znt (out.drop (q+1))
     rw[rF_drop]at this;exact this
    have hall:ZaE 11 (r :: (rs++[ZcI f]))=true:=by
     rw[← List.cons_append,ZaE,List.all_append]
     rw[ZaE]at hlA;rw[hlA];rfl
    obtain⟨m1,m2,m3,m4,m5,m6⟩:=lens19 (r:=rs.length) (q:=q) (o:=out.length) hlr (by omega) hq
    by_cases c:f.1<out[q].1
    ·simp only[decide_eq_true c]at hL
     ((have hd:=tv;repeat' first|(first|apply Zad|apply Zac|apply Zab)<;>intro hd<;>try simp only[hd]|simp(disch:=first|assumption|omega|simp only[nx]<;>omega|fail)only[hd,qr,qn,ZoW,↓YA,YY,sevalprocAttr,g2,d1,e1,e2,zaa,d2,h1,hq,f1,f2])<;>try revert hd;refine ttr ?_)
     (refine Zap.use (hL _) ?_;rintro _ _ ⟨rfl,k1,rfl⟩)
     ((have hd:=tv;repeat' first|(first|apply Zad|apply Zac|apply Zab)<;>intro hd<;>try simp only[hd]|simp(disch:=first|assumption|omega|simp only[nx]<;>omega|fail)only[hd,qr,qn,ZoW,↓YA,YY,sevalprocAttr])<;>try revert hd;refine ttr ?_)
     refine⟨q,⟨by omega,hp2.trans ?_⟩,by omega,AV_i d2,by exact HXT⟩
     rw[ZoG,zab hq]
     exact if_pos c
    ·simp only[decide_eq_false c]at hL
     ((have hd:=tv;repeat' first|(first|apply Zad|apply Zac|apply Zab)<;>intro hd<;>try simp only[hd]|simp(disch:=first|assumption|omega|simp only[nx]<;>omega|fail)only[hd,qr,qn,ZoW,↓YA,YY,sevalprocAttr,g2,d1,e1,e2,zaa,d2,h1,hq,f1,f2])<;>try revert hd;refine ttr ?_)
     (refine Zap.use (hL _) ?_;rintro _ _ ⟨rfl,k1,rfl⟩)
     ((have hd:=tv;repeat' first|(first|apply Zad|apply Zac|apply Zab)<;>intro hd<;>try simp only[hd]|simp(disch:=first|assumption|omega|simp only[nx]<;>omega|fail)only[hd,qr,qn,ZoW,↓YA,YY,sevalprocAttr,Zdi,g2,e1,e2,Zhj,if_pos h0,Int.toNat_natCast,if_pos hs0,zaU,htk,hal,ZaL,List.length_nil,hp1,or_true,true_and,and_true,if_true,hA,hlA,m1,m2,m3,m4,m5,m6,hd1,hlf,Zgy,hall,zak,List.length_drop,zaa,List.length_cons])<;>try revert hd;refine ttr ?_)
     refine⟨.own (G2.next+k1),congrArg (AV.sl _) ?_,hG1.thnO hG2.bump.alloc⟩
     have hpz:ZoG f out out.length=q+1:=by
      rw[hp2,ZoG,zab hq];exact if_neg c
     rw[hnx,ZoH,hpz]
     simp only[rF,za9,zao,List.map_take,List.map_drop]at hA ⊢
     rw[hA];simp
 ·(rintro s G ht hG hn1;try simp only[nx]at hn1)
  rw[zaN]at *
  ((have hd:=tv;repeat' first|(first|apply Zad|apply Zac|apply Zab)<;>intro hd<;>try simp only[hd]|simp(disch:=first|assumption|omega|simp only[nx]<;>omega|fail)only[hd,qr,qn,ZoW,↓YA,YY,sevalprocAttr])<;>try revert hd;refine ttr ?_)
  refine Zcm (by rfl)
def ZpE (out:List Fct) (f:Fct):Option (List Fct):=match out.getLast? with
 | none=>some (out++[f])
 | some q=>if q.1<f.1∨f.1<q.1 then some (out++[f]) else match Zdl q.2 f.2 with
  | none=>none
  | some a=>some (out.dropLast++[(f.1,a)])
def ZnG:List Fct->List Fct->Option (List Fct)
 | out,[]=>some out
 | out,f :: r=>match ZpE out f with
  | none=>none
  | some o=>ZnG o r
theorem ZnF {out:List Fct} {f:Fct} (h:∀q,out.getLast?=some q->q.1<f.1):ZpE out f=some (out++[f]):=by
 unfold ZpE
 cases hq:out.getLast? with
 | none=>rfl
 | some q=>simp only;rw[if_pos (.inl (h q hq))]
theorem ZnA {out:List Fct} {f q:Fct} (h:(out++[f]).getLast?=some q):q=f:=by
 rw[List.getLast?_concat]at h
 injection h with h;exact h.symm
theorem Zoa:∀{l out:List Fct},Zom l->(∀q,out.getLast?=some q->∀f∈l,q.1<f.1)->ZnG out l=some (out++l)
 | [],out,_,_=>by rw[ZnG,zaw]
 | f :: l,out,h,hq=>by
  obtain⟨h1,h2⟩:=zba.1 h
  rw[ZnG,ZnF fun q hl=>hq q hl f zah]
  simp only
  rw[Zoa h2 fun q hl g hg=>(ZnA hl) ▸ h1 g hg,zaP]
  all_goals rfl
theorem Zot (f:Fct) (out:List Fct) (n:Nat):ZoG f out (n+1)=match out[n]? with
  | some g=>if f.1<g.1 then ZoG f out n else n+1
  | none=>n+1:=by
 rw[ZoG]<;>(cases out[n]?<;>rfl)
theorem Zpm (a f:Fct) (out:List Fct) (h:¬f.1<a.1):∀n,ZoG f (a :: out) (n+1)=ZoG f out n+1
 | 0=>by
  rw[Zot f (a :: out) 0,List.getElem?_cons_zero]
  simp only
  rw[if_neg h];rfl
 | n+1=>by
  rw[Zot f (a :: out) (n+1),List.getElem?_cons_succ,Zot f out n]
  cases hc:out[n]? with
  | none=>rfl
  | some g =>
   simp only
   split
   ·exact Zpm a f out h n
   ·rfl
theorem Zqy {a f:Fct} {out:List Fct} (h:¬f.1<a.1):ZoH (a :: out) f=a :: ZoH out f:=by
 unfold ZoH
 rw[List.length_cons,Zpm a f out h,List.take_succ_cons,zaO]
 rfl
theorem Zpg {f:Fct} {out:List Fct} (h:∀g∈out,f.1<g.1):∀n,n<=out.length->ZoG f out n=0
 | 0,_=>rfl
 | n+1,hn=>by
  rw[ZoG,zab (by omega)]
  simp only
  rw[if_pos (h _ (zam _))]
  exact Zpg h n (by omega)
theorem Zph {f:Fct} {out:List Fct} (h:∀g∈out,f.1<g.1):ZoH out f=f :: out:=by
 unfold ZoH
 rw[Zpg h _ (zaf _)]
 rfl
theorem ZnL {a:Fct}:∀{m out:List Fct},(∀f∈m,¬f.1<a.1)->m.foldl ZoH (a :: out)=a :: m.foldl ZoH out
 | [],_,_=>rfl
 | f :: m,out,h=>by
  rw[List.foldl_cons,List.foldl_cons,Zqy (h f zah)]
  exact ZnL fun g hg=>h g (zae _ hg)
theorem Zoq:∀(n:Nat) (l m out:List Fct),l.length+m.length<=n->Zom l->Zom m->(∀q,out.getLast?=some q->(∀f∈l,q.1<f.1)/\∀f∈m,q.1<f.1)->(∀f∈l,WAg 1 f.2)->(∀f∈m,WAg 1 f.2)->ZnG out (m.foldl ZoH l)=some (out++Zng n l m)
 | 0,[],[],out,_,_,_,_,_,_=>by simp[ZnG,Zng]
 | 0,f :: l,m,_,h,_,_,_,_,_=>by simp at h
 | 0,[],g :: m,_,h,_,_,_,_,_=>by simp at h
 | n+1,[],m,out,_,_,hm,ho,_,_=>by
  rw[Zn7 (out:=[]) (by simpa using hm),List.nil_append,Zng]
  exact Zoa hm fun q hq=>(ho q hq).2
 | n+1,f :: l,[],out,_,hl,_,ho,_,_=>by
  rw[List.foldl_nil,Zng]
  exact Zoa hl fun q hq=>(ho q hq).1
 | n+1,f :: l,g :: m,out,h,hl,hm,ho,wl,wm=>by
  obtain⟨l1,l2⟩:=zba.1 hl
  obtain⟨m1,m2⟩:=zba.1 hm
  simp only[List.length_cons]at h
  rw[Zng]
  by_cases c:g.1<f.1
  ·have hx:∀x∈f :: l,g.1<x.1:=fun x hx=>by
    rcases zal.1 hx with rfl|hx
    ·exact c
    ·exact List.lt_trans c (l1 x hx)
   rw[if_neg (List.lt_asymm c),if_pos c,List.foldl_cons,Zph hx,ZnL fun x hx=>List.lt_asymm (m1 x hx),ZnG,ZnF fun q hq=>(ho q hq).2 g zah]
   simp only
   rw[Zoq n (f :: l) m (out++[g]) (by simp only[List.length_cons];omega) hl m2 (fun q hq=>(ZnA hq) ▸ ⟨hx,m1⟩) wl fun x hx=>wm x (zae _ hx),zaP]
   rfl
  ·have hge:∀x∈g :: m,¬x.1<f.1:=fun x hx h2=>by
    rcases zal.1 hx with rfl|hx
    ·exact c h2
    ·exact c (List.lt_trans (m1 x hx) h2)
   rw[ZnL hge,ZnG,ZnF fun q hq=>(ho q hq).1 f zah]
   simp only
   by_cases d:f.1<g.1
   ·rw[if_pos d]
    have hx:∀x∈g :: m,f.1<x.1:=fun x hx=>by
     rcases zal.1 hx with rfl|hx
     ·exact d
     ·exact List.lt_trans d (m1 x hx)
    rw[Zoq n l (g :: m) (out++[f]) (by simp only[List.length_cons];omega) l2 hm (fun q hq=>(ZnA hq) ▸ ⟨l1,hx⟩) (fun x hx=>wl x (zae _ hx)) wm,zaP]
    rfl
   ·rw[if_neg d,if_neg c]
    have he:=Zpp d c
    have hx:∀x∈l,g.1<x.1:=fun x hx=>he ▸ l1 x hx
    have hj:=Zon (wl f zah) (wm g zah) (show 1+1<=2000 by decide)
    have hs:ZpE (out++[f]) g=some (out++[(f.1,jt f.2 g.2)]):=by
     unfold ZpE
     rw[List.getLast?_concat]
     simp only
     rw[if_neg (fun h=>h.elim d c),hj,List.dropLast_concat,he]
    rw[List.foldl_cons,Zph hx,ZnL fun x hx=>List.lt_asymm (m1 x hx),ZnG,hs]
    simp only
    rw[Zoq n l m (out++[(f.1,jt f.2 g.2)]) (by omega) l2 m2 (fun q hq=>(ZnA hq) ▸ ⟨l1,fun x hx=>he ▸ m1 x hx⟩) (fun x hx=>wl x (zae _ hx)) (fun x hx=>wm x (zae _ hx)),zaP]
    rfl
theorem Zqx {l m:List Fct} (hl:Zom l) (hm:Zom m) (wl:∀f∈l,WAg 1 f.2) (wm:∀f∈m,WAg 1 f.2):ZnG [] (Znr (l++m))=some (Zng (l.length+m.length) l m):=by
 have h:=Zqh hl
 unfold Znr at h ⊢
 rw[zbU,h,Zoq _ l m [] (zaf _) hl hm (fun q hq=>by simp at hq) wl wm,List.nil_append]
end Go.Proofs.YtaapiigfmdhobaaGreat
