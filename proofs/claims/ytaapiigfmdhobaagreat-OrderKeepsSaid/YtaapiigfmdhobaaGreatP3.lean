/- Texts of the walk. -/
import Derived.Test.YtaapiigfmdhobaaGreatN1
import Derived.Test.YtaapiigfmdhobaaGreatMw
import Derived.Test.YtaapiigfmdhobaaGreatP2
import Derived.Test.YtaapiigfmdhobaaGreatMi
namespace Go.Proofs.YtaapiigfmdhobaaGreat
set_option linter.unusedSimpArgs false
set_option linter.unusedVariables false
open Go.RowKit
def ptW (S:Sc) (facts:List Fct) (w:List (Int×Int)):List Nat:=(List.range facts.length).filter (Za9 (Zan S) facts 0 w)
theorem Zop (S:Sc) (facts:List Fct) (w:List (Int×Int)) (q:Int×Int):ptW S facts (w++[q])=ZeD (Zan S) facts w.length (ptW S facts w) q:=by
 unfold ptW ZeD
 split
 ·rename_i h
  refine zb6 fun i _=>?_
  rw[ZgG,decide_eq_true h,Bool.true_or,Bool.and_true]
 ·rename_i h
  rw[List.filter_filter]
  refine zb6 fun i _=>?_
  rw[ZgG,decide_eq_false h,zbL,Bool.and_comm,zaz]
  congr 1
theorem ZoY (S:Sc) (facts:List Fct) (w:List (Int×Int)):ptW S facts (w++[(-1,0)])=ptW S facts w:=by
 rw[Zop];unfold ZeD;rw[if_pos (by decide)]
def Ix (S:Sc) (facts:List Fct) (c:DSt) (w:List (Int×Int)) (i:Int):Prop:=(ptW S facts w=[]/\i = -1)\/(ptW S facts w≠[]/\∃j:Nat,i=(j:Int)/\j<c.N.length/\(c.N.getD j ZdH).dim=(w.length:Int)/\c.P.getD j []=ptW S facts w)
section
variable {S:Sc} {facts l m all:List Fct} {a b c:DSt}
theorem Ix.eq (hc:ZdW (Za3 S) (Zan S) facts c) {w w':List (Int×Int)} {i i':Int} (h:Ix S facts c w i) (h':Ix S facts c w' i') (hl:w.length=w'.length) (hp:ptW S facts w=ptW S facts w'):i=i':=by
 rcases h with⟨h1,h2⟩|⟨h1,j,h2,h3,h4,h5⟩
 ·rcases h' with⟨k1,k2⟩|⟨k1,_⟩
  ·rw[h2,k2]
  ·exact absurd (hp ▸ h1) k1
 ·rcases h' with⟨k1,k2⟩|⟨k1,j',k2,k3,k4,k5⟩
  ·exact absurd (hp.trans k1) h1
  ·have:=hc.uniq j j' h3 k3 (by rw[h4,k4,hl]) (by rw[h5,k5,hp])
   rw[h2,k2,this]
theorem Ix.inj {w w':List (Int×Int)} {i:Int} (h:Ix S facts c w i) (h':Ix S facts c w' i):ptW S facts w=ptW S facts w'/\(ptW S facts w≠[]->w.length=w'.length):=by
 rcases h with⟨h1,h2⟩|⟨h1,j,h2,h3,h4,h5⟩
 ·rcases h' with⟨k1,k2⟩|⟨k1,j',k2,_⟩
  ·exact⟨h1.trans k1.symm,fun h=>absurd h1 h⟩
  ·omega
 ·rcases h' with⟨k1,k2⟩|⟨k1,j',k2,k3,k4,k5⟩
  ·omega
  ·obtain rfl:j=j':=by omega
   exact⟨h5.symm.trans k5,fun _=>by omega⟩
def Zo6 (S:Sc) (facts:List Fct) (c:DSt) (d:Nat) (w:List (Int×Int)) (z:Cel):Prop:=(ptW S facts w=[]/\z=noC)\/(ptW S facts w≠[]/\∃b,ZiH (Zan S) facts c b d (ptW S facts w) z)
theorem Zo6.child {d:Nat} {w:List (Int×Int)} {z:Cel} (h:Zo6 S facts c d w z):0<=z.child ↔ ptW S facts w≠[]:=by
 rcases h with⟨h1,rfl⟩|⟨h1,b,h2⟩
 ·exact⟨fun h=>absurd h (by decide),fun h=>absurd h1 h⟩
 ·refine⟨fun _=>h1,fun _=>?_⟩
  unfold ZiH at h2
  split at h2
  ·rw[h2.1];exact zcA _
  ·obtain⟨_,j,h3,_⟩:=h2
   rw[h3];omega
theorem Zo6.ix {d:Nat} {w:List (Int×Int)} {z:Cel} (h:Zo6 S facts c d w z) (hd:d+1≠(Zan S).length) (hw:w.length=d+1):Ix S facts c w z.child:=by
 rcases h with⟨h1,rfl⟩|⟨h1,b,h2⟩
 ·exact .inl ⟨h1,rfl⟩
 ·unfold ZiH at h2
  rw[if_neg hd]at h2
  obtain⟨_,j,h3,_,h4,h5,h6⟩:=h2
  exact .inr ⟨h1,j,h3,h4,by rw[h5,hw],h6⟩
theorem Zo6.agg {d:Nat} {w:List (Int×Int)} {z:Cel} (h:Zo6 S facts c d w z) (hd:d+1=(Zan S).length):z.agg=(ZdJ facts ag0 (ptW S facts w)).getD ag0:=by
 rcases h with⟨h1,rfl⟩|⟨h1,b,h2⟩
 ·rw[h1];rfl
 ·unfold ZiH at h2
  rw[if_pos hd]at h2
  exact h2.2
theorem ZoT {i:Int} {j:Nat} (h:i=(j:Int)) (N:List Nod):Zm3 N i=N.getD j ZdH:=by
 unfold Zm3
 rw[if_neg (by omega),h,ZkF (by omega),Int.toNat_natCast]
theorem ZqX (hF:ZbI (Za3 S) (Zan S) facts) (hc:ZdW (Za3 S) (Zan S) facts c) {w:List (Int×Int)} {i:Int} (h:Ix S facts c w i) {t:Nat} {key:Int} (ht:t<((Zan S).getD w.length []).length) (hk:0<=key/\key<Zch (Za3 S) w.length t) :
  Zo6 S facts c w.length (w++[((t:Int),key)]) (ofC ((Zm3 c.N i).lists.getD t []) key):=by
 rcases h with⟨h1,h2⟩|⟨h1,j,h2,h3,h4,h5⟩
 ·refine .inl ⟨?_,?_⟩
  ·rw[Zop,h1];unfold ZeD;split<;>rfl
  ·have:Zm3 c.N i=nodZ:=by unfold Zm3;rw[if_pos h2]
   rw[this];rfl
 ·obtain⟨s1,s2⟩:=ZjL hF hc (q:=((t:Int),key)) h3 h4 (.inr ⟨t,rfl,ht,hk.1,hk.2⟩)
  rw[h5,<- Zop]at s1 s2
  obtain⟨e,he,hn1,hn2,hn3,hn4⟩:=hc.nod j h3
  obtain rfl:e=w.length:=by rw[h4]at hn1;omega
  have hgl:(ZaC (Za3 S) (Zan S) facts w.length (c.P.getD j [])).length=((Zan S).getD w.length []).length:=by unfold ZaC;simp
  have hll:=hn4.length
  have hst:ZcB c.N j w.length ((t:Int),key)=ZmK (((c.N.getD j ZdH).lists.getD t []).find? fun c=>c.key == key):=by
   unfold ZcB Zek
   rw[if_neg (by omega),Int.toNat_natCast,if_neg (by rw[h4];simp only;omega),if_neg (by simp only;omega),if_neg (by simp only;omega)]
   rfl
  rw[hst]at s1 s2
  have hg:Zm3 c.N i=c.N.getD j ZdH:=ZoT h2 c.N
  rw[hg]
  have hof:ofC ((c.N.getD j ZdH).lists.getD t []) key=(((c.N.getD j ZdH).lists.getD t []).find? fun c=>c.key == key).getD noC:=rfl
  rw[hof]
  generalize ((c.N.getD j ZdH).lists.getD t []).find? (fun c=>c.key == key)=o at *
  by_cases hp:ptW S facts (w++[((t:Int),key)])=[]
  ·have:=s1 hp
   cases o with
   | none=>exact .inl ⟨hp,rfl⟩
   | some z=>exact absurd (congrArg Prod.snd this) (by simp[ZmK])
  ·obtain⟨s3,s4⟩:=s2 hp
   cases o with
   | none=>exact absurd s3 (by simp[ZmK])
   | some z=>exact .inr ⟨hp,j,s4⟩
theorem ix_all (hc:ZdW (Za3 S) (Zan S) facts c) {w:List (Int×Int)} {i:Int} (h:Ix S facts c w i):Zo6 S facts c w.length w (ZnV (Zm3 c.N i) i):=by
 rcases h with⟨h1,h2⟩|⟨h1,j,h2,h3,h4,h5⟩
 ·exact .inl ⟨h1,by unfold ZnV;rw[if_pos h2]⟩
 ·obtain⟨e,he,hn1,hn2,hn3,hn4⟩:=hc.nod j h3
  obtain rfl:e=w.length:=by rw[h4]at hn1;omega
  rw[h5]at hn3
  refine .inr ⟨h1,j,?_⟩
  unfold ZnV
  rw[if_neg (by omega),ZoT h2]
  exact hn3
theorem ZpZ (hc:ZdW (Za3 S) (Zan S) facts c) {w:List (Int×Int)} {i:Int} (h:Ix S facts c w i):(Zm3 c.N i).lists.length=(if ptW S facts w=[] then 0 else ((Zan S).getD w.length []).length)/\(Zm3 c.N i).dim=(if ptW S facts w=[] then 0 else (w.length:Int)):=by
 rcases h with⟨h1,h2⟩|⟨h1,j,h2,h3,h4,h5⟩
 ·have:Zm3 c.N i=nodZ:=by unfold Zm3;rw[if_pos h2]
  rw[this,if_pos h1,if_pos h1];exact⟨rfl,rfl⟩
 ·obtain⟨e,he,hn1,hn2,hn3,hn4⟩:=hc.nod j h3
  obtain rfl:e=w.length:=by rw[h4]at hn1;omega
  have hgl:(ZaC (Za3 S) (Zan S) facts w.length (c.P.getD j [])).length=((Zan S).getD w.length []).length:=by unfold ZaC;simp
  rw[ZoT h2,if_neg h1,if_neg h1,hn4.length,hgl]
  exact⟨rfl,h4⟩
end
section
variable (S:Sc) (l m all:List Fct) (a b:DSt)
structure RelM (s:MSt) (c:DSt):Prop where
 e:s.e=0
 N:s.N=c.N
 len:c.N.length=c.P.length
 lenP:s.P.length=c.P.length
 pr:∀j,j<c.N.length->∃w:List (Int×Int),(c.N.getD j ZdH).dim=(w.length:Int)/\c.P.getD j []=ptW S all w/\Ix S l a w (s.P.getD j (0,0)).1/\Ix S m b w (s.P.getD j (0,0)).2
structure AllOf:Prop where
 fl:ZbI (Za3 S) (Zan S) l
 fm:ZbI (Za3 S) (Zan S) m
 fa:ZbI (Za3 S) (Zan S) all
 dl:ZdW (Za3 S) (Zan S) l a
 dm:ZdW (Za3 S) (Zan S) m b
 part:∀w w',ptW S all w=ptW S all w' ↔ (ptW S l w=ptW S l w'/\ptW S m w=ptW S m w')
 emp:∀w,ptW S all w=[] ↔ (ptW S l w=[]/\ptW S m w=[])
 sum:∀w,ptW S all w≠[]->∃g,Zdl ((ZdJ l ag0 (ptW S l w)).getD ag0) ((ZdJ m ag0 (ptW S m w)).getD ag0)=some g/\ZdJ all ag0 (ptW S all w)=some g
end
theorem Zn6 {g:DSt->Int->List Nat->DSt×Cel} (hg:∀c k p,c.N <+: (g c k p).1.N):∀(l:List (Int×List Nat)) (c:DSt),c.N <+: (cellsD g c l).1.N
 | [],c=>zbt _
 | q :: l,c=>(hg c q.1 q.2).trans (Zn6 hg l _)
theorem Zog {g:DSt->Int->List Nat->DSt×Cel} (hg:∀c k p,c.N <+: (g c k p).1.N):∀(l:List (List (Int×List Nat))) (c:DSt),c.N <+: (ZbW g c l).1.N
 | [],c=>zbt _
 | q :: l,c=>(Zn6 hg q c).trans (Zog hg l _)
theorem Zn5 {facts:List Fct} {f:DSt->List Nat->DSt×Int} {last:Bool} (hf:last=false->∀c p,c.N <+: (f c p).1.N) (c:DSt) (k:Int) (p:List Nat):c.N <+: (Zc2 facts f last c k p).1.N:=by
 cases last with
 | true=>exact zbt _
 | false=>exact hf rfl c p
theorem Zo0 {x:Shp} {L:List (List (List Int))} {facts:List Fct}:∀(n:Nat) (c:DSt) (p:List Nat),c.N <+: (Zhq x L facts n c p).1.N
 | 0,c,p=>zbt _
 | n+1,c,p=>by
  have hc:=Zn5 (facts:=facts) (f:=Zhq x L facts n) (last:=decide (L.length - (n+1)+1=L.length)) (fun _=>Zo0 n)
  show c.N <+: (ZpU x L facts (Zhq x L facts n) (L.length - (n+1)) c p).1.N
  unfold ZpU visM
  split
  ·exact zbt _
  ·exact((Zog hc _ c).trans (hc _ 0 p)).trans (zb1 _ _)
section
variable {S:Sc} {l m all:List Fct} {a b:DSt}
theorem find_law (hA:AllOf S l m all a b) {s:MSt} {c:DSt} (h:RelM S l m all a b s c) {w:List (Int×Int)} {i k:Int} (hi:Ix S l a w i) (hk:Ix S m b w k) (hne:ptW S all w≠[]):s.P.findIdx? (· == (i,k))=Ze3 w.length (ptW S all w) c.N c.P:=by
 have key:∀j,j<c.N.length->(ZgB w.length (ptW S all w) c.N c.P j=true ↔ s.P.getD j (0,0)=(i,k)):=fun j hj=>by
  obtain⟨w',h1,h2,h3,h4⟩:=h.pr j hj
  unfold ZgB
  rw[zaA,decide_eq_true_eq,decide_eq_true_eq,h1,h2]
  constructor
  ·rintro⟨q1,q2⟩
   obtain⟨p1,p2⟩:=(hA.part w' w).1 q2
   have e1:=h3.eq hA.dl hi (by omega) p1
   have e2:=h4.eq hA.dm hk (by omega) p2
   exact Prod.ext e1 e2
  ·intro q
   rw[q]at h3 h4
   obtain⟨p1,l1⟩:=h3.inj hi
   obtain⟨p2,l2⟩:=h4.inj hk
   have hp:=(hA.part w' w).2 ⟨p1,p2⟩
   refine⟨?_,hp⟩
   by_cases hz:ptW S l w'=[]
   ·have hz2:ptW S m w'≠[]:=fun hz2=>hne (by rw[<- hp];exact(hA.emp w').2 ⟨hz,hz2⟩)
    rw[l2 hz2]
   ·rw[l1 hz]
 have hPN:s.P.length=c.N.length:=by rw[h.lenP,h.len]
 have hget:∀j (hj:j<s.P.length),s.P[j]=s.P.getD j (0,0):=fun j hj=>by rw[zaf,zab hj];rfl
 cases hf:Ze3 w.length (ptW S all w) c.N c.P with
 | some j =>
  unfold Ze3 at hf
  rw[List.find?_range_eq_some]at hf
  obtain⟨f1,f2,f3⟩:=hf
  have f2:j<c.N.length:=by simpa using f2
  rw[List.findIdx?_eq_some_iff_getElem]
  refine⟨by omega,?_,fun j' hj'=>?_⟩
  ·rw[hget];simpa using (key j f2).1 f1
  ·have:=f3 j' hj'
   rw[hget]
   intro hc
   have hc:s.P.getD j' (0,0)=(i,k):=by simpa using hc
   rw[(key j' (by omega)).2 hc]at this
   cases this
 | none =>
  unfold Ze3 at hf
  rw[zce]at hf
  rw[List.findIdx?_eq_none_iff]
  intro q hq
  obtain⟨j,hj,rfl⟩:=zaw hq
  rw[hget]
  have:=hf j (by simp;omega)
  rw[key j (by omega)]at this
  simpa using this
def NodM (S:Sc) (l m all:List Fct) (a b:DSt) (Nf:List Nod) (d:Nat) (f:MSt->Int×Int->MSt×Int) (h:DSt->List Nat->DSt×Int):Prop :=
 ∀s c w i k,RelM S l m all a b s c->w.length=d->Ix S l a w i->Ix S m b w k->ptW S all w≠[]->(h c (ptW S all w)).1.N <+: Nf->RelM S l m all a b (f s (i,k)).1 (h c (ptW S all w)).1/\(f s (i,k)).2=(h c (ptW S all w)).2
theorem ZqL (hA:AllOf S l m all a b) {Nf:List Nod} {d:Nat} {f:MSt->Int×Int->MSt×Int} {h:DSt->List Nat->DSt×Int} (hlb:lastB (Za3 S) d=decide (d+1=(Zan S).length)) (hf:d+1≠(Zan S).length->NodM S l m all a b Nf (d+1) f h)
  {s:MSt} {c:DSt} {key:Int} {w:List (Int×Int)} {z1 z2:Cel} (hw:w.length=d+1) (h1:Zo6 S l a d w z1) (h2:Zo6 S m b d w z2) (hne:ptW S all w≠[]) (hr:RelM S l m all a b s c) (hp:(Zc2 all h (decide (d+1=(Zan S).length)) c key (ptW S all w)).1.N <+: Nf) :
  RelM S l m all a b (Znj (Za3 S) f d s key z1 z2).1 (Zc2 all h (decide (d+1=(Zan S).length)) c key (ptW S all w)).1/\(Znj (Za3 S) f d s key z1 z2).2=(Zc2 all h (decide (d+1=(Zan S).length)) c key (ptW S all w)).2:=by
 by_cases hl:d+1=(Zan S).length
 ·have e:Zc2 all h (decide (d+1=(Zan S).length)) c key (ptW S all w)=(⟨c.N,c.P,c.over || (ZdJ all ag0 (ptW S all w)).isNone⟩,⟨key,0,(ZdJ all ag0 (ptW S all w)).getD ag0⟩):=by unfold Zc2;rw[decide_eq_true hl,if_pos rfl]
  obtain⟨g,g1,g2⟩:=hA.sum w hne
  have e2:Znj (Za3 S) f d s key z1 z2=(s,⟨key,0,g⟩):=by
   unfold Znj
   rw[if_neg (by rw[hr.e];decide),hlb,decide_eq_true hl,if_pos rfl,h1.agg hl,h2.agg hl,g1]
  rw[e,e2,g2]
  exact⟨⟨hr.e,hr.N,hr.len,hr.lenP,hr.pr⟩,rfl⟩
 ·have e:Zc2 all h (decide (d+1=(Zan S).length)) c key (ptW S all w)=((h c (ptW S all w)).1,⟨key,(h c (ptW S all w)).2,ag0⟩):=by unfold Zc2;rw[decide_eq_false hl,if_neg (by simp)]
  have e2:Znj (Za3 S) f d s key z1 z2=((f s (z1.child,z2.child)).1,⟨key,(f s (z1.child,z2.child)).2,ag0⟩):=by
   unfold Znj
   rw[if_neg (by rw[hr.e];decide),hlb,decide_eq_false hl,if_neg (by simp)]
   rfl
  rw[e]at hp
  obtain⟨q1,q2⟩:=hf hl s c w z1.child z2.child hr hw (h1.ix hl hw) (h2.ix hl hw) hne hp
  rw[e,e2]
  refine⟨q1,?_⟩
  show(⟨_,_,_⟩:Cel)=⟨_,_,_⟩
  rw[q2]
def Zne (S:Sc) (all:List Fct) (w:List (Int×Int)) (t k cnt:Nat):List (Int×List Nat):=(List.range' k cnt).filterMap fun k:Nat=>if ptW S all (w++[((t:Int),(k:Int))])=[] then none else some ((k:Int),ptW S all (w++[((t:Int),(k:Int))]))
theorem grs_from (S:Sc) (all:List Fct) (w:List (Int×Int)) (t n:Nat):grs (Zdm (Zan S) all w.length t) n (ptW S all w)=Zne S all w t 0 n:=by
 unfold grs Zne
 rw[zcs]
 congr 1
 funext k
 have e:ptW S all (w++[((t:Int),(k:Int))])=(ptW S all w).filter fun i=>decide (Zdm (Zan S) all w.length t i=(k:Int)):=by
  rw[Zop]
  unfold ZeD
  rw[if_neg (by simp only;omega),Int.toNat_natCast]
 rw[e]
theorem ZpR (hA:AllOf S l m all a b) {Nf:List Nod} {d:Nat} {f:MSt->Int×Int->MSt×Int} {h:DSt->List Nat->DSt×Int} (hlb:lastB (Za3 S) d=decide (d+1=(Zan S).length)) (hf:d+1≠(Zan S).length->NodM S l m all a b Nf (d+1) f h) (hpre:d+1≠(Zan S).length->∀c p,c.N <+: (h c p).1.N)
  {w:List (Int×Int)} (hw:w.length=d) {t:Nat} {xs ys:List Cel} {n:Nat} (hx:∀k:Nat,k<n->Zo6 S l a d (w++[((t:Int),(k:Int))]) (ofC xs k)) (hy:∀k:Nat,k<n->Zo6 S m b d (w++[((t:Int),(k:Int))]) (ofC ys k)) :
  ∀(cnt k:Nat),k+cnt=n->∀s c,RelM S l m all a b s c->(cellsD (Zc2 all h (decide (d+1=(Zan S).length))) c (Zne S all w t k cnt)).1.N <+: Nf ->
   RelM S l m all a b (Zm9 (Za3 S) f d s (ZnO (ofC xs) (ofC ys) cnt k)).1 (cellsD (Zc2 all h (decide (d+1=(Zan S).length))) c (Zne S all w t k cnt)).1/\(Zm9 (Za3 S) f d s (ZnO (ofC xs) (ofC ys) cnt k)).2=(cellsD (Zc2 all h (decide (d+1=(Zan S).length))) c (Zne S all w t k cnt)).2
 | 0,k,_,s,c,hr,_=>⟨hr,rfl⟩
 | cnt+1,k,hk,s,c,hr,hp=>by
  have ih:=ZpR hA hlb hf hpre hw hx hy cnt (k+1) (by omega)
  have hz1:=hx k (by omega)
  have hz2:=hy k (by omega)
  have hcpre:=Zn5 (facts:=all) (f:=h) (last:=decide (d+1=(Zan S).length)) (fun h=>hpre (of_decide_eq_false h))
  have hcast:((k:Int)+1)=((k+1:Nat):Int):=by omega
  by_cases hz:ptW S all (w++[((t:Int),(k:Int))])=[]
  ·have hg:Zne S all w t k (cnt+1)=Zne S all w t (k+1) cnt:=by
    unfold Zne
    rw[zbG,List.filterMap_cons_none (by rw[if_pos hz])]
   obtain⟨p1,p2⟩:=(hA.emp _).1 hz
   have hrk:ZnO (ofC xs) (ofC ys) (cnt+1) k=ZnO (ofC xs) (ofC ys) cnt ((k+1:Nat):Int):=by
    rw[ZnO,if_neg (by rw[hz1.child,hz2.child];rintro(h|h);exact h p1;exact h p2),hcast]
   rw[hg]at hp ⊢
   rw[hrk]
   exact ih s c hr hp
  ·have hg:Zne S all w t k (cnt+1)=((k:Int),ptW S all (w++[((t:Int),(k:Int))])) :: Zne S all w t (k+1) cnt:=by
    unfold Zne
    rw[zbG,List.filterMap_cons_some (by rw[if_neg hz])]
   have hor:0<=(ofC xs k).child\/0<=(ofC ys k).child:=by
    rw[hz1.child,hz2.child]
    refine zaE fun hc=>hz ((hA.emp _).2 ⟨?_,?_⟩)
    ·exact zaE fun h=>hc (.inl h)
    ·exact zaE fun h=>hc (.inr h)
   have hrk:ZnO (ofC xs) (ofC ys) (cnt+1) k=((k:Int),ofC xs k,ofC ys k) :: ZnO (ofC xs) (ofC ys) cnt ((k+1:Nat):Int):=by rw[ZnO,if_pos hor,hcast]
   rw[hg]at hp ⊢
   rw[hrk]
   have hp1:(cellsD (Zc2 all h (decide (d+1=(Zan S).length))) (Zc2 all h (decide (d+1=(Zan S).length)) c k (ptW S all (w++[((t:Int),(k:Int))]))).1 (Zne S all w t (k+1) cnt)).1.N <+: Nf:=hp
   obtain⟨q1,q2⟩:=ZqL (key:=(k:Int)) hA hlb hf (w:=w++[((t:Int),(k:Int))]) (by simp[hw]) hz1 hz2 hz hr ((Zn6 hcpre _ _).trans hp1)
   obtain⟨r1,r2⟩:=ih _ _ q1 hp1
   refine⟨r1,?_⟩
   show _ :: _=_ :: _
   rw[q2,r2]
end
theorem Zqo {S:Sc} {facts:List Fct} {c:DSt} (pa:Prw (Za3 S) c.N) {w:List (Int×Int)} {i:Int} (h:Ix S facts c w i) (t:Nat):Zol (0+(Zch (Za3 S) w.length t:Int)) 0 ((Zm3 c.N i).lists.getD t []):=by
 rcases h with⟨_,h2⟩|⟨_,j,h2,h3,h4,h5⟩
 ·have:Zm3 c.N i=nodZ:=by unfold Zm3;rw[if_pos h2]
  rw[this,show nodZ.lists.getD t []=[]from rfl]
  trivial
 ·rw[ZoT h2]
  have hm:c.N.getD j ZdH∈c.N:=by rw[zaf,zab h3];exact zal h3
  have hr:=pa.rise _ hm t
  rw[h4,Int.toNat_natCast]at hr
  have hv:0<=((Za3 S).sizes.getD w.length []).getD t 0:=by
   by_cases h1:w.length<(Za3 S).sizes.length
   ·have e1:(Za3 S).sizes.getD w.length []=(Za3 S).sizes[w.length]:=by rw[zaf,zab h1];rfl
    rw[e1]
    by_cases h2:t<((Za3 S).sizes[w.length]).length
    ·rw[zaf,zab h2]
     have:=pa.size _ (zal h1) _ (zal h2)
     simp only[Option.getD_some];omega
    ·rw[zaf,zba (by omega)];exact zcA _
   ·rw[zaf (l:=(Za3 S).sizes),zba (by omega)];simp
  have e:(0:Int)+(Zch (Za3 S) w.length t:Int)=((Za3 S).sizes.getD w.length []).getD t 0:=by unfold Zch;omega
  rw[e]
  exact hr
section
variable {S:Sc} {l m all:List Fct} {a b:DSt}
theorem ZoR (hA:AllOf S l m all a b) (pa:Prw (Za3 S) a.N) (pb:Prw (Za3 S) b.N) {Nf:List Nod} {d:Nat} {f:MSt->Int×Int->MSt×Int} {h:DSt->List Nat->DSt×Int} (hlb:lastB (Za3 S) d=decide (d+1=(Zan S).length)) (hf:d+1≠(Zan S).length->NodM S l m all a b Nf (d+1) f h) (hpre:d+1≠(Zan S).length->∀c p,c.N <+: (h c p).1.N)
  {w:List (Int×Int)} (hw:w.length=d) {i k:Int} (hi:Ix S l a w i) (hk:Ix S m b w k) :
  ∀(ts:List Nat),(∀t∈ts,t<((Zan S).getD d []).length)->∀s c,RelM S l m all a b s c->(ZbW (Zc2 all h (decide (d+1=(Zan S).length))) c (ts.map fun t=>grs (Zdm (Zan S) all d t) (Zch (Za3 S) d t) (ptW S all w))).1.N <+: Nf ->
   RelM S l m all a b (Zm4 (Za3 S) f d s (ts.map fun t=>Zm2 (((Zm3 a.N i).lists.getD t []).length+((Zm3 b.N k).lists.getD t []).length) ((Zm3 a.N i).lists.getD t []) ((Zm3 b.N k).lists.getD t []))).1 (ZbW (Zc2 all h (decide (d+1=(Zan S).length))) c (ts.map fun t=>grs (Zdm (Zan S) all d t) (Zch (Za3 S) d t) (ptW S all w))).1 /\
   (Zm4 (Za3 S) f d s (ts.map fun t=>Zm2 (((Zm3 a.N i).lists.getD t []).length+((Zm3 b.N k).lists.getD t []).length) ((Zm3 a.N i).lists.getD t []) ((Zm3 b.N k).lists.getD t []))).2=(ZbW (Zc2 all h (decide (d+1=(Zan S).length))) c (ts.map fun t=>grs (Zdm (Zan S) all d t) (Zch (Za3 S) d t) (ptW S all w))).2
 | [],_,s,c,hr,_=>⟨hr,rfl⟩
 | t :: ts,hts,s,c,hr,hp=>by
  have ih:=ZoR hA pa pb hlb hf hpre hw hi hk ts fun t ht=>hts t (zae _ ht)
  have ht:=hts t zah
  have hcpre:=Zn5 (facts:=all) (f:=h) (last:=decide (d+1=(Zan S).length)) (fun h=>hpre (of_decide_eq_false h))
  subst hw
  have hrk:=ZpS (Zch (Za3 S) w.length t) 0 ((Zm3 a.N i).lists.getD t []) ((Zm3 b.N k).lists.getD t []) _ (Zqo pa hi t) (Zqo pb hk t) (zai _)
  have hx:∀j:Nat,j<Zch (Za3 S) w.length t->Zo6 S l a w.length (w++[((t:Int),(j:Int))]) (ofC ((Zm3 a.N i).lists.getD t []) j):=fun j hj=>ZqX hA.fl hA.dl hi ht ⟨by omega,by omega⟩
  have hy:∀j:Nat,j<Zch (Za3 S) w.length t->Zo6 S m b w.length (w++[((t:Int),(j:Int))]) (ofC ((Zm3 b.N k).lists.getD t []) j):=fun j hj=>ZqX hA.fm hA.dm hk ht ⟨by omega,by omega⟩
  have hL:=ZpR (t:=t) hA hlb hf hpre rfl hx hy (Zch (Za3 S) w.length t) 0 (by omega) s c hr
  rw[<- grs_from]at hL
  rw[zak]at hp
  have hp1:(ZbW (Zc2 all h (decide (w.length+1=(Zan S).length))) (cellsD (Zc2 all h (decide (w.length+1=(Zan S).length))) c (grs (Zdm (Zan S) all w.length t) (Zch (Za3 S) w.length t) (ptW S all w))).1 (ts.map fun t=>grs (Zdm (Zan S) all w.length t) (Zch (Za3 S) w.length t) (ptW S all w))).1.N <+: Nf:=hp
  obtain⟨q1,q2⟩:=hL ((Zog hcpre _ _).trans hp1)
  have hrk':ZnO (ofC ((Zm3 a.N i).lists.getD t [])) (ofC ((Zm3 b.N k).lists.getD t [])) (Zch (Za3 S) w.length t) ((0:Nat):Int)=Zm2 (((Zm3 a.N i).lists.getD t []).length+((Zm3 b.N k).lists.getD t []).length) ((Zm3 a.N i).lists.getD t []) ((Zm3 b.N k).lists.getD t []):=hrk
  rw[hrk']at q1 q2
  obtain⟨r1,r2⟩:=ih _ _ q1 hp1
  rw[zak,zak]
  refine⟨r1,?_⟩
  show _ :: _=_ :: _
  rw[q2,r2]
theorem Zp5 (hA:AllOf S l m all a b) (pa:Prw (Za3 S) a.N) (pb:Prw (Za3 S) b.N) {Nf:List Nod} {most:Int} (hG:∀i (hi:i<Nf.length),ZbF (Za3 S) most (Nf.take i) Nf[i]=0) {d:Nat} {f:MSt->Int×Int->MSt×Int} {h:DSt->List Nat->DSt×Int} (hd:d<(Zan S).length) (hf:d+1≠(Zan S).length->NodM S l m all a b Nf (d+1) f h) (hpre:d+1≠(Zan S).length->∀c p,c.N <+: (h c p).1.N) :
  NodM S l m all a b Nf d (Znh (Za3 S) a.N b.N most f) (ZpU (Za3 S) (Zan S) all h d):=by
 intro s c w i k hr hw hi hk hne hp
 have hlb:lastB (Za3 S) d=decide (d+1=(Zan S).length):=by
  unfold lastB
  rw[zbc]
  simp only[beq_iff_eq,decide_eq_true_eq]
  have:=hA.fl.len
  omega
 have hfi:=find_law hA hr hi hk hne
 rw[hw]at hfi
 unfold ZpU at hp ⊢
 cases hfn:Ze3 d (ptW S all w) c.N c.P with
 | some j =>
  rw[hfn]at hfi
  have e:Znh (Za3 S) a.N b.N most f s (i,k)=(s,(j:Int)):=by unfold Znh;rw[hfi]
  rw[e]
  exact⟨hr,rfl⟩
 | none =>
  rw[hfn]at hfi hp
  have hgroups:ZaC (Za3 S) (Zan S) all d (ptW S all w)=(List.range ((Zan S).getD d []).length).map fun t=>grs (Zdm (Zan S) all d t) (Zch (Za3 S) d t) (ptW S all w):=rfl
  rw[hgroups]at hp ⊢
  have hcpre:=Zn5 (facts:=all) (f:=h) (last:=decide (d+1=(Zan S).length)) (fun h=>hpre (of_decide_eq_false h))
  obtain⟨x1,x2⟩:=ZpZ hA.dl hi
  obtain⟨y1,y2⟩:=ZpZ hA.dm hk
  rw[hw]at x1 x2 y1 y2
  have hor:ptW S l w≠[]\/ptW S m w≠[]:=zaE fun hc=>hne ((hA.emp w).2 ⟨zaE fun h=>hc (.inl h),zaE fun h=>hc (.inr h)⟩)
  have hmaxd:max (Zm3 a.N i).dim (Zm3 b.N k).dim=(d:Int):=by
   rw[x2,y2]
   rcases hor with h|h
   ·rw[if_neg h];split<;>omega
   ·rw[if_neg h];split<;>omega
  have hmaxl:max (Zm3 a.N i).lists.length (Zm3 b.N k).lists.length=((Zan S).getD d []).length:=by
   rw[x1,y1]
   rcases hor with h|h
   ·rw[if_neg h];split<;>omega
   ·rw[if_neg h];split<;>omega
  have hT:=ZoR hA pa pb hlb hf hpre hw hi hk (List.range ((Zan S).getD d []).length) (fun t ht=>by simpa using ht) s c hr
  have hx1:=ix_all hA.dl hi
  have hx2:=ix_all hA.dm hk
  have hca:Zo6 S l a d (w++[(-1,0)]) (ZnV (Zm3 a.N i) i):=by
   unfold Zo6 at hx1 ⊢;rw[ZoY,<- hw];exact hx1
  have hcb:Zo6 S m b d (w++[(-1,0)]) (ZnV (Zm3 b.N k) k):=by
   unfold Zo6 at hx2 ⊢;rw[ZoY,<- hw];exact hx2
  have hC:=fun s c hr hp=>ZqL (key:=0) (s:=s) (c:=c) hA hlb hf (w:=w++[(-1,0)]) (by simp[hw]) hca hcb (by rw[ZoY];exact hne) hr hp
  rw[ZoY]at hC
  have hmk:Zm7 (Zm3 a.N i) (Zm3 b.N k) ((Zan S).getD d []).length=(List.range ((Zan S).getD d []).length).map fun t=>Zm2 (((Zm3 a.N i).lists.getD t []).length+((Zm3 b.N k).lists.getD t []).length) ((Zm3 a.N i).lists.getD t []) ((Zm3 b.N k).lists.getD t []):=rfl
  rw[<- hmk]at hT
  have e:Znh (Za3 S) a.N b.N most f s (i,k)=ZnQ (Za3 S) most d (i,k) (Znj (Za3 S) f d (Zm4 (Za3 S) f d s (Zm7 (Zm3 a.N i) (Zm3 b.N k) ((Zan S).getD d []).length)).1 0 (ZnV (Zm3 a.N i) i) (ZnV (Zm3 b.N k) k)) (Zm4 (Za3 S) f d s (Zm7 (Zm3 a.N i) (Zm3 b.N k) ((Zan S).getD d []).length)).2:=by
   unfold Znh ZnQ
   rw[hfi]
   simp only[hmaxd,hmaxl]
   exact if_neg (by rw[hr.e];decide)
  rw[e]
  generalize Zm4 (Za3 S) f d s (Zm7 (Zm3 a.N i) (Zm3 b.N k) ((Zan S).getD d []).length)=r at *
  generalize hU:ZbW (Zc2 all h (decide (d+1=(Zan S).length))) c ((List.range ((Zan S).getD d []).length).map fun t=>grs (Zdm (Zan S) all d t) (Zch (Za3 S) d t) (ptW S all w))=U at *
  have hC:=hC r.1 U.1
  have hBU:U.1.N <+: (Zc2 all h (decide (d+1=(Zan S).length)) U.1 0 (ptW S all w)).1.N:=hcpre _ _ _
  generalize Znj (Za3 S) f d r.1 0 (ZnV (Zm3 a.N i) i) (ZnV (Zm3 b.N k) k)=t at *
  generalize Zc2 all h (decide (d+1=(Zan S).length)) U.1 0 (ptW S all w)=B at *
  have hpB:B.1.N++[(⟨d,U.2,B.2⟩:Nod)] <+: Nf:=hp
  have hpB1:B.1.N <+: Nf:=(zb1 _ _).trans hpB
  obtain⟨q1,q2⟩:=hT (hBU.trans hpB1)
  obtain⟨r1,r2⟩:=hC q1 hpB1
  have ha:ZbF (Za3 S) most B.1.N ⟨d,U.2,B.2⟩=0:=by
   obtain⟨z,hz⟩:=hpB
   have hlt:B.1.N.length<Nf.length:=by rw[<- hz];simp
   have:=hG B.1.N.length hlt
   have e1:Nf.take B.1.N.length=B.1.N:=by rw[<- hz,zaI,List.take_left]
   have e2:Nf[B.1.N.length]=⟨d,U.2,B.2⟩:=by
    have:Nf[B.1.N.length]?=some ⟨d,U.2,B.2⟩:=by rw[<- hz];simp
    rw[zab hlt]at this
    exact zb0 this
   rw[e1,e2]at this
   exact this
  have e3:ZnQ (Za3 S) most d (i,k) t r.2=(⟨B.1.N++[⟨d,U.2,B.2⟩],t.1.P++[(i,k)],0⟩,(B.1.N.length:Int)):=by
   unfold ZnQ
   rw[if_neg (by rw[r1.e];decide),r1.N,q2,r2,ha,if_neg (by decide)]
  rw[e3]
  refine⟨⟨rfl,rfl,?_,?_,fun j hj=>?_⟩,rfl⟩
  ·show(B.1.N++[_]).length=(B.1.P++[_]).length
   rw[zaj,zaj,r1.len];rfl
  ·show(t.1.P++[_]).length=(B.1.P++[_]).length
   rw[zaj,zaj,r1.lenP];rfl
  ·have hj:j<(B.1.N++[(⟨d,U.2,B.2⟩:Nod)]).length:=hj
   rw[zaj,List.length_singleton]at hj
   show ∃w',((B.1.N++[(⟨d,U.2,B.2⟩:Nod)]).getD j ZdH).dim=_/\(B.1.P++[ptW S all w]).getD j []=_/\Ix S l a w' ((t.1.P++[(i,k)]).getD j (0,0)).1/\Ix S m b w' ((t.1.P++[(i,k)]).getD j (0,0)).2
   have hl1:=r1.len
   have hl2:=r1.lenP
   by_cases hjo:j<B.1.N.length
   ·rw[ZjP hjo,ZjP (by omega),ZjP (by omega)]
    exact r1.pr j hjo
   ·have hje:j=B.1.N.length:=by omega
    subst hje
    rw[Zih,hl1,Zih,<- hl2,Zih]
    exact⟨w,by rw[hw],rfl,hi,hk⟩
theorem Zo9 (hA:AllOf S l m all a b) (pa:Prw (Za3 S) a.N) (pb:Prw (Za3 S) b.N) {Nf:List Nod} {most:Int} (hG:∀i (hi:i<Nf.length),ZbF (Za3 S) most (Nf.take i) Nf[i]=0):∀(n:Nat),n+1<=(Zan S).length->NodM S l m all a b Nf ((Zan S).length - (n+1)) (Zoy (Za3 S) a.N b.N most (n+1)) (Zhq (Za3 S) (Zan S) all (n+1))
 | 0,h=>by
  rw[ZnK]
  exact Zp5 (d:=(Zan S).length - 1) (f:=Zoy (Za3 S) a.N b.N most 0) (h:=Zhq (Za3 S) (Zan S) all 0) hA pa pb hG (by have:1<=(Zan S).length:=h;omega) (fun h2=>absurd (show(Zan S).length - 1+1=(Zan S).length by have:1<=(Zan S).length:=h;omega) h2) (fun _=>Zo0 0)
 | n+1,h=>by
  rw[ZnK]
  refine Zp5 (d:=(Zan S).length - (n+1+1)) (f:=Zoy (Za3 S) a.N b.N most (n+1)) (h:=Zhq (Za3 S) (Zan S) all (n+1)) hA pa pb hG (by omega) (fun _=>?_) (fun _=>Zo0 (n+1))
  have:=Zo9 hA pa pb hG n (by omega)
  rw[show(Zan S).length - (n+1+1)+1=(Zan S).length - (n+1) by omega]
  exact this
end
theorem ZnT (S:Sc) (facts:List Fct):ptW S facts []=List.range facts.length:=List.filter_eq_self.2 fun i _=>rfl
theorem ix_top {S:Sc} {facts:List Fct} (hs:scE S=0):Ix S facts (Zcn S facts) [] (((Zcn S facts).N.length:Int) - 1):=by
 by_cases h:facts=[]
 ·subst h
  exact .inl ⟨rfl,rfl⟩
 ·obtain⟨t1,t2,t3⟩:=ZmL hs h
  refine .inr ⟨by rw[ZnT];simp;exact h,(Zcn S facts).N.length - 1,by omega,by omega,t2,by rw[t3,ZnT]⟩
theorem Zqu {S:Sc} {l m all:List Fct} (hs:scE S=0) (hA:AllOf S l m all (Zcn S l) (Zcn S m)) (pa:Prw (Za3 S) (Zcn S l).N) (pb:Prw (Za3 S) (Zcn S m).N) {most:Int} (hG:∀i (hi:i<(Zcn S all).N.length),ZbF (Za3 S) most ((Zcn S all).N.take i) (Zcn S all).N[i]=0) :
  (ZoF (Za3 S) (Zcn S l).N (Zcn S m).N most).e=0/\(ZoF (Za3 S) (Zcn S l).N (Zcn S m).N most).N=(Zcn S all).N:=by
 have hLl:(Zan S).length=S.dims.length:=by unfold Zan;rw[zaa]
 have hs1:=(Zb7 hs).1
 have hxl:(Za3 S).sizes.length=(Zan S).length:=hA.fl.len.symm
 have hnil:∀facts:List Fct,(Zcn S facts).N=[] ↔ facts=[]:=fun facts=>by
  constructor
  ·intro h
   refine zaE fun hne=>?_
   have:=(ZmL hs hne).1
   rw[h]at this;simp at this
  ·rintro rfl;rfl
 have hall:=hA.emp []
 rw[ZnT,ZnT,ZnT]at hall
 have hr0:∀facts:List Fct,List.range facts.length=[] ↔ facts=[]:=fun facts=>by simp
 rw[hr0,hr0,hr0]at hall
 unfold ZoF
 by_cases hz:(Zcn S l).N=[]/\(Zcn S m).N=[]
 ·rw[if_pos hz]
  have ha:all=[]:=hall.2 ⟨(hnil l).1 hz.1,(hnil m).1 hz.2⟩
  rw[ha]
  exact⟨rfl,rfl⟩
 ·rw[if_neg hz]
  have ha:all≠[]:=fun h=>hz ⟨(hnil l).2 (hall.1 h).1,(hnil m).2 (hall.1 h).2⟩
  have hpa:ptW S all []≠[]:=by rw[ZnT];simp;exact ha
  have hd:Zcn S all=(Zhq (Za3 S) (Zan S) all (Zan S).length ⟨[],[],false⟩ (ptW S all [])).1:=by unfold Zcn;rw[if_neg ha,ZnT]
  have h0:RelM S l m all (Zcn S l) (Zcn S m) ⟨[],[],0⟩ ⟨[],[],false⟩:=⟨rfl,rfl,rfl,rfl,fun j hj=>absurd hj (zbQ j)⟩
  have hN:=Zo9 (most:=most) hA pa pb hG ((Zan S).length - 1) (by omega) ⟨[],[],0⟩ ⟨[],[],false⟩ [] (((Zcn S l).N.length:Int) - 1) (((Zcn S m).N.length:Int) - 1) h0
  rw[show(Zan S).length - 1+1=(Zan S).length by omega,zcd]at hN
  have hN:=(hN rfl (ix_top hs) (ix_top hs) hpa (by rw[<- hd];exact zbt _)).1
  rw[hxl]
  rw[<- hd]at hN
  exact⟨hN.e,hN.N⟩
theorem load_ofA {x:Shp} {most:Int} {N:List Nod} (hm:ZbS x=true) (hmost:most<=131072) (ha:∀i (hi:i<N.length),ZbF x most (N.take i) N[i]=0):Zm5 x N=0:=by
 have ha2:∀i (hi:i<N.length),ZbF x 131072 (N.take i) N[i]=0:=fun i hi=>by
  obtain⟨h1,h2,h3⟩:=add_zero' (ha i hi)
  unfold ZbF
  rw[if_neg (by rw[h1];decide),if_neg (by rw[h2];decide),if_neg (by omega)]
 have key:∀d k,k+d=N.length->Znc x 131072 (N.take k) (N.drop k)=0:=by
  intro d
  induction d with
  | zero=>intro k hk;rw[zbn (by omega)];rfl
  | succ d ih =>
   intro k hk
   rw[Znw x 131072 N k (by omega),if_neg (by rw[ha2 k (by omega)];decide)]
   exact ih (k+1) (by omega)
 unfold Zm5
 rw[if_neg (by rw[hm];decide)]
 exact key N.length 0 (by omega)
theorem Zr3 {x:Shp} {l:List Nod} (h:Zm5 x l=0) (hlen:l.length<=100000) (hs:∀n∈l,Zdb n):ArW x l/\∀n∈l,0<=n.dim/\n.dim<x.sizes.length:=by
 obtain⟨hm,ha⟩:=Zoo h
 refine⟨⟨hm,hlen,hs,fun i hi hl c hc=>?_⟩,fun n hn=>?_⟩
 ·rw[Zm8 hi]at hl hc
  obtain⟨h1,h2,_⟩:=add_zero' (ha i hi)
  unfold ZeO at h2
  rw[hl,zbL,zaY]at h2
  have h3:=h2 c hc
  simp only[zaA,decide_eq_true_eq,zaZ]at h3
  exact⟨Zfu h1 hl c hc,by omega⟩
 ·obtain⟨i,hi,rfl⟩:=zaw hn
  have:=Zfw (add_zero' (ha i hi)).1
  exact⟨this.1,this.2.1⟩
theorem Zoz {x:Shp} {dim:Int}:∀(ls:List (List Cel)) (p:Option Nat) (s:List Int),ls.length=s.length->ZbH x dim p s ls=0->∀c∈ls,c≠[]
 | [],_,_,_,_=>by simp
 | l :: ls,p,[],h,_=>by simp at h
 | l :: ls,p,s :: ss,h,he=>by
  have he:(if ZbN x dim s l≠0 then ZbN x dim s l else if Zkf p l.length=true then 14 else ZbH x dim (some l.length) ss ls)=0:=by
   cases p<;>exact he
  split at he
  ·rename_i h1;exact absurd he h1
  ·rename_i h1
   split at he
   ·cases he
   ·intro c hc
    rcases zao.1 hc with rfl|hc
    ·rintro rfl
     exact h1 (by unfold ZbN;simp)
    ·exact Zoz ls _ ss (by simpa using h) he c hc
theorem lists_ne {x:Shp} {n:Nod} (h:Zbf x n=0):∀c∈n.lists,c≠[]:=by
 unfold Zbf at h
 simp only at h
 split at h
 ·cases h
 ·split at h
  ·cases h
  ·rename_i h1
   split at h
   ·rename_i h2;exact absurd h h2
   ·rename_i h2
    have h2':ZbH x n.dim none (x.sizes.getD n.dim.toNat []) n.lists=0:=by simpa using h2
    exact Zoz n.lists none _ (by omega) h2'
theorem ZpI {x:Shp} {l:List Nod} (he:Zm5 x l=0):∀n∈l,∀c∈n.lists,c≠[]:=by
 intro n hn
 obtain⟨i,hi,rfl⟩:=zaw hn
 exact lists_ne (add_zero' ((Zoo he).2 i hi)).1
theorem wlk_of {x:Shp} {l:List Nod} (h:Zm5 x l=0) (hlen:l.length<=100000) (hs:∀n∈l,Zdb n):Wlk x l:=by
 obtain⟨hw,hd⟩:=Zr3 h hlen hs
 have ha:=(Zoo h).2
 refine⟨hw,fun n hn=>?_,ZpI h,fun i hi=>?_,fun i hi hb c hc=>?_⟩
 ·obtain⟨i,hi,rfl⟩:=zaw hn
  have:=(add_zero' (ha i hi)).1
  unfold Zbf at this
  simp only at this
  split at this
  ·cases this
  ·split at this
   ·cases this
   ·rename_i h2
    intro e
    rw[e]at h2
    simp at h2
 ·rw[Zm8 hi]
  exact hd _ (zal hi)
 ·have hl:=(add_zero' (ha i hi)).2.1
  rw[Zm8 hi]at hb hc ⊢
  unfold ZeO at hl
  rw[hb,zbL,zaY]at hl
  have:=hl c hc
  rw[zaA,decide_eq_true_eq,decide_eq_true_eq,zaZ]at this
  have hc0:0<=c.child/\c.child<i:=by
   have:=hw.down i hi
   rw[Zm8 hi]at this
   exact this hb c hc
  obtain⟨b,hbb⟩:∃b:Nat,c.child=b:=⟨c.child.toNat,by omega⟩
  have hbl:b<l.length:=by omega
  have h2:=this.2
  rw[hbb,Int.toNat_natCast,zaf,za9,if_pos (by omega),zab hbl,Option.getD_some]at h2
  rw[hbb,Zm8 hbl]
  exact h2
theorem Zqw {x:Shp} {dim size:Int}:∀{l:List Cel} {p:Option Int},ZcA x dim size p l=0->Zol size (match p with|none=>0|some k=>k+1) l
 | [],_,_=>trivial
 | c :: r,p,h=>by
  unfold ZcA at h
  split at h
  ·cases h
  ·rename_i h1
   split at h
   ·cases h
   ·rename_i h2
    split at h
    ·cases h
    ·rename_i h3
     have ih:=Zqw h
     have hc:0<=c.child:=by
      have h3:ZbQ x dim c=true:=by simpa using h3
      unfold ZbQ at h3
      split at h3
      ·rw[zaA,decide_eq_true_eq]at h3;omega
      ·rw[zaA,decide_eq_true_eq]at h3;exact h3.1
     refine⟨?_,by omega,hc,ih⟩
     cases p with
     | none=>show 0<=c.key;omega
     | some k =>
      unfold ZiJ at h2
      simp at h2
      show k+1<=c.key
      omega
theorem ZoP {x:Shp} {dim:Int}:∀{ls:List (List Cel)} {ss:List Int} {p:Option Nat},ls.length=ss.length->ZbH x dim p ss ls=0->∀t:Nat,Zol (ss.getD t 0) 0 (ls.getD t [])
 | [],_,_,_,_,t=>by rw[show([]:List (List Cel)).getD t []=[]from rfl];trivial
 | l :: r,[],_,h,_,_=>by simp at h
 | l :: r,s :: ss,p,hl,h,t=>by
  unfold ZbH at h
  split at h
  ·rename_i h1;exact absurd h h1
  ·rename_i h1
   split at h
   ·cases h
   ·cases t with
    | zero =>
     have h1:ZbN x dim s l=0:=zaE h1
     unfold ZbN at h1
     split at h1
     ·cases h1
     ·exact Zqw h1
    | succ t=>exact ZoP (ls:=r) (ss:=ss) (by simpa using hl) h t
theorem Zp0:∀{l:List Int} {p:Option Int},ZcZ p l=true->∀k∈l,1<=k/\k<=200
 | [],_,_,_,h=>by simp at h
 | n :: r,p,h,k,hk=>by
  unfold ZcZ at h
  simp only[zaA,decide_eq_true_eq]at h
  rcases zao.1 hk with rfl|hk
  ·exact⟨h.1.1.1,h.1.1.2⟩
  ·exact Zp0 h.2 k hk
theorem Zqt {x:Shp} {l:List Nod} (h:Zm5 x l=0) (hlen:l.length<=100000) (hs:∀n∈l,Zdb n) (hi:∀n∈l,NodIn n):Prw x l:=by
 have hk:=wlk_of h hlen hs
 have ha:=(Zoo h).2
 have hc:∀n∈l,Zbf x n=0:=fun n hn=>by
  obtain⟨i,hi,rfl⟩:=zaw hn
  exact(add_zero' (ha i hi)).1
 have hp:∀n∈l,n.lists.length=(x.sizes.getD n.dim.toNat []).length/\ZbH x n.dim none (x.sizes.getD n.dim.toNat []) n.lists=0/\0<=n.all.child:=fun n hn=>by
  have:=hc n hn
  unfold Zbf at this
  simp only at this
  split at this
  ·cases this
  ·split at this
   ·cases this
   ·rename_i h2
    split at this
    ·rename_i h3;exact absurd this h3
    ·rename_i h3
     split at this
     ·cases this
     ·rename_i h4
      refine⟨zaE fun h=>h2 (.inl h),zaE h3,?_⟩
      have h4:ZbQ x n.dim n.all=true:=zaE fun h=>h4 (.inr (by simpa using h))
      unfold ZbQ at h4
      split at h4
      ·rw[zaA,decide_eq_true_eq]at h4;omega
      ·rw[zaA,decide_eq_true_eq]at h4;exact h4.1
 refine⟨hk,hi,fun n hn=>(hp n hn).1,fun n hn t=>ZoP (hp n hn).1 (hp n hn).2.1 t,fun n hn=>(hp n hn).2.2,fun s hs k hk'=>?_⟩
 have hm:=hk.w.may
 unfold ZbS at hm
 simp only[zaA,zaY]at hm
 have:=hm.2 s hs
 unfold ZbT at this
 simp only[zaA]at this
 exact Zp0 this.2 k hk'
theorem Ztr {n:Nat} {r:List Int} (hp:Plc n r):∀k,k<=r.length->∀j (hj:j<k) (hr:j<r.length),(plF n r k).getD (r[j]).toNat 0=(j:Int)
 | 0,_,j,hj,_=>by omega
 | k+1,hk,j,hj,hr=>by
  have hkr:k<r.length:=by omega
  have e:plF n r (k+1)=(plF n r k).set (r.getD k 0).toNat (k:Int):=rfl
  have hgd:r.getD k 0=r[k]:=by rw[zaf,zab hkr];rfl
  rw[e,hgd]
  have l1:=hp.lo _ (zal hr)
  have l2:=hp.lo _ (zal hkr)
  have hlen:=Zsb n r k
  rcases zbJ j k with h|h
  ·have hne:r[j]≠r[k]:=zbI.1 hp.nodup j k hr hkr h
   rw[zaf,zcg,if_neg (by omega),<- zaf]
   exact Ztr hp k (by omega) j h hr
  ·obtain rfl:j=k:=by omega
   rw[zaf,zcg,if_pos rfl,if_pos (by omega)]
   rfl
theorem Zrp (ps:List Int) (c:Cel):mvC false ps c=c:=by unfold mvC;simp
theorem Zrh (x:Shp) (ps:List Int) (n:Nod):each (mvN x ps n)=(each n).map (mvC (!lastB x n.dim) ps):=by
 unfold each mvN
 simp only[zaV,List.map_flatten,zbw,zak,zaD]
 rfl
theorem ZrI (i:Bool) (ps:List Int) (c:Cel):(mvC i ps c).key=c.key:=by unfold mvC;split<;>rfl
theorem Zsf (i:Bool) (ps:List Int) (c:Cel):(mvC i ps c).agg=c.agg:=by unfold mvC;split<;>rfl
theorem Zs6 (x:Shp) (ps:List Int) (n:Nod):locT n (mvN x ps n)=true/\locT (mvN x ps n) n=true:=by
 have h1:(mvN x ps n).lists.map List.length=n.lists.map List.length:=by
  unfold mvN mvL;simp[Function.comp_def]
 have h2:tails (each (mvN x ps n))=tails (each n):=by
  rw[Zrh]
  unfold tails
  simp[Function.comp_def,ZrI,Zsf]
 have h3:(mvN x ps n).dim=n.dim:=rfl
 unfold locT
 simp[h1,h2,h3]
theorem ZrA {x:Shp} {dim size:Int} {f:Cel->Cel} (hf:∀c,(f c).key=c.key):∀(p:Option Int) (l:List Cel),(∀c∈l,ZbQ x dim (f c)=ZbQ x dim c)->ZcA x dim size p (l.map f)=ZcA x dim size p l
 | p,[],_=>by cases p<;>rfl
 | p,c :: l,h=>by
  rw[zak]
  unfold ZcA
  rw[hf,h c zah,ZrA hf (some c.key) l fun d hd=>h d (zae _ hd)]
theorem Zrn {x:Shp} {dim:Int} {f:Cel->Cel} (hf:∀c,(f c).key=c.key):∀(p:Option Nat) (s:List Int) (l:List (List Cel)),(∀r∈l,∀c∈r,ZbQ x dim (f c)=ZbQ x dim c)->ZbH x dim p s (l.map (List.map f))=ZbH x dim p s l
 | p,s,[],_=>by simp[ZeZ]
 | p,[],r :: l,_=>by cases p<;>rfl
 | p,s :: ss,r :: l,h=>by
  rw[zak]
  unfold ZbH ZbN
  rw[zaa,ZrA hf none r (h r zah),Zrn hf (some r.length) ss l fun d hd=>h d (zae _ hd)]
theorem check_mv {x:Shp} {ps:List Int} {n:Nod} (h:∀c∈each n,ZbQ x n.dim (mvC (!lastB x n.dim) ps c)=ZbQ x n.dim c):Zbf x (mvN x ps n)=Zbf x n:=by
 have h1:(mvN x ps n).lists=n.lists.map (List.map (mvC (!lastB x n.dim) ps)):=rfl
 have h2:(mvN x ps n).all=mvC (!lastB x n.dim) ps n.all:=rfl
 have h3:(mvN x ps n).dim=n.dim:=rfl
 have hl:∀p s,ZbH x n.dim p s (n.lists.map (List.map (mvC (!lastB x n.dim) ps)))=ZbH x n.dim p s n.lists:=fun p s =>
  Zrn (ZrI _ ps) p s n.lists fun r hr c hc=>h c (by unfold each;exact zbf _ (zbi.2 ⟨r,hr,hc⟩))
 simp only[Zbf,h1,h2,h3,hl,zaa,ZrI,h n.all (by unfold each;simp)]
theorem load_of {x:Shp} {l:List Nod} (hm:ZbS x=true) (h:∀i (hi:i<l.length),ZbF x 131072 (l.take i) l[i]=0):Zm5 x l=0:=by
 unfold Zm5
 rw[hm]
 simp only[zcc,if_false]
 have:∀n k,l.length - k=n->Znc x 131072 (l.take k) (l.drop k)=0:=by
  intro n
  induction n with
  | zero=>intro k hk;rw[zbn (by omega)];rfl
  | succ n ih =>
   intro k hk
   have hkl:k<l.length:=by omega
   rw[Znw x 131072 l k hkl,if_neg (by simpa using h k hkl)]
   exact ih (k+1) (by omega)
 exact this _ 0 rfl
structure Ord (x:Shp) (l:List Nod) (r:List Int) (ps:List Int):Prop where
 plc:Plc l.length r
 clo:Clo x l r
 len:ps.length=l.length
 get:∀j (h:j<r.length),ps.getD (r[j]).toNat 0=(j:Int)
section
variable {x:Shp} {l:List Nod} {r ps:List Int}
theorem Ord.node (h:Ord x l r ps) {i:Nat} (hi:i<r.length):Zdw l r[i]=l[(r[i]).toNat]'(by have:=h.plc.lo _ (zal hi);omega):=by
 have:=h.plc.lo _ (zal hi)
 obtain⟨a,ha⟩:∃a:Nat,r[i]=a:=⟨(r[i]).toNat,by omega⟩
 have ha1:a<l.length:=by omega
 simp only[ha,Zm8 ha1,Int.toNat_natCast]
theorem Ord.child (h:Ord x l r ps) {i:Nat} (hi:i<r.length) (hl:lastB x (Zdw l r[i]).dim=false) {c:Cel} (hc:c∈each (Zdw l r[i])) :
  ∃j,∃hj:j<r.length,j<i/\c.child=r[j]/\(mvC true ps c).child=(j:Int):=by
 have hm:c.child∈chs x l r[i]:=by
  unfold chs
  rw[hl]
  simp only[zbm,if_false]
  exact zan.2 ⟨c,hc,rfl⟩
 have:=h.clo i hi _ hm
 obtain⟨j,hj,e⟩:=zaw this
 rw[zaZ]at hj
 rw[zb3]at e
 have hjr:j<r.length:=by omega
 refine⟨j,hjr,by omega,e.symm,?_⟩
 have hlo:=h.plc.lo _ (zal hjr)
 unfold mvC
 rw[if_pos ⟨rfl,by omega,by rw[h.len];omega⟩]
 rw[<- e]
 exact h.get j hjr
def Zrc (x:Shp) (l:List Nod) (r ps:List Int):List Nod:=r.map fun a=>mvN x ps (Zdw l a)
theorem ZrO {i:Nat} (hi:i<r.length):Zdw (Zrc x l r ps) i=mvN x ps (Zdw l r[i]):=by
 rw[Zm8 (by unfold Zrc;simpa using hi)]
 simp[Zrc]
theorem chl_mv1 (h:Ord x l r ps) {i:Nat} (hi:i<r.length) {e:Int×Int} (he:e∈chl x (Zdw l r[i]) (mvN x ps (Zdw l r[i]))):∃j,∃hj:j<r.length,j<i/\e=(r[j],(j:Int)):=by
 unfold chl at he
 split at he
 ·cases he
 ·rename_i hl
  have hl:lastB x (Zdw l r[i]).dim=false:=by simpa using hl
  rw[Zrh,hl]at he
  obtain⟨k,hk,e1⟩:=zaw he
  simp only[List.length_zip,zaa]at hk
  simp only[List.getElem_zip,zbp]at e1
  obtain⟨j,hj,hji,a,b⟩:=h.child hi hl (zal (by omega:k<(each (Zdw l r[i])).length))
  exact⟨j,hj,hji,by rw[<- e1,a];simp only[zaB];rw[b]⟩
theorem chl_mv2 (h:Ord x l r ps) {i:Nat} (hi:i<r.length) {e:Int×Int} (he:e∈chl x (mvN x ps (Zdw l r[i])) (Zdw l r[i])):∃j,∃hj:j<r.length,j<i/\e=((j:Int),r[j]):=by
 unfold chl at he
 split at he
 ·cases he
 ·rename_i hl
  have hl:lastB x (Zdw l r[i]).dim=false:=by
   have hl':¬(lastB x (Zdw l r[i]).dim=true):=hl
   simpa using hl'
  rw[Zrh,hl]at he
  obtain⟨k,hk,e1⟩:=zaw he
  simp only[List.length_zip,zaa]at hk
  simp only[List.getElem_zip,zbp]at e1
  obtain⟨j,hj,hji,a,b⟩:=h.child hi hl (zal (by omega:k<(each (Zdw l r[i])).length))
  exact⟨j,hj,hji,by rw[<- e1,a];simp only[zaB];rw[b]⟩
theorem Zr8 (h:Ord x l r ps):∀f i (hi:i<r.length),i<f->Zra x l (Zrc x l r ps) f (r[i],(i:Int))=true/\Zra x (Zrc x l r ps) l f ((i:Int),r[i])=true
 | 0,i,hi,hf=>by omega
 | f+1,i,hi,hf=>by
  simp only[Zra,ZrO hi,(Zs6 x ps (Zdw l r[i])).1,(Zs6 x ps (Zdw l r[i])).2,zbj,zaY]
  refine⟨fun e he=>?_,fun e he=>?_⟩
  ·obtain⟨j,hj,hji,rfl⟩:=chl_mv1 h hi he
   exact(Zr8 h f j hj (by omega)).1
  ·obtain⟨j,hj,hji,rfl⟩:=chl_mv2 h hi he
   exact(Zr8 h f j hj (by omega)).2
theorem Zte (h:Ord x l r ps) (hl:Zm5 x l=0) (hlen:l.length<=100000):Zm5 x (Zrc x l r ps)=0:=by
 obtain⟨hm,ha⟩:=Zoo hl
 refine load_of hm fun i hi=>?_
 have hir:i<r.length:=by simpa [Zrc] using hi
 have hrl:=h.plc.len
 have hci:(Zrc x l r ps)[i]=mvN x ps (Zdw l r[i]):=by simp[Zrc]
 have hlo:=h.plc.lo _ (zal hir)
 have hao:=ha (r[i]).toNat (by omega)
 rw[<- h.node hir]at hao
 obtain⟨h1,h2,_⟩:=add_zero' hao
 have hck:Zbf x (mvN x ps (Zdw l r[i]))=0:=by
  rw[check_mv,h1]
  intro c hc
  cases hlast:lastB x (Zdw l r[i]).dim with
  | true=>simp only[zaG];rw[Zrp]
  | false =>
   obtain⟨j,hj,hji,a,b⟩:=h.child hir hlast hc
   have hc0:=Zfu h1 hlast c hc
   unfold ZbQ
   rw[hlast]
   simp only[zaB,zbm,if_false]
   rw[b,Zsf]
   simp[hc0]
 have hle:ZeO x ((Zrc x l r ps).take i) (mvN x ps (Zdw l r[i]))=true:=by
  unfold ZeO
  cases hlast:lastB x (Zdw l r[i]).dim with
  | true =>
   have:lastB x (mvN x ps (Zdw l r[i])).dim=true:=hlast
   rw[this];rfl
  | false =>
   have:lastB x (mvN x ps (Zdw l r[i])).dim=false:=hlast
   rw[this,zbL,zaY]
   intro c hc
   rw[Zrh,hlast]at hc
   obtain⟨d,hd,rfl⟩:=zan.1 hc
   obtain⟨j,hj,hji,a,b⟩:=h.child hir hlast hd
   simp only[zaB]
   rw[b]
   have hjc:j<((Zrc x l r ps).take i).length:=by rw[zaZ];simp[Zrc];omega
   have hget:((Zrc x l r ps).take i).getD (j:Int).toNat ⟨0,[],ZcE⟩=mvN x ps (Zdw l r[j]):=by
    rw[Int.toNat_natCast,zaf,zab hjc]
    simp[Zrc]
   rw[hget]
   have hdimj:(mvN x ps (Zdw l r[j])).dim=(Zdw l r[j]).dim:=rfl
   have hdimi:(mvN x ps (Zdw l r[i])).dim=(Zdw l r[i]).dim:=rfl
   rw[hdimj,hdimi]
   unfold ZeO at h2
   rw[hlast,zbL,zaY]at h2
   have h3:=h2 d hd
   simp only[zaA,decide_eq_true_eq,zaZ]at h3 ⊢
   have hlj:=h.plc.lo _ (zal hj)
   refine⟨by simp[Zrc];omega,?_⟩
   rw[<- h3.2,h.node hj,a,zaf,za9,if_pos (by omega),zab (by omega)]
   rfl
 unfold ZbF
 rw[hci,if_neg (by simpa using hck),if_neg (by simp[hle]),if_neg (by simp[Zrc];omega)]
end
theorem ZsA {x:Shp} {ps:List Int} {n:Nod} (h:Zdb n):Zdb (mvN x ps n):=by
 obtain⟨h1,h2,h3⟩:=h
 refine⟨by simpa [mvN] using h1,?_,fun c hc=>?_⟩
 ·have:(mvN x ps n).lists.flatten.length=n.lists.flatten.length:=by
   simp[mvN,mvL,List.length_flatten,Function.comp_def]
  omega
 ·obtain⟨d,hd,rfl⟩:=zan.1 hc
  simpa [mvL] using h3 d hd
theorem ord_of {x:Shp} {l:List Nod} (hd:Down x l) (top:Int):Ord x l (Zq6 x l top) (plF l.length (Zq6 x l top) (Zq6 x l top).length):=by
 have hp:=Zsk hd top
 refine⟨hp,?_,Zsb _ _ _,fun j hj=>Ztr hp _ (zai _) j hj hj⟩
 unfold Zq6
 split
 ·rename_i h
  exact(Zsr hd l.length [] top (Plc.nil _) (fun i h=>by cases h) h.1 h.2 h.2).clo
 ·intro i h;cases h
theorem Ztl {x:Shp} {l:List Nod} (hd:Down x l) (hl:l.length≠0):∃r,Zq6 x l ((l.length:Int) - 1)=r++[(l.length:Int) - 1]/\∀u∈r,∃v∈Zq6 x l ((l.length:Int) - 1),u∈chs x l v:=by
 have hr:0<=(l.length:Int) - 1/\(l.length:Int) - 1<l.length:=by omega
 obtain⟨r,e⟩:=vst_last (x:=x) (l:=l) (n:=l.length) (at_:=(l.length:Int) - 1) (by omega)
 have hO:Zq6 x l ((l.length:Int) - 1)=r++[(l.length:Int) - 1]:=by unfold Zq6;rw[if_pos hr,e]
 refine⟨r,hO,fun u hu=>?_⟩
 have q:=Zsr hd l.length [] ((l.length:Int) - 1) (Plc.nil _) (fun i h=>by cases h) hr.1 hr.2 hr.2
 obtain⟨new,e1,f⟩:=q.pre
 rw[e,List.nil_append]at e1
 rw[hO,e1]
 rcases (f u (by rw[<- e1];exact zbf _ hu)).1 with h|h
 ·rw[zat]at h
  have hn:=q.plc.nodup
  rw[e,zb5]at hn
  exact absurd h (hn.2.2 u hu _ (by simp))
 ·exact h
theorem whole_mv {x:Shp} {l:List Nod} {ps:List Int} (hd:Down x l) (hl:l.length≠0) (hw:Zlb x l=true) (h:Ord x l (Zq6 x l ((l.length:Int) - 1)) ps):Zlb x (Zrc x l (Zq6 x l ((l.length:Int) - 1)) ps)=true:=by
 obtain⟨r,e,hp⟩:=Ztl hd hl
 generalize hR:Zq6 x l ((l.length:Int) - 1)=R at *
 have hRl:R.length=r.length+1:=by rw[e];simp
 have hcl:(Zrc x l R ps).length=R.length:=by simp[Zrc]
 unfold Zlb at hw ⊢
 rw[if_neg hl,zaA]at hw
 rw[if_neg (by omega),zaA]
 constructor
 ·rw[show(((Zrc x l R ps).length:Int) - 1)=((r.length:Nat):Int) by omega,ZrO (by omega)]
  have:R[r.length]'(by omega)=(l.length:Int) - 1:=by simp only[e];simp
  rw[this]
  exact hw.1
 ·rw[zbR,cnt_zero]
  intro i hi
  rw[hcl]at hi
  have hir:i<r.length:=by omega
  have hiR:R[i]'(by omega)=r[i]:=by simp only[e];rw[zbK hir]
  obtain⟨v,hv,hc⟩:=hp r[i] (zal hir)
  obtain⟨m,hm,rfl⟩:=zaw hv
  rw[zaO]
  unfold kids
  rw[zbC]
  refine⟨mvN x ps (Zdw l R[m]),zan.2 ⟨R[m],zal hm,rfl⟩,?_⟩
  have hld:(mvN x ps (Zdw l R[m])).dim=(Zdw l R[m]).dim:=rfl
  unfold chs at hc
  split at hc
  ·cases hc
  ·rename_i hlast
   have hlast:lastB x (Zdw l R[m]).dim=false:=by simpa using hlast
   rw[hld,hlast,Zrh,hlast]
   simp only[zbm,if_false]
   obtain⟨c,hc1,hc2⟩:=zan.1 hc
   obtain⟨j,hj,hji,a,b⟩:=h.child hm hlast hc1
   refine zan.2 ⟨_,zan.2 ⟨c,hc1,rfl⟩,?_⟩
   simp only[zaB]
   rw[b]
   have hji:j=i:=by
    rcases Nat.lt_trichotomy j i with h1|h1|h1
    ·have:=zbI.1 h.plc.nodup j i hj (by omega) h1
     exact absurd (by rw[hiR,<- hc2,a]) this
    ·exact h1
    ·have:=zbI.1 h.plc.nodup i j (by omega) hj h1
     exact absurd (by rw[hiR,<- hc2,a]) this
   rw[hji]
theorem Zsc.arw {x:Shp} {l:List Nod} {H H':Zaa} {id:Nat} (h:ArNew x l 131072 H H' id):ArA H' id x l:=by
 obtain⟨tk,tok,h,_⟩:=h
 exact h.ara
def plM (r:List Int):Nat->List (Int×Int)
 | 0=>[]
 | k+1=>ZbU (r.getD k 0) (k:Int) (plM r k)
theorem Ztn {n:Nat} {r:List Int} (hp:Plc n r):∀k,k<=r.length->∀j (hj:j<k) (hr:j<r.length),Zcz r[j] (plM r k)=some (j:Int)
 | 0,_,j,hj,_=>by omega
 | k+1,hk,j,hj,hr=>by
  have hkr:k<r.length:=by omega
  have hgd:r.getD k 0=r[k]:=by rw[zaf,zab hkr];rfl
  rw[show plM r (k+1)=ZbU (r.getD k 0) (k:Int) (plM r k)from rfl,hgd,Zeg]
  rcases zbJ j k with h|h
  ·have hne:r[j]≠r[k]:=zbI.1 hp.nodup j k hr hkr h
   rw[if_neg hne]
   exact Ztn hp k (by omega) j h hr
  ·obtain rfl:j=k:=by omega
   rw[if_pos rfl]
theorem cel_ext {a b:Cel} (h1:a.key=b.key) (h2:a.child=b.child) (h3:a.agg=b.agg):a=b:=by
 cases a;cases b;simp at h1 h2 h3;simp[h1,h2,h3]
theorem mv_same {x:Shp} {l:List Nod} {r ps:List Int} (h:Ord x l r ps) {i:Nat} (hi:i<r.length):mvMN x (plM r (i+1)) (Zdw l r[i])=mvN x ps (Zdw l r[i]):=by
 have hb:=bfd (lastB x (Zdw l r[i]).dim)
 rcases hb with hb|hb
 ·have hc:∀c∈each (Zdw l r[i]),mvM (plM r (i+1)) c=mvC true ps c:=fun c hc=>by
   obtain⟨j,hj,hji,a,b⟩:=h.child hi hb hc
   refine cel_ext (by rw[ZrI];rfl) ?_ (by rw[Zsf];rfl)
   rw[b]
   show(Zcz c.child (plM r (i+1))).getD 0=_
   rw[a,Ztn h.plc (i+1) (by omega) j (by omega) hj]
   rfl
  unfold mvMN mvN
  rw[hb]
  simp only[zbm,if_false,zaB]
  rw[hc _ (by unfold each;simp)]
  congr 1
  refine zbV fun c hcl=>?_
  unfold mvL
  exact zbV fun d hd=>hc d (by unfold each;exact zbf _ (zbi.2 ⟨c,hcl,hd⟩))
 ·unfold mvMN mvN
  rw[hb]
  simp only[if_true,zaG]
  generalize Zdw l r[i]=n
  obtain⟨d,ls,al⟩:=n
  simp only[Zrp]
  congr 1
  unfold mvL
  rw[show mvC false ps=id from funext fun c=>Zrp ps c]
  simp
def incB (r:List Int):Bool:=decide (r=(List.range r.length).map fun i:Nat=>(i:Int))
theorem Zsa (t lt:Tok) (x:Shp) (l:List Nod) (H:Zaa) (hl:l.length<=200000) (hn:∀n∈l,Zdb n):Zay Tryz.prog 36 [.agg [.sl t (rII x.sizes),.i x.measures],.sl lt (rN l)] H (Zsc x l H):=by
 refine Zay.wknA (Zqd lt x l H hl hn) rfl fun i a b ha hb=>?_
 match i with
 | 0 =>
  simp only[List.getElem?_cons_zero,zac]at ha hb
  subst ha hb
  refine .agg _ _ rfl fun j p q hp hq=>?_
  have hq:([.sl .no (rII x.sizes),.i x.measures]:List AV)[j]?=some q:=hq
  match j with
  | 0=>simp at hp hq;subst hp hq;exact Zqv _ _
  | 1=>simp at hp hq;subst hp hq;exact .refl _
  | j+2=>simp at hp
 | 1=>simp at ha hb;subst ha hb;exact .refl _
 | i+2=>simp at ha
theorem Zsu {r:List Int}:incB r=true ↔ ∀i (h:i<r.length),r[i]=(i:Int):=by
 unfold incB
 rw[decide_eq_true_iff]
 constructor
 ·intro h i hi
  have:r[i]?=((List.range r.length).map fun i:Nat=>(i:Int))[i]?:=by rw[<- h]
  rw[zab hi]at this
  simpa [hi] using this
 ·intro h
  refine zbU (by simp) fun i h1 h2=>?_
  rw[h i h1];simp
theorem ZsQ {r:List Int} {i:Nat} (h:i<r.length) (hne:r[i]≠(i:Int)):incB r=false:=by
 cases e:incB r with
 | false=>rfl
 | true=>exact absurd (Zsu.1 e i h) hne
def isB (x:Shp) (l:List Nod):Bool:=Zlb x l&&incB (Zq6 x l ((l.length:Int) - 1))
set_option maxHeartbeats 4000000 in
theorem Zq9 {H:Zaa} {aid:Nat} {x:Shp} {l:List Nod} (ha:ArA H aid x l) (hw:ArW x l):Zay Tryz.prog 46 [.ptr aid 0] H (ZrY H (.b (isB x l))):=by
 obtain⟨p1,p2,p3⟩:=hw.bounds
 have hlen:=hw.len
 have hpl:=(Zsk hw.down ((l.length:Int) - 1)).len
 unfold isB
 refine Zak hE cf46 (zad rfl) fun Q qr qn=>?_
 ((have hd:=tv;repeat' first|(first|apply Zad|apply Zac|apply Zab)<;>intro hd<;>try simp only[hd]|simp(disch:=first|assumption|omega|simp only[nx]<;>omega|fail)only[hd,qr,qn,ZrM,↓YA,YY,sevalprocAttr])<;>try revert hd;refine ttr ?_)
 (refine Zap.use (Znm ha hw) ?_;rintro _ _ ⟨rfl,k1,rfl⟩)
 have w1:=bfd (Zlb x l)
 rcases w1 with w1|w1
 ·rw[w1]at qr qn
  ((have hd:=tv;repeat' first|(first|apply Zad|apply Zac|apply Zab)<;>intro hd<;>try simp only[hd]|simp(disch:=first|assumption|omega|simp only[nx]<;>omega|fail)only[hd,qr,qn,ZrM,↓YA,YY,sevalprocAttr,w1])<;>try revert hd;refine ttr ?_)
  exact Zaq ⟨rfl,by exact AXT⟩
 rw[w1]at qr qn
 ((have hd:=tv;repeat' first|(first|apply Zad|apply Zac|apply Zab)<;>intro hd<;>try simp only[hd]|simp(disch:=first|assumption|omega|simp only[nx]<;>omega|fail)only[hd,qr,qn,ZrM,↓YA,YY,sevalprocAttr,w1])<;>try revert hd;refine ttr ?_)
 (refine Zap.use (Ziu (ha.ext (Zaa.Ext.refl H).bump) p1 (by omega)) ?_;rintro _ H1 ⟨rfl,hx1⟩)
 have hx1:Zaa.Ext H H1:=(Zaa.Ext.refl H).bump.trans hx1
 ((have hd:=tv;repeat' first|(first|apply Zad|apply Zac|apply Zab)<;>intro hd<;>try simp only[hd]|simp(disch:=first|assumption|omega|simp only[nx]<;>omega|fail)only[hd,qr,qn,ZrM,↓YA,YY,sevalprocAttr])<;>try revert hd;refine ttr ?_)
 (refine Zap.use (Zrb (ha.ext hx1) hw ((l.length:Int) - 1)) ?_;rintro _ _ ⟨rfl,k2,rfl⟩)
 generalize Zq6 x l ((l.length:Int) - 1)=R at *
 ((have hd:=tv;repeat' first|(first|apply Zad|apply Zac|apply Zab)<;>intro hd<;>try simp only[hd]|simp(disch:=first|assumption|omega|simp only[nx]<;>omega|fail)only[hd,qr,qn,ZrM,↓YA,YY,sevalprocAttr])<;>try revert hd;refine ttr ?_)
 refine Zbs [11,12] (σ:=Unit) (fun(k:Nat) s=>∀i (h:i<R.length),i<k->R[i]=(i:Int)) (fun k s=>[]) (fun k s=>[]) () (GStep.refl _ _) (by simp only[ZaA,Zav,Fr.put,Fr.get,↓reduceIte,Nat.reduceEqDiff];rfl) (by intro k s;rfl) (by intro k s;rfl) (by rfl) (by unfold maxLen;omega) ?_ (by simp only[ZaF]) (by simp only[ZaJ]) ?_ ?_
 ·intro i h h2;omega
 ·(rintro k s G hk ht hG hn;try simp only[nx]at hn)
  by_cases e:R[k]=(k:Int)
  ·have d1:((k:Int) != R[k])=false:=by rw[e];simp
   ((have hd:=tv;repeat' first|(first|apply Zad|apply Zac|apply Zab)<;>intro hd<;>try simp only[hd]|simp(disch:=first|assumption|omega|simp only[nx]<;>omega|fail)only[hd,qr,qn,ZrM,↓YA,YY,sevalprocAttr,d1])<;>try revert hd;refine ttr ?_)
   exact⟨(),fun i h h2=>by
    by_cases e2:i=k
    ·subst e2;exact e
    ·exact ht i h (by omega),by exact HXT⟩
  ·have d1:((k:Int) != R[k])=true:=by simpa using zbo e
   ((have hd:=tv;repeat' first|(first|apply Zad|apply Zac|apply Zab)<;>intro hd<;>try simp only[hd]|simp(disch:=first|assumption|omega|simp only[nx]<;>omega|fail)only[hd,qr,qn,ZrM,↓YA,YY,sevalprocAttr,d1])<;>try revert hd;refine ttr ?_)
   exact Zaq ⟨by rw[ZsQ hk e];rfl,(hx1.bump).trans hG.ext⟩
 ·(rintro s G ht hG hn;try simp only[nx]at hn)
  ((have hd:=tv;repeat' first|(first|apply Zad|apply Zac|apply Zab)<;>intro hd<;>try simp only[hd]|simp(disch:=first|assumption|omega|simp only[nx]<;>omega|fail)only[hd,qr,qn,ZrM,↓YA,YY,sevalprocAttr])<;>try revert hd;refine ttr ?_)
  exact Zaq ⟨by rw[Zsu.2 fun i h=>ht i h h];rfl,(hx1.bump).trans hG.ext⟩
def CanonQ (x:Shp) (C:List Nod) (H:Zaa) (r:AV) (H':Zaa):Prop:=Zaa.Ext H H'/\∃id,r=.tup [.ptr id 0,.i 0]/\ArA H' id x C
set_option maxHeartbeats 8000000 in
theorem ZrU {H:Zaa} {aid:Nat} {x:Shp} {l:List Nod} {C:List Nod} (ha:ArA H aid x l) (hw:ArW x l) (he:Zm5 x l=0) (top:Int) (hr:0<=top/\top<l.length) (hC:Zrc x l (Zq6 x l top) (plF l.length (Zq6 x l top) (Zq6 x l top).length)=C) :
  Zay Tryz.prog 43 [.ptr aid 0,.i top] H (CanonQ x C H):=by
 obtain⟨p1,p2,p3⟩:=hw.bounds
 obtain⟨b1,b2,b3,b4,b5⟩:=Zby hw.may
 have hlen:=hw.len
 have hO:=ord_of hw.down top
 have hpl:=hO.plc.len
 have hCs:∀n∈C,Zdb n:=by
  rw[<- hC]
  intro n hn
  obtain⟨a,_,rfl⟩:=zan.1 hn
  exact ZsA (Zq1 a hw.small)
 have hCe:Zm5 x C=0:=by rw[<- hC];exact Zte hO he (by omega)
 have hCl:C.length=(Zq6 x l top).length:=by rw[<- hC];simp[Zrc]
 refine Zak hE cf43 (zad rfl) fun Q qr qn=>?_
 obtain⟨_,_,_,g1⟩:=ha.eAr
 ((have hd:=tv;repeat' first|(first|apply Zad|apply Zac|apply Zab)<;>intro hd<;>try simp only[hd]|simp(disch:=first|assumption|omega|simp only[nx]<;>omega|fail)only[hd,qr,qn,Zrk,↓YA,YY,sevalprocAttr])<;>try revert hd;refine ttr ?_)
 refine Zap.use (ZlR g1 hw.may) ?_
 rintro r H1 ⟨hx1,t1,rfl⟩
 have d1:(x.measures == 0)=false:=by rw[beq_eq_false_iff_ne];omega
 have d2:decide (top<0)=false:=by simp;omega
 have d3:decide (top≥(l.length:Int))=false:=by simp;omega
 ((have hd:=tv;repeat' first|(first|apply Zad|apply Zac|apply Zab)<;>intro hd<;>try simp only[hd]|simp(disch:=first|assumption|omega|simp only[nx]<;>omega|fail)only[hd,qr,qn,Zrk,↓YA,YY,sevalprocAttr,d1,d2])<;>try revert hd;refine ttr ?_)
 (refine Zap.use (Zq3 (ha.ext hx1) hw) ?_;rintro _ H2 ⟨rfl,hx2⟩)
 have hx2:=hx1.trans hx2
 ((have hd:=tv;repeat' first|(first|apply Zad|apply Zac|apply Zab)<;>intro hd<;>try simp only[hd]|simp(disch:=first|assumption|omega|simp only[nx]<;>omega|fail)only[hd,qr,qn,Zrk,↓YA,YY,sevalprocAttr,d3])<;>try revert hd;refine ttr ?_)
 have gm:((H2.alloc (.map (.one (.int .i64)) [] false)).alloc (.cells [.mp H2.next] 152)).get H2.next=some (.map (.one (.int .i64)) (Zgf kI AV.i (plM (Zq6 x l top) 0)) false):=by
  rw[Zaa.Zag (by simp only[nx];omega)];exact Zaa.Zae
 have gp:((H2.alloc (.map (.one (.int .i64)) [] false)).alloc (.cells [.mp H2.next] 152)).get (H2.next+1)=some (.cells [.mp H2.next] 152):=Zaa.Zae (H:=H2.alloc _)
 have hx3:Zaa.Ext H ((H2.alloc (.map (.one (.int .i64)) [] false)).alloc (.cells [.mp H2.next] 152)):=by exact AXT
 have hx2n:=hx2.next
 generalize hmid:H2.next=mid at *
 generalize (H2.alloc (.map (.one (.int .i64)) [] false)).alloc (.cells [.mp mid] 152)=G3 at *
 (refine Zap.use (Zrb (ha.ext hx3) hw top) ?_;rintro _ _ ⟨rfl,k3,rfl⟩)
 have hx4:Zaa.Ext H (G3.bump k3):=hx3.bump
 have gm:(G3.bump k3).get mid=_:=gm
 have gp:(G3.bump k3).get (mid+1)=_:=gp
 generalize G3.bump k3=G4 at *
 have lm:=Zaa.lt gm
 have lp:=Zaa.lt gp
 have ha4:=ha.ext hx4
 have hal:aid<H.next:=by obtain⟨_,_,_,e⟩:=ha;exact Zaa.lt e
 have hal4:=hx4.next
 generalize hR:Zq6 x l top=R at *
 ((have hd:=tv;repeat' first|(first|apply Zad|apply Zac|apply Zab)<;>intro hd<;>try simp only[hd]|simp(disch:=first|assumption|omega|simp only[nx]<;>omega|fail)only[hd,qr,qn,Zrk,↓YA,YY,sevalprocAttr])<;>try revert hd;refine ttr ?_)
 refine ZbJ (N:=R.length) (fun k F S=>Fr.get F 31=.i (k:Int)/\Fr.get F 30=.i (R.length:Int)/\Fr.get F 29=.sl .no (rI R)/\Fr.get F 0=.ptr aid 0/\Fr.get F 6=.ptr (mid+1) 0/\Fr.get F 7=.fn 84 [] [.ptr (mid+1) 0]/\Fr.get F 8=.sl (.own G4.next) (rN (C.take k)) /\
  S.get mid=some (.map (.one (.int .i64)) (Zgf kI AV.i (plM R k)) false)/\S.get (mid+1)=some (.cells [.mp mid] 152)/\S.get G4.next=some (.tok k 115 14)/\Zaa.Ext H S) (by unfold maxLen;omega) (fun k F G h=>⟨h.1,h.2.1⟩) (GStep.tok 8 115 14 rfl) ⟨rfl,rfl,rfl,rfl,rfl,rfl,rfl,by rw[Zaa.Zag (by omega)];exact gm,by rw[Zaa.Zag (by omega)];exact gp,Zaa.Zae (H:=G4),hx4.alloc⟩ ?_ ?_
 ·rintro k F G hk ⟨f31,f30,f29,f0,f6,f7,f8,hgm,hgp,hgt,hxG⟩
  have haG:=ha.ext hxG
  have hRk:=hO.plc.lo _ (zal hk)
  ((have hd:=tv;repeat' first|(first|apply Zad|apply Zac|apply Zab)<;>intro hd<;>try simp only[hd]|simp(disch:=first|assumption|omega|simp only[nx]<;>omega|fail)only[hd,qr,qn,Zrk,↓YA,YY,sevalprocAttr,f31,f30,f29,f0,f6,f7,f8])<;>try revert hd;refine ttr ?_)
  refine Zap.use (ZfD R[k] haG p1 hw.small) ?_
  rintro r G5 ⟨hx5,t5,rfl⟩
  have hgm:=hx5.get _ _ hgm
  have hgt:=hx5.get _ _ hgt
  have hgp:=hx5.get _ _ hgp
  have haG:=haG.ext hx5
  have hlm:=Zaa.lt hgm
  have hlt:=Zaa.lt hgt
  have hlp:=Zaa.lt hgp
  have hgd:R.getD k 0=R[k]:=by rw[zaf,zab hk];rfl
  have ms1:=ZcH (kf:=kI) (vf:=AV.i) ZkH R[k] (k:Int) (plM R k)
  have hpl1:ZbU R[k] (k:Int) (plM R k)=plM R (k+1):=by rw[<- hgd];rfl
  rw[hpl1]at ms1
  have hcs:(ZbD t5 (Zdw l R[k])).length=14:=rfl
  have hxG5:=hxG.trans hx5
  ((have hd:=tv;repeat' first|(first|apply Zad|apply Zac|apply Zab)<;>intro hd<;>try simp only[hd]|simp(disch:=first|assumption|omega|simp only[nx]<;>omega|fail)only[hd,qr,qn,Zrk,↓YA,YY,sevalprocAttr,hgp,hgm,ZrS,ms1,f31,f30,f29,f0,f6,f7,f8])<;>try revert hd;refine ttr ?_)
  have hgn:((G5.alloc (.cells (ZbD t5 (Zdw l R[k])) 115)).set mid (.map (.one (.int .i64)) (Zgf kI AV.i (plM R (k+1))) false)).get G5.next=some (.cells (ZbD t5 (Zdw l R[k])) 115):=by
   rw[Zaa.Zah (by omega)];exact Zaa.Zae
  have hgm6:((G5.alloc (.cells (ZbD t5 (Zdw l R[k])) 115)).set mid (.map (.one (.int .i64)) (Zgf kI AV.i (plM R (k+1))) false)).get mid=some (.map (.one (.int .i64)) (Zgf kI AV.i (plM R (k+1))) false):=by
   rw[Zaa.Zal (by simp only[nx];omega)]
  have hgt6:((G5.alloc (.cells (ZbD t5 (Zdw l R[k])) 115)).set mid (.map (.one (.int .i64)) (Zgf kI AV.i (plM R (k+1))) false)).get G4.next=some (.tok k 115 14):=by
   rw[Zaa.Zah (by omega),Zaa.Zag (by omega)];exact hgt
  have hgp6:((G5.alloc (.cells (ZbD t5 (Zdw l R[k])) 115)).set mid (.map (.one (.int .i64)) (Zgf kI AV.i (plM R (k+1))) false)).get (mid+1)=some (.cells [.mp mid] 152):=by
   rw[Zaa.Zah (by omega),Zaa.Zag (by omega)];exact hgp
  have ha6:ArA ((G5.alloc (.cells (ZbD t5 (Zdw l R[k])) 115)).set mid (.map (.one (.int .i64)) (Zgf kI AV.i (plM R (k+1))) false)) aid x l:=by
   obtain⟨tok,nt,most,e⟩:=haG
   have:=Zaa.lt e
   exact⟨tok,nt,most,by rw[Zaa.Zah (by omega),Zaa.Zag (by omega)];exact e⟩
  have hn6:G4.next<((G5.alloc (.cells (ZbD t5 (Zdw l R[k])) 115)).set mid (.map (.one (.int .i64)) (Zgf kI AV.i (plM R (k+1))) false)).next:=by simp only[nx];omega
  have hx6:Zaa.Ext H ((G5.alloc (.cells (ZbD t5 (Zdw l R[k])) 115)).set mid (.map (.one (.int .i64)) (Zgf kI AV.i (plM R (k+1))) false)):=(hxG5.alloc).set (by omega)
  generalize (G5.alloc (.cells (ZbD t5 (Zdw l R[k])) 115)).set mid (.map (.one (.int .i64)) (Zgf kI AV.i (plM R (k+1))) false)=G6 at *
  obtain⟨_,_,_,g6⟩:=ha6.eAr
  refine Zap.use (ZlR g6 hw.may) ?_
  rintro r G7 ⟨hx7,t7,rfl⟩
  have hgn:=hx7.get _ _ hgn
  have hgm7:=hx7.get _ _ hgm6
  have hgt7:=hx7.get _ _ hgt6
  have hgp7:=hx7.get _ _ hgp6
  have hlt7:=Zaa.lt hgt7
  have hsm:=Zq1 R[k] hw.small
  have hne:∀c∈(Zdw l R[k]).lists,c≠[]:=by
   have:∃a:Nat,∃h:a<l.length,Zdw l R[k]=l[a]:=by
    obtain⟨a,e⟩:∃a:Nat,R[k]=a:=⟨R[k].toNat,by omega⟩
    have:a<l.length:=by omega
    exact⟨a,this,by rw[e,Zm8 this]⟩
   obtain⟨a,h,e⟩:=this
   rw[e]
   exact ZpI he _ (zal h)
  have hCk:k<C.length:=by omega
  have hmv:mvMN x (plM R (k+1)) (Zdw l R[k])=C[k]:=by
   rw[mv_same hO hk]
   simp only[<- hC,Zrc,zbp]
  have hx67:=hx6.trans hx7
  ((have hd:=tv;repeat' first|(first|apply Zad|apply Zac|apply Zab)<;>intro hd<;>try simp only[hd]|simp(disch:=first|assumption|omega|simp only[nx]<;>omega|fail)only[hd,qr,qn,Zrk,↓YA,YY,sevalprocAttr,hgn,f31,f30,f29,f0,f6,f7,f8])<;>try revert hd;refine ttr ?_)
  refine Zap.use (Zse t7 t5 (Zdw l R[k]) ⟨hgp7,hgm7⟩ ⟨hsm.1,hsm.2.2⟩ hne (by omega)) ?_
  rintro _ _ ⟨rfl,k8,rfl⟩
  rw[hmv]
  have la1:=ZmW (C.take k)
  have la2:ZaE 14 [ZbD .no C[k]]=true:=rfl
  have lm1:k+1<=maxLen:=by unfold maxLen;omega
  have lm2:(k+1) * 128<=140737488355328:=by omega
  have hlk:(C.take k).length=k:=by simp;omega
  have hsn:rN (C.take k)++[ZbD .no C[k]]=rN (C.take (k+1)):=by rw[Zrd hCk];exact ZqC _ _
  generalize C[k]=ck at *
  generalize C.take k=D at *
  ((have hd:=tv;repeat' first|(first|apply Zad|apply Zac|apply Zab)<;>intro hd<;>try simp only[hd]|simp(disch:=first|assumption|omega|simp only[nx]<;>omega|fail)only[hd,qr,qn,Zrk,↓YA,YY,sevalprocAttr,la1,la2,lm1,lm2,hlk,hgt7,f31,f30,f29,f0,f6,f7,f8])<;>try revert hd;refine ttr ?_)
  exact⟨congrArg (AV.sl _) hsn,hgm7,hgp7,(hx67.bump).set (by omega)⟩
 ·rintro F G ⟨f31,f30,f29,f0,f6,f7,f8,hgm,hgp,hgt,hxG⟩
  have haG:=ha.ext hxG
  obtain⟨_,_,_,g6⟩:=haG.eAr
  rw[<- hCl,zaP]at f8
  ((have hd:=tv;repeat' first|(first|apply Zad|apply Zac|apply Zab)<;>intro hd<;>try simp only[hd]|simp(disch:=first|assumption|omega|simp only[nx]<;>omega|fail)only[hd,qr,qn,Zrk,↓YA,YY,sevalprocAttr,f31,f30,f29,f0,f6,f7,f8])<;>try revert hd;refine ttr ?_)
  refine Zap.use (ZlR g6 hw.may) ?_
  rintro r G7 ⟨hx7,t7,rfl⟩
  ((have hd:=tv;repeat' first|(first|apply Zad|apply Zac|apply Zab)<;>intro hd<;>try simp only[hd]|simp(disch:=first|assumption|omega|simp only[nx]<;>omega|fail)only[hd,qr,qn,Zrk,↓YA,YY,sevalprocAttr,f31,f30,f29,f0,f6,f7,f8])<;>try revert hd;refine ttr ?_)
  have hxG7:=hxG.trans hx7
  refine Zap.use (Zsa t7 _ x C _ (by omega) hCs) ?_
  rintro r G8 ⟨hx8,hr⟩
  rcases hr with⟨h1,rfl⟩|⟨h1,id,rfl,h2⟩
  ·exact absurd hCe h1
  ·((have hd:=tv;repeat' first|(first|apply Zad|apply Zac|apply Zab)<;>intro hd<;>try simp only[hd]|simp(disch:=first|assumption|omega|simp only[nx]<;>omega|fail)only[hd,qr,qn,Zrk,↓YA,YY,sevalprocAttr])<;>try revert hd;refine ttr ?_)
   exact Zaq ⟨hxG7.trans hx8,id,rfl,Zsc.arw h2⟩
theorem ZsB {x:Shp} {l:List Nod} (hd:Down x l):∀(n m:Nat) (came:List Int) (at_:Int),0<=at_->at_<l.length->at_<(n:Int)->at_<(m:Int)->Zq7 x l n came at_=Zq7 x l m came at_
 | 0,m,came,at_,h0,h1,h2,h3=>by omega
 | n+1,0,came,at_,h0,h1,h2,h3=>by omega
 | n+1,m+1,came,at_,h0,h1,h2,h3=>by
  unfold Zq7
  split
  ·rfl
  ·congr 1
   have key:∀(cs:List Int) (came:List Int),(∀c∈cs,0<=c/\c<at_)->cs.foldl (Zq7 x l n) came=cs.foldl (Zq7 x l m) came:=by
    intro cs
    induction cs with
    | nil=>intro _ _;rfl
    | cons c cs ih =>
     intro came hc
     obtain⟨c0,c1⟩:=hc c zah
     rw[List.foldl_cons,List.foldl_cons,ZsB hd n m came c c0 (by omega) (by omega) (by omega)]
     exact ih _ fun d hd2=>hc d (zae _ hd2)
   exact key _ _ fun c hc=>Zq8 hd h0 h1 hc
section
variable {x:Shp} {l:List Nod} {r ps:List Int}
theorem chs_can (h:Ord x l r ps) {i:Nat} (hi:i<r.length):∃js:List Nat,chs x (Zrc x l r ps) (i:Int)=js.map (fun j:Nat=>(j:Int))/\chs x l r[i]=js.map (fun j=>r.getD j 0)/\∀j∈js,j<r.length:=by
 unfold chs
 rw[ZrO hi,show(mvN x ps (Zdw l r[i])).dim=(Zdw l r[i]).dim from rfl,Zrh]
 cases hl:lastB x (Zdw l r[i]).dim with
 | true=>exact⟨[],rfl,rfl,by simp⟩
 | false =>
  simp only[zbm,if_false,zaB]
  have key:∀cs:List Cel,(∀c∈cs,c∈each (Zdw l r[i]))->∃js:List Nat,(cs.map (mvC true ps)).map Cel.child=js.map (fun j:Nat=>(j:Int))/\cs.map Cel.child=js.map (fun j=>r.getD j 0)/\∀j∈js,j<r.length:=by
   intro cs
   induction cs with
   | nil=>intro _;exact⟨[],rfl,rfl,by simp⟩
   | cons c cs ih =>
    intro hc
    obtain⟨js,e1,e2,e3⟩:=ih fun d hd=>hc d (zae _ hd)
    obtain⟨j,hj,_,k1,k2⟩:=h.child hi hl (hc c zah)
    refine⟨j :: js,?_,?_,fun u hu=>?_⟩
    ·rw[zak,zak,k2,e1];rfl
    ·rw[zak,zak,k1,e2,zaf,zab hj];rfl
    ·rcases zao.1 hu with rfl|hu
     ·exact hj
     ·exact e3 u hu
  exact key _ fun c hc=>hc
theorem Zs1 (h:Ord x l r ps) {i j:Nat} (hi:i<r.length) (hj:j<r.length) (e:r.getD i 0=r.getD j 0):i=j:=by
 have gi:=h.get i hi
 have gj:=h.get j hj
 rw[zaf,zab hi,zaf,zab hj]at e
 simp only[Option.getD_some]at e
 rw[e,gj]at gi
 omega
theorem Zs5 (h:Ord x l r ps):∀(n:Nat) (cs:List Nat) (a:Nat),(∀u∈cs,u<r.length)->a<r.length ->
  ∃cs':List Nat,Zq7 x (Zrc x l r ps) n (cs.map fun j:Nat=>(j:Int)) (a:Int)=cs'.map (fun j:Nat=>(j:Int))/\Zq7 x l n (cs.map fun j=>r.getD j 0) (r.getD a 0)=cs'.map (fun j=>r.getD j 0)/\∀u∈cs',u<r.length
 | 0,cs,a,hc,ha=>⟨cs,rfl,rfl,hc⟩
 | n+1,cs,a,hc,ha=>by
  have hra:r.getD a 0=r[a]:=by rw[zaf,zab ha];rfl
  obtain⟨js,j1,j2,j3⟩:=chs_can h ha
  unfold Zq7
  by_cases hm:a∈cs
  ·have m1:(cs.map fun j:Nat=>(j:Int)).contains (a:Int)=true:=by
    rw[zaO];exact zan.2 ⟨a,hm,rfl⟩
   have m2:(cs.map fun j=>r.getD j 0).contains (r.getD a 0)=true:=by
    rw[zaO];exact zan.2 ⟨a,hm,rfl⟩
   rw[if_pos m1,if_pos m2]
   exact⟨cs,rfl,rfl,hc⟩
  ·have m1:¬(cs.map fun j:Nat=>(j:Int)).contains (a:Int)=true:=by
    rw[zaO]
    rintro hx
    obtain⟨u,hu,e⟩:=zan.1 hx
    have:u=a:=by omega
    exact hm (this ▸ hu)
   have m2:¬(cs.map fun j=>r.getD j 0).contains (r.getD a 0)=true:=by
    rw[zaO]
    rintro hx
    obtain⟨u,hu,e⟩:=zan.1 hx
    exact hm (Zs1 h (hc u hu) ha e ▸ hu)
   rw[if_neg m1,if_neg m2,hra,j1,j2]
   have key:∀(js:List Nat) (cs:List Nat),(∀u∈cs,u<r.length)->(∀j∈js,j<r.length)->∃cs':List Nat,(js.map fun j:Nat=>(j:Int)).foldl (Zq7 x (Zrc x l r ps) n) (cs.map fun j:Nat=>(j:Int))=cs'.map (fun j:Nat=>(j:Int)) /\
     (js.map fun j=>r.getD j 0).foldl (Zq7 x l n) (cs.map fun j=>r.getD j 0)=cs'.map (fun j=>r.getD j 0)/\∀u∈cs',u<r.length:=by
    intro js
    induction js with
    | nil=>intro cs hc _;exact⟨cs,rfl,rfl,hc⟩
    | cons j js ih =>
     intro cs hc hj
     obtain⟨c1,e1,e2,e3⟩:=Zs5 h n cs j hc (hj j zah)
     simp only[zak,List.foldl_cons,e1,e2]
     exact ih c1 e3 fun u hu=>hj u (zae _ hu)
   obtain⟨cs',k1,k2,k3⟩:=key js cs hc j3
   refine⟨cs'++[a],?_,?_,fun u hu=>?_⟩
   ·rw[k1];simp
   ·rw[k2,zaV,zak,zaD,hra]
   ·rcases zaC.1 hu with hu|hu
    ·exact k3 u hu
    ·rw[zat.1 hu];exact ha
end
theorem Zto {x:Shp} {l:List Nod} (he:Zm5 x l=0) (hlen:l.length<=100000) (hs:∀n∈l,Zdb n) (hl0:l.length≠0) (hw:Zlb x l=true) :
  ∃C,Zrc x l (Zq6 x l ((l.length:Int) - 1)) (plF l.length (Zq6 x l ((l.length:Int) - 1)) (Zq6 x l ((l.length:Int) - 1)).length)=C/\ArW x C/\C.length<=l.length/\ZrV x x l C=true/\isB x C=true:=by
 obtain⟨wa,da⟩:=Zr3 he hlen hs
 have hO:=ord_of wa.down ((l.length:Int) - 1)
 have hwc:=whole_mv wa.down hl0 hw hO
 have hlc:=Zte hO he hlen
 have hpl:=hO.plc.len
 obtain⟨r0,er,_⟩:=Ztl wa.down hl0
 have hr0:0<(Zq6 x l ((l.length:Int) - 1)).length:=by rw[er];simp
 have htop:(Zq6 x l ((l.length:Int) - 1)).getD ((Zq6 x l ((l.length:Int) - 1)).length - 1) 0=(l.length:Int) - 1:=by
  rw[er];simp
 have hvis:Zq6 x l ((l.length:Int) - 1)=Zq7 x l l.length [] ((l.length:Int) - 1):=by
  conv=>lhs;unfold Zq6
  rw[if_pos (by omega)]
 generalize hr:Zq6 x l ((l.length:Int) - 1)=r at *
 generalize hps:plF l.length r r.length=ps at *
 have hCs:∀n∈Zrc x l r ps,Zdb n:=by
  intro n hn
  obtain⟨a,_,rfl⟩:=zan.1 hn
  exact ZsA (Zq1 a hs)
 have hCl:(Zrc x l r ps).length=r.length:=by simp[Zrc]
 obtain⟨wb,db⟩:=Zr3 hlc (by omega) hCs
 have hq:r.length - 1<r.length:=by omega
 have htop':r[r.length - 1]=(l.length:Int) - 1:=by
  rw[zaf,zab hq]at htop;exact htop
 refine⟨_,rfl,wb,by omega,?_,?_⟩
 ·unfold ZrV
  rw[hw,hwc,if_neg (by omega)]
  simp only[decide_true,zbj]
  unfold Zts
  have:=(Zr8 hO l.length _ hq (by omega)).1
  rw[htop']at this
  rw[hCl,show((r.length:Int) - 1)=((r.length - 1:Nat):Int) by omega]
  exact this
 ·unfold isB
  rw[hwc,zbj]
  obtain⟨cs',k1,k2,k3⟩:=Zs5 hO l.length [] (r.length - 1) (by simp) hq
  rw[zaD]at k1 k2
  rw[htop,<- hvis]at k2
  have hlen2:cs'.length=r.length:=by have:=congrArg List.length k2;simpa using this.symm
  have hcs:cs'=List.range r.length:=by
   refine zbU (by simp[hlen2]) fun i h1 h2=>?_
   rw[zcB]
   have hi:i<r.length:=by omega
   refine Zs1 hO (k3 _ (zal h1)) hi ?_
   have:=congrArg (fun l=>l[i]?) k2
   simp only[zaN,zab hi,zab h1,Option.map_some,zac]at this
   rw[<- this,zaf,zab hi];rfl
  have hord:Zq6 x (Zrc x l r ps) (((Zrc x l r ps).length:Int) - 1)=(List.range r.length).map fun i:Nat=>(i:Int):=by
   unfold Zq6
   rw[if_pos (by omega),ZsB wb.down _ l.length [] _ (by omega) (by omega) (by omega) (by omega),hCl,show((r.length:Int) - 1)=((r.length - 1:Nat):Int) by omega,k1,hcs]
  rw[hord]
  unfold incB
  simp
end Go.Proofs.YtaapiigfmdhobaaGreat
