/- Texts of the walk, joined: Ea Eb Ec Ed. -/
import Derived.Test.YtaapiigfmdhobaaGreatMw
namespace Go.Proofs.YtaapiigfmdhobaaGreat
set_option linter.unusedSimpArgs false
set_option linter.unusedVariables false
open Go.RowKit
section
variable (x:Shp) (L:List (List (List Int))) (facts:List Fct)
def ZiH (c:DSt) (b d:Nat) (p:List Nat) (z:Cel):Prop :=
 if d+1=L.length then z.child=0∧z.agg=(ZdJ facts ag0 p).getD ag0
 else z.agg=ag0∧∃j:Nat,z.child=(j:Int)∧j<b∧j<c.N.length∧(c.N.getD j ZdH).dim=((d+1:Nat):Int)∧c.P.getD j []=p
def NodD (c:DSt) (b d:Nat) (p:List Nat) (n:Nod):Prop :=
 n.dim=(d:Int)∧n.all.key=0∧ZiH L facts c b d p n.all∧ZeK (ZeK fun(z:Cel) (g:Int×List Nat)=>z.key=g.1∧ZiH L facts c b d g.2 z) n.lists (ZaC x L facts d p)
def Zd3 (p:List Nat):Prop:=p≠[]∧p.Sublist (List.range facts.length)
structure ZdW (c:DSt):Prop where
 len:c.N.length=c.P.length
 nod:∀i,i<c.N.length→∃d,d<L.length∧NodD x L facts c i d (c.P.getD i []) (c.N.getD i ZdH)
 uniq:∀i j,i<c.N.length→j<c.N.length→(c.N.getD i ZdH).dim=(c.N.getD j ZdH).dim→c.P.getD i []=c.P.getD j []→i=j
 part:∀i,i<c.N.length→Zd3 facts (c.P.getD i [])
end
section
variable {x:Shp} {L:List (List (List Int))} {facts:List Fct}
theorem Zd3.ok {p:List Nat} (h:Zd3 facts p):Zbz facts p:=⟨h.1,by have:=h.2.length_le;simpa using this,fun i hi=>by have:=h.2.subset hi;simpa using this⟩
theorem Zd3.grs {p:List Nat} (h:Zd3 facts p) {key:Nat→Int} {n:Nat} {g:Int×List Nat} (hg:g∈grs key n p):Zd3 facts g.2:=by
 have h1:=Zfb hg
 unfold Go.Proofs.YtaapiigfmdhobaaGreat.grs at hg
 obtain⟨k,_,hk⟩:=List.mem_filterMap.1 hg
 split at hk
 ·cases hk
 ·injection hk with hk
  subst hk
  exact⟨h1.1,List.filter_sublist.trans h.2⟩
theorem Zd3.groups {p:List Nat} (h:Zd3 facts p) {d:Nat}:∀t∈ZaC x L facts d p,∀q∈t,Zd3 facts q.2:=fun t ht q hq=>by
 unfold ZaC at ht
 obtain⟨k,_,rfl⟩:=List.mem_map.1 ht
 exact h.grs hq
theorem ZjP {α:Type} {l m:List α} {i:Nat} {a:α} (h:i<l.length):(l++m).getD i a=l.getD i a:=by
 rw[List.getD_eq_getElem?_getD,List.getElem?_append_left h,← List.getD_eq_getElem?_getD]
theorem Zih {α:Type} {l:List α} {b a:α}:(l++[b]).getD l.length a=b:=by simp
theorem ZiH.mono {c c':DSt} {e:Int} {b b' d:Nat} {p:List Nat} {z:Cel} (h:ZiH L facts c b d p z) (hm:Zdd e c c') (hl:c.N.length=c.P.length) (hb:b≤b'):ZiH L facts c' b' d p z:=by
 obtain⟨N1,P1,h1,h2,h3,h4,_⟩:=hm
 unfold ZiH at *
 split
 ·rename_i hd;rw[if_pos hd]at h;exact h
 ·rename_i hd
  rw[if_neg hd]at h
  obtain⟨k1,j,k2,k3,k4,k5,k6⟩:=h
  refine⟨k1,j,k2,by omega,by rw[h1,List.length_append];omega,?_,?_⟩
  ·rw[h1,ZjP k4];exact k5
  ·rw[h2,ZjP (by omega)];exact k6
theorem NodD.mono {c c':DSt} {e:Int} {b d:Nat} {p:List Nat} {n:Nod} (h:NodD x L facts c b d p n) (hm:Zdd e c c') (hl:c.N.length=c.P.length):NodD x L facts c' b d p n:=by
 obtain⟨h1,h2,h3,h4⟩:=h
 exact⟨h1,h2,h3.mono hm hl (Nat.le_refl _),h4.imp fun a b h=>h.imp fun z g ⟨k1,k2⟩=>⟨k1,k2.mono hm hl (Nat.le_refl _)⟩⟩
def CelS (x:Shp) (L:List (List (List Int))) (facts:List Fct) (d:Nat) (h:DSt→Int→List Nat→DSt×Cel):Prop :=
 ∀c k p,Zd3 facts p→ZdW x L facts c→ZdW x L facts (h c k p).1∧Zdd ((d:Int)+1) c (h c k p).1∧(h c k p).2.key=k∧ZiH L facts (h c k p).1 (h c k p).1.N.length d p (h c k p).2
def NodS (x:Shp) (L:List (List (List Int))) (facts:List Fct) (d:Nat) (f:DSt→List Nat→DSt×Int):Prop :=
 ∀c p,Zd3 facts p→ZdW x L facts c→ZdW x L facts (f c p).1∧Zdd d c (f c p).1∧∃j:Nat,(f c p).2=(j:Int)∧j<(f c p).1.N.length∧((f c p).1.N.getD j ZdH).dim=(d:Int)∧(f c p).1.P.getD j []=p
theorem Zmp {d:Nat} {h:DSt→Int→List Nat→DSt×Cel} (hh:CelS x L facts d h):∀(l:List (Int×List Nat)) (c:DSt),(∀q∈l,Zd3 facts q.2)→ZdW x L facts c→ZdW x L facts (cellsD h c l).1∧Zdd ((d:Int)+1) c (cellsD h c l).1 ∧
  ZeK (fun(z:Cel) (g:Int×List Nat)=>z.key=g.1∧ZiH L facts (cellsD h c l).1 (cellsD h c l).1.N.length d g.2 z) (cellsD h c l).2 l
 | [],c,_,hc=>⟨hc,Zdd.refl _ _,.nil⟩
 | p :: ps,c,hp,hc=>by
  obtain⟨h1,h2,h3,h4⟩:=hh c p.1 p.2 (hp p List.mem_cons_self) hc
  obtain⟨k1,k2,k3⟩:=Zmp hh ps _ (fun q hq=>hp q (List.mem_cons_of_mem _ hq)) h1
  exact⟨k1,h2.trans k2,.cons ⟨h3,h4.mono k2 h1.len k2.pre.length_le⟩ k3⟩
theorem Zmj {d:Nat} {h:DSt→Int→List Nat→DSt×Cel} (hh:CelS x L facts d h):∀(l:List (List (Int×List Nat))) (c:DSt),(∀t∈l,∀q∈t,Zd3 facts q.2)→ZdW x L facts c→ZdW x L facts (ZbW h c l).1∧Zdd ((d:Int)+1) c (ZbW h c l).1 ∧
  ZeK (ZeK fun(z:Cel) (g:Int×List Nat)=>z.key=g.1∧ZiH L facts (ZbW h c l).1 (ZbW h c l).1.N.length d g.2 z) (ZbW h c l).2 l
 | [],c,_,hc=>⟨hc,Zdd.refl _ _,.nil⟩
 | p :: ps,c,hp,hc=>by
  obtain⟨h1,h2,h3⟩:=Zmp hh p c (hp p List.mem_cons_self) hc
  obtain⟨k1,k2,k3⟩:=Zmj hh ps _ (fun q hq=>hp q (List.mem_cons_of_mem _ hq)) h1
  exact⟨k1,h2.trans k2,.cons (h3.imp fun z g ⟨m1,m2⟩=>⟨m1,m2.mono k2 h1.len k2.pre.length_le⟩) k3⟩
theorem cell_s {d:Nat} {f:DSt→List Nat→DSt×Int} (hf:d+1≠L.length→NodS x L facts (d+1) f):CelS x L facts d (Zc2 facts f (decide (d+1=L.length))):=by
 intro c k p hp hc
 by_cases hl:d+1=L.length
 ·have e:Zc2 facts f (decide (d+1=L.length)) c k p=(⟨c.N,c.P,c.over || (ZdJ facts ag0 p).isNone⟩,⟨k,0,(ZdJ facts ag0 p).getD ag0⟩):=by unfold Zc2;rw[decide_eq_true hl,if_pos rfl]
  rw[e]
  have hM:Zdd ((d:Int)+1) c ⟨c.N,c.P,c.over || (ZdJ facts ag0 p).isNone⟩:=⟨[],[],by simp,by simp,rfl,by simp,fun h=>by simp[h]⟩
  refine⟨⟨hc.len,fun i hi=>?_,hc.uniq,hc.part⟩,hM,rfl,?_⟩
  ·obtain⟨e,he,hn⟩:=hc.nod i hi
   exact⟨e,he,hn.mono hM hc.len⟩
  ·unfold ZiH
   rw[if_pos hl]
   exact⟨rfl,rfl⟩
 ·have e:Zc2 facts f (decide (d+1=L.length)) c k p=((f c p).1,⟨k,(f c p).2,ag0⟩):=by unfold Zc2;rw[decide_eq_false hl,if_neg (by simp)]
  rw[e]
  obtain⟨h1,h2,j,h3,h4,h5,h6⟩:=hf hl c p hp hc
  refine⟨h1,by simpa using h2,rfl,?_⟩
  unfold ZiH
  rw[if_neg hl]
  exact⟨rfl,j,h3,h4,h4,h5,h6⟩
theorem vis_s {d:Nat} {f:DSt→List Nat→DSt×Int} (hd:d<L.length) (hf:d+1≠L.length→NodS x L facts (d+1) f):NodS x L facts d (visF x L facts f d):=by
 intro c p hp hc
 have hcel:=cell_s (d:=d) (f:=f) hf
 obtain⟨t1,t2,t3⟩:=Zmj hcel (ZaC x L facts d p) c hp.groups hc
 obtain⟨a1,a2,a3,a4⟩:=hcel (ZbW (Zc2 facts f (decide (d+1=L.length))) c (ZaC x L facts d p)).1 0 p hp t1
 unfold visF
 generalize (ZbW (Zc2 facts f (decide (d+1=L.length))) c (ZaC x L facts d p))=U at *
 generalize (Zc2 facts f (decide (d+1=L.length)) U.1 0 p)=B at *
 cases hfn:Ze3 d p c.N c.P with
 | some i =>
  obtain⟨i1,i2,i3⟩:=Zly hfn
  exact⟨hc,Zdd.refl _ _,i,rfl,i1,i2,i3⟩
 | none =>
  have hM:Zdd d c B.1:=(t2.trans a2).weak (by omega)
  have hfB:Ze3 d p B.1.N B.1.P=none:=by rw[(t2.trans a2).fnd hc.len (by omega) p];exact hfn
  have hnew:∀i,i<B.1.N.length→¬((B.1.N.getD i ZdH).dim=(d:Int)∧B.1.P.getD i []=p):=fun i hi=>by
   unfold Ze3 at hfB
   rw[List.find?_eq_none]at hfB
   have:=hfB i (by simpa using hi)
   unfold ZgB at this
   simpa using this
  have hM2:Zdd d B.1 (Ze8 d p B U.2).1:=⟨[⟨d,U.2,B.2⟩],[p],rfl,rfl,rfl,by simp,id⟩
  have eN:(Ze8 d p B U.2).1.N=B.1.N++[⟨d,U.2,B.2⟩]:=rfl
  have eP:(Ze8 d p B U.2).1.P=B.1.P++[p]:=rfl
  have oN:∀i,i<B.1.N.length→(Ze8 d p B U.2).1.N.getD i ZdH=B.1.N.getD i ZdH:=fun i hi=>by rw[eN,ZjP hi]
  have oP:∀i,i<B.1.N.length→(Ze8 d p B U.2).1.P.getD i []=B.1.P.getD i []:=fun i hi=>by rw[eP,ZjP (by rw[← a1.len];exact hi)]
  have nN:(Ze8 d p B U.2).1.N.getD B.1.N.length ZdH=⟨d,U.2,B.2⟩:=by rw[eN,Zih]
  have nP:(Ze8 d p B U.2).1.P.getD B.1.N.length []=p:=by rw[eP,a1.len,Zih]
  have hlen:(Ze8 d p B U.2).1.N.length=B.1.N.length+1:=by rw[eN,List.length_append];rfl
  have hcase:∀i,i<(Ze8 d p B U.2).1.N.length→i<B.1.N.length∨i=B.1.N.length:=fun i hi=>by omega
  refine⟨⟨hM2.len a1.len,fun i hi=>?_,fun i j hi hj h1 h2=>?_,fun i hi=>?_⟩,hM.trans hM2,B.1.N.length,rfl,by show _<(Ze8 d p B U.2).1.N.length;omega,?_,?_⟩
  ·rcases hcase i hi with hi|rfl
   ·obtain⟨e,he,hn⟩:=a1.nod i hi
    show ∃d',_∧NodD x L facts (Ze8 d p B U.2).1 i d' ((Ze8 d p B U.2).1.P.getD i []) ((Ze8 d p B U.2).1.N.getD i ZdH)
    rw[oN i hi,oP i hi]
    exact⟨e,he,hn.mono hM2 a1.len⟩
   ·show ∃d',_∧NodD x L facts (Ze8 d p B U.2).1 B.1.N.length d' ((Ze8 d p B U.2).1.P.getD B.1.N.length []) ((Ze8 d p B U.2).1.N.getD B.1.N.length ZdH)
    rw[nN,nP]
    refine⟨d,hd,rfl,a3,a4.mono hM2 a1.len (Nat.le_refl _),t3.imp fun l m h=>h.imp fun z g ⟨m1,m2⟩=>⟨m1,?_⟩⟩
    exact(m2.mono a2 t1.len a2.pre.length_le).mono hM2 a1.len (Nat.le_refl _)
  ·have h1:((Ze8 d p B U.2).1.N.getD i ZdH).dim=((Ze8 d p B U.2).1.N.getD j ZdH).dim:=h1
   have h2:(Ze8 d p B U.2).1.P.getD i []=(Ze8 d p B U.2).1.P.getD j []:=h2
   rcases hcase i hi with hi|rfl
   ·rcases hcase j hj with hj|rfl
    ·rw[oN i hi,oN j hj]at h1
     rw[oP i hi,oP j hj]at h2
     exact a1.uniq i j hi hj h1 h2
    ·rw[oN i hi,nN]at h1
     rw[oP i hi,nP]at h2
     exact absurd ⟨h1,h2⟩ (hnew i hi)
   ·rcases hcase j hj with hj|rfl
    ·rw[oN j hj,nN]at h1
     rw[oP j hj,nP]at h2
     exact absurd ⟨h1.symm,h2.symm⟩ (hnew j hj)
    ·rfl
  ·show Zd3 facts ((Ze8 d p B U.2).1.P.getD i [])
   rcases hcase i hi with hi|rfl
   ·rw[oP i hi];exact a1.part i hi
   ·rw[nP];exact hp
  ·show((Ze8 d p B U.2).1.N.getD B.1.N.length ZdH).dim=_
   rw[nN]
  ·exact nP
theorem Zls:∀(n:Nat),n+1≤L.length→NodS x L facts (L.length - (n+1)) (Zhq x L facts (n+1))
 | 0,h=>vis_s (d:=L.length - 1) (f:=Zhq x L facts 0) (by have:1≤L.length:=h;omega) (fun h2=>absurd (show L.length - 1+1=L.length by have:1≤L.length:=h;omega) h2)
 | n+1,h=>vis_s (d:=L.length - (n+1+1)) (f:=Zhq x L facts (n+1)) (by omega) (fun _=>by
   have:=Zls n (by omega)
   rw[show L.length - (n+1+1)+1=L.length - (n+1) by omega]
   exact this)
theorem Zf8:ZdW x L facts ⟨[],[],false⟩:=⟨rfl,fun i hi=>absurd hi (Nat.not_lt_zero i),fun i j hi=>absurd hi (Nat.not_lt_zero i),fun i hi=>absurd hi (Nat.not_lt_zero i)⟩
theorem Zhu (h:facts≠[]):Zd3 facts (List.range facts.length):=⟨by simp;exact h,List.Sublist.refl _⟩
def subs:List Nat→List (List Nat)
 | []=>[[]]
 | a :: l=>subs l++(subs l).map (a :: ·)
theorem Zj5:∀l,(subs l).length=2 ^ l.length
 | []=>rfl
 | a :: l=>by simp only[subs,List.length_append,List.length_map,Zj5 l,List.length_cons,Nat.pow_succ];omega
theorem mem_subs {p l:List Nat} (h:p.Sublist l):p∈subs l:=by
 induction h with
 | slnil=>exact List.mem_singleton.2 rfl
 | cons a h ih=>exact List.mem_append_left _ ih
 | cons_cons a h ih=>exact List.mem_append_right _ (List.mem_map_of_mem ih)
theorem ZjN {α:Type} [DecidableEq α]:∀{l m:List α},l.Nodup→(∀a∈l,a∈m)→l.length≤m.length
 | [],m,_,_=>Nat.zero_le _
 | a :: l,m,h1,h2=>by
  obtain⟨k1,k2⟩:=List.nodup_cons.1 h1
  have hm:=h2 a List.mem_cons_self
  have:=ZjN (m:=m.erase a) k2 fun b hb=>(List.mem_erase_of_ne fun(e:b=a)=>k1 (by rw[← e];exact hb)).2 (h2 b (List.mem_cons_of_mem _ hb))
  rw[List.length_erase_of_mem hm]at this
  have:0<m.length:=List.length_pos_of_mem hm
  simp only[List.length_cons]
  omega
theorem Zhw (A:List (List Nat)):∀D:List Nat,(D.flatMap fun d=>A.map fun p=>(d,p)).length=D.length * A.length
 | []=>by simp
 | d :: D=>by rw[List.flatMap_cons,List.length_append,Zhw A D,List.length_map,List.length_cons,Nat.add_mul];omega
theorem Zml {c:DSt} (h:ZdW x L facts c):c.N.length≤L.length * 2 ^ facts.length:=by
 have hl:=ZjN (l:=(List.range c.N.length).map fun i=>((c.N.getD i ZdH).dim.toNat,c.P.getD i [])) (m:=(List.range L.length).flatMap fun d=>(subs (List.range facts.length)).map fun p=>(d,p)) ?_ ?_
 ·rw[Zhw,Zj5]at hl
  simpa using hl
 ·refine List.pairwise_map.2 (List.pairwise_lt_range.imp_of_mem fun {i j} hi hj hij he=>?_)
  have hi:i<c.N.length:=by simpa using hi
  have hj:j<c.N.length:=by simpa using hj
  obtain⟨d,_,hn⟩:=h.nod i hi
  obtain⟨e,_,hm⟩:=h.nod j hj
  injection he with e1 e2
  have h1:=hn.1
  have h2:=hm.1
  have:=h.uniq i j hi hj (by rw[h1,h2]at e1 ⊢;omega) e2
  omega
 ·intro a ha
  obtain⟨i,hi,rfl⟩:=List.mem_map.1 ha
  have hi:i<c.N.length:=by simpa using hi
  obtain⟨d,hd,hn⟩:=h.nod i hi
  refine List.mem_flatMap.2 ⟨d,by simpa using hd,List.mem_map.2 ⟨c.P.getD i [],mem_subs (h.part i hi).2,?_⟩⟩
  rw[hn.1];rfl
structure WAg (k:Nat) (a:Ag):Prop where
 n0:0≤a.n
 n1:a.n≤(k:Int) * 1000000000
 s0 : -((k:Int) * 1000000000000)≤a.s0∧a.s0≤(k:Int) * 1000000000000
 s1 : -((k:Int) * 1000000000000)≤a.s1∧a.s1≤(k:Int) * 1000000000000
 s2 : -((k:Int) * 1000000000000)≤a.s2∧a.s2≤(k:Int) * 1000000000000
theorem WAg.more {k m:Nat} {a:Ag} (h:WAg k a) (hk:k≤m):WAg m a:=by
 obtain⟨h0,h1,h2,h3,h4⟩:=h
 exact⟨h0,by omega,by omega,by omega,by omega⟩
theorem Zkv {j k:Nat} {a b:Ag} (ha:WAg j a) (hb:WAg k b) (hjk:j+k≤2000):∃c,Zdl a b=some c∧WAg (j+k) c:=by
 obtain⟨a0,a1,a2,a3,a4⟩:=ha
 obtain⟨b0,b1,b2,b3,b4⟩:=hb
 have f:∀v:Int,-9223372036854775808≤v→v≤9223372036854775807→ZeW v=true:=fun v h1 h2=>decide_eq_true (by unfold In64;omega)
 unfold Zdl
 by_cases h1:a.n=0
 ·exact⟨b,if_pos h1,(WAg.mk b0 b1 b2 b3 b4).more (by omega)⟩
 rw[if_neg h1]
 by_cases h2:b.n=0
 ·exact⟨a,if_pos h2,(WAg.mk a0 a1 a2 a3 a4).more (by omega)⟩
 rw[if_neg h2,f _ (by omega) (by omega),f (a.s0+b.s0) (by omega) (by omega),f (a.s1+b.s1) (by omega) (by omega),f (a.s2+b.s2) (by omega) (by omega)]
 refine⟨_,rfl,?_⟩
 unfold Zem
 simp only[show(0:Nat)<3 from by decide,show(1:Nat)<3 from by decide,show(2:Nat)<3 from by decide,if_true]
 exact⟨by simp only;omega,by simp only;omega,by simp only;omega,by simp only;omega,by simp only;omega⟩
theorem wag0:WAg 0 ag0:=⟨by decide,by decide,by decide,by decide,by decide⟩
theorem Zfy (hf:∀f∈facts,WAg 1 f.2):∀(part:List Nat) (a:Ag) (k:Nat),WAg k a→k+part.length≤2000→(∀i∈part,i<facts.length)→∃b,ZdJ facts a part=some b∧WAg (k+part.length) b
 | [],a,k,ha,_,_=>⟨a,rfl,ha⟩
 | i :: r,a,k,ha,hl,hp=>by
  have hi:=hp i List.mem_cons_self
  have hg:facts.getD i ([],ag0)=facts[i]:=by rw[List.getD_eq_getElem?_getD,List.getElem?_eq_getElem hi];rfl
  simp only[List.length_cons]at hl
  obtain⟨c,h1,h2⟩:=Zkv ha (hf _ (List.getElem_mem hi)) (by omega)
  obtain⟨b,h3,h4⟩:=Zfy hf r c (k+1) h2 (by omega) fun j hj=>hp j (List.mem_cons_of_mem _ hj)
  refine⟨b,?_,h4.more (by simp only[List.length_cons];omega)⟩
  unfold ZdJ
  rw[hg,h1]
  exact h3
theorem ZfB {h:DSt→Int→List Nat→DSt×Cel} (hh:∀c k p,Zbz facts p→(h c k p).1.over=c.over):∀(l:List (Int×List Nat)) (c:DSt),(∀q∈l,Zbz facts q.2)→(cellsD h c l).1.over=c.over
 | [],_,_=>rfl
 | p :: ps,c,hp=>(ZfB hh ps _ fun q hq=>hp q (List.mem_cons_of_mem _ hq)).trans (hh c p.1 p.2 (hp p List.mem_cons_self))
theorem Zf2 {h:DSt→Int→List Nat→DSt×Cel} (hh:∀c k p,Zbz facts p→(h c k p).1.over=c.over):∀(l:List (List (Int×List Nat))) (c:DSt),(∀t∈l,∀q∈t,Zbz facts q.2)→(ZbW h c l).1.over=c.over
 | [],_,_=>rfl
 | p :: ps,c,hp=>(Zf2 hh ps _ fun q hq=>hp q (List.mem_cons_of_mem _ hq)).trans (ZfB hh p c (hp p List.mem_cons_self))
theorem Zit (hs:∀p,Zbz facts p→(ZdJ facts ag0 p).isNone=false):∀(n:Nat) (c:DSt) (p:List Nat),Zbz facts p→(Zhq x L facts n c p).1.over=c.over
 | 0,_,_,_=>rfl
 | n+1,c,p,hp=>by
  have hc:∀c k p,Zbz facts p→(Zc2 facts (Zhq x L facts n) (decide (L.length - (n+1)+1=L.length)) c k p).1.over=c.over:=fun c k p hp=>by
   cases (decide (L.length - (n+1)+1=L.length))with
   | true =>
    show(c.over || (ZdJ facts ag0 p).isNone)=c.over
    rw[hs p hp,Bool.or_false]
   | false=>exact Zit hs n c p hp
  show(visF x L facts (Zhq x L facts n) (L.length - (n+1)) c p).1.over=c.over
  unfold visF visM
  split
  ·rfl
  ·exact(hc _ 0 p hp).trans (Zf2 hc _ c (Zku hp))
end
theorem ZlB {S:Sc} {facts:List Fct} (hs:scE S=0) (hr:Zd7 (Za3 S) none facts=0) (hl:facts.length≤1000) (hw:∀f∈facts,WAg 1 f.2):ZdW (Za3 S) (Zan S) facts (Zcn S facts)∧(Zcn S facts).over=false:=by
 have hLl:(Zan S).length=S.dims.length:=by unfold Zan;rw[List.length_map]
 have hs1:=(Zb7 hs).1
 unfold Zcn
 split
 ·exact⟨Zf8,rfl⟩
 ·rename_i hne
  have hp:=Zhu hne
  have h1:=Zls (x:=Za3 S) (L:=Zan S) (facts:=facts) ((Zan S).length - 1) (by omega) ⟨[],[],false⟩ _ hp Zf8
  rw[show(Zan S).length - 1+1=(Zan S).length by omega]at h1
  refine⟨h1.1,Zit (fun p hp=>?_) _ _ _ hp.ok⟩
  obtain⟨b,hb,_⟩:=Zfy hw p ag0 0 wag0 (by have:=hp.2.1;omega) hp.2.2
  rw[hb];rfl
theorem vis_last {x:Shp} {L:List (List (List Int))} {facts:List Fct} {f:DSt→List Nat→DSt×Int} {d:Nat} {c:DSt} {p:List Nat} (h:Ze3 d p c.N c.P=none):(visF x L facts f d c p).2+1=((visF x L facts f d c p).1.N.length:Int):=by
 unfold visF visM
 rw[h]
 show(_:Int)+1=((_++[_]).length:Int)
 rw[List.length_append,List.length_singleton]
 rfl
theorem ZmL {S:Sc} {facts:List Fct} (hs:scE S=0) (hne:facts≠[]):0<(Zcn S facts).N.length∧((Zcn S facts).N.getD ((Zcn S facts).N.length - 1) ZdH).dim=0∧(Zcn S facts).P.getD ((Zcn S facts).N.length - 1) []=List.range facts.length:=by
 have hLl:(Zan S).length=S.dims.length:=by unfold Zan;rw[List.length_map]
 have hs1:=(Zb7 hs).1
 have hp:=Zhu hne
 have h1:=Zls (x:=Za3 S) (L:=Zan S) (facts:=facts) ((Zan S).length - 1) (by omega) ⟨[],[],false⟩ _ hp Zf8
 have h2:=vis_last (x:=Za3 S) (L:=Zan S) (facts:=facts) (f:=Zhq (Za3 S) (Zan S) facts ((Zan S).length - 1)) (d:=(Zan S).length - ((Zan S).length - 1+1)) (c:=⟨[],[],false⟩) (p:=List.range facts.length) rfl
 have h2:(Zhq (Za3 S) (Zan S) facts ((Zan S).length - 1+1) ⟨[],[],false⟩ (List.range facts.length)).2+1=_:=h2
 have h2:(Zhq (Za3 S) (Zan S) facts ((Zan S).length - 1+1) ⟨[],[],false⟩ (List.range facts.length)).2+1=((Zhq (Za3 S) (Zan S) facts ((Zan S).length - 1+1) ⟨[],[],false⟩ (List.range facts.length)).1.N.length:Int):=h2
 rw[show(Zan S).length - 1+1=(Zan S).length by omega]at h1 h2
 rw[Nat.sub_self]at h1
 obtain⟨_,_,j,e,h3,h4,h5⟩:=h1
 unfold Zcn
 rw[if_neg hne]
 have hj:j=(Zhq (Za3 S) (Zan S) facts (Zan S).length ⟨[],[],false⟩ (List.range facts.length)).1.N.length - 1:=by omega
 rw[← hj]
 exact⟨by omega,h4,h5⟩
def Za9 (L:List (List (List Int))) (facts:List Fct):Nat→List (Int×Int)→Nat→Bool
 | _,[],_=>true
 | d,q :: w,i=>(decide (q.1<0) || (Zdm L facts d q.1.toNat i == q.2))&&Za9 L facts (d+1) w i
def Zek (n:Nod) (q:Int×Int):Option Cel :=
 if n.lists.length=0∨(n.lists.length:Int)≤q.1 then none else if q.1<0 then some n.all else (n.lists.getD q.1.toNat []).find? fun c=>c.key == q.2
def ZmK:Option Cel→Cel×Int
 | none=>(ZcE,10)
 | some c=>(c,0)
def ZcB (N:List Nod) (at' dim:Int) (q:Int×Int):Cel×Int :=
 if at'<0∨(N.length:Int)≤at' then (ZcE,9) else
 if (N.getD at'.toNat ZdH).dim≠dim∨((N.getD at'.toNat ZdH).lists.length:Int)≤q.1 then (ZcE,15) else ZmK (Zek (N.getD at'.toNat ZdH) q)
def ZbP (N:List Nod):Int→Nat→Nat→Cel→List (Int×Int)→Ag×Nat×Int
 | _,_,reads,c,[]=>(c.agg,reads,0)
 | at',dim,reads,_,q :: w=>if (ZcB N at' dim q).2≠0 then (ag0,reads+1,(ZcB N at' dim q).2) else ZbP N (ZcB N at' dim q).1.child (dim+1) (reads+1) (ZcB N at' dim q).1 w
def Zd6 (N:List Nod):Int→Nat→List (Int×Int)→List Int
 | _,_,[]=>[]
 | at',dim,q :: w=>at' :: (if (ZcB N at' dim q).2≠0 then [] else Zd6 N (ZcB N at' dim q).1.child (dim+1) w)
def ZfF (x:Shp) (L:List (List (List Int))) (d:Nat) (q:Int×Int):Prop:=(q.1<0∧q.2=0)∨∃t:Nat,q.1=(t:Int)∧t<(L.getD d []).length∧0≤q.2∧q.2<Zch x d t
def WayF (x:Shp) (L:List (List (List Int))):Nat→List (Int×Int)→Prop
 | _,[]=>True
 | d,q :: w=>ZfF x L d q∧WayF x L (d+1) w
section
variable {x:Shp} {L:List (List (List Int))} {facts:List Fct}
theorem ZhW {R:Cel→Int×List Nat→Prop} (hR:∀z g,R z g→z.key=g.1) (k:Int):∀{l:List Cel} {m:List (Int×List Nat)},ZeK R l m→(∃z g,(l.find? fun c=>c.key == k)=some z∧(m.find? fun g=>g.1 == k)=some g∧R z g)∨((l.find? fun c=>c.key == k)=none∧(m.find? fun g=>g.1 == k)=none)
 | _,_,.nil=>.inr ⟨rfl,rfl⟩
 | _,_,.cons (a:=a) (b:=b) h t=>by
  have hk:=hR _ _ h
  by_cases c:b.1=k
  ·refine .inl ⟨a,b,?_,?_,h⟩
   ·rw[List.find?_cons,show(a.key == k)=true by simp[hk,c]]
   ·rw[List.find?_cons,show(b.1 == k)=true by simp[c]]
  ·rw[List.find?_cons,List.find?_cons,show(a.key == k)=false by simp[hk,c],show(b.1 == k)=false by simp[c]]
   exact ZhW hR k t
theorem grs_of {key:Nat→Int} {n:Nat} {part:List Nat} {g:Int×List Nat} (hg:g∈grs key n part):g.2=part.filter fun i=>decide (key i=g.1):=by
 unfold grs at hg
 obtain⟨k,_,h⟩:=List.mem_filterMap.1 hg
 split at h
 ·cases h
 ·injection h with h;rw[← h]
theorem grs_find {key:Nat→Int} {n:Nat} {part:List Nat} {k:Int} (h0:0≤k) (h1:k<n):(grs key n part).find? (fun g=>g.1 == k)=if part.filter (fun i=>decide (key i=k))=[] then none else some (k,part.filter fun i=>decide (key i=k)):=by
 cases hf:(grs key n part).find? (fun g=>g.1 == k)with
 | some g =>
  have hm:=List.mem_of_find?_eq_some hf
  have hk:=List.find?_some hf
  have hk:g.1=k:=by simpa using hk
  have h2:=grs_of hm
  have h3:=(Zfb hm).1
  rw[hk]at h2
  rw[if_neg (by rw[← h2];exact h3),← h2,← hk]
 | none =>
  rw[List.find?_eq_none]at hf
  split
  ·rfl
  ·rename_i hne
   exfalso
   obtain⟨i,hi⟩:=List.exists_mem_of_ne_nil _ hne
   obtain⟨i1,i2⟩:=List.mem_filter.1 hi
   have i2:key i=k:=by simpa using i2
   have:=Zfg (key:=key) (n:=n) i1 (by rw[i2];exact⟨h0,h1⟩)
   rw[i2]at this
   obtain⟨g,hg,he⟩:=List.mem_map.1 this
   exact hf g hg (by simpa using he)
theorem ZgZ {α β:Type} {R:α→β→Prop}:∀{l:List α} {m:List β},ZeK R l m→∀(i:Nat) (h:i<l.length) (h':i<m.length),R l[i] m[i]
 | _,_,.nil,i,h,_=>by simp at h
 | _,_,.cons h t,0,_,_=>h
 | _,_,.cons h t,i+1,h1,h2=>ZgZ t i (by simpa using h1) (by simpa using h2)
def ZeD (L:List (List (List Int))) (facts:List Fct) (d:Nat) (p:List Nat) (q:Int×Int):List Nat:=if q.1<0 then p else p.filter fun i=>decide (Zdm L facts d q.1.toNat i=q.2)
theorem ZjL {c:DSt} (hF:ZbI x L facts) (hc:ZdW x L facts c) {j d:Nat} (hj:j<c.N.length) (hd:(c.N.getD j ZdH).dim=(d:Int)) {q:Int×Int} (hq:ZfF x L d q) :
  (ZeD L facts d (c.P.getD j []) q=[]→ZcB c.N j d q=(ZcE,10))∧(ZeD L facts d (c.P.getD j []) q≠[]→(ZcB c.N j d q).2=0∧ZiH L facts c j d (ZeD L facts d (c.P.getD j []) q) (ZcB c.N j d q).1):=by
 obtain⟨e,he,hn⟩:=hc.nod j hj
 obtain⟨n1,n2,n3,n4⟩:=hn
 obtain rfl:e=d:=by rw[hd]at n1;omega
 have hpart:=hc.part j hj
 have hgl:(ZaC x L facts e (c.P.getD j [])).length=(L.getD e []).length:=by unfold ZaC;simp
 have hll:=n4.length
 have hL:(L.getD e [])=L[e]:=by rw[List.getD_eq_getElem?_getD,List.getElem?_eq_getElem he];rfl
 obtain⟨t1,t2,t3⟩:=hF.tier e he
 have hgl2:(L.getD e []).length=L[e].length:=by rw[hL]
 have hgg:∀k (h:k<(ZaC x L facts e (c.P.getD j [])).length),(ZaC x L facts e (c.P.getD j []))[k]=grs (Zdm L facts e k) (Zch x e k) (c.P.getD j []):=fun k h=>by simp[ZaC]
 have h0:¬((j:Int)<0∨(c.N.length:Int)≤j):=by omega
 generalize hp:c.P.getD j []=p at *
 have hnz:((c.N.getD ((j:Int)).toNat ZdH))=c.N.getD j ZdH:=by rw[Int.toNat_natCast]
 rcases hq with⟨q1,q2⟩|⟨t,q1,q2,q3,q4⟩
 ·have hs:ZcB c.N j e q=((c.N.getD j ZdH).all,0):=by
   unfold ZcB Zek
   rw[if_neg h0,hnz,if_neg (by rw[hd];omega),if_neg (by omega),if_pos q1];rfl
  have hpq:ZeD L facts e p q=p:=by unfold ZeD;rw[if_pos q1]
  rw[hpq,hs]
  exact⟨fun h=>absurd h hpart.1,fun _=>⟨rfl,n3⟩⟩
 ·have htn:t<(c.N.getD j ZdH).lists.length:=by omega
  have hs:ZcB c.N j e q=ZmK (((c.N.getD j ZdH).lists[t]).find? fun c=>c.key == q.2):=by
   unfold ZcB Zek
   rw[if_neg h0,hnz,if_neg (by rw[hd];omega),if_neg (by omega),if_neg (by omega),q1,Int.toNat_natCast,List.getD_eq_getElem?_getD,List.getElem?_eq_getElem htn];rfl
  have hpq:ZeD L facts e p q=p.filter fun i=>decide (Zdm L facts e t i=q.2):=by unfold ZeD;rw[if_neg (by omega),q1,Int.toNat_natCast]
  have h4:=ZgZ n4 t htn (by omega)
  rw[hgg t (by omega)]at h4
  have hgf:=grs_find (key:=Zdm L facts e t) (n:=Zch x e t) (part:=p) q3 q4
  rw[hpq,hs]
  rcases ZhW (fun z g h=>h.1) q.2 h4 with⟨z,g,e1,e2,hr⟩|⟨e1,e2⟩
  ·rw[e1]
   rw[e2]at hgf
   split at hgf
   ·cases hgf
   ·rename_i hne
    injection hgf with hgf
    rw[hgf]at hr
    exact⟨fun h=>absurd h hne,fun _=>⟨rfl,hr.2⟩⟩
  ·rw[e1]
   rw[e2]at hgf
   split at hgf
   ·rename_i hem;exact⟨fun _=>rfl,fun h=>absurd hem h⟩
   ·cases hgf
theorem Zey (d:Nat) (p:List Nat) (q:Int×Int) (w:List (Int×Int)):p.filter (Za9 L facts d (q :: w))=(ZeD L facts d p q).filter (Za9 L facts (d+1) w):=by
 unfold ZeD
 split
 ·rename_i h
  refine List.filter_congr fun i _=>?_
  rw[Za9,decide_eq_true h,Bool.true_or,Bool.true_and]
 ·rename_i h
  rw[List.filter_filter]
  refine List.filter_congr fun i _=>?_
  rw[Za9,decide_eq_false h,Bool.false_or,Bool.and_comm]
  congr 1
theorem Zie {c:DSt} (hF:ZbI x L facts) (hc:ZdW x L facts c):∀(w:List (Int×Int)) (j d:Nat) (reads:Nat) (z:Cel),w≠[]→d+w.length=L.length→j<c.N.length→(c.N.getD j ZdH).dim=(d:Int)→WayF x L d w →
  ((c.P.getD j []).filter (Za9 L facts d w)=[]→(ZbP c.N j d reads z w).1=ag0∧(ZbP c.N j d reads z w).2.2=10) ∧
  ((c.P.getD j []).filter (Za9 L facts d w)≠[]→(ZbP c.N j d reads z w).1=(ZdJ facts ag0 ((c.P.getD j []).filter (Za9 L facts d w))).getD ag0∧(ZbP c.N j d reads z w).2.2=0)
 | [],_,_,_,_,h,_,_,_,_=>absurd rfl h
 | q :: w,j,d,reads,z,_,hl,hj,hd,hw=>by
  obtain⟨h1,h2⟩:=ZjL hF hc hj hd hw.1
  rw[Zey]
  simp only[List.length_cons]at hl
  by_cases hp:ZeD L facts d (c.P.getD j []) q=[]
  ·have hs:=h1 hp
   rw[hp,List.filter_nil]
   have e:ZbP c.N j d reads z (q :: w)=(ag0,reads+1,10):=by unfold ZbP;rw[hs,if_pos (by decide)]
   rw[e]
   exact⟨fun _=>⟨rfl,rfl⟩,fun h=>absurd rfl h⟩
  ·obtain⟨hs,hcd⟩:=h2 hp
   have e:ZbP c.N j d reads z (q :: w)=ZbP c.N (ZcB c.N j d q).1.child (d+1) (reads+1) (ZcB c.N j d q).1 w:=by rw[ZbP,if_neg (by rw[hs];decide)]
   rw[e]
   by_cases hlast:d+1=L.length
   ·have hw0:w=[]:=List.eq_nil_of_length_eq_zero (by omega)
    subst hw0
    unfold ZiH at hcd
    rw[if_pos hlast]at hcd
    have ef:(ZeD L facts d (c.P.getD j []) q).filter (Za9 L facts (d+1) [])=ZeD L facts d (c.P.getD j []) q:=List.filter_eq_self.2 fun i _=>rfl
    rw[ef]
    exact⟨fun h=>absurd h hp,fun _=>⟨hcd.2,rfl⟩⟩
   ·unfold ZiH at hcd
    rw[if_neg hlast]at hcd
    obtain⟨_,m,k1,k2,k3,k4,k5⟩:=hcd
    rw[k1]
    have:=Zie hF hc w m (d+1) (reads+1) (ZcB c.N j d q).1 (fun h=>by rw[h]at hl;simp at hl;omega) (by omega) k3 k4 hw.2
    rw[k5]at this
    exact this
theorem Zl4 {c:DSt} (hF:ZbI x L facts) (hc:ZdW x L facts c):∀(w:List (Int×Int)) (j d:Nat),d+w.length=L.length→j<c.N.length→(c.N.getD j ZdH).dim=(d:Int)→WayF x L d w→(c.P.getD j []).filter (Za9 L facts d w)≠[] →
  (Zd6 c.N j d w).length=w.length∧∀k,k<w.length→∃m:Nat,(Zd6 c.N j d w).getD k 0=(m:Int)∧m<c.N.length∧(c.N.getD m ZdH).dim=((d+k:Nat):Int)∧c.P.getD m []=(c.P.getD j []).filter (Za9 L facts d (w.take k))
 | [],j,d,_,_,_,_,_=>⟨rfl,fun k hk=>absurd hk (Nat.not_lt_zero k)⟩
 | q :: w,j,d,hl,hj,hd,hw,hne=>by
  obtain⟨h1,h2⟩:=ZjL hF hc hj hd hw.1
  rw[Zey]at hne
  simp only[List.length_cons]at hl
  have hp:ZeD L facts d (c.P.getD j []) q≠[]:=fun h=>by rw[h]at hne;exact hne rfl
  obtain⟨hs,hcd⟩:=h2 hp
  have e:Zd6 c.N j d (q :: w)=(j:Int) :: Zd6 c.N (ZcB c.N j d q).1.child (d+1) w:=by rw[Zd6,if_neg (by rw[hs];decide)]
  rw[e]
  have h0:∃m:Nat,(((j:Int) :: Zd6 c.N (ZcB c.N j d q).1.child (d+1) w)).getD 0 0=(m:Int)∧m<c.N.length∧(c.N.getD m ZdH).dim=((d+0:Nat):Int)∧c.P.getD m []=(c.P.getD j []).filter (Za9 L facts d ((q :: w).take 0)) :=
   ⟨j,rfl,hj,hd,(List.filter_eq_self.2 fun i _=>rfl).symm⟩
  by_cases hlast:d+1=L.length
  ·have hw0:w=[]:=List.eq_nil_of_length_eq_zero (by omega)
   subst hw0
   refine⟨rfl,fun k hk=>?_⟩
   obtain rfl:k=0:=by simp at hk;exact hk
   exact h0
  ·unfold ZiH at hcd
   rw[if_neg hlast]at hcd
   obtain⟨_,m,k1,k2,k3,k4,k5⟩:=hcd
   rw[k1]
   have hr:=Zl4 hF hc w m (d+1) (by omega) k3 k4 hw.2 (by rw[k5];exact hne)
   rw[k5]at hr
   rw[k1]at h0
   obtain⟨r1,r2⟩:=hr
   refine⟨by simp only[List.length_cons,r1],fun k hk=>?_⟩
   cases k with
   | zero=>exact h0
   | succ k =>
    obtain⟨m',m1,m2,m3,m4⟩:=r2 k (by simpa using hk)
    refine⟨m',by simpa using m1,m2,by rw[m3];congr 1;omega,?_⟩
    rw[m4,List.take_succ_cons,Zey]
end
theorem ZgC (c:Cel) (k:Int) (H:Zaa):Zay Tryz.prog 166 [.agg (ZbE c),.i k] H (Pure H (.i (Zgz c.key k))):=by
 have c1:∀c,(ZbE c)[0]?=some (.i c.key):=fun _=>rfl
 have c3:∀c,(ZbE c).length=12:=fun _=>rfl
 have c4:∀c,(ZbE c).take 12=ZbE c:=fun _=>rfl
 refine Zak hE cf166 (Nat.le_of_ble_eq_true rfl) fun Q hQr hQn=>?_
 ((have hd:=trivial;repeat' (first|((first|apply Zad|apply Zac|apply Zab)<;>intro hd<;>(try simp only[hd]))|simp(disch:=first|assumption|omega|(simp only[nx]<;>omega)|fail)only [hd,hQr,hQn,Zk7,↓YA,YB,YC,YE,YF,YZ,sevalprocAttr,c1,c3,c4]))<;>(try (have hd_:True:=hd;clear hd_ hd)))
 (refine Zap.use (Zgj _ _ _) ?_;rintro _ _ ⟨rfl,k1,rfl⟩)
 ((have hd:=trivial;repeat' (first|((first|apply Zad|apply Zac|apply Zab)<;>intro hd<;>(try simp only[hd]))|simp(disch:=first|assumption|omega|(simp only[nx]<;>omega)|fail)only [hd,hQr,hQn,Zk7,↓YA,YB,YC,YE,YF,YZ,sevalprocAttr]))<;>(try (have hd_:True:=hd;clear hd_ hd)))
 refine Zaz (by rfl)
theorem ZgY {r:AV} {H:Zaa} {R S:AV→Zaa→Prop} (h:∃r2 H2,Zb6 r H r2 H2∧R r2 H2) (hi:∀r2 H2,R r2 H2→S r2 H2):∃r2 H2,Zb6 r H r2 H2∧S r2 H2:=by
 obtain⟨a,b,c,d⟩:=h
 exact⟨a,b,c,hi a b d⟩
def SrchQ (l:List Cel) (k:Int) (H:Zaa) (r:AV) (H':Zaa):Prop:=∃p:Nat,p≤l.length∧(∀m (h:m<l.length),m<p→l[m].key<k)∧(∀m (h:m<l.length),p≤m→k≤l[m].key)∧Pure H (.tup [.i p,.b (match l[p]? with|none=>false|some c=>c.key == k)]) r H'
set_option maxHeartbeats 1000000 in
theorem Zk0 (t:Tok) (l:List Cel) (k:Int) (H:Zaa) (hl:l.length≤1000000) (hs:(l.map Cel.key).Pairwise (·<·)):Zay Tryz.prog 165 [.sl t (rC l),.i k,.fn 166 [] []] H (SrchQ l k H):=by
 have hmono:∀a b (ha:a<l.length) (hb:b<l.length),a<b→l[a].key<l[b].key:=fun a b ha hb h=>by
  have:=List.pairwise_iff_getElem.1 hs a b (by simpa using ha) (by simpa using hb) h
  simpa using this
 refine Zak hE cf165 (Nat.le_of_ble_eq_true rfl) fun Q hQr hQn=>?_
 ((have hd:=trivial;repeat' (first|((first|apply Zad|apply Zac|apply Zab)<;>intro hd<;>(try simp only[hd]))|simp(disch:=first|assumption|omega|(simp only[nx]<;>omega)|fail)only [hd,hQr,hQn,Zeo,↓YA,YB,YC,YE,YF,YZ,sevalprocAttr,List.length_map]))<;>(try (have hd_:True:=hd;clear hd_ hd)))
 refine Zcw [0,1,2,8] (σ:=Nat×Nat) (fun s=>s.1≤s.2∧s.2≤l.length∧(∀m (h:m<l.length),m<s.1→l[m].key<k)∧(∀m (h:m<l.length),s.2≤m→k≤l[m].key)) (fun s=>s.2 - s.1) (fun s=>[(9,.i (s.1:Int)),(10,.i (s.2:Int))]) (fun s=>[]) (0,l.length) (GStep.refl _ _) (by simp only[ZaA,Zav,Fr.put,Fr.get,↓reduceIte,Nat.reduceEqDiff];rfl) ?_ (by simp only[ZaF,ZaX,Fr.put,Fr.get,↓reduceIte,Nat.reduceEqDiff,and_self]<;>simp) (by simp only[ZaJ]) ?_
 ·exact⟨Nat.zero_le _,Nat.le_refl _,fun m _ h=>absurd h (Nat.not_lt_zero m),fun m h1 h2=>absurd h1 (by simp only at h2;omega)⟩
 ·(rintro⟨i,j⟩ G ⟨h1,h2,h3,h4⟩ hG hn;try simp only[nx]at hn)
  simp only at h1 h2 h3 h4
  by_cases c:i<j
  ·have d1:decide ((i:Int)<(j:Int))=true:=by simp;omega
   have w1:IntKind.i64.wrap ((i:Int)+(j:Int))=((i+j:Nat):Int):=by rw[Zaw (by omega) (by omega)];omega
   have hh:(i+j) / 2<l.length:=by omega
   have hr:(rC l)[(i+j) / 2]?=some (ZbE l[(i+j) / 2]):=by simp[hh]
   have c3:∀c,(ZbE c).length=12:=fun _=>rfl
   have c4:∀c,(ZbE c).take 12=ZbE c:=fun _=>rfl
   have w2:IntKind.i64.wrap ((IntKind.u64.wrap ((i+j:Nat):Int)).fdiv (2 ^ min 1 IntKind.u64.bits))=(((i+j) / 2:Nat):Int):=by
    have hu:IntKind.u64.wrap ((i+j:Nat):Int)=((i+j:Nat):Int):=by rw[IntKind.wrap_u64];omega
    rw[hu]
    have hb:(2:Int) ^ min 1 IntKind.u64.bits=2:=by decide
    rw[hb,Int.fdiv_eq_ediv_of_nonneg _ (by decide),Zaw (by omega) (by omega)];omega
   have w3:IntKind.i64.wrap ((((i+j) / 2:Nat):Int)+1)=(((i+j) / 2+1:Nat):Int):=by rw[Zaw (by omega) (by omega)];omega
   have h0:(0:Int)≤(((i+j) / 2:Nat):Int):=by omega
   generalize hm:(i+j) / 2=m at *
   have hC:=fun G=>ZgC l[m] k G
   by_cases hc:l[m].key<k
   ·have d2:decide (Zgz l[m].key k<0)=true:=by unfold Zgz;rw[if_pos hc];decide
    ((have hd:=trivial;repeat' (first|((first|apply Zad|apply Zac|apply Zab)<;>intro hd<;>(try simp only[hd]))|simp(disch:=first|assumption|omega|(simp only[nx]<;>omega)|fail)only [hd,hQr,hQn,Zeo,↓YA,YB,YC,YE,YF,YZ,sevalprocAttr,d1,w1,w2,h0,hr,c3,c4,hh]))<;>(try (have hd_:True:=hd;clear hd_ hd)))
    (refine Zap.use (hC _) ?_;rintro _ _ ⟨rfl,k1,rfl⟩)
    ((have hd:=trivial;repeat' (first|((first|apply Zad|apply Zac|apply Zab)<;>intro hd<;>(try simp only[hd]))|simp(disch:=first|assumption|omega|(simp only[nx]<;>omega)|fail)only [hd,hQr,hQn,Zeo,↓YA,YB,YC,YE,YF,YZ,sevalprocAttr,d2,w3]))<;>(try (have hd_:True:=hd;clear hd_ hd)))
    exact⟨(m+1,j),⟨by simp only;omega,h2,fun q hq hlt=>by
     rcases Nat.lt_or_eq_of_le (Nat.lt_succ_iff.1 hlt)with h|rfl
     ·have:=hmono q m hq hh h;omega
     ·exact hc,h4⟩,by simp only;omega,⟨rfl,rfl⟩,by exact HXT⟩
   ·have d2:decide (Zgz l[m].key k<0)=false:=by
     unfold Zgz
     rw[if_neg hc]
     split<;>decide
    ((have hd:=trivial;repeat' (first|((first|apply Zad|apply Zac|apply Zab)<;>intro hd<;>(try simp only[hd]))|simp(disch:=first|assumption|omega|(simp only[nx]<;>omega)|fail)only [hd,hQr,hQn,Zeo,↓YA,YB,YC,YE,YF,YZ,sevalprocAttr,d1,w1,w2,h0,hr,c3,c4,hh]))<;>(try (have hd_:True:=hd;clear hd_ hd)))
    (refine Zap.use (hC _) ?_;rintro _ _ ⟨rfl,k1,rfl⟩)
    ((have hd:=trivial;repeat' (first|((first|apply Zad|apply Zac|apply Zab)<;>intro hd<;>(try simp only[hd]))|simp(disch:=first|assumption|omega|(simp only[nx]<;>omega)|fail)only [hd,hQr,hQn,Zeo,↓YA,YB,YC,YE,YF,YZ,sevalprocAttr,d2,w3]))<;>(try (have hd_:True:=hd;clear hd_ hd)))
    exact⟨(i,m),⟨by simp only;omega,by simp only;omega,h3,fun q hq hge=>by
     rcases Nat.lt_or_eq_of_le (show m≤q from hge)with h|rfl
     ·have:=hmono m q hh hq h;omega
     ·omega⟩,by simp only;omega,⟨rfl,rfl⟩,by exact HXT⟩
  ·have d1:decide ((i:Int)<(j:Int))=false:=by simp;omega
   obtain rfl:i=j:=by omega
   by_cases hi:i<l.length
   ·have d2:decide ((i:Int)<(l.length:Int))=true:=by simp;omega
    have hr:(rC l)[i]?=some (ZbE l[i]):=by simp[hi]
    have c3:∀c,(ZbE c).length=12:=fun _=>rfl
    have c4:∀c,(ZbE c).take 12=ZbE c:=fun _=>rfl
    have h0:(0:Int)≤(i:Int):=by omega
    have hC:=fun G=>ZgC l[i] k G
    have d3:(Zgz l[i].key k == 0)=(match l[i]? with|none=>false|some c=>c.key == k):=by
     rw[List.getElem?_eq_getElem hi]
     unfold Zgz
     by_cases c1:l[i].key<k
     ·rw[if_pos c1];simp;omega
     ·rw[if_neg c1]
      by_cases c2:l[i].key > k
      ·simp[c2];omega
      ·simp[c2];omega
    ((have hd:=trivial;repeat' (first|((first|apply Zad|apply Zac|apply Zab)<;>intro hd<;>(try simp only[hd]))|simp(disch:=first|assumption|omega|(simp only[nx]<;>omega)|fail)only [hd,hQr,hQn,Zeo,↓YA,YB,YC,YE,YF,YZ,sevalprocAttr,d1,d2,h0,hr,c3,c4,hi]))<;>(try (have hd_:True:=hd;clear hd_ hd)))
    (refine Zap.use (hC _) ?_;rintro _ _ ⟨rfl,k1,rfl⟩)
    ((have hd:=trivial;repeat' (first|((first|apply Zad|apply Zac|apply Zab)<;>intro hd<;>(try simp only[hd]))|simp(disch:=first|assumption|omega|(simp only[nx]<;>omega)|fail)only [hd,hQr,hQn,Zeo,↓YA,YB,YC,YE,YF,YZ,sevalprocAttr,d3]))<;>(try (have hd_:True:=hd;clear hd_ hd)))
    exact ZgY (ZaW (v:=.tup [.i i,.b (match l[i]? with|none=>false|some c=>c.key == k)]) (hG.ext.trans (Zaa.Ext.refl G).bump) (by rw[List.getElem?_eq_getElem hi];rfl)) fun _ _ h=>⟨i,h2,h3,h4,h⟩
   ·have d2:decide ((i:Int)<(l.length:Int))=false:=by simp;omega
    ((have hd:=trivial;repeat' (first|((first|apply Zad|apply Zac|apply Zab)<;>intro hd<;>(try simp only[hd]))|simp(disch:=first|assumption|omega|(simp only[nx]<;>omega)|fail)only [hd,hQr,hQn,Zeo,↓YA,YB,YC,YE,YF,YZ,sevalprocAttr,d1,d2]))<;>(try (have hd_:True:=hd;clear hd_ hd)))
    have hn:l[i]?=none:=List.getElem?_eq_none (by omega)
    exact ZgY (ZaW (v:=.tup [.i i,.b false]) hG.ext rfl) fun _ _ h=>⟨i,h2,h3,h4,by rw[hn];exact h⟩
def cellR:Option Cel→AV
 | none=>.tup [.agg (ZbE ZcE),.b false]
 | some c=>.tup [.agg (ZbE c),.b true]
theorem find_at {l:List Cel} {k:Int} {p:Nat} (h1:∀m (h:m<l.length),m<p→l[m].key<k) (h2:∀m (h:m<l.length),p≤m→k≤l[m].key) (hs:(l.map Cel.key).Pairwise (·<·)) :
  l.find? (fun c=>c.key == k)=match l[p]? with|none=>none|some c=>if c.key=k then some c else none:=by
 cases hp:l[p]? with
 | none =>
  rw[List.find?_eq_none]
  intro c hc
  obtain⟨m,hm,rfl⟩:=List.getElem_of_mem hc
  have hpl:l.length≤p:=List.getElem?_eq_none_iff.1 hp
  have:=h1 m hm (by omega)
  simp;omega
 | some c =>
  obtain⟨hpl,rfl⟩:=List.getElem?_eq_some_iff.1 hp
  simp only
  split
  ·rename_i he
   rw[List.find?_eq_some_iff_getElem]
   exact⟨by simpa using he,p,hpl,rfl,fun j hj=>by have:=h1 j (by omega) hj;simp;omega⟩
  ·rename_i he
   rw[List.find?_eq_none]
   intro c hc
   obtain⟨m,hm,rfl⟩:=List.getElem_of_mem hc
   by_cases c1:m<p
   ·have:=h1 m hm c1;simp;omega
   ·by_cases c2:m=p
    ·subst c2;simpa using he
    ·have h3:=List.pairwise_iff_getElem.1 hs p m (by simpa using hpl) (by simpa using hm) (by omega)
     have h4:=h2 p hpl (Nat.le_refl _)
     simp at h3 ⊢;omega
set_option maxHeartbeats 2000000 in
theorem Zi9 (t:Tok) (n:Nod) (q:Int×Int) (H:Zaa) (hl:n.lists.length≤1000000) (hm:∀l∈n.lists,l.length≤1000000∧(l.map Cel.key).Pairwise (·<·)):Zay Tryz.prog 144 [.agg (ZbD t n),.agg [.i q.1,.i q.2]] H (Pure H (cellR (Zek n q))):=by
 have e0:(ZbD t n).length=14:=rfl
 have e1:(ZbD t n)[1]?=some (.sl t (rL n.lists)):=rfl
 have e2:(ZbD t n).take 14=ZbD t n:=rfl
 have e3:((ZbD t n).drop 2).take 12=ZbE n.all:=rfl
 have c3:∀c,(ZbE c).length=12:=fun _=>rfl
 have c4:∀c,(ZbE c).take 12=ZbE c:=fun _=>rfl
 have c5:∀c,(ZbE c).drop 12=[]:=fun _=>rfl
 by_cases h1:n.lists.length=0
 ·have hR:Zek n q=none:=by unfold Zek;rw[if_pos (.inl h1)]
  have d1:((n.lists.length:Int) == 0)=true:=by simp;exact List.eq_nil_of_length_eq_zero h1
  rw[hR]
  refine Zak hE cf144 (Nat.le_of_ble_eq_true rfl) fun Q hQr hQn=>?_
  ((have hd:=trivial;repeat' (first|((first|apply Zad|apply Zac|apply Zab)<;>intro hd<;>(try simp only[hd]))|simp(disch:=first|assumption|omega|(simp only[nx]<;>omega)|fail)only [hd,hQr,hQn,ZeX,↓YA,YB,YC,YE,YF,YZ,sevalprocAttr,e0,e1,e2,d1,List.length_map,c3,c4,c5]))<;>(try (have hd_:True:=hd;clear hd_ hd)))
  refine Zcm (by rfl)
 have d1:((n.lists.length:Int) == 0)=false:=by simp;exact fun h=>h1 (by rw[h];rfl)
 by_cases h2:(n.lists.length:Int)≤q.1
 ·have hR:Zek n q=none:=by unfold Zek;rw[if_pos (.inr h2)]
  have d2:decide (q.1≥(n.lists.length:Int))=true:=decide_eq_true h2
  rw[hR]
  refine Zak hE cf144 (Nat.le_of_ble_eq_true rfl) fun Q hQr hQn=>?_
  ((have hd:=trivial;repeat' (first|((first|apply Zad|apply Zac|apply Zab)<;>intro hd<;>(try simp only[hd]))|simp(disch:=first|assumption|omega|(simp only[nx]<;>omega)|fail)only [hd,hQr,hQn,ZeX,↓YA,YB,YC,YE,YF,YZ,sevalprocAttr,e0,e1,e2,d1,d2,List.length_map,c3,c4,c5]))<;>(try (have hd_:True:=hd;clear hd_ hd)))
  refine Zcm (by rfl)
 have d2:decide (q.1≥(n.lists.length:Int))=false:=decide_eq_false h2
 by_cases h3:q.1<0
 ·have hR:Zek n q=some n.all:=by unfold Zek;rw[if_neg (by omega),if_pos h3]
  have d3:decide (q.1<0)=true:=decide_eq_true h3
  rw[hR]
  refine Zak hE cf144 (Nat.le_of_ble_eq_true rfl) fun Q hQr hQn=>?_
  ((have hd:=trivial;repeat' (first|((first|apply Zad|apply Zac|apply Zab)<;>intro hd<;>(try simp only[hd]))|simp(disch:=first|assumption|omega|(simp only[nx]<;>omega)|fail)only [hd,hQr,hQn,ZeX,↓YA,YB,YC,YE,YF,YZ,sevalprocAttr,e0,e1,e2,e3,d1,d2,d3,List.length_map,c3,c4,c5]))<;>(try (have hd_:True:=hd;clear hd_ hd)))
  refine Zcm (by rfl)
 have d3:decide (q.1<0)=false:=decide_eq_false h3
 obtain⟨a,b⟩:=q
 simp only at h2 h3 d2 d3
 obtain⟨a,rfl⟩:∃m:Nat,a=(m:Int):=⟨a.toNat,by omega⟩
 have ha:a<n.lists.length:=by omega
 have hr:(rL n.lists)[a]?=some [.sl .no (rC n.lists[a])]:=by simp[ha]
 obtain⟨m1,m2⟩:=hm _ (List.getElem_mem ha)
 have hR:Zek n ((a:Int),b)=(n.lists[a]).find? fun c=>c.key == b:=by
  unfold Zek
  rw[if_neg (by simp only;omega),if_neg (by simp only;omega),Int.toNat_natCast,List.getD_eq_getElem?_getD,List.getElem?_eq_getElem ha];rfl
 rw[hR]
 have hS:=fun G=>Zk0 .no n.lists[a] b G m1 m2
 have h0:(0:Int)≤(a:Int):=by omega
 generalize n.lists[a]=l at *
 refine Zak hE cf144 (Nat.le_of_ble_eq_true rfl) fun Q hQr hQn=>?_
 ((have hd:=trivial;repeat' (first|((first|apply Zad|apply Zac|apply Zab)<;>intro hd<;>(try simp only[hd]))|simp(disch:=first|assumption|omega|(simp only[nx]<;>omega)|fail)only [hd,hQr,hQn,ZeX,↓YA,YB,YC,YE,YF,YZ,sevalprocAttr,e0,e1,e2,e3,d1,d2,d3,hr,h0,ha,List.length_map]))<;>(try (have hd_:True:=hd;clear hd_ hd)))
 refine Zap.use (hS _) ?_
 rintro r G ⟨p,p1,p2,p3,rfl,k1,rfl⟩
 have hf:=find_at p2 p3 m2
 cases hp:l[p]? with
 | none =>
  rw[hp]at hf
  simp only at hf
  rw[hf]at hQr hQn
  ((have hd:=trivial;repeat' (first|((first|apply Zad|apply Zac|apply Zab)<;>intro hd<;>(try simp only[hd]))|simp(disch:=first|assumption|omega|(simp only[nx]<;>omega)|fail)only [hd,hQr,hQn,ZeX,↓YA,YB,YC,YE,YF,YZ,sevalprocAttr,c3,c4,c5]))<;>(try (have hd_:True:=hd;clear hd_ hd)))
  refine Zcm (by rfl)
 | some c =>
  rw[hp]at hf
  simp only at hf
  have h0:(0:Int)≤(p:Int):=by omega
  obtain⟨hpl,hpe⟩:=List.getElem?_eq_some_iff.1 hp
  have hrp:(rC l)[p]?=some (ZbE c):=by simp[hpl,hpe]
  by_cases he:c.key=b
  ·have d4:(c.key == b)=true:=by simpa using he
   rw[if_pos he]at hf
   rw[hf]at hQr hQn
   ((have hd:=trivial;repeat' (first|((first|apply Zad|apply Zac|apply Zab)<;>intro hd<;>(try simp only[hd]))|simp(disch:=first|assumption|omega|(simp only[nx]<;>omega)|fail)only [hd,hQr,hQn,ZeX,↓YA,YB,YC,YE,YF,YZ,sevalprocAttr,c3,c4,c5,d4,h0,hrp,hpl]))<;>(try (have hd_:True:=hd;clear hd_ hd)))
   refine Zcm (by rfl)
  ·have d4:(c.key == b)=false:=by simpa using he
   rw[if_neg he]at hf
   rw[hf]at hQr hQn
   ((have hd:=trivial;repeat' (first|((first|apply Zad|apply Zac|apply Zab)<;>intro hd<;>(try simp only[hd]))|simp(disch:=first|assumption|omega|(simp only[nx]<;>omega)|fail)only [hd,hQr,hQn,ZeX,↓YA,YB,YC,YE,YF,YZ,sevalprocAttr,c3,c4,c5,d4]))<;>(try (have hd_:True:=hd;clear hd_ hd)))
   refine Zcm (by rfl)
structure Rdr (rd:FuncId) (first caps:List AV) (N:List Nod) (S:List Nat) (Inv:List Int→Zaa→Prop):Prop where
 call:∀tr at' G,Inv tr G→tr.length≤1000000→Zay Tryz.prog rd (first++[.i at']++caps) G (fun r G'=>Inv (tr++[at']) G'∧ZcD S G G'∧∃t,r=.tup [.agg (ZbD t (Zdw N at')),.i (bif inB N at' then 0 else 9)])
 keep:∀tr G G',Inv tr G→Zaa.Ext G G'→Inv tr G'
 set:∀tr tr' H G id o,Inv tr H→Inv tr' G→H.next≤id→Inv tr' (G.set id o)
 lt:∀tr G,Inv tr G→∀i∈S,i<G.next
def Srch (N:List Nod):Prop:=∀n∈N,n.lists.length≤1000000∧∀l∈n.lists,l.length≤1000000∧(l.map Cel.key).Pairwise (·<·)
section
variable {rd:FuncId} {first caps:List AV} {N:List Nod} {S:List Nat} {Inv:List Int→Zaa→Prop}
theorem ZkF {N:List Nod} {i:Int} (h:0≤i):Zdw N i=N.getD i.toNat ZdH:=by
 unfold Zdw ZdH
 rw[if_pos h,List.getD_eq_getElem?_getD];rfl
set_option maxHeartbeats 2000000 in
theorem ZkP (hR:Rdr rd first caps N S Inv) (hN:Srch N) (tr:List Int) (at' dim:Int) (q:Int×Int) (H:Zaa) (hI:Inv tr H) (htr:tr.length≤1000000) :
  Zay Tryz.prog 108 [.fn rd first caps,.i at',.i dim,.agg [.i q.1,.i q.2]] H (fun r H'=>Inv (tr++[at']) H'∧ZcD S H H'∧r=.tup [.agg (ZbE (ZcB N at' dim q).1),.i (ZcB N at' dim q).2]):=by
 have e0:∀t n,(ZbD t n).length=14:=fun _ _=>rfl
 have e1:∀t n,(ZbD t n)[1]?=some (.sl t (rL n.lists)):=fun _ _=>rfl
 have e2:∀t n,(ZbD t n).take 14=ZbD t n:=fun _ _=>rfl
 have e3:∀t n,(ZbD t n)[0]?=some (.i n.dim):=fun _ _=>rfl
 have e5:∀t n,(ZbD t n).drop 14=[]:=fun _ _=>rfl
 have c3:∀c,(ZbE c).length=12:=fun _=>rfl
 have c4:∀c,(ZbE c).take 12=ZbE c:=fun _=>rfl
 have c5:∀c,(ZbE c).drop 12=[]:=fun _=>rfl
 have hx0:Zaa.Ext H ((H.alloc (.cells [.i q.1,.i q.2] 124)).alloc (.cells (ZbE ZcE) 113)):=by exact AXT
 have g7:((H.alloc (.cells [.i q.1,.i q.2] 124)).alloc (.cells (ZbE ZcE) 113)).get H.next=some (.cells [.i q.1,.i q.2] 124):=by
  rw[Zaa.Zag (by simp only[nx];omega)];exact Zaa.Zae
 have g8:((H.alloc (.cells [.i q.1,.i q.2] 124)).alloc (.cells (ZbE ZcE) 113)).get (H.next+1)=some (.cells (ZbE ZcE) 113):=Zaa.Zae (H:=H.alloc _)
 have hI0:=hR.keep _ _ _ hI hx0
 have hSl:=hR.lt _ _ hI
 have hn7:H.next ∉ S:=fun h=>by have:=hSl _ h;omega
 have hn8:H.next+1 ∉ S:=fun h=>by have:=hSl _ h;omega
 refine Zak hE cf108 (Nat.le_of_ble_eq_true rfl) fun Q hQr hQn=>?_
 ((have hd:=trivial;repeat' (first|((first|apply Zad|apply Zac|apply Zab)<;>intro hd<;>(try simp only[hd]))|simp(disch:=first|assumption|omega|(simp only[nx]<;>omega)|fail)only [hd,hQr,hQn,Zeq,↓YA,YB,YC,YE,YF,YZ,sevalprocAttr]))<;>(try (have hd_:True:=hd;clear hd_ hd)))
 refine Zap.use (hR.call tr at' _ hI0 htr) ?_
 rintro r G ⟨hI1,hx1,t,rfl⟩
 have g7:=hx1.get _ _ hn7 g7
 have g8:=hx1.get _ _ hn8 g8
 have l7:=Zaa.lt g7
 have l8:=Zaa.lt g8
 have hxH:ZcD S H G:=(ZcD.of hx0).trans hx1
 have hnx:=hxH.next
 by_cases hin:inB N at'=true
 ·have hir:0≤at'∧at'<N.length:=by unfold inB at hin;simpa using hin
  rw[hin]
  have hna:=ZkF (N:=N) hir.1
  have hmem:Zdw N at'∈N:=by
   rw[hna,List.getD_eq_getElem?_getD,List.getElem?_eq_getElem (by omega)]
   exact List.getElem_mem _
  obtain⟨m1,m2⟩:=hN _ hmem
  have hF:=fun G=>Zi9 t (Zdw N at') q G m1 m2
  have hst:ZcB N at' dim q=if (Zdw N at').dim≠dim∨((Zdw N at').lists.length:Int)≤q.1 then (ZcE,15) else ZmK (Zek (Zdw N at') q):=by
   unfold ZcB
   rw[if_neg (by omega),hna]
  rw[hst]at hQr hQn
  generalize Zdw N at'=n at *
  by_cases hd:n.dim=dim
  ·have d1:(n.dim != dim)=false:=by simpa using hd
   by_cases hl:(n.lists.length:Int)≤q.1
   ·have d2:decide (q.1≥(n.lists.length:Int))=true:=decide_eq_true hl
    rw[if_pos (.inr hl)]at hQr hQn
    ((have hd:=trivial;repeat' (first|((first|apply Zad|apply Zac|apply Zab)<;>intro hd<;>(try simp only[hd]))|simp(disch:=first|assumption|omega|(simp only[nx]<;>omega)|fail)only [hd,hQr,hQn,Zeq,↓YA,YB,YC,YE,YF,YZ,sevalprocAttr,e0,e1,e2,e3,e5,g7,g8,d1,d2,List.length_map]))<;>(try (have hd_:True:=hd;clear hd_ hd)))
    exact Zaq ⟨hR.set _ _ H _ _ _ hI (hR.keep _ _ _ hI1 (by exact AXT)) (by omega),(hxH.trans (ZcD.of (by exact AXT))).set (.inr (by omega)),rfl⟩
   ·have d2:decide (q.1≥(n.lists.length:Int))=false:=decide_eq_false hl
    rw[if_neg (by rintro(h|h);exact h hd;exact hl h)]at hQr hQn
    cases hf:Zek n q with
    | none =>
     rw[hf]at hF hQr hQn
     unfold cellR at hF
     ((have hd:=trivial;repeat' (first|((first|apply Zad|apply Zac|apply Zab)<;>intro hd<;>(try simp only[hd]))|simp(disch:=first|assumption|omega|(simp only[nx]<;>omega)|fail)only [hd,hQr,hQn,Zeq,↓YA,YB,YC,YE,YF,YZ,sevalprocAttr,e0,e1,e2,e3,e5,g7,g8,d1,d2,List.length_map]))<;>(try (have hd_:True:=hd;clear hd_ hd)))
     (refine Zap.use (hF _) ?_;rintro _ _ ⟨rfl,k1,rfl⟩)
     ((have hd:=trivial;repeat' (first|((first|apply Zad|apply Zac|apply Zab)<;>intro hd<;>(try simp only[hd]))|simp(disch:=first|assumption|omega|(simp only[nx]<;>omega)|fail)only [hd,hQr,hQn,Zeq,↓YA,YB,YC,YE,YF,YZ,sevalprocAttr,g8,c3,c4,c5]))<;>(try (have hd_:True:=hd;clear hd_ hd)))
     exact Zaq ⟨hR.set _ _ H _ _ _ hI (hR.keep _ _ _ hI1 (by exact AXT)) (by omega),(hxH.trans (ZcD.of (by exact AXT))).set (.inr (by omega)),rfl⟩
    | some z =>
     rw[hf]at hF hQr hQn
     unfold cellR at hF
     ((have hd:=trivial;repeat' (first|((first|apply Zad|apply Zac|apply Zab)<;>intro hd<;>(try simp only[hd]))|simp(disch:=first|assumption|omega|(simp only[nx]<;>omega)|fail)only [hd,hQr,hQn,Zeq,↓YA,YB,YC,YE,YF,YZ,sevalprocAttr,e0,e1,e2,e3,e5,g7,g8,d1,d2,List.length_map]))<;>(try (have hd_:True:=hd;clear hd_ hd)))
     (refine Zap.use (hF _) ?_;rintro _ _ ⟨rfl,k1,rfl⟩)
     ((have hd:=trivial;repeat' (first|((first|apply Zad|apply Zac|apply Zab)<;>intro hd<;>(try simp only[hd]))|simp(disch:=first|assumption|omega|(simp only[nx]<;>omega)|fail)only [hd,hQr,hQn,Zeq,↓YA,YB,YC,YE,YF,YZ,sevalprocAttr,g8,c3,c4,c5]))<;>(try (have hd_:True:=hd;clear hd_ hd)))
     exact Zaq ⟨hR.set _ _ H _ _ _ hI (hR.keep _ _ _ hI1 (by exact AXT)) (by omega),(hxH.trans (ZcD.of (by exact AXT))).set (.inr (by omega)),rfl⟩
  ·have d1:(n.dim != dim)=true:=by simpa using hd
   rw[if_pos (.inl hd)]at hQr hQn
   ((have hd:=trivial;repeat' (first|((first|apply Zad|apply Zac|apply Zab)<;>intro hd<;>(try simp only[hd]))|simp(disch:=first|assumption|omega|(simp only[nx]<;>omega)|fail)only [hd,hQr,hQn,Zeq,↓YA,YB,YC,YE,YF,YZ,sevalprocAttr,e0,e1,e2,e3,e5,g7,g8,d1,List.length_map]))<;>(try (have hd_:True:=hd;clear hd_ hd)))
   exact Zaq ⟨hR.set _ _ H _ _ _ hI (hR.keep _ _ _ hI1 (by exact AXT)) (by omega),(hxH.trans (ZcD.of (by exact AXT))).set (.inr (by omega)),rfl⟩
 ·have hin:inB N at'=false:=by simpa using hin
  have hir:at'<0∨(N.length:Int)≤at':=by unfold inB at hin;simp at hin;omega
  have hst:ZcB N at' dim q=(ZcE,9):=by unfold ZcB;rw[if_pos hir]
  rw[hst]at hQr hQn
  rw[hin]
  ((have hd:=trivial;repeat' (first|((first|apply Zad|apply Zac|apply Zab)<;>intro hd<;>(try simp only[hd]))|simp(disch:=first|assumption|omega|(simp only[nx]<;>omega)|fail)only [hd,hQr,hQn,Zeq,↓YA,YB,YC,YE,YF,YZ,sevalprocAttr,e0,e1,e2,e3,e5,g7,g8]))<;>(try (have hd_:True:=hd;clear hd_ hd)))
  exact Zaq ⟨hR.set _ _ H _ _ _ hI (hR.keep _ _ _ hI1 (by exact AXT)) (by omega),(hxH.trans (ZcD.of (by exact AXT))).set (.inr (by omega)),rfl⟩
abbrev rW (w:List (Int×Int)):List (List AV):=w.map fun q=>[AV.i q.1,.i q.2]
set_option maxHeartbeats 4000000 in
theorem Zft (hR:Rdr rd first caps N S Inv) (hN:Srch N) (t:Tok) (tr:List Int) (top:Int) (w:List (Int×Int)) (H:Zaa) (hw:tr.length+w.length≤1000000) (hI:Inv tr H) :
  Zay Tryz.prog 67 [.i top,.fn rd first caps,.sl t (rW w)] H (fun r H'=>Inv (tr++Zd6 N top 0 w) H'∧ZcD S H H'∧r=.tup [.agg (eAg (ZbP N top 0 0 ZcE w).1),.i ((ZbP N top 0 0 ZcE w).2.1:Nat),.i (ZbP N top 0 0 ZcE w).2.2]):=by
 have c3:∀c,(ZbE c).length=12:=fun _=>rfl
 have c4:∀c,(ZbE c).take 12=ZbE c:=fun _=>rfl
 have c5:∀c,(ZbE c).drop 12=[]:=fun _=>rfl
 have c1:∀c,(ZbE c)[1]?=some (.i c.child):=fun _=>rfl
 have c2:∀c,((ZbE c).drop 2).take 10=eAg c.agg:=fun _=>rfl
 have a3:∀a,(eAg a).length=10:=fun _=>rfl
 have a4:∀a,(eAg a).take 10=eAg a:=fun _=>rfl
 have a5:∀a,(eAg a).drop 10=[]:=fun _=>rfl
 have hx0:Zaa.Ext H ((H.alloc (.cells (eAg ag0) 54)).alloc (.cells (ZbE ZcE) 113)):=by exact AXT
 have g6:((H.alloc (.cells (eAg ag0) 54)).alloc (.cells (ZbE ZcE) 113)).get H.next=some (.cells (eAg ag0) 54):=by
  rw[Zaa.Zag (by simp only[nx];omega)];exact Zaa.Zae
 have g11:((H.alloc (.cells (eAg ag0) 54)).alloc (.cells (ZbE ZcE) 113)).get (H.next+1)=some (.cells (ZbE ZcE) 113):=Zaa.Zae (H:=H.alloc _)
 have hI0:=hR.keep _ _ _ hI hx0
 have hSl:=hR.lt _ _ hI
 have hn6:H.next ∉ S:=fun h=>by have:=hSl _ h;omega
 have hn11:H.next+1 ∉ S:=fun h=>by have:=hSl _ h;omega
 refine Zak hE cf67 (Nat.le_of_ble_eq_true rfl) fun Q hQr hQn=>?_
 ((have hd:=trivial;repeat' (first|((first|apply Zad|apply Zac|apply Zab)<;>intro hd<;>(try simp only[hd]))|simp(disch:=first|assumption|omega|(simp only[nx]<;>omega)|fail)only [hd,hQr,hQn,Zks,↓YA,YB,YC,YE,YF,YZ,sevalprocAttr,List.length_map]))<;>(try (have hd_:True:=hd;clear hd_ hd)))
 refine ZbJ (N:=w.length) (fun k F G=>∃(at':Int) (c:Cel),Fr.get F 19=.i (k:Int)∧Fr.get F 18=.i (w.length:Int)∧Fr.get F 17=.sl t (rW w)∧Fr.get F 1=.fn rd first caps∧Fr.get F 6=.ptr H.next 0∧Fr.get F 11=.ptr (H.next+1) 0∧Fr.get F 9=.i at'∧Fr.get F 10=.i (k:Int) ∧
  G.get H.next=some (.cells (eAg ag0) 54)∧G.get (H.next+1)=some (.cells (ZbE c) 113)∧ZcD S H G∧∃tr',Inv tr' G∧tr'.length=tr.length+k∧ZbP N top 0 0 ZcE w=ZbP N at' k k c (w.drop k)∧tr++Zd6 N top 0 w=tr'++Zd6 N at' k (w.drop k)) (by unfold maxLen;omega) (fun k F G ⟨_,_,h1,h2,_⟩=>⟨h1,h2⟩) (GStep.refl _ _)
  ⟨top,ZcE,rfl,rfl,rfl,rfl,rfl,rfl,rfl,rfl,g6,g11,ZcD.of hx0,tr,hI0,rfl,rfl,rfl⟩ ?_ ?_
 ·rintro k F G hk ⟨at',c,f19,f18,f17,f1,f6,f11,f9,f10,g6,g11,hxG,tr',hI',htl,ha,hwy⟩
  have hrow:(rW w)[k]?=some [.i w[k].1,.i w[k].2]:=by simp[hk]
  rw[List.drop_eq_getElem_cons hk]at ha hwy
  generalize w[k]=q at *
  have h0:(0:Int)≤(k:Int):=by omega
  have l6:=Zaa.lt g6
  have l11:=Zaa.lt g11
  have hw1:IntKind.i64.wrap ((k:Int)+1)=((k+1:Nat):Int):=by rw[Zaw (by omega) (by omega)];omega
  have hx1:Zaa.Ext G (G.alloc (.cells [.i q.1,.i q.2] 124)):=(Zaa.Ext.refl G).alloc
  have hst:=ZkP hR hN tr' at' k q (G.alloc (.cells [.i q.1,.i q.2] 124)) (hR.keep _ _ _ hI' hx1) (by omega)
  rw[ZbP]at ha
  rw[Zd6]at hwy
  generalize ZcB N at' k q=sp at *
  ((have hd:=trivial;repeat' (first|((first|apply Zad|apply Zac|apply Zab)<;>intro hd<;>(try simp only[hd]))|simp(disch:=first|assumption|omega|(simp only[nx]<;>omega)|fail)only [hd,hQr,hQn,Zks,↓YA,YB,YC,YE,YF,YZ,sevalprocAttr,f19,f18,f17,f1,f6,f11,f9,f10,hrow,h0,hk,List.length_map]))<;>(try (have hd_:True:=hd;clear hd_ hd)))
  refine Zap.use hst ?_
  rintro r G2 ⟨hI2,hx2,rfl⟩
  have hxG2:=(hxG.trans (ZcD.of hx1)).trans hx2
  have g6:=hx2.get _ _ hn6 (hx1.get _ _ g6)
  have g11:=hx2.get _ _ hn11 (hx1.get _ _ g11)
  have l6:=Zaa.lt g6
  have l11:=Zaa.lt g11
  by_cases he:sp.2=0
  ·have d1:(sp.2 != 0)=false:=by simpa using he
   rw[if_neg (by simp[he])]at ha hwy
   ((have hd:=trivial;repeat' (first|((first|apply Zad|apply Zac|apply Zab)<;>intro hd<;>(try simp only[hd]))|simp(disch:=first|assumption|omega|(simp only[nx]<;>omega)|fail)only [hd,hQr,hQn,Zks,↓YA,YB,YC,YE,YF,YZ,sevalprocAttr,f19,f18,f17,f1,f6,f11,f9,f10,hw1,d1,c1,c3,c4,c5,g11]))<;>(try (have hd_:True:=hd;clear hd_ hd)))
   exact⟨sp.1.child,sp.1,rfl,g6,rfl,(hxG2.trans (ZcD.of (by exact AXT))).set (.inr (by omega)),tr'++[at'],hR.set _ _ H _ _ _ hI (hR.keep _ _ _ hI2 (by exact AXT)) (by omega),by rw[List.length_append,htl];rfl,ha,by rw[hwy,List.append_assoc];rfl⟩
  ·have d1:(sp.2 != 0)=true:=by simpa using he
   rw[if_pos he]at ha hwy
   rw[ha,hwy]at hQr hQn
   ((have hd:=trivial;repeat' (first|((first|apply Zad|apply Zac|apply Zab)<;>intro hd<;>(try simp only[hd]))|simp(disch:=first|assumption|omega|(simp only[nx]<;>omega)|fail)only [hd,hQr,hQn,Zks,↓YA,YB,YC,YE,YF,YZ,sevalprocAttr,f19,f18,f17,f1,f6,f11,f9,f10,hw1,d1,c1,c3,c4,c5,g6,g11,a3,a4,a5]))<;>(try (have hd_:True:=hd;clear hd_ hd)))
   exact Zaq ⟨hR.set _ _ H _ _ _ hI (hR.keep _ _ _ hI2 (by exact AXT)) (by omega),(hxG2.trans (ZcD.of (by exact AXT))).set (.inr (by omega)),rfl⟩
 ·rintro F G ⟨at',c,f19,f18,f17,f1,f6,f11,f9,f10,g6,g11,hxG,tr',hI',htl,ha,hwy⟩
  have l6:=Zaa.lt g6
  have l11:=Zaa.lt g11
  rw[List.drop_length]at ha hwy
  rw[ha,hwy]at hQr hQn
  ((have hd:=trivial;repeat' (first|((first|apply Zad|apply Zac|apply Zab)<;>intro hd<;>(try simp only[hd]))|simp(disch:=first|assumption|omega|(simp only[nx]<;>omega)|fail)only [hd,hQr,hQn,Zks,↓YA,YB,YC,YE,YF,YZ,sevalprocAttr,f19,f18,f17,f1,f6,f11,f9,f10,c2,c3,g6,g11,a3,a4,a5]))<;>(try (have hd_:True:=hd;clear hd_ hd)))
  exact Zaq ⟨by rw[Zd6,List.append_nil];exact hR.set _ _ H _ _ _ hI hI' (by omega),hxG.set (.inr (by omega)),rfl⟩
end
end Go.Proofs.YtaapiigfmdhobaaGreat
