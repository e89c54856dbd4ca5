/- Texts of the walk, joined: Ea Eb Ez Ec Ed. -/
import Derived.Test.YtaapiigfmdhobaaGreatMw
import Derived.Test.YtaapiigfmdhobaaGreatMt
namespace Go.Proofs.YtaapiigfmdhobaaGreat
set_option linter.unusedSimpArgs false
set_option linter.unusedVariables false
open Go.RowKit
section
variable (x:Shp) (L:List (List (List Int))) (facts:List Fct)
def ZiH (c:DSt) (b d:Nat) (p:List Nat) (z:Cel):Prop :=
 if d+1=L.length then z.child=0/\z.agg=(ZdJ facts ag0 p).getD ag0
 else z.agg=ag0/\∃j:Nat,z.child=(j:Int)/\j<b/\j<c.N.length/\(c.N.getD j ZdH).dim=((d+1:Nat):Int)/\c.P.getD j []=p
def NodD (c:DSt) (b d:Nat) (p:List Nat) (n:Nod):Prop :=
 n.dim=(d:Int)/\n.all.key=0/\ZiH L facts c b d p n.all/\ZeK (ZeK fun(z:Cel) (g:Int×List Nat)=>z.key=g.1/\ZiH L facts c b d g.2 z) n.lists (ZaC x L facts d p)
def Zd3 (p:List Nat):Prop:=p≠[]/\p.Sublist (List.range facts.length)
structure ZdW (c:DSt):Prop where
 len:c.N.length=c.P.length
 nod:∀i,i<c.N.length->∃d,d<L.length/\NodD x L facts c i d (c.P.getD i []) (c.N.getD i ZdH)
 uniq:∀i j,i<c.N.length->j<c.N.length->(c.N.getD i ZdH).dim=(c.N.getD j ZdH).dim->c.P.getD i []=c.P.getD j []->i=j
 part:∀i,i<c.N.length->Zd3 facts (c.P.getD i [])
end
section
variable {x:Shp} {L:List (List (List Int))} {facts:List Fct}
theorem Zd3.ok {p:List Nat} (h:Zd3 facts p):Zbz facts p:=⟨h.1,by have:=h.2.length_le;simpa using this,fun i hi=>by have:=h.2.subset hi;simpa using this⟩
theorem Zd3.grs {p:List Nat} (h:Zd3 facts p) {key:Nat->Int} {n:Nat} {g:Int×List Nat} (hg:g∈grs key n p):Zd3 facts g.2:=by
 have h1:=Zfb hg
 unfold Go.Proofs.YtaapiigfmdhobaaGreat.grs at hg
 obtain⟨k,_,hk⟩:=zbu.1 hg
 split at hk
 ·cases hk
 ·injection hk with hk
  subst hk
  exact⟨h1.1,List.filter_sublist.trans h.2⟩
theorem Zd3.groups {p:List Nat} (h:Zd3 facts p) {d:Nat}:∀t∈ZaC x L facts d p,∀q∈t,Zd3 facts q.2:=fun t ht q hq=>by
 unfold ZaC at ht
 obtain⟨k,_,rfl⟩:=zau.1 ht
 exact h.grs hq
theorem ZjP {α:Type} {l m:List α} {i:Nat} {a:α} (h:i<l.length):(l++m).getD i a=l.getD i a:=by
 rw[zaj,zaJ h,← zaj]
theorem Zih {α:Type} {l:List α} {b a:α}:(l++[b]).getD l.length a=b:=by simp
theorem ZiH.mono {c c':DSt} {e:Int} {b b' d:Nat} {p:List Nat} {z:Cel} (h:ZiH L facts c b d p z) (hm:Zdd e c c') (hl:c.N.length=c.P.length) (hb:b<=b'):ZiH L facts c' b' d p z:=by
 obtain⟨N1,P1,h1,h2,h3,h4,_⟩:=hm
 unfold ZiH at *
 split
 ·rename_i hd;rw[if_pos hd]at h;exact h
 ·rename_i hd
  rw[if_neg hd]at h
  obtain⟨k1,j,k2,k3,k4,k5,k6⟩:=h
  refine⟨k1,j,k2,by omega,by rw[h1,zak];omega,?_,?_⟩
  ·rw[h1,ZjP k4];exact k5
  ·rw[h2,ZjP (by omega)];exact k6
theorem NodD.mono {c c':DSt} {e:Int} {b d:Nat} {p:List Nat} {n:Nod} (h:NodD x L facts c b d p n) (hm:Zdd e c c') (hl:c.N.length=c.P.length):NodD x L facts c' b d p n:=by
 obtain⟨h1,h2,h3,h4⟩:=h
 exact⟨h1,h2,h3.mono hm hl (zaf _),h4.imp fun a b h=>h.imp fun z g ⟨k1,k2⟩=>⟨k1,k2.mono hm hl (zaf _)⟩⟩
def CelS (x:Shp) (L:List (List (List Int))) (facts:List Fct) (d:Nat) (h:DSt->Int->List Nat->DSt×Cel):Prop :=
 ∀c k p,Zd3 facts p->ZdW x L facts c->ZdW x L facts (h c k p).1/\Zdd ((d:Int)+1) c (h c k p).1/\(h c k p).2.key=k/\ZiH L facts (h c k p).1 (h c k p).1.N.length d p (h c k p).2
def NodS (x:Shp) (L:List (List (List Int))) (facts:List Fct) (d:Nat) (f:DSt->List Nat->DSt×Int):Prop :=
 ∀c p,Zd3 facts p->ZdW x L facts c->ZdW x L facts (f c p).1/\Zdd d c (f c p).1/\∃j:Nat,(f c p).2=(j:Int)/\j<(f c p).1.N.length/\((f c p).1.N.getD j ZdH).dim=(d:Int)/\(f c p).1.P.getD j []=p
theorem Zmp {d:Nat} {h:DSt->Int->List Nat->DSt×Cel} (hh:CelS x L facts d h):∀(l:List (Int×List Nat)) (c:DSt),(∀q∈l,Zd3 facts q.2)->ZdW x L facts c->ZdW x L facts (cellsD h c l).1/\Zdd ((d:Int)+1) c (cellsD h c l).1 /\
  ZeK (fun(z:Cel) (g:Int×List Nat)=>z.key=g.1/\ZiH L facts (cellsD h c l).1 (cellsD h c l).1.N.length d g.2 z) (cellsD h c l).2 l
 | [],c,_,hc=>⟨hc,Zdd.refl _ _,.nil⟩
 | p :: ps,c,hp,hc=>by
  obtain⟨h1,h2,h3,h4⟩:=hh c p.1 p.2 (hp p zah) hc
  obtain⟨k1,k2,k3⟩:=Zmp hh ps _ (fun q hq=>hp q (zae _ hq)) h1
  exact⟨k1,h2.trans k2,.cons ⟨h3,h4.mono k2 h1.len k2.pre.length_le⟩ k3⟩
theorem Zmj {d:Nat} {h:DSt->Int->List Nat->DSt×Cel} (hh:CelS x L facts d h):∀(l:List (List (Int×List Nat))) (c:DSt),(∀t∈l,∀q∈t,Zd3 facts q.2)->ZdW x L facts c->ZdW x L facts (ZbW h c l).1/\Zdd ((d:Int)+1) c (ZbW h c l).1 /\
  ZeK (ZeK fun(z:Cel) (g:Int×List Nat)=>z.key=g.1/\ZiH L facts (ZbW h c l).1 (ZbW h c l).1.N.length d g.2 z) (ZbW h c l).2 l
 | [],c,_,hc=>⟨hc,Zdd.refl _ _,.nil⟩
 | p :: ps,c,hp,hc=>by
  obtain⟨h1,h2,h3⟩:=Zmp hh p c (hp p zah) hc
  obtain⟨k1,k2,k3⟩:=Zmj hh ps _ (fun q hq=>hp q (zae _ hq)) h1
  exact⟨k1,h2.trans k2,.cons (h3.imp fun z g ⟨m1,m2⟩=>⟨m1,m2.mono k2 h1.len k2.pre.length_le⟩) k3⟩
theorem cell_s {d:Nat} {f:DSt->List Nat->DSt×Int} (hf:d+1≠L.length->NodS x L facts (d+1) f):CelS x L facts d (Zc2 facts f (decide (d+1=L.length))):=by
 intro c k p hp hc
 by_cases hl:d+1=L.length
 ·have e:Zc2 facts f (decide (d+1=L.length)) c k p=(⟨c.N,c.P,c.over || (ZdJ facts ag0 p).isNone⟩,⟨k,0,(ZdJ facts ag0 p).getD ag0⟩):=by unfold Zc2;rw[decide_eq_true hl,if_pos rfl]
  rw[e]
  have hM:Zdd ((d:Int)+1) c ⟨c.N,c.P,c.over || (ZdJ facts ag0 p).isNone⟩:=⟨[],[],by simp,by simp,rfl,by simp,fun h=>by simp[h]⟩
  refine⟨⟨hc.len,fun i hi=>?_,hc.uniq,hc.part⟩,hM,rfl,?_⟩
  ·obtain⟨e,he,hn⟩:=hc.nod i hi
   exact⟨e,he,hn.mono hM hc.len⟩
  ·unfold ZiH
   rw[if_pos hl]
   exact⟨rfl,rfl⟩
 ·have e:Zc2 facts f (decide (d+1=L.length)) c k p=((f c p).1,⟨k,(f c p).2,ag0⟩):=by unfold Zc2;rw[decide_eq_false hl,if_neg (by simp)]
  rw[e]
  obtain⟨h1,h2,j,h3,h4,h5,h6⟩:=hf hl c p hp hc
  refine⟨h1,by simpa using h2,rfl,?_⟩
  unfold ZiH
  rw[if_neg hl]
  exact⟨rfl,j,h3,h4,h4,h5,h6⟩
theorem vis_s {d:Nat} {f:DSt->List Nat->DSt×Int} (hd:d<L.length) (hf:d+1≠L.length->NodS x L facts (d+1) f):NodS x L facts d (ZpU x L facts f d):=by
 intro c p hp hc
 have hcel:=cell_s (d:=d) (f:=f) hf
 obtain⟨t1,t2,t3⟩:=Zmj hcel (ZaC x L facts d p) c hp.groups hc
 obtain⟨a1,a2,a3,a4⟩:=hcel (ZbW (Zc2 facts f (decide (d+1=L.length))) c (ZaC x L facts d p)).1 0 p hp t1
 unfold ZpU
 generalize (ZbW (Zc2 facts f (decide (d+1=L.length))) c (ZaC x L facts d p))=U at *
 generalize (Zc2 facts f (decide (d+1=L.length)) U.1 0 p)=B at *
 cases hfn:Ze3 d p c.N c.P with
 | some i =>
  obtain⟨i1,i2,i3⟩:=Zly hfn
  exact⟨hc,Zdd.refl _ _,i,rfl,i1,i2,i3⟩
 | none =>
  have hM:Zdd d c B.1:=(t2.trans a2).weak (by omega)
  have hfB:Ze3 d p B.1.N B.1.P=none:=by rw[(t2.trans a2).fnd hc.len (by omega) p];exact hfn
  have hnew:∀i,i<B.1.N.length->¬((B.1.N.getD i ZdH).dim=(d:Int)/\B.1.P.getD i []=p):=fun i hi=>by
   unfold Ze3 at hfB
   rw[List.find?_eq_none]at hfB
   have:=hfB i (by simpa using hi)
   unfold ZgB at this
   simpa using this
  have hM2:Zdd d B.1 (Ze8 d p B U.2).1:=⟨[⟨d,U.2,B.2⟩],[p],rfl,rfl,rfl,by simp,id⟩
  have eN:(Ze8 d p B U.2).1.N=B.1.N++[⟨d,U.2,B.2⟩]:=rfl
  have eP:(Ze8 d p B U.2).1.P=B.1.P++[p]:=rfl
  have oN:∀i,i<B.1.N.length->(Ze8 d p B U.2).1.N.getD i ZdH=B.1.N.getD i ZdH:=fun i hi=>by rw[eN,ZjP hi]
  have oP:∀i,i<B.1.N.length->(Ze8 d p B U.2).1.P.getD i []=B.1.P.getD i []:=fun i hi=>by rw[eP,ZjP (by rw[← a1.len];exact hi)]
  have nN:(Ze8 d p B U.2).1.N.getD B.1.N.length ZdH=⟨d,U.2,B.2⟩:=by rw[eN,Zih]
  have nP:(Ze8 d p B U.2).1.P.getD B.1.N.length []=p:=by rw[eP,a1.len,Zih]
  have hlen:(Ze8 d p B U.2).1.N.length=B.1.N.length+1:=by rw[eN,zak];rfl
  have hcase:∀i,i<(Ze8 d p B U.2).1.N.length->i<B.1.N.length∨i=B.1.N.length:=fun i hi=>by omega
  refine⟨⟨hM2.len a1.len,fun i hi=>?_,fun i j hi hj h1 h2=>?_,fun i hi=>?_⟩,hM.trans hM2,B.1.N.length,rfl,by show _<(Ze8 d p B U.2).1.N.length;omega,?_,?_⟩
  ·rcases hcase i hi with hi|rfl
   ·obtain⟨e,he,hn⟩:=a1.nod i hi
    show ∃d',_/\NodD x L facts (Ze8 d p B U.2).1 i d' ((Ze8 d p B U.2).1.P.getD i []) ((Ze8 d p B U.2).1.N.getD i ZdH)
    rw[oN i hi,oP i hi]
    exact⟨e,he,hn.mono hM2 a1.len⟩
   ·show ∃d',_/\NodD x L facts (Ze8 d p B U.2).1 B.1.N.length d' ((Ze8 d p B U.2).1.P.getD B.1.N.length []) ((Ze8 d p B U.2).1.N.getD B.1.N.length ZdH)
    rw[nN,nP]
    refine⟨d,hd,rfl,a3,a4.mono hM2 a1.len (zaf _),t3.imp fun l m h=>h.imp fun z g ⟨m1,m2⟩=>⟨m1,?_⟩⟩
    exact(m2.mono a2 t1.len a2.pre.length_le).mono hM2 a1.len (zaf _)
  ·have h1:((Ze8 d p B U.2).1.N.getD i ZdH).dim=((Ze8 d p B U.2).1.N.getD j ZdH).dim:=h1
   have h2:(Ze8 d p B U.2).1.P.getD i []=(Ze8 d p B U.2).1.P.getD j []:=h2
   rcases hcase i hi with hi|rfl
   ·rcases hcase j hj with hj|rfl
    ·rw[oN i hi,oN j hj]at h1
     rw[oP i hi,oP j hj]at h2
     exact a1.uniq i j hi hj h1 h2
    ·rw[oN i hi,nN]at h1
     rw[oP i hi,nP]at h2
     exact absurd ⟨h1,h2⟩ (hnew i hi)
   ·rcases hcase j hj with hj|rfl
    ·rw[oN j hj,nN]at h1
     rw[oP j hj,nP]at h2
     exact absurd ⟨h1.symm,h2.symm⟩ (hnew j hj)
    ·rfl
  ·show Zd3 facts ((Ze8 d p B U.2).1.P.getD i [])
   rcases hcase i hi with hi|rfl
   ·rw[oP i hi];exact a1.part i hi
   ·rw[nP];exact hp
  ·show((Ze8 d p B U.2).1.N.getD B.1.N.length ZdH).dim=_
   rw[nN]
  ·exact nP
theorem Zls:∀(n:Nat),n+1<=L.length->NodS x L facts (L.length - (n+1)) (Zhq x L facts (n+1))
 | 0,h=>vis_s (d:=L.length - 1) (f:=Zhq x L facts 0) (by have:1<=L.length:=h;omega) (fun h2=>absurd (show L.length - 1+1=L.length by have:1<=L.length:=h;omega) h2)
 | n+1,h=>vis_s (d:=L.length - (n+1+1)) (f:=Zhq x L facts (n+1)) (by omega) (fun _=>by
  have:=Zls n (by omega)
  rw[show L.length - (n+1+1)+1=L.length - (n+1) by omega]
  exact this)
theorem Zf8:ZdW x L facts ⟨[],[],false⟩:=⟨rfl,fun i hi=>absurd hi (zbS i),fun i j hi=>absurd hi (zbS i),fun i hi=>absurd hi (zbS i)⟩
theorem Zhu (h:facts≠[]):Zd3 facts (List.range facts.length):=⟨by simp;exact h,List.Sublist.refl _⟩
structure WAg (k:Nat) (a:Ag):Prop where
 n0:0<=a.n
 n1:a.n<=(k:Int) * 1000000000
 s0 : -((k:Int) * 1000000000000)<=a.s0/\a.s0<=(k:Int) * 1000000000000
 s1 : -((k:Int) * 1000000000000)<=a.s1/\a.s1<=(k:Int) * 1000000000000
 s2 : -((k:Int) * 1000000000000)<=a.s2/\a.s2<=(k:Int) * 1000000000000
theorem WAg.more {k m:Nat} {a:Ag} (h:WAg k a) (hk:k<=m):WAg m a:=by
 obtain⟨h0,h1,h2,h3,h4⟩:=h
 exact⟨h0,by omega,by omega,by omega,by omega⟩
theorem Zkv {j k:Nat} {a b:Ag} (ha:WAg j a) (hb:WAg k b) (hjk:j+k<=2000):∃c,Zdl a b=some c/\WAg (j+k) c:=by
 obtain⟨a0,a1,a2,a3,a4⟩:=ha
 obtain⟨b0,b1,b2,b3,b4⟩:=hb
 have f:∀v:Int,-9223372036854775808<=v->v<=9223372036854775807->ZeW v=true:=fun v h1 h2=>decide_eq_true (by unfold In64;omega)
 unfold Zdl
 by_cases h1:a.n=0
 ·exact⟨b,if_pos h1,(WAg.mk b0 b1 b2 b3 b4).more (by omega)⟩
 rw[if_neg h1]
 by_cases h2:b.n=0
 ·exact⟨a,if_pos h2,(WAg.mk a0 a1 a2 a3 a4).more (by omega)⟩
 rw[if_neg h2,f _ (by omega) (by omega),f (a.s0+b.s0) (by omega) (by omega),f (a.s1+b.s1) (by omega) (by omega),f (a.s2+b.s2) (by omega) (by omega)]
 refine⟨_,rfl,?_⟩
 unfold Zem
 simp only[show(0:Nat)<3 from by decide,show(1:Nat)<3 from by decide,show(2:Nat)<3 from by decide,if_true]
 exact⟨by simp only;omega,by simp only;omega,by simp only;omega,by simp only;omega,by simp only;omega⟩
theorem wag0:WAg 0 ag0:=⟨by decide,by decide,by decide,by decide,by decide⟩
theorem Zfy (hf:∀f∈facts,WAg 1 f.2):∀(part:List Nat) (a:Ag) (k:Nat),WAg k a->k+part.length<=2000->(∀i∈part,i<facts.length)->∃b,ZdJ facts a part=some b/\WAg (k+part.length) b
 | [],a,k,ha,_,_=>⟨a,rfl,ha⟩
 | i :: r,a,k,ha,hl,hp=>by
  have hi:=hp i zah
  have hg:facts.getD i ([],ag0)=facts[i]:=by rw[zaj,zab hi];rfl
  simp only[List.length_cons]at hl
  obtain⟨c,h1,h2⟩:=Zkv ha (hf _ (zam hi)) (by omega)
  obtain⟨b,h3,h4⟩:=Zfy hf r c (k+1) h2 (by omega) fun j hj=>hp j (zae _ hj)
  refine⟨b,?_,h4.more (by simp only[List.length_cons];omega)⟩
  unfold ZdJ
  rw[hg,h1]
  exact h3
theorem ZfB {h:DSt->Int->List Nat->DSt×Cel} (hh:∀c k p,Zbz facts p->(h c k p).1.over=c.over):∀(l:List (Int×List Nat)) (c:DSt),(∀q∈l,Zbz facts q.2)->(cellsD h c l).1.over=c.over
 | [],_,_=>rfl
 | p :: ps,c,hp=>(ZfB hh ps _ fun q hq=>hp q (zae _ hq)).trans (hh c p.1 p.2 (hp p zah))
theorem Zf2 {h:DSt->Int->List Nat->DSt×Cel} (hh:∀c k p,Zbz facts p->(h c k p).1.over=c.over):∀(l:List (List (Int×List Nat))) (c:DSt),(∀t∈l,∀q∈t,Zbz facts q.2)->(ZbW h c l).1.over=c.over
 | [],_,_=>rfl
 | p :: ps,c,hp=>(Zf2 hh ps _ fun q hq=>hp q (zae _ hq)).trans (ZfB hh p c (hp p zah))
theorem Zit (hs:∀p,Zbz facts p->(ZdJ facts ag0 p).isNone=false):∀(n:Nat) (c:DSt) (p:List Nat),Zbz facts p->(Zhq x L facts n c p).1.over=c.over
 | 0,_,_,_=>rfl
 | n+1,c,p,hp=>by
  have hc:∀c k p,Zbz facts p->(Zc2 facts (Zhq x L facts n) (decide (L.length - (n+1)+1=L.length)) c k p).1.over=c.over:=fun c k p hp=>by
   cases (decide (L.length - (n+1)+1=L.length))with
   | true =>
    show(c.over || (ZdJ facts ag0 p).isNone)=c.over
    rw[hs p hp,Bool.or_false]
   | false=>exact Zit hs n c p hp
  show(ZpU x L facts (Zhq x L facts n) (L.length - (n+1)) c p).1.over=c.over
  unfold ZpU visM
  split
  ·rfl
  ·exact(hc _ 0 p hp).trans (Zf2 hc _ c (Zku hp))
end
theorem ZlB {S:Sc} {facts:List Fct} (hs:scE S=0) (hr:Zd7 (Za3 S) none facts=0) (hl:facts.length<=1000) (hw:∀f∈facts,WAg 1 f.2):ZdW (Za3 S) (Zan S) facts (Zcn S facts)/\(Zcn S facts).over=false:=by
 have hLl:(Zan S).length=S.dims.length:=by unfold Zan;rw[zaa]
 have hs1:=(Zb7 hs).1
 unfold Zcn
 split
 ·exact⟨Zf8,rfl⟩
 ·rename_i hne
  have hp:=Zhu hne
  have h1:=Zls (x:=Za3 S) (L:=Zan S) (facts:=facts) ((Zan S).length - 1) (by omega) ⟨[],[],false⟩ _ hp Zf8
  rw[show(Zan S).length - 1+1=(Zan S).length by omega]at h1
  refine⟨h1.1,Zit (fun p hp=>?_) _ _ _ hp.ok⟩
  obtain⟨b,hb,_⟩:=Zfy hw p ag0 0 wag0 (by have:=hp.2.1;omega) hp.2.2
  rw[hb];rfl
theorem vis_last {x:Shp} {L:List (List (List Int))} {facts:List Fct} {f:DSt->List Nat->DSt×Int} {d:Nat} {c:DSt} {p:List Nat} (h:Ze3 d p c.N c.P=none):(ZpU x L facts f d c p).2+1=((ZpU x L facts f d c p).1.N.length:Int):=by
 unfold ZpU visM
 rw[h]
 show(_:Int)+1=((_++[_]).length:Int)
 rw[zak,List.length_singleton]
 rfl
theorem ZmL {S:Sc} {facts:List Fct} (hs:scE S=0) (hne:facts≠[]):0<(Zcn S facts).N.length/\((Zcn S facts).N.getD ((Zcn S facts).N.length - 1) ZdH).dim=0/\(Zcn S facts).P.getD ((Zcn S facts).N.length - 1) []=List.range facts.length:=by
 have hLl:(Zan S).length=S.dims.length:=by unfold Zan;rw[zaa]
 have hs1:=(Zb7 hs).1
 have hp:=Zhu hne
 have h1:=Zls (x:=Za3 S) (L:=Zan S) (facts:=facts) ((Zan S).length - 1) (by omega) ⟨[],[],false⟩ _ hp Zf8
 have h2:=vis_last (x:=Za3 S) (L:=Zan S) (facts:=facts) (f:=Zhq (Za3 S) (Zan S) facts ((Zan S).length - 1)) (d:=(Zan S).length - ((Zan S).length - 1+1)) (c:=⟨[],[],false⟩) (p:=List.range facts.length) rfl
 have h2:(Zhq (Za3 S) (Zan S) facts ((Zan S).length - 1+1) ⟨[],[],false⟩ (List.range facts.length)).2+1=_:=h2
 have h2:(Zhq (Za3 S) (Zan S) facts ((Zan S).length - 1+1) ⟨[],[],false⟩ (List.range facts.length)).2+1=((Zhq (Za3 S) (Zan S) facts ((Zan S).length - 1+1) ⟨[],[],false⟩ (List.range facts.length)).1.N.length:Int):=h2
 rw[show(Zan S).length - 1+1=(Zan S).length by omega]at h1 h2
 rw[Nat.sub_self]at h1
 obtain⟨_,_,j,e,h3,h4,h5⟩:=h1
 unfold Zcn
 rw[if_neg hne]
 have hj:j=(Zhq (Za3 S) (Zan S) facts (Zan S).length ⟨[],[],false⟩ (List.range facts.length)).1.N.length - 1:=by omega
 rw[← hj]
 exact⟨by omega,h4,h5⟩
def Za9 (L:List (List (List Int))) (facts:List Fct):Nat->List (Int×Int)->Nat->Bool
 | _,[],_=>true
 | d,q :: w,i=>(decide (q.1<0) || (Zdm L facts d q.1.toNat i == q.2))&&Za9 L facts (d+1) w i
def Zek (n:Nod) (q:Int×Int):Option Cel :=
 if n.lists.length=0∨(n.lists.length:Int)<=q.1 then none else if q.1<0 then some n.all else (n.lists.getD q.1.toNat []).find? fun c=>c.key == q.2
def ZmK:Option Cel->Cel×Int
 | none=>(ZcE,10)
 | some c=>(c,0)
def ZcB (N:List Nod) (at' dim:Int) (q:Int×Int):Cel×Int :=
 if at'<0∨(N.length:Int)<=at' then (ZcE,9) else
 if (N.getD at'.toNat ZdH).dim≠dim∨((N.getD at'.toNat ZdH).lists.length:Int)<=q.1 then (ZcE,15) else ZmK (Zek (N.getD at'.toNat ZdH) q)
def ZfF (x:Shp) (L:List (List (List Int))) (d:Nat) (q:Int×Int):Prop:=(q.1<0/\q.2=0)∨∃t:Nat,q.1=(t:Int)/\t<(L.getD d []).length/\0<=q.2/\q.2<Zch x d t
section
variable {x:Shp} {L:List (List (List Int))} {facts:List Fct}
theorem ZhW {R:Cel->Int×List Nat->Prop} (hR:∀z g,R z g->z.key=g.1) (k:Int):∀{l:List Cel} {m:List (Int×List Nat)},ZeK R l m->(∃z g,(l.find? fun c=>c.key == k)=some z/\(m.find? fun g=>g.1 == k)=some g/\R z g)∨((l.find? fun c=>c.key == k)=none/\(m.find? fun g=>g.1 == k)=none)
 | _,_,.nil=>.inr ⟨rfl,rfl⟩
 | _,_,.cons (a:=a) (b:=b) h t=>by
  have hk:=hR _ _ h
  by_cases c:b.1=k
  ·refine .inl ⟨a,b,?_,?_,h⟩
   ·rw[List.find?_cons,show(a.key == k)=true by simp[hk,c]]
   ·rw[List.find?_cons,show(b.1 == k)=true by simp[c]]
  ·rw[List.find?_cons,List.find?_cons,show(a.key == k)=false by simp[hk,c],show(b.1 == k)=false by simp[c]]
   exact ZhW hR k t
theorem grs_of {key:Nat->Int} {n:Nat} {part:List Nat} {g:Int×List Nat} (hg:g∈grs key n part):g.2=part.filter fun i=>decide (key i=g.1):=by
 unfold grs at hg
 obtain⟨k,_,h⟩:=zbu.1 hg
 split at h
 ·cases h
 ·injection h with h;rw[← h]
theorem grs_find {key:Nat->Int} {n:Nat} {part:List Nat} {k:Int} (h0:0<=k) (h1:k<n):(grs key n part).find? (fun g=>g.1 == k)=if part.filter (fun i=>decide (key i=k))=[] then none else some (k,part.filter fun i=>decide (key i=k)):=by
 cases hf:(grs key n part).find? (fun g=>g.1 == k)with
 | some g =>
  have hm:=List.mem_of_find?_eq_some hf
  have hk:=List.find?_some hf
  have hk:g.1=k:=by simpa using hk
  have h2:=grs_of hm
  have h3:=(Zfb hm).1
  rw[hk]at h2
  rw[if_neg (by rw[← h2];exact h3),← h2,← hk]
 | none =>
  rw[List.find?_eq_none]at hf
  split
  ·rfl
  ·rename_i hne
   exfalso
   obtain⟨i,hi⟩:=zbF _ hne
   obtain⟨i1,i2⟩:=zbb.1 hi
   have i2:key i=k:=by simpa using i2
   have:=Zfg (key:=key) (n:=n) i1 (by rw[i2];exact⟨h0,h1⟩)
   rw[i2]at this
   obtain⟨g,hg,he⟩:=zau.1 this
   exact hf g hg (by simpa using he)
theorem ZgZ {α β:Type} {R:α->β->Prop}:∀{l:List α} {m:List β},ZeK R l m->∀(i:Nat) (h:i<l.length) (h':i<m.length),R l[i] m[i]
 | _,_,.nil,i,h,_=>by simp at h
 | _,_,.cons h t,0,_,_=>h
 | _,_,.cons h t,i+1,h1,h2=>ZgZ t i (by simpa using h1) (by simpa using h2)
def ZeD (L:List (List (List Int))) (facts:List Fct) (d:Nat) (p:List Nat) (q:Int×Int):List Nat:=if q.1<0 then p else p.filter fun i=>decide (Zdm L facts d q.1.toNat i=q.2)
theorem ZjL {c:DSt} (hF:ZbI x L facts) (hc:ZdW x L facts c) {j d:Nat} (hj:j<c.N.length) (hd:(c.N.getD j ZdH).dim=(d:Int)) {q:Int×Int} (hq:ZfF x L d q) :
  (ZeD L facts d (c.P.getD j []) q=[]->ZcB c.N j d q=(ZcE,10))/\(ZeD L facts d (c.P.getD j []) q≠[]->(ZcB c.N j d q).2=0/\ZiH L facts c j d (ZeD L facts d (c.P.getD j []) q) (ZcB c.N j d q).1):=by
 obtain⟨e,he,hn⟩:=hc.nod j hj
 obtain⟨n1,n2,n3,n4⟩:=hn
 obtain rfl:e=d:=by rw[hd]at n1;omega
 have hpart:=hc.part j hj
 have hgl:(ZaC x L facts e (c.P.getD j [])).length=(L.getD e []).length:=by unfold ZaC;simp
 have hll:=n4.length
 have hL:(L.getD e [])=L[e]:=by rw[zaj,zab he];rfl
 obtain⟨t1,t2,t3⟩:=hF.tier e he
 have hgl2:(L.getD e []).length=L[e].length:=by rw[hL]
 have hgg:∀k (h:k<(ZaC x L facts e (c.P.getD j [])).length),(ZaC x L facts e (c.P.getD j []))[k]=grs (Zdm L facts e k) (Zch x e k) (c.P.getD j []):=fun k h=>by simp[ZaC]
 have h0:¬((j:Int)<0∨(c.N.length:Int)<=j):=by omega
 generalize hp:c.P.getD j []=p at *
 have hnz:((c.N.getD ((j:Int)).toNat ZdH))=c.N.getD j ZdH:=by rw[Int.toNat_natCast]
 rcases hq with⟨q1,q2⟩|⟨t,q1,q2,q3,q4⟩
 ·have hs:ZcB c.N j e q=((c.N.getD j ZdH).all,0):=by
   unfold ZcB Zek
   rw[if_neg h0,hnz,if_neg (by rw[hd];omega),if_neg (by omega),if_pos q1];rfl
  have hpq:ZeD L facts e p q=p:=by unfold ZeD;rw[if_pos q1]
  rw[hpq,hs]
  exact⟨fun h=>absurd h hpart.1,fun _=>⟨rfl,n3⟩⟩
 ·have htn:t<(c.N.getD j ZdH).lists.length:=by omega
  have hs:ZcB c.N j e q=ZmK (((c.N.getD j ZdH).lists[t]).find? fun c=>c.key == q.2):=by
   unfold ZcB Zek
   rw[if_neg h0,hnz,if_neg (by rw[hd];omega),if_neg (by omega),if_neg (by omega),q1,Int.toNat_natCast,zaj,zab htn];rfl
  have hpq:ZeD L facts e p q=p.filter fun i=>decide (Zdm L facts e t i=q.2):=by unfold ZeD;rw[if_neg (by omega),q1,Int.toNat_natCast]
  have h4:=ZgZ n4 t htn (by omega)
  rw[hgg t (by omega)]at h4
  have hgf:=grs_find (key:=Zdm L facts e t) (n:=Zch x e t) (part:=p) q3 q4
  rw[hpq,hs]
  rcases ZhW (fun z g h=>h.1) q.2 h4 with⟨z,g,e1,e2,hr⟩|⟨e1,e2⟩
  ·rw[e1]
   rw[e2]at hgf
   split at hgf
   ·cases hgf
   ·rename_i hne
    injection hgf with hgf
    rw[hgf]at hr
    exact⟨fun h=>absurd h hne,fun _=>⟨rfl,hr.2⟩⟩
  ·rw[e1]
   rw[e2]at hgf
   split at hgf
   ·rename_i hem;exact⟨fun _=>rfl,fun h=>absurd hem h⟩
   ·cases hgf
end
theorem ZkF {N:List Nod} {i:Int} (h:0<=i):Zdw N i=N.getD i.toNat ZdH:=by
 unfold Zdw ZdH
 rw[if_pos h,zaj];rfl
@[simp] theorem matchP_nil {L:List (List (List Int))} {facts:List Fct} {d i:Nat}:Za9 L facts d [] i=true:=rfl
theorem ZgG {L:List (List (List Int))} {facts:List Fct} (i:Nat) (q:Int×Int):∀(w:List (Int×Int)) (d:Nat),Za9 L facts d (w++[q]) i=(Za9 L facts d w i&&(decide (q.1<0) || (Zdm L facts (d+w.length) q.1.toNat i == q.2)))
 | [],d=>by simp[Za9]
 | p :: w,d=>by
  have ih:=ZgG (L:=L) (facts:=facts) i q w (d+1)
  show(_&&Za9 L facts (d+1) (w++[q]) i)=_
  rw[ih,Za9,Bool.and_assoc,List.length_cons,show d+(w.length+1)=d+1+w.length by omega]
def ZlW (l:List Fct):Prop:=l.length<=1000/\∀f∈l,f.2.n<=1000000000/\(-1000000000000<=f.2.s0/\f.2.s0<=1000000000000)/\(-1000000000000<=f.2.s1/\f.2.s1<=1000000000000)/\(-1000000000000<=f.2.s2/\f.2.s2<=1000000000000)
theorem ZlW.wag {l:List Fct} (h:ZlW l) {m:Int} (hm:∀f∈l,Zbw m f.2=true):∀f∈l,WAg 1 f.2:=fun f hf=>by
 obtain⟨h1,h2,h3,h4⟩:=h.2 f hf
 have:=hm f hf
 unfold Zbw at this
 simp only[zaB,decide_eq_true_eq]at this
 obtain⟨⟨⟨⟨⟨_,_⟩,a3⟩,_⟩,_⟩,_⟩:=this
 exact⟨by omega,by omega,by omega,by omega,by omega⟩
def WideQ (l:List Fct) (H:Zaa) (r:AV) (H':Zaa):Prop:=HX [] H H'/\∃b,r=.b b/\(b=true->ZlW l)
def prtS (a:Ag):Nat->Int
 | 0=>a.s0
 | 1=>a.s1
 | _=>a.s2
set_option maxHeartbeats 4000000 in
theorem Zkx (t:Tok) (l:List Fct) (H:Zaa) (hl:l.length<=1000000):Zay Tryz.prog 20 [.sl t (rF l)] H (WideQ l H):=by
 refine Zak hE cf20 (zac rfl) fun Q qr qn=>?_
 ((have hd:=tv;repeat' first|(first|apply Zad|apply Zac|apply Zab)<;>intro hd<;>try simp only[hd]|simp(disch:=first|assumption|omega|simp only[nx]<;>omega|fail)only[hd,qr,qn,Zf9,↓YA,YY,sevalprocAttr,zaa])<;>try revert hd;refine ttr ?_)
 refine Zbs [0,6,7] (σ:=Unit) (fun(k:Nat) s=>∀j (h:j<l.length),j<k->l[j].2.n<=1000000000/\∀m,m<3 -> -1000000000000<=prtS l[j].2 m/\prtS l[j].2 m<=1000000000000) (fun k s=>[]) (fun k s=>[]) () (GStep.refl _ _) (by simp only[ZaA,Zav,Fr.put,Fr.get,↓reduceIte,Nat.reduceEqDiff];rfl) (by intro k s;rfl) (by intro k s;rfl) (by rfl) (by unfold maxLen;omega) ?_ (by simp only[ZaF]) (by simp only[ZaJ]) ?_ ?_
 ·exact fun j _ h=>absurd h (zbS j)
 ·(rintro k s G hk hno hG hn;try simp only[nx]at hn)
  have h0:(0:Int)<=(k:Int):=by omega
  have hrf:=ZjV hk
  obtain⟨j0,j1,j2,j3⟩:=Zbu l[k]
  have en:(ZcI l[k])[1]?=some (.i l[k].2.n):=rfl
  have es:∀m,m<3->(ZcI l[k])[2+m * 3]?=some (.i (prtS l[k].2 m)):=fun m hm=>by
   obtain rfl|rfl|rfl:m=0∨m=1∨m=2:=by omega
   ·rfl
   ·rfl
   ·rfl
  have hnk:∀P:Prop,(l[k].2.n<=1000000000/\∀m,m<3 -> -1000000000000<=prtS l[k].2 m/\prtS l[k].2 m<=1000000000000)->(∀j (h:j<l.length),j<k+1->l[j].2.n<=1000000000/\∀m,m<3 -> -1000000000000<=prtS l[j].2 m/\prtS l[j].2 m<=1000000000000):=fun _ hq j hj hjk=>by
   rcases Nat.lt_or_eq_of_le (Nat.lt_succ_iff.1 hjk)with h|rfl
   ·exact hno j hj h
   ·exact hq
  generalize l[k]=f at *
  have hG1:HX [] H (G.alloc (.cells (ZcI f) 88)):=hG.alloc
  by_cases c1:f.2.n > 1000000000
  ·have d1:decide (f.2.n > 1000000000)=true:=decide_eq_true c1
   ((have hd:=tv;repeat' first|(first|apply Zad|apply Zac|apply Zab)<;>intro hd<;>try simp only[hd]|simp(disch:=first|assumption|omega|simp only[nx]<;>omega|fail)only[hd,qr,qn,Zf9,↓YA,YY,sevalprocAttr,hrf,h0,hk,j0,j3,en,d1])<;>try revert hd;refine ttr ?_)
   exact Zaq ⟨hG1,false,rfl,fun h=>by cases h⟩
  ·have d1:decide (f.2.n > 1000000000)=false:=decide_eq_false c1
   ((have hd:=tv;repeat' first|(first|apply Zad|apply Zac|apply Zab)<;>intro hd<;>try simp only[hd]|simp(disch:=first|assumption|omega|simp only[nx]<;>omega|fail)only[hd,qr,qn,Zf9,↓YA,YY,sevalprocAttr,hrf,h0,hk,j0,j3,en,d1])<;>try revert hd;refine ttr ?_)
   have g4:(G.alloc (.cells (ZcI f) 88)).get G.next=some (.cells (ZcI f) 88):=Zaa.Zae
   have l4:=Zaa.lt g4
   generalize G.alloc (.cells (ZcI f) 88)=G1 at *
   generalize G.next=i4 at *
   refine Zbs (N:=3) [0,4,6,7,8] (σ:=Unit) (fun(k:Nat) s=>∀m,m<k -> -1000000000000<=prtS f.2 m/\prtS f.2 m<=1000000000000) (fun k s=>[]) (fun k s=>[]) () (GStep.refl _ _) (by simp only[ZaA,Zav,Fr.put,Fr.get,↓reduceIte,Nat.reduceEqDiff];rfl) (by intro k s;rfl) (by intro k s;rfl) (by rfl) (by unfold maxLen;omega) ?_ (by simp only[ZaF]) (by simp only[ZaJ]) ?_ ?_
   ·exact fun m h=>absurd h (zbS m)
   ·(rintro m s2 G2 hm hno2 hG2 hn2;try simp only[nx]at hn2)
    have g4:=(hG2.g _ l4 (by simp)).trans g4
    have hes:=es m hm
    have hm0:(0:Int)<=(m:Int):=by omega
    have hm3:(m:Int)<((3:Nat):Int):=by omega
    have hm3b:(m:Int)<3:=hm3
    generalize hv:prtS f.2 m=v at *
    by_cases c2:v > 1000000000000
    ·have d2:decide (v > 1000000000000)=true:=decide_eq_true c2
     ((have hd:=tv;repeat' first|(first|apply Zad|apply Zac|apply Zab)<;>intro hd<;>try simp only[hd]|simp(disch:=first|assumption|omega|simp only[nx]<;>omega|fail)only[hd,qr,qn,Zf9,↓YA,YY,sevalprocAttr,g4,j0,j3,hes,d2,hm0,hm3,hm3b,hm])<;>try revert hd;refine ttr ?_)
     exact Zaq ⟨hG1.ZeP hG2,false,rfl,fun h=>by cases h⟩
    ·have d2:decide (v > 1000000000000)=false:=decide_eq_false c2
     by_cases c3:v < -1000000000000
     ·have d3:decide (v < -1000000000000)=true:=decide_eq_true c3
      ((have hd:=tv;repeat' first|(first|apply Zad|apply Zac|apply Zab)<;>intro hd<;>try simp only[hd]|simp(disch:=first|assumption|omega|simp only[nx]<;>omega|fail)only[hd,qr,qn,Zf9,↓YA,YY,sevalprocAttr,g4,j0,j3,hes,d2,d3,hm0,hm3,hm3b,hm])<;>try revert hd;refine ttr ?_)
      exact Zaq ⟨hG1.ZeP hG2,false,rfl,fun h=>by cases h⟩
     ·have d3:decide (v < -1000000000000)=false:=decide_eq_false c3
      ((have hd:=tv;repeat' first|(first|apply Zad|apply Zac|apply Zab)<;>intro hd<;>try simp only[hd]|simp(disch:=first|assumption|omega|simp only[nx]<;>omega|fail)only[hd,qr,qn,Zf9,↓YA,YY,sevalprocAttr,g4,j0,j3,hes,d2,d3,hm0,hm3,hm3b,hm])<;>try revert hd;refine ttr ?_)
      exact⟨(),fun q hq=>by
       rcases Nat.lt_or_eq_of_le (Nat.lt_succ_iff.1 hq)with h|rfl
       ·exact hno2 q h
       ·rw[hv];omega,hG2⟩
   ·(rintro s2 G2 hno2 hG2 hn2;try simp only[nx]at hn2)
    ((have hd:=tv;repeat' first|(first|apply Zad|apply Zac|apply Zab)<;>intro hd<;>try simp only[hd]|simp(disch:=first|assumption|omega|simp only[nx]<;>omega|fail)only[hd,qr,qn,Zf9,↓YA,YY,sevalprocAttr])<;>try revert hd;refine ttr ?_)
    exact⟨(),hnk True ⟨by omega,hno2⟩,hG1.ZeP hG2⟩
 ·(rintro s G hno hG hn;try simp only[nx]at hn)
  by_cases c1:l.length<=1000
  ·have d1:decide ((l.length:Int)<=1000)=true:=decide_eq_true (by omega)
   ((have hd:=tv;repeat' first|(first|apply Zad|apply Zac|apply Zab)<;>intro hd<;>try simp only[hd]|simp(disch:=first|assumption|omega|simp only[nx]<;>omega|fail)only[hd,qr,qn,Zf9,↓YA,YY,sevalprocAttr,d1,zaa])<;>try revert hd;refine ttr ?_)
   refine Zap.use (Zfs t l 1000 _ (by omega)) ?_
   rintro r H2 ⟨hx2,b,rfl,hfl⟩
   ((have hd:=tv;repeat' first|(first|apply Zad|apply Zac|apply Zab)<;>intro hd<;>try simp only[hd]|simp(disch:=first|assumption|omega|simp only[nx]<;>omega|fail)only[hd,qr,qn,Zf9,↓YA,YY,sevalprocAttr])<;>try revert hd;refine ttr ?_)
   exact Zaq ⟨hG.ZeP hx2,b,rfl,fun _=>⟨c1,fun f hf=>by
    obtain⟨j,hj,rfl⟩:=zaA hf
    obtain⟨q1,q2⟩:=hno j hj hj
    exact⟨q1,q2 0 (by decide),q2 1 (by decide),q2 2 (by decide)⟩⟩⟩
  ·have d1:decide ((l.length:Int)<=1000)=false:=decide_eq_false (by omega)
   ((have hd:=tv;repeat' first|(first|apply Zad|apply Zac|apply Zab)<;>intro hd<;>try simp only[hd]|simp(disch:=first|assumption|omega|simp only[nx]<;>omega|fail)only[hd,qr,qn,Zf9,↓YA,YY,sevalprocAttr,d1,zaa])<;>try revert hd;refine ttr ?_)
   exact Zaq ⟨hG,false,rfl,fun h=>by cases h⟩
section
variable {rd:FuncId} {first caps:List AV} {N:List Nod} {S:List Nat} {Inv:List Int->Zaa->Prop}
end
end Go.Proofs.YtaapiigfmdhobaaGreat
