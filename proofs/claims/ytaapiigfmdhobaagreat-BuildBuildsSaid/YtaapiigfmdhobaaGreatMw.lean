/- Texts of the walk, joined: Dm Dn Dl Dp. -/
import Derived.Test.YtaapiigfmdhobaaGreatMp
import Derived.Test.YtaapiigfmdhobaaGreatMt
import Derived.Test.YtaapiigfmdhobaaGreatMv
import Derived.Test.YtaapiigfmdhobaaGreatMj
namespace Go.Proofs.YtaapiigfmdhobaaGreat
set_option linter.unusedSimpArgs false
set_option linter.unusedVariables false
open Go.RowKit
structure DSt where
 N:List Nod
 P:List (List Nat)
 over:Bool
def cellD (facts:List Fct) (f:DSt→List Nat→DSt×Int) (last:Bool) (c:DSt) (key:Int) (part:List Nat):DSt×Cel :=
 if last=true then (⟨c.N,c.P,c.over || (sumP facts ag0 part).isNone⟩,⟨key,0,(sumP facts ag0 part).getD ag0⟩) else ((f c part).1,⟨key,(f c part).2,ag0⟩)
def cellsD (g:DSt→Int→List Nat→DSt×Cel):DSt→List (Int×List Nat)→DSt×List Cel
 | c,[]=>(c,[])
 | c,p :: ps=>((cellsD g (g c p.1 p.2).1 ps).1,(g c p.1 p.2).2 :: (cellsD g (g c p.1 p.2).1 ps).2)
def tiersD (g:DSt→Int→List Nat→DSt×Cel):DSt→List (List (Int×List Nat))→DSt×List (List Cel)
 | c,[]=>(c,[])
 | c,p :: ps=>((tiersD g (cellsD g c p).1 ps).1,(cellsD g c p).2 :: (tiersD g (cellsD g c p).1 ps).2)
def nod0:Nod:=⟨0,[],cel0⟩
def hitD (d:Nat) (part:List Nat) (N:List Nod) (P:List (List Nat)) (i:Nat):Bool:=decide ((N.getD i nod0).dim=(d:Int))&&decide (P.getD i []=part)
def fndD (d:Nat) (part:List Nat) (N:List Nod) (P:List (List Nat)):Option Nat:=(List.range N.length).find? (hitD d part N P)
def visT (d:Nat) (part:List Nat) (a:DSt×Cel) (ls:List (List Cel)):DSt×Int:=(⟨a.1.N++[⟨d,ls,a.2⟩],a.1.P++[part],a.1.over⟩,(a.1.N.length:Int))
def visM (c:DSt) (r:DSt×Int):Option Nat→DSt×Int
 | some i=>(c,(i:Int))
 | none=>r
def visF (x:Shp) (L:List (List (List Int))) (facts:List Fct) (f:DSt→List Nat→DSt×Int) (d:Nat) (c:DSt) (part:List Nat):DSt×Int :=
 visM c (visT d part (cellD facts f (decide (d+1=L.length)) (tiersD (cellD facts f (decide (d+1=L.length))) c (groupsB x L facts d part)).1 0 part) (tiersD (cellD facts f (decide (d+1=L.length))) c (groupsB x L facts d part)).2) (fndD d part c.N c.P)
def visD (x:Shp) (L:List (List (List Int))) (facts:List Fct):Nat→DSt→List Nat→DSt×Int
 | 0,c,_=>(c,0)
 | n+1,c,part=>visF x L facts (visD x L facts n) (L.length - (n+1)) c part
def Mono (e:Int) (c c':DSt):Prop:=∃ N' P',c'.N=c.N++N'∧c'.P=c.P++P'∧N'.length=P'.length∧(∀ n ∈ N',e≤n.dim)∧(c.over=true→c'.over=true)
theorem Mono.refl (e:Int) (c:DSt):Mono e c c:=⟨[],[],by simp,by simp,rfl,by simp,id⟩
theorem Mono.trans {e:Int} {c c' c'':DSt} (h:Mono e c c') (k:Mono e c' c''):Mono e c c'':=by
 obtain ⟨N1,P1,h1,h2,h3,h4,h5⟩:=h
 obtain ⟨N2,P2,k1,k2,k3,k4,k5⟩:=k
 refine ⟨N1++N2,P1++P2,by rw [k1,h1,List.append_assoc],by rw [k2,h2,List.append_assoc],by simp [h3,k3],fun n hn=>?_,fun h=>k5 (h5 h)⟩
 rcases List.mem_append.1 hn with hn|hn
 ·exact h4 n hn
 ·exact k4 n hn
theorem Mono.weak {e e':Int} {c c':DSt} (h:Mono e c c') (he:e'≤e):Mono e' c c':=by
 obtain ⟨N1,P1,h1,h2,h3,h4,h5⟩:=h
 exact ⟨N1,P1,h1,h2,h3,fun n hn=>Int.le_trans he (h4 n hn),h5⟩
theorem Mono.pre {e:Int} {c c':DSt} (h:Mono e c c'):c.N <+: c'.N:=by
 obtain ⟨N1,P1,h1,_⟩:=h
 exact ⟨N1,h1.symm⟩
theorem Mono.len {e:Int} {c c':DSt} (h:Mono e c c') (hl:c.N.length=c.P.length):c'.N.length=c'.P.length:=by
 obtain ⟨N1,P1,h1,h2,h3,_⟩:=h
 rw [h1,h2,List.length_append,List.length_append,hl,h3]
theorem fnd_app {d:Nat} {part:List Nat} {N N':List Nod} {P P':List (List Nat)} (hl:N.length=P.length) :
  fndD d part (N++N') (P++P')=match fndD d part N P with|some i=>some i|none=>(fndD d part N' P').map (N.length+·):=by
 have e:List.range (N++N').length=List.range N.length++(List.range N'.length).map (N.length+·):=by rw [List.length_append];exact List.range_add ..
 have h1:(List.range N.length).find? (hitD d part (N++N') (P++P'))=(List.range N.length).find? (hitD d part N P):=by
  have:∀ l:List Nat,(∀ i ∈ l,i<N.length)→l.find? (hitD d part (N++N') (P++P'))=l.find? (hitD d part N P):=by
   intro l
   induction l with
   | nil=>intro _;rfl
   | cons a l ih =>
    intro h
    have ha:=h a List.mem_cons_self
    have hh:hitD d part (N++N') (P++P') a=hitD d part N P a:=by
     unfold hitD
     simp only [List.getD_eq_getElem?_getD]
     rw [List.getElem?_append_left ha,List.getElem?_append_left (by omega)]
    rw [List.find?_cons,List.find?_cons,hh,ih fun i hi=>h i (List.mem_cons_of_mem _ hi)]
  exact this _ fun i hi=>by simpa using hi
 have h2:((List.range N'.length).map (N.length+·)).find? (hitD d part (N++N') (P++P'))=(fndD d part N' P').map (N.length+·):=by
  rw [List.find?_map]
  congr 1
  have hf:(hitD d part (N++N') (P++P') ∘ (N.length+·))=hitD d part N' P':=by
   funext i
   simp only [Function.comp_apply,hitD,List.getD_eq_getElem?_getD]
   rw [List.getElem?_append_right (by omega),List.getElem?_append_right (by omega),hl,Nat.add_sub_cancel_left]
  rw [hf];rfl
 unfold fndD at *
 rw [e,List.find?_append,h1,h2]
 cases (List.range N.length).find? (hitD d part N P)<;>rfl
theorem fnd_none {d:Nat} {part:List Nat} {N:List Nod} {P:List (List Nat)} (h:∀ n ∈ N,n.dim≠(d:Int)):fndD d part N P=none:=by
 unfold fndD
 rw [List.find?_eq_none]
 intro i hi
 have hi:i<N.length:=by simpa using hi
 unfold hitD
 rw [List.getD_eq_getElem?_getD,List.getElem?_eq_getElem hi]
 simp [h _ (List.getElem_mem hi)]
theorem Mono.fnd {e:Int} {c c':DSt} (h:Mono e c c') (hl:c.N.length=c.P.length) {d:Nat} (hd:(d:Int)<e) (part:List Nat):fndD d part c'.N c'.P=fndD d part c.N c.P:=by
 obtain ⟨N1,P1,h1,h2,h3,h4,_⟩:=h
 rw [h1,h2,fnd_app hl,fnd_none (N:=N1) (fun n hn=>by have:=h4 n hn;omega)]
 cases fndD d part c.N c.P<;>rfl
theorem fnd_one (d d':Nat) (part part':List Nat) (ls:List (List Cel)) (a:Cel):fndD d' part' [⟨(d:Int),ls,a⟩] [part]=if d'=d∧part'=part then some 0 else none:=by
 have h:fndD d' part' [⟨(d:Int),ls,a⟩] [part]=if hitD d' part' [⟨(d:Int),ls,a⟩] [part] 0=true then some 0 else none:=by
  unfold fndD
  rw [show List.range ([(⟨(d:Int),ls,a⟩:Nod)]).length=[0] from rfl,List.find?_cons]
  cases hitD d' part' [⟨(d:Int),ls,a⟩] [part] 0<;>rfl
 rw [h]
 have:(hitD d' part' [⟨(d:Int),ls,a⟩] [part] 0=true) ↔ (d'=d∧part'=part):=by
  unfold hitD
  simp only [List.getD_cons_zero,Bool.and_eq_true,decide_eq_true_eq]
  constructor
  ·rintro ⟨h1,h2⟩;exact ⟨by omega,h2.symm⟩
  ·rintro ⟨h1,h2⟩;exact ⟨by omega,h2.symm⟩
 by_cases hc:d'=d∧part'=part
 ·rw [if_pos (this.2 hc),if_pos hc]
 ·rw [if_neg (fun h=>hc (this.1 h)),if_neg hc]
theorem fnd_hit {d:Nat} {part:List Nat} {N:List Nod} {P:List (List Nat)} {i:Nat} (h:fndD d part N P=some i):i<N.length∧(N.getD i nod0).dim=(d:Int)∧P.getD i []=part:=by
 unfold fndD at h
 have h1:=List.mem_of_find?_eq_some h
 have h2:=List.find?_some h
 unfold hitD at h2
 simp only [Bool.and_eq_true,decide_eq_true_eq] at h2
 exact ⟨by simpa using h1,h2⟩
structure Rel (facts:List Fct) (D:Nat) (most:Int) (s:BSt) (c:DSt):Prop where
 len:c.N.length=c.P.length
 ok:s.e=0→s.N=c.N∧c.over=false∧(c.N.length:Int)≤most∧∀ d part,d<D→PartOk facts part→aGet (nmP d part) s.M=(fndD d part c.N c.P).map fun i:Nat=>(i:Int)
 bad:s.e≠0→(s.e=12∧c.over=true)∨(s.e=7∧most<c.N.length)
theorem Rel.mono {facts:List Fct} {D:Nat} {most e:Int} {s s':BSt} {c c':DSt} (h:Rel facts D most s c) (he:s.e≠0) (hm:Mono e c c') (hs:s'.e=s.e∨(s'.e=12∧c'.over=true)):Rel facts D most s' c':=by
 refine ⟨hm.len h.len,fun h0=>?_,fun _=>?_⟩
 ·rcases hs with hs|hs
  ·exact absurd (hs.symm.trans h0) he
  ·omega
 ·rcases hs with hs|hs
  ·obtain ⟨N1,P1,h1,h2,h3,h4,h5⟩:=hm
   rcases h.bad he with ⟨k1,k2⟩|⟨k1,k2⟩
   ·exact .inl ⟨hs.trans k1,h5 k2⟩
   ·refine .inr ⟨hs.trans k1,?_⟩
    rw [h1,List.length_append]
    omega
  ·exact .inl hs
def LdOk (last:Bool) (d:Nat) (N:List Nod) (c:Cel):Prop:=last=false→0≤c.child∧c.child<N.length∧(N.getD c.child.toNat ⟨0,[],cel0⟩).dim=(d:Int)+1
theorem LdOk.pre {last:Bool} {d:Nat} {N N':List Nod} {c:Cel} (h:LdOk last d N c) (hp:N <+: N'):LdOk last d N' c:=fun hl=>by
 obtain ⟨h1,h2,h3⟩:=h hl
 obtain ⟨t,rfl⟩:=hp
 refine ⟨h1,by rw [List.length_append];omega,?_⟩
 rw [List.getD_eq_getElem?_getD,List.getElem?_append_left (by omega),← List.getD_eq_getElem?_getD]
 exact h3
section
variable {x:Shp} {L:List (List (List Int))} {facts:List Fct} {most:Int}
def CelL (x:Shp) (facts:List Fct) (D:Nat) (most:Int) (last:Bool) (d:Nat) (g:BSt→Int→List Nat→BSt×Cel) (h:DSt→Int→List Nat→DSt×Cel):Prop :=
 ∀ s c k p,PartOk facts p→Rel facts D most s c→Rel facts D most (g s k p).1 (h c k p).1∧Mono ((d:Int)+1) c (h c k p).1 ∧
  ((g s k p).1.e=0→s.e=0∧(g s k p).2=(h c k p).2∧(h c k p).2.key=k∧cellOk x d (h c k p).2=true∧LdOk last d (h c k p).1.N (h c k p).2)
theorem cells_law {D d:Nat} {last:Bool} {g:BSt→Int→List Nat→BSt×Cel} {h:DSt→Int→List Nat→DSt×Cel} (hg:CelL x facts D most last d g h):∀ (l:List (Int×List Nat)) (s:BSt) (c:DSt),(∀ q ∈ l,PartOk facts q.2)→Rel facts D most s c→Rel facts D most (cellsU g s l).1 (cellsD h c l).1∧Mono ((d:Int)+1) c (cellsD h c l).1 ∧
  ((cellsU g s l).1.e=0→s.e=0∧(cellsU g s l).2=(cellsD h c l).2∧(cellsD h c l).2.map Cel.key=l.map (·.1)∧∀ z ∈ (cellsD h c l).2,cellOk x d z=true∧LdOk last d (cellsD h c l).1.N z)
 | [],s,c,_,hr=>⟨hr,Mono.refl _ _,fun h=>⟨h,rfl,rfl,fun z hz=>by cases hz⟩⟩
 | p :: ps,s,c,hp,hr=>by
  obtain ⟨h1,h2,h3⟩:=hg s c p.1 p.2 (hp p List.mem_cons_self) hr
  obtain ⟨k1,k2,k3⟩:=cells_law hg ps _ _ (fun q hq=>hp q (List.mem_cons_of_mem _ hq)) h1
  refine ⟨k1,h2.trans k2,fun h0=>?_⟩
  obtain ⟨m1,m2,m3,m4⟩:=k3 h0
  obtain ⟨n1,n2,n3,n4,n5⟩:=h3 m1
  refine ⟨n1,?_,?_,?_⟩
  ·show _ :: _=_ :: _
   rw [n2,m2]
  ·show _ :: _=_ :: _
   rw [n3,m3]
  ·intro z hz
   rcases List.mem_cons.1 (show z ∈ (h c p.1 p.2).2 :: (cellsD h (h c p.1 p.2).1 ps).2 from hz) with rfl|hz
   ·exact ⟨n4,n5.pre k2.pre⟩
   ·exact m4 z hz
theorem tiers_law {D d:Nat} {last:Bool} {g:BSt→Int→List Nat→BSt×Cel} {h:DSt→Int→List Nat→DSt×Cel} (hg:CelL x facts D most last d g h):∀ (l:List (List (Int×List Nat))) (s:BSt) (c:DSt),(∀ t ∈ l,∀ q ∈ t,PartOk facts q.2)→Rel facts D most s c→Rel facts D most (tiersB g s l).1 (tiersD h c l).1∧Mono ((d:Int)+1) c (tiersD h c l).1 ∧
  ((tiersB g s l).1.e=0→s.e=0∧(tiersB g s l).2=(tiersD h c l).2∧(tiersD h c l).2.map (List.map Cel.key)=l.map (List.map (·.1))∧∀ t ∈ (tiersD h c l).2,∀ z ∈ t,cellOk x d z=true∧LdOk last d (tiersD h c l).1.N z)
 | [],s,c,_,hr=>⟨hr,Mono.refl _ _,fun h=>⟨h,rfl,rfl,fun z hz=>by cases hz⟩⟩
 | p :: ps,s,c,hp,hr=>by
  obtain ⟨h1,h2,h3⟩:=cells_law hg p s c (hp p List.mem_cons_self) hr
  obtain ⟨k1,k2,k3⟩:=tiers_law hg ps _ _ (fun q hq=>hp q (List.mem_cons_of_mem _ hq)) h1
  refine ⟨k1,h2.trans k2,fun h0=>?_⟩
  obtain ⟨m1,m2,m3,m4⟩:=k3 h0
  obtain ⟨n1,n2,n3,n4⟩:=h3 m1
  refine ⟨n1,?_,?_,?_⟩
  ·show _ :: _=_ :: _
   rw [n2,m2]
  ·show _ :: _=_ :: _
   rw [n3,m3]
  ·intro t ht z hz
   rcases List.mem_cons.1 (show t ∈ (cellsD h c p).2 :: (tiersD h (cellsD h c p).1 ps).2 from ht) with rfl|ht
   ·exact ⟨(n4 z hz).1,(n4 z hz).2.pre k2.pre⟩
   ·exact m4 t ht z hz
theorem joinK_prt {i:Int} {m n1 n2 s1 s2 l1 l2 h1 h2:Int} (q1:1≤n1) (q2:1≤n2) (a:prtMay i m n1 s1 l1 h1=true) (b:prtMay i m n2 s2 l2 h2=true):prtMay i m (n1+n2) (s1+s2) (if l2<l1 then l2 else l1) (if h2 > h1 then h2 else h1)=true:=by
 unfold prtMay at *
 by_cases c:m≤i
 ·rw [if_pos c] at *
  simp only [decide_eq_true_eq] at *
  obtain ⟨rfl,rfl,rfl⟩:=a
  obtain ⟨rfl,rfl,rfl⟩:=b
  simp
 ·rw [if_neg c] at *
  simp only [Bool.and_eq_true,decide_eq_true_eq] at *
  have hn:decide (n1+n2=1)=false:=decide_eq_false (by omega)
  rw [hn]
  refine ⟨?_,rfl⟩
  have h3:=a.1
  have h4:=b.1
  split<;>split<;>omega
theorem joinA_may {m:Int} {a b c:Ag} (ha:aggMay m a=true) (hb:aggMay m b=true) (h:joinA a b=some c):aggMay m c=true:=by
 unfold aggMay at ha hb
 simp only [Bool.and_eq_true,decide_eq_true_eq] at ha hb
 obtain ⟨⟨⟨⟨⟨a1,a2⟩,a3⟩,a4⟩,a5⟩,a6⟩:=ha
 obtain ⟨⟨⟨⟨⟨b1,b2⟩,b3⟩,b4⟩,b5⟩,b6⟩:=hb
 unfold joinA at h
 rw [if_neg (by omega),if_neg (by omega)] at h
 split at h
 ·cases h
 split at h
 ·cases h
 split at h
 ·cases h
 split at h
 ·cases h
 obtain rfl:=Option.some.inj h
 have k0:=joinK_prt a3 b3 a4 b4
 have k1:=joinK_prt a3 b3 a5 b5
 have k2:=joinK_prt a3 b3 a6 b6
 unfold aggMay joinK
 simp only [show (0:Nat)<3 from by decide,show (1:Nat)<3 from by decide,show (2:Nat)<3 from by decide,if_true,Bool.and_eq_true,decide_eq_true_eq]
 exact ⟨⟨⟨⟨⟨a1,a2⟩,by omega⟩,k0⟩,k1⟩,k2⟩
theorem sumP_may {m:Int} (hf:∀ f ∈ facts,aggMay m f.2=true):∀ (part:List Nat) (a b:Ag),(∀ i ∈ part,i<facts.length)→(aggMay m a=true∨(a=ag0∧part≠[]))→sumP facts a part=some b→aggMay m b=true
 | [],a,b,_,ha,h=>by
  injection h with h
  subst h
  rcases ha with ha|⟨_,ha⟩
  ·exact ha
  ·exact absurd rfl ha
 | i :: r,a,b,hp,ha,h=>by
  have hi:=hp i List.mem_cons_self
  have hg:facts.getD i ([],ag0)=facts[i]:=by rw [List.getD_eq_getElem?_getD,List.getElem?_eq_getElem hi];rfl
  have hm:=hf _ (List.getElem_mem hi)
  unfold sumP at h
  rw [hg] at h
  split at h
  ·cases h
  ·rename_i c hc
   refine sumP_may hf r c b (fun j hj=>hp j (List.mem_cons_of_mem _ hj)) (.inl ?_) h
   rcases ha with ha|⟨rfl,_⟩
   ·exact joinA_may ha hm hc
   ·have:joinA ag0 facts[i].2=some facts[i].2:=by unfold joinA;exact if_pos (show ag0.n=0 from rfl)
    rw [this] at hc
    injection hc with hc
    exact hc ▸ hm
theorem listErr_zero {dim size:Int}:∀ {l:List Cel} {p:Option Int},(l.map Cel.key).Pairwise (·<·)→(∀ q,p=some q→∀ c ∈ l,q<c.key)→(∀ c ∈ l,0≤c.key∧c.key<size)→(∀ c ∈ l,cellOk x dim c=true)→listErr x dim size p l=0
 | [],_,_,_,_,_=>rfl
 | c :: r,p,h1,h2,h3,h4=>by
  obtain ⟨k1,k2⟩:=List.pairwise_cons.1 h1
  have hc:=h3 c List.mem_cons_self
  rw [listErr,if_neg (by omega),if_neg ?_,if_neg (by rw [h4 c List.mem_cons_self];decide)]
  ·exact listErr_zero k2 (fun q hq d hd=>by injection hq with hq;subst hq;exact k1 _ (List.mem_map_of_mem hd)) (fun d hd=>h3 d (List.mem_cons_of_mem _ hd)) fun d hd=>h4 d (List.mem_cons_of_mem _ hd)
  ·cases p with
   | none=>simp [overK]
   | some q=>have:=h2 q rfl c List.mem_cons_self;simp [overK];omega
theorem listsErr_zero {dim:Int}:∀ {ls:List (List Cel)} {ss:List Int} {p:Option Nat},(∀ i (h:i<ls.length) (h':i<ss.length),listErr0 x dim ss[i] ls[i]=0)→(∀ i (h:i+1<ls.length),ls[i+1].length≤ls[i].length)→(∀ q,p=some q→∀ h:0<ls.length,ls[0].length≤q)→listsErr x dim p ss ls=0
 | [],ss,p,_,_,_=>listsErr_end x dim p ss
 | l :: r,[],p,_,_,_=>by cases p<;>rfl
 | l :: r,s :: ss,p,h1,h2,h3=>by
  have h0:listErr0 x dim s l=0:=h1 0 (by simp) (by simp)
  rw [listsErr,if_neg (by rw [h0];decide),if_neg ?_]
  ·refine listsErr_zero (fun i h h'=>?_) (fun i h=>?_) fun q hq h=>?_
   ·exact h1 (i+1) (by simpa using h) (by simpa using h')
   ·exact h2 (i+1) (by simpa using h)
   ·injection hq with hq
    subst hq
    exact h2 0 (by simpa using h)
  ·cases p with
   | none=>simp [overN]
   | some q=>have:=h3 q rfl (by simp);simp [overN] at *;omega
theorem len_le_of_sub:∀ {l m:List Int},l.Nodup→(∀ a ∈ l,a ∈ m)→l.length≤m.length
 | [],_,_,_=>Nat.zero_le _
 | a :: l,m,h1,h2=>by
  obtain ⟨k1,k2⟩:=List.nodup_cons.1 h1
  have hm:=h2 a List.mem_cons_self
  have:=len_le_of_sub (m:=m.erase a) k2 fun b hb=>(List.mem_erase_of_ne fun (e:b=a)=>k1 (by rw [← e];exact hb)).2 (h2 b (List.mem_cons_of_mem _ hb))
  rw [List.length_erase_of_mem hm] at this
  have:0<m.length:=List.length_pos_of_mem hm
  simp only [List.length_cons]
  omega
def UpOk (L:List (List (List Int))) (facts:List Fct):Prop:=∀ d t i j,d<L.length→t+1<(L.getD d []).length→i<facts.length→j<facts.length→keyB L facts d t i=keyB L facts d t j→keyB L facts d (t+1) i=keyB L facts d (t+1) j
theorem grs_key {key:Nat→Int} {n:Nat} {part:List Nat} {k:Int} (h:k ∈ (grs key n part).map (·.1)):(0≤k∧k<n)∧∃ i ∈ part,key i=k:=by
 obtain ⟨g,hg,rfl⟩:=List.mem_map.1 h
 have h2:=grs_part hg
 unfold grs at hg
 obtain ⟨m,hm,h⟩:=List.mem_filterMap.1 hg
 have hm:m<n:=by simpa using hm
 split at h
 ·cases h
 ·injection h with h
  subst h
  obtain ⟨i,hi⟩:=List.exists_mem_of_ne_nil _ h2.1
  obtain ⟨i1,i2⟩:=List.mem_filter.1 hi
  exact ⟨⟨by simp,by simp;omega⟩,i,i1,by simpa using i2⟩
theorem grs_keyof {key:Nat→Int} {n:Nat} {part:List Nat} {i:Nat} (hi:i ∈ part) (h:0≤key i∧key i<n):key i ∈ (grs key n part).map (·.1):=by
 refine List.mem_map.2 ⟨(key i,part.filter fun j=>decide (key j=key i)),?_,rfl⟩
 unfold grs
 refine List.mem_filterMap.2 ⟨(key i).toNat,by simp;omega,?_⟩
 have e:((key i).toNat:Int)=key i:=by omega
 simp only [e]
 rw [if_neg]
 exact List.ne_nil_of_mem (List.mem_filter.2 ⟨hi,by simp⟩)
theorem rise_nodup {l:List Int} (h:l.Pairwise (·<·)):l.Nodup:=h.imp fun h=>by omega
theorem grs_less {part:List Nat} (hF:FactsOk x L facts) (hU:UpOk L facts) (hp:PartOk facts part) {d t:Nat} (hd:d<L.length) (ht:t+1<L[d].length):(grs (keyB L facts d (t+1)) (tierN x d (t+1)) part).length≤(grs (keyB L facts d t) (tierN x d t) part).length:=by
 have h1:=(hF.keyOk hp hd (t:=t) (by omega)).2
 have h2:=(hF.keyOk hp hd (t:=t+1) ht).2
 -- each key of the tier above is that of a member below
 have hn:((grs (keyB L facts d (t+1)) (tierN x d (t+1)) part).map (·.1)).Nodup:=rise_nodup (List.pairwise_map.2 (grs_rise _ _ _))
 have key:∀ k:Int,∃ u:Int,∀ i ∈ part,keyB L facts d t i=k→keyB L facts d (t+1) i=u:=fun k=>by
  by_cases c:∃ i ∈ part,keyB L facts d t i=k
  ·obtain ⟨i,hi,he⟩:=c
   exact ⟨keyB L facts d (t+1) i,fun j hj hk=>hU d t j i hd (by simpa [List.getElem?_eq_getElem hd] using ht) (hp.2.2 j hj) (hp.2.2 i hi) (hk.trans he.symm)⟩
  ·exact ⟨0,fun i hi hk=>absurd ⟨i,hi,hk⟩ c⟩
 obtain ⟨u,hu⟩:=Classical.axiomOfChoice key
 have:=len_le_of_sub (m:=((grs (keyB L facts d t) (tierN x d t) part).map (·.1)).map u) hn fun a ha=>by
  obtain ⟨_,i,hi,he⟩:=grs_key ha
  refine List.mem_map.2 ⟨keyB L facts d t i,grs_keyof hi (h1 i hi),?_⟩
  rw [← he]
  exact (hu _ i hi rfl).symm
 simpa using this
def NodL (facts:List Fct) (D:Nat) (most:Int) (d:Nat) (f:BSt→List Nat→BSt×Int) (h:DSt→List Nat→DSt×Int):Prop :=
 ∀ s c p,PartOk facts p→Rel facts D most s c→Rel facts D most (f s p).1 (h c p).1∧Mono d c (h c p).1 ∧
  ((f s p).1.e=0→s.e=0∧(f s p).2=(h c p).2∧0≤(h c p).2∧(h c p).2<(h c p).1.N.length∧((h c p).1.N.getD (h c p).2.toNat ⟨0,[],cel0⟩).dim=(d:Int))
theorem cell_law {D d:Nat} {last:Bool} {f:BSt→List Nat→BSt×Int} {h:DSt→List Nat→DSt×Int} (hm:∀ f ∈ facts,aggMay x.measures f.2=true) (hl:last=lastB x d) (hf:last=false→NodL facts D most (d+1) f h):CelL x facts D most last d (cellB facts f last) (cellD facts h last):=by
 intro s c k p hp hr
 cases last with
 | true =>
  have e1:cellB facts f true s k p=(sumE s (sumP facts ag0 p),⟨k,0,(sumP facts ag0 p).getD ag0⟩):=rfl
  have e2:cellD facts h true c k p=(⟨c.N,c.P,c.over || (sumP facts ag0 p).isNone⟩,⟨k,0,(sumP facts ag0 p).getD ag0⟩):=rfl
  rw [e1,e2]
  have hM:Mono ((d:Int)+1) c ⟨c.N,c.P,c.over || (sumP facts ag0 p).isNone⟩:=⟨[],[],by simp,by simp,rfl,by simp,fun h=>by simp [h]⟩
  cases hs:sumP facts ag0 p with
  | none =>
   rw [hs] at hM
   refine ⟨⟨hr.len,fun h=>absurd (show (12:Int)=0 from h) (by decide),fun _=>.inl ⟨rfl,by simp⟩⟩,hM,fun h=>absurd (show (12:Int)=0 from h) (by decide)⟩
  | some a =>
   rw [hs] at hM
   have ho:(c.over || (some a:Option Ag).isNone)=c.over:=by simp
   rw [ho] at hM ⊢
   refine ⟨hr,hM,fun h=>⟨h,rfl,rfl,?_,fun h=>by cases h⟩⟩
   unfold cellOk
   rw [if_pos hl.symm]
   have:=sumP_may hm p ag0 a hp.2.2 (.inr ⟨rfl,hp.1⟩) hs
   simp [this]
 | false =>
  have e1:cellB facts f false s k p=((f s p).1,⟨k,(f s p).2,ag0⟩):=rfl
  have e2:cellD facts h false c k p=((h c p).1,⟨k,(h c p).2,ag0⟩):=rfl
  rw [e1,e2]
  obtain ⟨h1,h2,h3⟩:=hf rfl s c p hp hr
  refine ⟨h1,by simpa using h2,fun h=>?_⟩
  obtain ⟨k1,k2,k3,k4,k5⟩:=h3 h
  refine ⟨k1,?_,rfl,?_,fun _=>⟨k3,k4,?_⟩⟩
  ·show (⟨_,_,_⟩:Cel)=⟨_,_,_⟩
   rw [k2]
  ·unfold cellOk
   rw [if_neg (by rw [← hl];decide)]
   simp [k3]
  ·rw [k5];simp
theorem node_check {d:Nat} {part:List Nat} {ls:List (List Cel)} {a:Cel} {N:List Nod} (hF:FactsOk x L facts) (hU:UpOk L facts) (hp:PartOk facts part) (hd:d<L.length) (hk:ls.map (List.map Cel.key)=(groupsB x L facts d part).map (List.map (·.1))) (hc:∀ t ∈ ls,∀ z ∈ t,cellOk x d z=true∧LdOk (lastB x d) d N z) (ha:a.key=0∧cellOk x d a=true∧LdOk (lastB x d) d N a) :
  checkErr x ⟨(d:Int),ls,a⟩=0∧leadsB x N ⟨(d:Int),ls,a⟩=true:=by
 have hGl:(groupsB x L facts d part).length=L[d].length:=by unfold groupsB;simp [List.getElem?_eq_getElem hd]
 have hGg:∀ k (h:k<(groupsB x L facts d part).length),(groupsB x L facts d part)[k]=grs (keyB L facts d k) (tierN x d k) part:=fun k h=>by simp [groupsB]
 obtain ⟨t1,t2,t3⟩:=hF.tier d hd
 have hll:ls.length=L[d].length:=by have:=congrArg List.length hk;simp only [List.length_map] at this;omega
 have hlk:∀ i (h:i<ls.length),ls[i].map Cel.key=(grs (keyB L facts d i) (tierN x d i) part).map (·.1):=fun i h=>by
  have e:(ls.map (List.map Cel.key))[i]'(by simpa using h)=((groupsB x L facts d part).map (List.map (·.1)))[i]'(by simp;omega):=by congr 1
  rw [List.getElem_map,List.getElem_map,hGg i (by omega)] at e
  exact e
 have hln:∀ i (h:i<ls.length),ls[i].length=(grs (keyB L facts d i) (tierN x d i) part).length:=fun i h=>by
  have:=congrArg List.length (hlk i h)
  simpa using this
 have hsz:∀ i (h:i<(x.sizes.getD d []).length),(x.sizes.getD d [])[i]=(tierN x d i:Int)∨(x.sizes.getD d [])[i]<0:=fun i h=>by
  unfold tierN
  rw [List.getD_eq_getElem?_getD (l:=x.sizes.getD d []),List.getElem?_eq_getElem h]
  simp only [Option.getD_some]
  omega
 constructor
 ·unfold checkErr
  rw [if_neg (by simp only;have:=hF.len;omega)]
  simp only [Int.toNat_natCast]
  rw [if_neg (by omega)]
  have hz:listsErr x (d:Int) none (x.sizes.getD d []) ls=0:=by
   refine listsErr_zero (fun i h h'=>?_) (fun i h=>?_) (fun q hq=>by cases hq)
   ·obtain ⟨i0,hi0⟩:=List.exists_mem_of_ne_nil _ hp.1
    have hr:=(hF.keyOk hp hd (t:=i) (by omega)).2
    have hk0:=grs_keyof hi0 (hr i0 hi0)
    have hpos:=List.length_pos_of_mem hk0
    rw [List.length_map] at hpos
    unfold listErr0
    rw [if_neg (by rw [hln i h];omega)]
    refine listErr_zero ?_ (fun q hq=>by cases hq) (fun c hc'=>?_) fun c hc'=>(hc _ (List.getElem_mem h) c hc').1
    ·rw [hlk i h];exact List.pairwise_map.2 (grs_rise _ _ _)
    ·have hm:c.key ∈ (grs (keyB L facts d i) (tierN x d i) part).map (·.1):=by rw [← hlk i h];exact List.mem_map_of_mem hc'
     have hb:=(grs_key hm).1
     have hb0:=(hr i0 hi0)
     rcases hsz i h' with e|e
     ·rw [e];exact hb
     ·exfalso
      unfold tierN at hb0
      rw [List.getD_eq_getElem?_getD (l:=x.sizes.getD d []),List.getElem?_eq_getElem h'] at hb0
      simp only [Option.getD_some] at hb0
      omega
   ·rw [hln i (by omega),hln (i+1) h]
    exact grs_less hF hU hp hd (by omega)
  rw [hz,if_neg (by decide),if_neg]
  rintro (h|h)
  ·exact h ha.1
  ·rw [ha.2.1] at h;cases h
 ·unfold leadsB
  cases hl:lastB x d with
  | true=>rfl
  | false =>
   rw [hl] at hc ha
   rw [Bool.false_or,List.all_eq_true]
   intro c hcm
   have hco:LdOk false d N c:=by
    unfold each at hcm
    rcases List.mem_append.1 hcm with hcm|hcm
    ·obtain ⟨t,ht,hct⟩:=List.mem_flatten.1 hcm
     exact (hc t ht c hct).2
    ·rw [List.mem_singleton.1 hcm];exact ha.2.2
   obtain ⟨c1,c2,c3⟩:=hco rfl
   rw [c3]
   simp [c2]
theorem nmP_inj' {d e:Nat} {p q:List Nat} (hd:d<256) (he:e<256) (hp:∀ i ∈ p,i<65536) (hq:∀ i ∈ q,i<65536) (h:nmP d p=nmP e q):d=e∧p=q:=by
 have b2i:∀ {i j:Nat},i<65536→j<65536→b2 i=b2 j→i=j:=fun {i j} hi hj h=>by
  unfold b2 at h
  injection h with h1 h2
  injection h2 with h2 _
  have e1:=congrArg UInt8.toNat h1
  have e2:=congrArg UInt8.toNat h2
  simp only [UInt8.toNat_ofNat'] at e1 e2
  omega
 have fli:∀ {p q:List Nat},(∀ i ∈ p,i<65536)→(∀ i ∈ q,i<65536)→p.flatMap b2=q.flatMap b2→p=q:=by
  intro p
  induction p with
  | nil =>
   intro q _ _ h
   cases q with
   | nil=>rfl
   | cons a q=>simp [b2] at h
  | cons a p ih =>
   intro q hp hq h
   cases q with
   | nil=>simp [b2] at h
   | cons b q =>
    rw [List.flatMap_cons,List.flatMap_cons] at h
    obtain ⟨h1,h2⟩:=List.append_inj h rfl
    rw [b2i (hp a List.mem_cons_self) (hq b List.mem_cons_self) h1,ih (fun i hi=>hp i (List.mem_cons_of_mem _ hi)) (fun i hi=>hq i (List.mem_cons_of_mem _ hi)) h2]
 unfold nmP at h
 injection h with h1 h2
 have e1:=congrArg UInt8.toNat h1
 simp only [UInt8.toNat_ofNat'] at e1
 exact ⟨by omega,fli hp hq h2⟩
theorem node_law {d:Nat} {f:BSt→List Nat→BSt×Int} {h:DSt→List Nat→DSt×Int} (hF:FactsOk x L facts) (hU:UpOk L facts) (hm:∀ f ∈ facts,aggMay x.measures f.2=true) (hd:d<L.length) (hf:d+1≠L.length→NodL facts L.length most (d+1) f h) :
  NodL facts L.length most d (nodeF x L facts most f d) (visF x L facts h d):=by
 intro s c p hp hr
 have hlb:decide (d+1=L.length)=lastB x d:=by
  unfold lastB
  rw [Bool.eq_iff_iff]
  simp only [beq_iff_eq,decide_eq_true_eq]
  have:=hF.len
  omega
 have hcel:=cell_law (f:=f) (h:=h) (D:=L.length) (most:=most) (d:=d) (last:=decide (d+1=L.length)) hm hlb (fun hl=>hf (of_decide_eq_false hl))
 have hgp:∀ t ∈ groupsB x L facts d p,∀ q ∈ t,PartOk facts q.2:=fun t ht q hq=>by
  unfold groupsB at ht
  obtain ⟨k,_,rfl⟩:=List.mem_map.1 ht
  exact hp.grs hq
 obtain ⟨t1,t2,t3⟩:=tiers_law hcel (groupsB x L facts d p) s c hgp hr
 obtain ⟨a1,a2,a3⟩:=hcel (tiersB (cellB facts f (decide (d+1=L.length))) s (groupsB x L facts d p)).1 (tiersD (cellD facts h (decide (d+1=L.length))) c (groupsB x L facts d p)).1 0 p hp t1
 have hck:=fun N=>node_check (N:=N) (ls:=(tiersD (cellD facts h (decide (d+1=L.length))) c (groupsB x L facts d p)).2) (a:=(cellD facts h (decide (d+1=L.length)) (tiersD (cellD facts h (decide (d+1=L.length))) c (groupsB x L facts d p)).1 0 p).2) hF hU hp hd
 rw [← hlb] at hck
 unfold nodeF visF
 have hdl:=hF.dims
 have hfew:=hF.few
 generalize (tiersB (cellB facts f (decide (d+1=L.length))) s (groupsB x L facts d p))=T at *
 generalize (tiersD (cellD facts h (decide (d+1=L.length))) c (groupsB x L facts d p))=U at *
 generalize (cellB facts f (decide (d+1=L.length)) T.1 0 p)=A at *
 generalize (cellD facts h (decide (d+1=L.length)) U.1 0 p)=B at *
 -- the document's node,once it is made
 have hmk:Mono d c (visT d p B U.2).1:=by
  have hM:Mono d c B.1:=(t2.trans a2).weak (by omega)
  exact hM.trans ⟨[⟨d,U.2,B.2⟩],[p],rfl,rfl,rfl,by simp,id⟩
 by_cases he:s.e=0
 ·obtain ⟨r1,r2,_,r3⟩:=hr.ok he
  have hg:=r3 d p hd hp
  cases hfn:fndD d p c.N c.P with
  | some i =>
   rw [hfn,Option.map_some] at hg
   rw [hg]
   obtain ⟨i1,i2,i3⟩:=fnd_hit hfn
   exact ⟨hr,Mono.refl _ _,fun _=>⟨he,rfl,Int.natCast_nonneg i,Int.ofNat_lt.2 i1,i2⟩⟩
  | none =>
   rw [hfn,Option.map_none] at hg
   rw [hg]
   simp only
   rw [if_neg (by simp [he])]
   unfold nodeT
   by_cases ha:A.1.e=0
   ·rw [if_neg (by simp [ha])]
    obtain ⟨b1,b2,b3,b4,b5⟩:=a3 ha
    obtain ⟨u1,u2,u3,u4⟩:=t3 b1
    obtain ⟨c1,c2,_,c3⟩:=a1.ok ha
    obtain ⟨v1,v2⟩:=hck B.1.N u3 (fun t ht z hz=>⟨(u4 t ht z hz).1,(u4 t ht z hz).2.pre a2.pre⟩) ⟨b3,b4,b5⟩
    rw [c1,u2,b2]
    by_cases hfull:most≤B.1.N.length
    ·have ea:addErr x most B.1.N ⟨d,U.2,B.2⟩=7:=by
      unfold addErr
      rw [if_neg (by rw [v1];decide),if_neg (by rw [v2];decide),if_pos hfull]
     rw [ea,if_pos (by decide)]
     refine ⟨⟨hmk.len hr.len,fun h=>absurd (show (7:Int)=0 from h) (by decide),fun _=>.inr ⟨rfl,?_⟩⟩,hmk,fun h=>absurd (show (7:Int)=0 from h) (by decide)⟩
     show most<((B.1.N++[(⟨d,U.2,B.2⟩:Nod)]).length:Int)
     rw [List.length_append,List.length_singleton]
     omega
    ·have ea:addErr x most B.1.N ⟨d,U.2,B.2⟩=0:=by
      unfold addErr
      rw [if_neg (by rw [v1];decide),if_neg (by rw [v2];decide),if_neg hfull]
     rw [ea,if_neg (by decide)]
     have hfB:fndD d p B.1.N B.1.P=none:=by rw [(t2.trans a2).fnd hr.len (by omega) p];exact hfn
     refine ⟨⟨hmk.len hr.len,fun _=>⟨rfl,c2,?_,fun d' p' hd' hp'=>?_⟩,fun h=>absurd rfl h⟩,hmk,fun _=>⟨he,rfl,?_,?_,?_⟩⟩
     ·show ((B.1.N++[(⟨d,U.2,B.2⟩:Nod)]).length:Int)≤most
      rw [List.length_append,List.length_singleton]
      omega
     ·show aGet (nmP d' p') (aSet (nmP d p) (B.1.N.length:Int) A.1.M)=Option.map _ (fndD d' p' (B.1.N++[(⟨d,U.2,B.2⟩:Nod)]) (B.1.P++[p]))
      rw [aGet_set,fnd_app a1.len,fnd_one]
      by_cases hc:d'=d∧p'=p
      ·obtain ⟨rfl,rfl⟩:=hc
       rw [if_pos rfl,hfB,if_pos ⟨rfl,rfl⟩]
       simp
      ·rw [if_neg hc,if_neg]
       ·rw [c3 d' p' hd' hp']
        cases fndD d' p' B.1.N B.1.P<;>rfl
       ·intro hn
        exact hc (nmP_inj' (by omega) (by omega) (fun i hi=>by have:=hp'.2.2 i hi;omega) (fun i hi=>by have:=hp.2.2 i hi;omega) hn)
     ·show (0:Int)≤(B.1.N.length:Int);omega
     ·show (B.1.N.length:Int)<((B.1.N++[(⟨d,U.2,B.2⟩:Nod)]).length:Int)
      rw [List.length_append,List.length_singleton]
      omega
     ·show ((B.1.N++[(⟨d,U.2,B.2⟩:Nod)]).getD (B.1.N.length:Int).toNat ⟨0,[],cel0⟩).dim=(d:Int)
      simp
   ·rw [if_pos ha]
    refine ⟨?_,hmk,fun h=>absurd h ha⟩
    exact a1.mono (e:=d) ha ⟨[⟨d,U.2,B.2⟩],[p],rfl,rfl,rfl,by simp,id⟩ (.inl rfl)
 ·have key:∀ (r:BSt×Int) (q:DSt×Int),r.1=s→Mono d c q.1→Rel facts L.length most r.1 q.1∧Mono d c q.1∧(r.1.e=0→s.e=0∧r.2=q.2∧0≤q.2∧q.2<q.1.N.length∧(q.1.N.getD q.2.toNat ⟨0,[],cel0⟩).dim=(d:Int)):=fun r q hr1 hq=>by
   rw [hr1]
   exact ⟨hr.mono he hq (.inl rfl),hq,fun h=>absurd h he⟩
  refine key _ _ ?_ ?_
  ·split
   ·rfl
   ·rw [if_pos he]
  ·unfold visM
   split
   ·exact Mono.refl _ _
   ·exact hmk
theorem nodes_law (hF:FactsOk x L facts) (hU:UpOk L facts) (hm:∀ f ∈ facts,aggMay x.measures f.2=true):∀ (n:Nat),n+1≤L.length→NodL facts L.length most (L.length - (n+1)) (nodeB x L facts most (n+1)) (visD x L facts (n+1))
 | 0,h=>node_law (d:=L.length - 1) (f:=nodeB x L facts most 0) (h:=visD x L facts 0) hF hU hm (by have:1≤L.length:=h;omega) (fun h2=>absurd (show L.length - 1+1=L.length by have:1≤L.length:=h;omega) h2)
 | n+1,h=>by
  refine node_law (d:=L.length - (n+1+1)) (f:=nodeB x L facts most (n+1)) (h:=visD x L facts (n+1)) hF hU hm (by omega) (fun _=>?_)
  have:=nodes_law hF hU hm n (by omega)
  rw [show L.length - (n+1+1)+1=L.length - (n+1) by omega]
  exact this
end
def docD (S:Sc) (facts:List Fct):DSt:=if facts=[] then ⟨[],[],false⟩ else (visD (shpS S) (liftsS S) facts (liftsS S).length ⟨[],[],false⟩ (List.range facts.length)).1
theorem build_law {S:Sc} {most:Int} {facts:List Fct} (hF:FactsOk (shpS S) (liftsS S) facts) (hU:UpOk (liftsS S) facts) (hm:∀ f ∈ facts,aggMay (shpS S).measures f.2=true) (hL:1≤(liftsS S).length) (hne:facts≠[]) (h0m:0≤most) :
  Rel facts (liftsS S).length most (bldN S most facts) (docD S facts):=by
 have hpo:PartOk facts (List.range facts.length):=⟨by simp;exact hne,by simp,fun i hi=>by simpa using hi⟩
 have h0:Rel facts (liftsS S).length most ⟨[],[],0⟩ ⟨[],[],false⟩:=⟨rfl,fun _=>⟨rfl,rfl,h0m,fun d part _ _=>rfl⟩,fun h=>absurd rfl h⟩
 have:=(nodes_law (most:=most) hF hU hm ((liftsS S).length - 1) (by omega) _ _ _ hpo h0).1
 rw [show (liftsS S).length - 1+1=(liftsS S).length by omega] at this
 unfold docD bldN
 rw [if_neg hne]
 exact this
theorem dim_tier {d:Dm} (h:dimE d=0) {k:Nat} (hk:k+1<d.tiers.length):d.tiers[k+1].terms.length≤d.tiers[k].terms.length∧treeB d.tiers[k].up d.tiers[k].terms.length (d.tiers[k+1].terms.length:Int)=true:=by
 obtain ⟨h1,h2,h3⟩:=dimE_zero h
 obtain ⟨t1,t2,t3⟩:=tierE_zero (h3 k (by omega))
 obtain ⟨u1,u2,u3⟩:=tierE_zero (h3 (k+1) hk)
 have e:aboveL (d.tiers.drop (k+1))=(d.tiers[k+1].terms.length:Int):=by rw [List.drop_eq_getElem_cons hk];rfl
 rw [e] at t3
 refine ⟨?_,t3⟩
 unfold treeB at t3
 rw [if_neg (by omega)] at t3
 split at t3
 ·cases t3
 ·rename_i h4
  rw [Bool.and_eq_true] at t3
  have h5:=t3.2
  have h6:=numM_len d.tiers[k].up
  have h7:((numM d.tiers[k].up).length:Int)=(d.tiers[k+1].terms.length:Int):=by simpa using h5
  have h8:(d.tiers[k].up.length:Int)=(d.tiers[k].terms.length:Int):=Classical.not_not.1 h4
  omega
theorem rowMay_of:∀ {ss:List Int} {p:Option Int},(∀ n ∈ ss,1≤n∧n≤200)→(∀ k (h:k+1<ss.length),ss[k+1]≤ss[k])→(∀ q,p=some q→∀ h:0<ss.length,ss[0]≤q)→rowMay p ss=true
 | [],_,_,_,_=>by simp [rowMay]
 | n :: r,p,h1,h2,h3=>by
  have h0:=h1 n List.mem_cons_self
  have hr:=rowMay_of (ss:=r) (p:=some n) (fun m hm=>h1 m (List.mem_cons_of_mem _ hm)) (fun k h=>h2 (k+1) (by simpa using h)) (fun q hq h=>by injection hq with hq;subst hq;exact h2 0 (by simpa using h))
  cases p with
  | none=>simp only [rowMay,hr];simp [h0]
  | some q=>have:=h3 q rfl (by simp);simp at this;simp only [rowMay,hr];simp [h0,this]
theorem shp_may {S:Sc} (h:scE S=0):shpMay (shpS S)=true:=by
 obtain ⟨h1,h2,h3,h4⟩:=scE_zero h
 have hm:1≤(S.meas.length:Int)∧(S.meas.length:Int)≤3:=by
  unfold measE at h4
  split at h4
  ·omega
  ·omega
 have hs:(shpS S).sizes.all sizesMay=true:=by
  rw [List.all_eq_true]
  intro s hs
  unfold shpS at hs
  obtain ⟨d,hd,rfl⟩:=List.mem_map.1 hs
  obtain ⟨d1,d2,d3⟩:=dimE_zero (h3 d hd)
  unfold sizesMay
  have hr:rowMay none (d.tiers.map szT)=true:=by
   refine rowMay_of (fun n hn=>?_) (fun k hk=>?_) (fun q hq=>by cases hq)
   ·obtain ⟨t,ht,rfl⟩:=List.mem_map.1 hn
    obtain ⟨k,hk,rfl⟩:=List.getElem_of_mem ht
    obtain ⟨t1,t2,_⟩:=tierE_zero (d3 k hk)
    unfold szT
    omega
   ·have:=(dim_tier (h3 d hd) (k:=k) (by simpa using hk)).1
    simp only [List.getElem_map,szT]
    omega
  rw [hr]
  simp [d1,d2]
 unfold shpMay
 rw [hs]
 unfold shpS
 simp only [List.length_map]
 simp [hm,h1,h2]
theorem ups_snoc:∀ {l:List Tr} {t:Tr} {i:Int},ups (l++[t]) i=if ups l i≥0 then overT t (ups l i) else ups l i
 | [],t,i=>by
  show ups [t] i=if i≥0 then overT t i else i
  rw [ups];rfl
 | a :: l,t,i=>by
  show (if i≥0 then ups (l++[t]) (overT a i) else i)=_
  by_cases c:i≥0
  ·have e:ups (a :: l) i=ups l (overT a i):=by rw [ups,if_pos c]
   rw [if_pos c,ups_snoc,e]
  ·have e:ups (a :: l) i=i:=by rw [ups,if_neg c]
   rw [if_neg c,e,if_neg c]
theorem lift_up {d:Dm} (h:dimE d=0) {t i j:Nat} (ht:t+1<d.tiers.length) (hi:i<n0 d) (hj:j<n0 d) (he:liftD d t i=liftD d t j):liftD d (t+1) i=liftD d (t+1) j:=by
 have h1:=liftD_in h (to:=t) (by omega) hi
 have h2:=liftD_in h (to:=t) (by omega) hj
 have b:∀ v:Int,0≤bot v→bot v=v:=fun v hv=>by unfold bot at *;split at hv<;>omega
 unfold liftD at *
 rw [b _ h1.1,b _ h2.1] at he
 rw [List.take_succ_eq_append_getElem (by omega),ups_snoc,ups_snoc,he]
theorem key_lift {S:Sc} {facts:List Fct} (hs:scE S=0) (hr:rowF (shpS S) none facts=0) {d t i:Nat} (hd:d<S.dims.length) (ht:t<S.dims[d].tiers.length) (hi:i<facts.length):∃ k:Nat,k<n0 S.dims[d]∧(facts.getD i ([],ag0)).1.getD d 0=(k:Int)∧d<(facts.getD i ([],ag0)).1.length∧keyB (liftsS S) facts d t i=liftD S.dims[d] t k:=by
 obtain ⟨k1,k2,k3⟩:=factE_zero (rowF_zero hr _ (List.getElem_mem hi))
 have hx:(shpS S).sizes.length=S.dims.length:=by unfold shpS;simp
 have hdf:d<facts[i].1.length:=by omega
 have hk:=keysF_zero k2 d hdf
 have hsz:(shpS S).sizes.getD d []=S.dims[d].tiers.map szT:=by unfold shpS;simp [hd]
 rw [hsz] at hk
 have hh:(S.dims[d].tiers.map szT).headD 0=(n0 S.dims[d]:Int):=by
  unfold n0
  generalize S.dims[d].tiers=l at *
  cases l with
  | nil=>simp at ht
  | cons a r=>rfl
 rw [hh] at hk
 have hg:facts.getD i ([],ag0)=facts[i]:=by rw [List.getD_eq_getElem?_getD,List.getElem?_eq_getElem hi];rfl
 rw [hg]
 have e1:facts[i].1.getD d 0=facts[i].1[d]:=by rw [List.getD_eq_getElem?_getD,List.getElem?_eq_getElem hdf];rfl
 refine ⟨facts[i].1[d].toNat,by omega,by rw [e1];omega,hdf,?_⟩
 unfold keyB
 rw [hg,e1]
 have hL:(liftsS S).getD d []=liftsD S.dims[d]:=by unfold liftsS;simp [hd]
 have hT:(liftsD S.dims[d]).getD t []=mapD S.dims[d] t:=by unfold liftsD;simp [ht]
 rw [hL,hT]
 unfold mapD
 rw [List.getD_eq_getElem?_getD,List.getElem?_eq_getElem (by simp;omega)]
 simp
theorem up_ok {S:Sc} {facts:List Fct} (hs:scE S=0) (hr:rowF (shpS S) none facts=0):UpOk (liftsS S) facts:=by
 intro d t i j hd ht hi hj he
 have hL:(liftsS S).length=S.dims.length:=by unfold liftsS;simp
 have hd':d<S.dims.length:=by omega
 have hLd:(liftsS S).getD d []=liftsD S.dims[d]:=by unfold liftsS;simp [hd']
 rw [hLd] at ht
 have ht':t+1<S.dims[d].tiers.length:=by unfold liftsD at ht;simpa using ht
 obtain ⟨k1,a1,_,_,b1⟩:=key_lift hs hr hd' (t:=t) (by omega) hi
 obtain ⟨k2,a2,_,_,b2⟩:=key_lift hs hr hd' (t:=t) (by omega) hj
 obtain ⟨k3,a3,c3,_,b3⟩:=key_lift hs hr hd' (t:=t+1) ht' hi
 obtain ⟨k4,a4,c4,_,b4⟩:=key_lift hs hr hd' (t:=t+1) ht' hj
 obtain ⟨k1',a1',c1,_,b1'⟩:=key_lift hs hr hd' (t:=t) (by omega) hi
 obtain ⟨k2',a2',c2,_,b2'⟩:=key_lift hs hr hd' (t:=t) (by omega) hj
 have e1:k1'=k3:=by omega
 have e2:k2'=k4:=by omega
 subst e1 e2
 rw [b3,b4]
 exact lift_up ((scE_zero hs).2.2.1 _ (List.getElem_mem hd')) ht' a1' a2' (by rw [← b1',← b2'];exact he)
theorem bld_whole {S:Sc} {most:Int} {facts:List Fct} (hs:scE S=0) (hr:rowF (shpS S) none facts=0) (ha:∀ f ∈ facts,AgIn f.2) (h0m:0≤most) (hfl:facts.length≤4000) (h:bldE S most facts=0):wholeB (shpS S) (bldL S most facts)=true:=by
 obtain ⟨hard,hled⟩:=bld_ard h ha
 by_cases h5:facts=[]
 ·have e:bldL S most facts=[]:=by unfold bldL;rw [if_pos h5]
  rw [e];rfl
 ·have e:bldL S most facts=(bldN S most facts).N:=by unfold bldL;rw [if_neg h5]
  have hF:=facts_ok hs hr hfl ha
  have hL1:1≤(liftsS S).length:=by have:=(shpMay_bounds hard.may).1;have:=hF.len;omega
  have hm:∀ f ∈ facts,aggMay (shpS S).measures f.2=true:=fun f hf=>(factE_zero (rowF_zero hr f hf)).2.2
  have h:(bldN S most facts).e=0:=by
   unfold bldE at h
   rw [if_neg (by simp [hs]),if_neg (by simp [hr]),if_neg (by omega)] at h
   split at h
   ·omega
   ·exact h
  have hpo:PartOk facts (List.range facts.length):=⟨by simp;exact h5,by simp,fun i hi=>by simpa using hi⟩
  have h0:Rel facts (liftsS S).length most ⟨[],[],0⟩ ⟨[],[],false⟩:=⟨rfl,fun _=>⟨rfl,rfl,h0m,fun d part _ _=>rfl⟩,fun h=>absurd rfl h⟩
  obtain ⟨q1,q2,q3⟩:=nodes_law (most:=most) hF (up_ok hs hr) hm ((liftsS S).length - 1) (by omega) _ _ _ hpo h0
  have hrl:=root_last (x:=shpS S) (L:=liftsS S) (facts:=facts) (most:=most) ((liftsS S).length - 1) ⟨[],[],0⟩ (List.range facts.length) rfl
  rw [show (liftsS S).length - 1+1=(liftsS S).length by omega] at q1 q3 hrl
  have hrl:=hrl h
  obtain ⟨_,e2,e3,e4,e5⟩:=q3 h
  obtain ⟨e6,_⟩:=q1.ok h
  have hN:(bldN S most facts).N=(visD (shpS S) (liftsS S) facts (liftsS S).length ⟨[],[],false⟩ (List.range facts.length)).1.N:=e6
  rw [← e6,← e2] at e5
  rw [← e6,← e2] at e4
  rw [← e2] at e3
  rw [e] at hard hled ⊢
  generalize hNN:(bldN S most facts).N=N at *
  have hNN':(nodeB (shpS S) (liftsS S) facts most (liftsS S).length ⟨[],[],0⟩ (List.range facts.length)).1.N=N:=hNN
  rw [hNN'] at hrl e4 e5
  generalize (nodeB (shpS S) (liftsS S) facts most (liftsS S).length ⟨[],[],0⟩ (List.range facts.length)).2=top at *
  have hpos:0<N.length:=by omega
  have hdim:(nodAt N ((N.length:Int) - 1)).dim=0:=by
   have ht:top.toNat=N.length - 1:=by omega
   rw [ht,List.getD_eq_getElem?_getD,List.getElem?_eq_getElem (by omega)] at e5
   unfold nodAt
   rw [if_pos (by omega),show ((N.length:Int) - 1).toNat=N.length - 1 by omega,List.getElem?_eq_getElem (by omega)]
   simpa using e5
  unfold wholeB
  rw [if_neg (by omega),hdim]
  simp only [beq_self_eq_true,Bool.true_and,Bool.not_eq_true']
  refine Bool.eq_false_iff.2 fun hc=>?_
  rw [List.contains_iff_mem] at hc
  obtain ⟨j,hj,hje⟩:=List.getElem_of_mem hc
  have hj':j<N.length - 1:=by rw [List.length_take,cnt_len] at hj;omega
  rw [List.getElem_take,cnt_get (by omega)] at hje
  have hcz:List.count (j:Int) (kids (shpS S) N)=0:=by omega
  rw [List.count_eq_zero] at hcz
  obtain ⟨k,hk,hkd,c,hcm,hcc⟩:=hled j (by omega)
  refine hcz ?_
  unfold kids
  refine List.mem_flatMap.2 ⟨N[k],List.getElem_mem hk,?_⟩
  have hlb:lastB (shpS S) N[k].dim=false:=by unfold lastB;rw [beq_eq_false_iff_ne];omega
  rw [if_neg (by rw [hlb];decide)]
  exact List.mem_map.2 ⟨c,hcm,hcc⟩
def wantB (S:Sc) (most:Int) (facts:List Fct):Int:=if scE S≠0 then scE S else if rowF (shpS S) none facts≠0 then rowF (shpS S) none facts else if most<0∨most > 131072 then 2 else 0
theorem want_law {S:Sc} {most:Int} {facts:List Fct} (hfl:facts.length≤4000) (h:wantB S most facts≠0):bldE S most facts=wantB S most facts:=by
 by_cases h1:scE S=0
 ·by_cases h2:rowF (shpS S) none facts=0
  ·have e1:wantB S most facts=if most<0∨most > 131072 then 2 else 0:=by unfold wantB;rw [if_neg (by simp [h1]),if_neg (by simp [h2])]
   have e2:¬((facts.length:Int) > 4000):=by omega
   by_cases h3:most<0∨most > 131072
   ·have e3:newE (shpS S) most=2:=by unfold newE;rw [if_neg (by omega)]
    rw [e1,if_pos h3]
    unfold bldE
    rw [if_neg (by simp [h1]),if_neg (by simp [h2]),if_neg e2,if_pos (by rw [e3];decide)]
   ·rw [e1,if_neg h3] at h
    exact absurd rfl h
  ·unfold wantB bldE
   rw [if_neg (by simp [h1]),if_pos h2]
   exact (if_neg (by simp [h1])).trans (if_pos h2) |>.symm
 ·have e1:wantB S most facts=scE S:=by unfold wantB;exact if_pos h1
  have e2:bldE S most facts=scE S:=by unfold bldE;exact if_pos h1
  rw [e1,e2]
theorem builds_law {S:Sc} {most:Int} {facts:List Fct} (hfl:facts.length≤4000) (ha:∀ f ∈ facts,AgIn f.2) (h:wantB S most facts=0) :
  ((docD S facts).over=true→bldE S most facts=12∨(bldE S most facts=7∧most<(docD S facts).N.length))∧((docD S facts).over=false→most<(docD S facts).N.length→bldE S most facts=7) ∧
  ((docD S facts).over=false→(docD S facts).N.length≤most→bldE S most facts=0∧bldL S most facts=(docD S facts).N∧wholeB (shpS S) (docD S facts).N=true):=by
 have hall:scE S=0∧rowF (shpS S) none facts=0∧0≤most∧most≤131072:=by
  unfold wantB at h
  split at h
  ·rename_i h1;exact absurd h h1
  rename_i h1
  split at h
  ·rename_i h2;exact absurd h h2
  rename_i h2
  split at h
  ·omega
  ·exact ⟨Classical.not_not.1 h1,Classical.not_not.1 h2,by omega,by omega⟩
 obtain ⟨hs,hr,h3,h4⟩:=hall
 have hn:newE (shpS S) most=0:=by unfold newE;rw [if_pos ⟨shp_may hs,h3,h4⟩]
 by_cases h5:facts=[]
 ·have e1:docD S facts=⟨[],[],false⟩:=by unfold docD;rw [if_pos h5]
  have e2:bldE S most facts=0:=by
   unfold bldE
   rw [if_neg (by simp [hs]),if_neg (by simp [hr]),if_neg (by omega),if_neg (by simp [hn]),if_pos h5]
  have e3:bldL S most facts=[]:=by unfold bldL;rw [if_pos h5]
  rw [e1,e2,e3]
  exact ⟨fun h=>(by cases h),fun _ h=>(by simp at h;omega),fun _ _=>⟨rfl,rfl,rfl⟩⟩
 ·have hF:=facts_ok hs hr hfl ha
  have hm:∀ f ∈ facts,aggMay (shpS S).measures f.2=true:=fun f hf=>(factE_zero (rowF_zero hr f hf)).2.2
  have hL1:1≤(liftsS S).length:=by have:=(shpMay_bounds (shp_may hs)).1;have:=hF.len;omega
  have hR:=build_law (most:=most) hF (up_ok hs hr) hm hL1 h5 h3
  have e2:bldE S most facts=(bldN S most facts).e:=by
   unfold bldE
   rw [if_neg (by simp [hs]),if_neg (by simp [hr]),if_neg (by omega),if_neg (by simp [hn]),if_neg h5]
  have e3:bldL S most facts=(bldN S most facts).N:=by unfold bldL;rw [if_neg h5]
  have hW:=fun h=>bld_whole (most:=most) hs hr ha h3 hfl h
  rw [e2] at hW ⊢
  rw [e3] at hW ⊢
  refine ⟨fun ho=>?_,fun ho hl=>?_,fun ho hl=>?_⟩
  ·by_cases he:(bldN S most facts).e=0
   ·have:=(hR.ok he).2.1
    rw [ho] at this;cases this
   ·rcases hR.bad he with ⟨k1,_⟩|k
    ·exact .inl k1
    ·exact .inr k
  ·by_cases he:(bldN S most facts).e=0
   ·have:=(hR.ok he).2.2.1
    omega
   ·rcases hR.bad he with ⟨_,k2⟩|k
    ·rw [ho] at k2;cases k2
    ·exact k.1
  ·by_cases he:(bldN S most facts).e=0
   ·have e:=(hR.ok he).1
    refine ⟨he,e,?_⟩
    rw [← e];exact hW he
   ·rcases hR.bad he with ⟨_,k2⟩|k
    ·rw [ho] at k2;cases k2
    ·omega
abbrev rPs (P:List (List Nat)):List (List AV):=P.map fun p=>[AV.sl .no (rP p)]
def eCubeD (t u:Tok) (c:DSt):List AV:=[.sl t (rN c.N),.sl u (rPs c.P),.b c.over]
theorem wkn_cubeD (t u:Tok) (c:DSt) (x:AV):Wkn (.tup [.agg (eCubeD t u c),x]) (.tup [.agg (eCubeD .no .no c),x]):=by
 refine .tup _ _ rfl fun i a b ha hb=>?_
 match i with
 | 0 =>
  simp only [List.getElem?_cons_zero,Option.some.injEq] at ha hb
  subst ha hb
  refine .agg _ _ rfl fun j a b ha hb=>?_
  unfold eCubeD at ha hb
  match j with
  | 0=>simp only [List.getElem?_cons_zero,Option.some.injEq] at ha hb;subst ha hb;exact wkn_sl _ _
  | 1=>simp only [List.getElem?_cons_zero,List.getElem?_cons_succ,Option.some.injEq] at ha hb;subst ha hb;exact wkn_sl _ _
  | 2=>simp only [List.getElem?_cons_zero,List.getElem?_cons_succ,Option.some.injEq] at ha hb;subst ha hb;exact .refl _
  | j+3=>simp at ha
 | 1=>simp only [List.getElem?_cons_zero,List.getElem?_cons_succ,Option.some.injEq] at ha hb;subst ha hb;exact .refl _
 | i+2=>simp at ha
def DOk (facts:List Fct) (c:DSt):Prop:=c.N.length=c.P.length∧∀ p ∈ c.P,p.length≤facts.length
abbrev limD:Nat:=1000000000000
def VisK (S:Sc) (facts:List Fct) (f:DSt→List Nat→DSt×Int) (d:Nat):Prop :=
 ∀ (t u v w:Tok) c part G,DOk facts c→PartOk facts part→(f c part).1.N.length≤limD→Sound Tryz.prog 58 [.agg (eSc S),.sl w (rF facts),.agg (eCubeD t u c),.i (d:Int),.sl v (rP part)] G (Pure G (.tup [.agg (eCubeD .no .no (f c part).1),.i (f c part).2]))
set_option maxHeartbeats 4000000 in
theorem r26cell_sound {S:Sc} {facts:List Fct} {f:DSt→List Nat→DSt×Int} {d:Nat} (t u v w:Tok) (c:DSt) (key:Int) (part:List Nat) (H:AHeap) (hd:d<S.dims.length) (hdl:S.dims.length≤1000) (hfl:facts.length≤4000) (ha:∀ f ∈ facts,AgIn f.2) (hc:DOk facts c) (hp:PartOk facts part) (hf:d+1≠S.dims.length→VisK S facts f (d+1)) (hl:(cellD facts f (decide (d+1=S.dims.length)) c key part).1.N.length≤limD) :
  Sound Tryz.prog 105 [.agg (eSc S),.sl w (rF facts),.agg (eCubeD t u c),.i (d:Int),.i key,.sl v (rP part)] H (Pure H (.tup [.agg (eCubeD .no .no (cellD facts f (decide (d+1=S.dims.length)) c key part).1),.agg (eCel (cellD facts f (decide (d+1=S.dims.length)) c key part).2)])):=by
 obtain ⟨f0,f1,f2,f3⟩:=eSc_facts S
 have e3:∀ t u c,(eCubeD t u c).length=3:=fun _ _ _=>rfl
 have e4:∀ t u c,(eCubeD t u c).take 3=eCubeD t u c:=fun _ _ _=>rfl
 have e5:∀ t u c,(eCubeD t u c)[2]?=some (.b c.over):=fun _ _ _=>rfl
 have e6:∀ t u c,(eCubeD t u c).drop 3=[]:=fun _ _ _=>rfl
 have c3:∀ c,(eCel c).length=12:=fun _=>rfl
 have c4:∀ c,(eCel c).take 12=eCel c:=fun _=>rfl
 have c5:∀ c,(eCel c).drop 12=[]:=fun _=>rfl
 have w1:IntKind.i64.wrap ((S.dims.length:Int) - 1)=((S.dims.length - 1:Nat):Int):=by rw [wrap_of (by omega) (by omega)];omega
 have hpl:=hp.2.1
 by_cases hlast:d+1=S.dims.length
 ·have w2:(d:Int)=((S.dims.length - 1:Nat):Int):=by omega
  have hR:cellD facts f (decide (d+1=S.dims.length)) c key part=(⟨c.N,c.P,c.over || (sumP facts ag0 part).isNone⟩,⟨key,0,(sumP facts ag0 part).getD ag0⟩):=by
   unfold cellD;rw [decide_eq_true hlast,if_pos rfl]
  rw [hR]
  have hS:=fun G=>rsum_sound w v facts part G hp.2.2 (by omega) ha
  have a10:∀ a,(eAg a).length=10:=fun _=>rfl
  have a11:∀ a,(eAg a).take 10=eAg a:=fun _=>rfl
  have a12:∀ a,(eAg a).drop 10=[]:=fun _=>rfl
  have ho:=bfb c.over
  rcases ho with ho|ho
  ·cases hs:sumP facts ag0 part with
   | none =>
    rw [hs] at hS
    have hw:=wkn_cubeD t u ⟨c.N,c.P,true⟩ (.agg (eCel ⟨key,0,ag0⟩))
    have hv:(AV.tup [.agg (eCubeD .no .no ⟨c.N,c.P,c.over || (none:Option Ag).isNone⟩),.agg (eCel ⟨key,0,(none:Option Ag).getD ag0⟩)])=(AV.tup [.agg (eCubeD .no .no ⟨c.N,c.P,true⟩),.agg (eCel ⟨key,0,ag0⟩)]):=by rw [ho];rfl
    rw [hv]
    clear hv
    generalize (AV.tup [.agg (eCubeD .no .no ⟨c.N,c.P,true⟩),.agg (eCel ⟨key,0,ag0⟩)])=V at *
    unfold joinV at hS
    refine fn_soundQ hE cf105 (Nat.le_of_ble_eq_true rfl) fun Q hQr hQn=>?_
    ((have hd:=trivial;repeat' (first|((first|apply GdK_st|apply GdK_sf|apply CondK_s)<;>intro hd<;>(try simp only [hd]))|simp (disch:=first|assumption|omega|(simp only [nx]<;>omega)|fail) only [hd,hQr,hQn,c105_0,↓YA,YB,YC,YE,YF,YZ,sevalprocAttr,f0,f1,f3,eCubeD,w1,w2,List.length_map]))<;>(try (have hd_:True:=hd;clear hd_ hd)))
    (refine CallK.use (hS _) ?_;rintro _ _ ⟨rfl,k1,rfl⟩)
    ((have hd:=trivial;repeat' (first|((first|apply GdK_st|apply GdK_sf|apply CondK_s)<;>intro hd<;>(try simp only [hd]))|simp (disch:=first|assumption|omega|(simp only [nx]<;>omega)|fail) only [hd,hQr,hQn,c105_0,↓YA,YB,YC,YE,YF,YZ,sevalprocAttr,f0,f1,f3,eCubeD,w1,w2,ho,a10,a11,a12,c3,c4,c5,List.length_map,Option.isSome_none,Option.getD_none]))<;>(try (have hd_:True:=hd;clear hd_ hd)))
    exact fin_wkn hw
   | some a =>
    rw [hs] at hS
    have hw:=wkn_cubeD t u ⟨c.N,c.P,false⟩ (.agg (eCel ⟨key,0,a⟩))
    have hv:(AV.tup [.agg (eCubeD .no .no ⟨c.N,c.P,c.over || (some a:Option Ag).isNone⟩),.agg (eCel ⟨key,0,(some a:Option Ag).getD ag0⟩)])=(AV.tup [.agg (eCubeD .no .no ⟨c.N,c.P,false⟩),.agg (eCel ⟨key,0,a⟩)]):=by rw [ho];rfl
    rw [hv]
    clear hv
    generalize (AV.tup [.agg (eCubeD .no .no ⟨c.N,c.P,false⟩),.agg (eCel ⟨key,0,a⟩)])=V at *
    unfold joinV at hS
    refine fn_soundQ hE cf105 (Nat.le_of_ble_eq_true rfl) fun Q hQr hQn=>?_
    ((have hd:=trivial;repeat' (first|((first|apply GdK_st|apply GdK_sf|apply CondK_s)<;>intro hd<;>(try simp only [hd]))|simp (disch:=first|assumption|omega|(simp only [nx]<;>omega)|fail) only [hd,hQr,hQn,c105_0,↓YA,YB,YC,YE,YF,YZ,sevalprocAttr,f0,f1,f3,eCubeD,w1,w2,List.length_map]))<;>(try (have hd_:True:=hd;clear hd_ hd)))
    (refine CallK.use (hS _) ?_;rintro _ _ ⟨rfl,k1,rfl⟩)
    ((have hd:=trivial;repeat' (first|((first|apply GdK_st|apply GdK_sf|apply CondK_s)<;>intro hd<;>(try simp only [hd]))|simp (disch:=first|assumption|omega|(simp only [nx]<;>omega)|fail) only [hd,hQr,hQn,c105_0,↓YA,YB,YC,YE,YF,YZ,sevalprocAttr,f0,f1,f3,eCubeD,w1,w2,ho,a10,a11,a12,c3,c4,c5,List.length_map,Option.isSome_some,Option.getD_some]))<;>(try (have hd_:True:=hd;clear hd_ hd)))
    exact fin_wkn hw
  ·have hw:=wkn_cubeD t u ⟨c.N,c.P,true⟩ (.agg (eCel ⟨key,0,(sumP facts ag0 part).getD ag0⟩))
   have hv:(AV.tup [.agg (eCubeD .no .no ⟨c.N,c.P,c.over || (sumP facts ag0 part).isNone⟩),.agg (eCel ⟨key,0,(sumP facts ag0 part).getD ag0⟩)])=(AV.tup [.agg (eCubeD .no .no ⟨c.N,c.P,true⟩),.agg (eCel ⟨key,0,(sumP facts ag0 part).getD ag0⟩)]):=by rw [ho];rfl
   rw [hv]
   clear hv
   generalize (AV.tup [.agg (eCubeD .no .no ⟨c.N,c.P,true⟩),.agg (eCel ⟨key,0,(sumP facts ag0 part).getD ag0⟩)])=V at *
   unfold joinV at hS
   refine fn_soundQ hE cf105 (Nat.le_of_ble_eq_true rfl) fun Q hQr hQn=>?_
   ((have hd:=trivial;repeat' (first|((first|apply GdK_st|apply GdK_sf|apply CondK_s)<;>intro hd<;>(try simp only [hd]))|simp (disch:=first|assumption|omega|(simp only [nx]<;>omega)|fail) only [hd,hQr,hQn,c105_0,↓YA,YB,YC,YE,YF,YZ,sevalprocAttr,f0,f1,f3,eCubeD,w1,w2,List.length_map]))<;>(try (have hd_:True:=hd;clear hd_ hd)))
   (refine CallK.use (hS _) ?_;rintro _ _ ⟨rfl,k1,rfl⟩)
   ((have hd:=trivial;repeat' (first|((first|apply GdK_st|apply GdK_sf|apply CondK_s)<;>intro hd<;>(try simp only [hd]))|simp (disch:=first|assumption|omega|(simp only [nx]<;>omega)|fail) only [hd,hQr,hQn,c105_0,↓YA,YB,YC,YE,YF,YZ,sevalprocAttr,f0,f1,f3,eCubeD,w1,w2,ho,a10,a11,a12,c3,c4,c5,List.length_map]))<;>(try (have hd_:True:=hd;clear hd_ hd)))
   exact fin_wkn hw
 ·have w2:((d:Int) == ((S.dims.length - 1:Nat):Int))=false:=by simp;omega
  have w3:IntKind.i64.wrap ((d:Int)+1)=((d+1:Nat):Int):=by rw [wrap_of (by omega) (by omega)];omega
  have hR:cellD facts f (decide (d+1=S.dims.length)) c key part=((f c part).1,⟨key,(f c part).2,ag0⟩):=by
   unfold cellD;rw [decide_eq_false hlast,if_neg (by simp)]
  rw [hR] at hl ⊢
  have hV:=fun G=>hf hlast t u v w c part G hc hp hl
  refine fn_soundQ hE cf105 (Nat.le_of_ble_eq_true rfl) fun Q hQr hQn=>?_
  ((have hd:=trivial;repeat' (first|((first|apply GdK_st|apply GdK_sf|apply CondK_s)<;>intro hd<;>(try simp only [hd]))|simp (disch:=first|assumption|omega|(simp only [nx]<;>omega)|fail) only [hd,hQr,hQn,c105_0,↓YA,YB,YC,YE,YF,YZ,sevalprocAttr,f0,f1,f3,e3,e4,e5,e6,w1,w2,w3,List.length_map]))<;>(try (have hd_:True:=hd;clear hd_ hd)))
  (refine CallK.use (hV _) ?_;rintro _ _ ⟨rfl,k1,rfl⟩)
  ((have hd:=trivial;repeat' (first|((first|apply GdK_st|apply GdK_sf|apply CondK_s)<;>intro hd<;>(try simp only [hd]))|simp (disch:=first|assumption|omega|(simp only [nx]<;>omega)|fail) only [hd,hQr,hQn,c105_0,↓YA,YB,YC,YE,YF,YZ,sevalprocAttr,f0,f1,f3,e3,e4,e5,e6,c3,c4,c5]))<;>(try (have hd_:True:=hd;clear hd_ hd)))
  refine fin_pA (by rfl)
theorem cellsD_snoc (g:DSt→Int→List Nat→DSt×Cel):∀ (l:List (Int×List Nat)) (c:DSt) (p:Int×List Nat),cellsD g c (l++[p])=((g (cellsD g c l).1 p.1 p.2).1,(cellsD g c l).2++[(g (cellsD g c l).1 p.1 p.2).2])
 | [],c,p=>rfl
 | q :: l,c,p=>by
  have ih:=cellsD_snoc g l (g c q.1 q.2).1 p
  show ((cellsD g (g c q.1 q.2).1 (l++[p])).1,(g c q.1 q.2).2 :: (cellsD g (g c q.1 q.2).1 (l++[p])).2)=_
  rw [ih];rfl
theorem cellsD_app (g:DSt→Int→List Nat→DSt×Cel):∀ (l m:List (Int×List Nat)) (c:DSt),(cellsD g c (l++m)).1=(cellsD g (cellsD g c l).1 m).1
 | [],m,c=>rfl
 | q :: l,m,c=>cellsD_app g l m (g c q.1 q.2).1
theorem tiersD_snoc (g:DSt→Int→List Nat→DSt×Cel):∀ (l:List (List (Int×List Nat))) (c:DSt) (p:List (Int×List Nat)),tiersD g c (l++[p])=((cellsD g (tiersD g c l).1 p).1,(tiersD g c l).2++[(cellsD g (tiersD g c l).1 p).2])
 | [],c,p=>rfl
 | q :: l,c,p=>by
  have ih:=tiersD_snoc g l (cellsD g c q).1 p
  show ((tiersD g (cellsD g c q).1 (l++[p])).1,(cellsD g c q).2 :: (tiersD g (cellsD g c q).1 (l++[p])).2)=_
  rw [ih];rfl
theorem tiersD_app (g:DSt→Int→List Nat→DSt×Cel):∀ (l m:List (List (Int×List Nat))) (c:DSt),(tiersD g c (l++m)).1=(tiersD g (tiersD g c l).1 m).1
 | [],m,c=>rfl
 | q :: l,m,c=>tiersD_app g l m (cellsD g c q).1
def DG (facts:List Fct) (c c':DSt):Prop:=c.N.length≤c'.N.length∧(DOk facts c→DOk facts c')
theorem DG.refl (facts:List Fct) (c:DSt):DG facts c c:=⟨Nat.le_refl _,id⟩
theorem DG.trans {facts:List Fct} {c c' c'':DSt} (h:DG facts c c') (k:DG facts c' c''):DG facts c c'':=⟨Nat.le_trans h.1 k.1,fun o=>k.2 (h.2 o)⟩
theorem cellsD_g {facts:List Fct} {g:DSt→Int→List Nat→DSt×Cel} (hg:∀ c k p,PartOk facts p→DG facts c (g c k p).1):∀ (l:List (Int×List Nat)) (c:DSt),(∀ q ∈ l,PartOk facts q.2)→DG facts c (cellsD g c l).1
 | [],c,_=>DG.refl _ _
 | q :: l,c,h=>(hg c q.1 q.2 (h q List.mem_cons_self)).trans (cellsD_g hg l _ fun q hq=>h q (List.mem_cons_of_mem _ hq))
theorem tiersD_g {facts:List Fct} {g:DSt→Int→List Nat→DSt×Cel} (hg:∀ c k p,PartOk facts p→DG facts c (g c k p).1):∀ (l:List (List (Int×List Nat))) (c:DSt),(∀ t ∈ l,∀ q ∈ t,PartOk facts q.2)→DG facts c (tiersD g c l).1
 | [],c,_=>DG.refl _ _
 | q :: l,c,h=>(cellsD_g hg q c (h q List.mem_cons_self)).trans (tiersD_g hg l _ fun q hq=>h q (List.mem_cons_of_mem _ hq))
theorem cellD_g {facts:List Fct} {f:DSt→List Nat→DSt×Int} {last:Bool} (hf:last=false→∀ c p,PartOk facts p→DG facts c (f c p).1) (c:DSt) (k:Int) (p:List Nat) (hp:PartOk facts p):DG facts c (cellD facts f last c k p).1:=by
 cases last with
 | true=>exact ⟨Nat.le_refl _,id⟩
 | false=>exact hf rfl c p hp
theorem visT_g {facts:List Fct} (d:Nat) {part:List Nat} (hp:PartOk facts part) (a:DSt×Cel) (ls:List (List Cel)):DG facts a.1 (visT d part a ls).1:=by
 refine ⟨by show a.1.N.length≤(a.1.N++[_]).length;rw [List.length_append];omega,fun h=>⟨?_,fun q hq=>?_⟩⟩
 ·show (a.1.N++[_]).length=(a.1.P++[_]).length
  rw [List.length_append,List.length_append,h.1];rfl
 ·rcases List.mem_append.1 (show q ∈ a.1.P++[part] from hq) with hq|hq
  ·exact h.2 q hq
  ·rw [List.mem_singleton.1 hq];exact hp.2.1
theorem groupsB_ok {x:Shp} {L:List (List (List Int))} {facts:List Fct} {d:Nat} {part:List Nat} (hp:PartOk facts part):∀ t ∈ groupsB x L facts d part,∀ q ∈ t,PartOk facts q.2:=fun t ht q hq=>by
 unfold groupsB at ht
 obtain ⟨k,_,rfl⟩:=List.mem_map.1 ht
 exact hp.grs hq
theorem visF_g {x:Shp} {L:List (List (List Int))} {facts:List Fct} {f:DSt→List Nat→DSt×Int} {d:Nat} (hf:d+1≠L.length→∀ c p,PartOk facts p→DG facts c (f c p).1) (c:DSt) (p:List Nat) (hp:PartOk facts p):DG facts c (visF x L facts f d c p).1:=by
 have hc:=cellD_g (facts:=facts) (f:=f) (last:=decide (d+1=L.length)) (fun h=>hf (of_decide_eq_false h))
 unfold visF visM
 split
 ·exact DG.refl _ _
 ·exact ((tiersD_g hc _ c (groupsB_ok hp)).trans (hc _ 0 p hp)).trans (visT_g d hp _ _)
theorem visD_g {x:Shp} {L:List (List (List Int))} {facts:List Fct}:∀ (n:Nat) (c:DSt) (p:List Nat),PartOk facts p→DG facts c (visD x L facts n c p).1
 | 0,c,_,_=>DG.refl _ _
 | n+1,c,p,hp=>visF_g (fun _ c p hp=>visD_g n c p hp) c p hp
theorem grs_snoc (key:Nat→Int) (n:Nat) (part:List Nat):grs key (n+1) part=if part.filter (fun i=>decide (key i=(n:Int)))=[] then grs key n part else grs key n part++[((n:Int),part.filter fun i=>decide (key i=(n:Int)))]:=by
 unfold grs
 rw [List.range_succ,List.filterMap_append]
 by_cases h:part.filter (fun i=>decide (key i=(n:Int)))=[]
 ·rw [if_pos h,List.filterMap_cons_none (by rw [if_pos h]),List.filterMap_nil,List.append_nil]
 ·rw [if_neg h,List.filterMap_cons_some (by rw [if_neg h]),List.filterMap_nil]
theorem grs_pre (key:Nat→Int) {n m:Nat} (h:n≤m) (part:List Nat):∃ t,grs key m part=grs key n part++t:=by
 induction m with
 | zero=>exact ⟨[],by rw [show n=0 by omega,List.append_nil]⟩
 | succ m ih =>
  by_cases hm:n=m+1
  ·exact ⟨[],by rw [hm,List.append_nil]⟩
  ·obtain ⟨t,ht⟩:=ih (by omega)
   rw [grs_snoc]
   split
   ·exact ⟨t,ht⟩
   ·exact ⟨t++[_],by rw [ht,List.append_assoc]⟩
structure VisJ (i5 i7 i10 i13 i14:Nat) (S:Sc) (d:Nat) (c:DSt) (ts:List (Tok×List Cel)) (H G:AHeap):Prop where
 ext:AHeap.Ext H G
 g5:G.get i5=some (.cells (eSc S) 25)
 g7:∃ t u,G.get i7=some (.cells (eCubeD t u c) 41)
 g10:G.get i10=some (.cells [.sl .full [],.sl .full [],.b false] 41)
 g13:G.get i13=some (.cells (eNodT (.own i14) d ts cel0) 115)
 gt:G.get i14=some (.tok ts.length 120 1)
 o1:H.next≤i5
 o2:i5<i7
 o3:i7<i10
 o4:i10<i13
 o5:i13<i14
section
variable {i5 i7 i10 i13 i14:Nat} {S:Sc} {d:Nat} {c:DSt} {ts:List (Tok×List Cel)} {H G G':AHeap}
theorem VisJ.mono (h:VisJ i5 i7 i10 i13 i14 S d c ts H G) (hx:AHeap.Ext G G'):VisJ i5 i7 i10 i13 i14 S d c ts H G':=by
 obtain ⟨t,u,hg⟩:=h.g7
 exact ⟨h.ext.trans hx,hx.get _ _ h.g5,⟨t,u,hx.get _ _ hg⟩,hx.get _ _ h.g10,hx.get _ _ h.g13,hx.get _ _ h.gt,h.o1,h.o2,h.o3,h.o4,h.o5⟩
theorem VisJ.cube (h:VisJ i5 i7 i10 i13 i14 S d c ts H G) (t u:Tok) (c':DSt):VisJ i5 i7 i10 i13 i14 S d c' ts H (G.set i7 (.cells (eCubeD t u c') 41)):=by
 obtain ⟨t0,u0,hg⟩:=h.g7
 have o1:=h.o1
 have o2:=h.o2
 have o3:=h.o3
 have o4:=h.o4
 have o5:=h.o5
 refine ⟨h.ext.set (by omega),?_,⟨t,u,AHeap.get_set_self (AHeap.lt hg)⟩,?_,?_,?_,o1,o2,o3,o4,o5⟩
 ·rw [AHeap.get_set_ne (by omega)];exact h.g5
 ·rw [AHeap.get_set_ne (by omega)];exact h.g10
 ·rw [AHeap.get_set_ne (by omega)];exact h.g13
 ·rw [AHeap.get_set_ne (by omega)];exact h.gt
theorem VisJ.set (h:VisJ i5 i7 i10 i13 i14 S d c ts H G) {id:Nat} (hi:i14<id) (o:AObj):VisJ i5 i7 i10 i13 i14 S d c ts H (G.set id o):=by
 obtain ⟨t0,u0,hg⟩:=h.g7
 have o1:=h.o1
 have o2:=h.o2
 have o3:=h.o3
 have o4:=h.o4
 have o5:=h.o5
 refine ⟨h.ext.set (by omega),?_,⟨t0,u0,?_⟩,?_,?_,?_,o1,o2,o3,o4,o5⟩
 ·rw [AHeap.get_set_ne (by omega)];exact h.g5
 ·rw [AHeap.get_set_ne (by omega)];exact hg
 ·rw [AHeap.get_set_ne (by omega)];exact h.g10
 ·rw [AHeap.get_set_ne (by omega)];exact h.g13
 ·rw [AHeap.get_set_ne (by omega)];exact h.gt
theorem VisJ.list (h:VisJ i5 i7 i10 i13 i14 S d c ts H G) (to:Tok) (l:List Cel):VisJ i5 i7 i10 i13 i14 S d c (ts++[(to,l)]) H ((G.set i14 (.tok (ts.length+1) 120 1)).set i13 (.cells (.i d :: .sl (.own i14) (rLt ts++[[.sl to (rC l)]]) :: eCel cel0) 115)):=by
 obtain ⟨t0,u0,hg⟩:=h.g7
 have o1:=h.o1
 have o2:=h.o2
 have o3:=h.o3
 have o4:=h.o4
 have o5:=h.o5
 have l1:=AHeap.lt h.gt
 have l2:=AHeap.lt h.g13
 refine ⟨(h.ext.set (by omega)).set (by omega),?_,⟨t0,u0,?_⟩,?_,?_,?_,o1,o2,o3,o4,o5⟩
 ·rw [AHeap.get_set_ne (by omega),AHeap.get_set_ne (by omega)];exact h.g5
 ·rw [AHeap.get_set_ne (by omega),AHeap.get_set_ne (by omega)];exact hg
 ·rw [AHeap.get_set_ne (by omega),AHeap.get_set_ne (by omega)];exact h.g10
 ·have hap:rLt (ts++[(to,l)])=rLt ts++[[.sl to (rC l)]]:=List.map_append
  rw [AHeap.get_set_self (by simp only [nx];omega)]
  unfold eNodT
  rw [hap]
 ·rw [AHeap.get_set_ne (by omega),AHeap.get_set_self (by omega),List.length_append];rfl
end
theorem wkn_snocD (t tk:Tok) (N:List Nod) (d:Int) (ts:List (Tok×List Cel)) (c:Cel):Wkn (.sl t (rN N++[eNodT tk d ts c])) (.sl .no (rN (N++[⟨d,ts.map (·.2),c⟩]))):=by
 have e:rN (N++[⟨d,ts.map (·.2),c⟩])=rN N++[eNod .no ⟨d,ts.map (·.2),c⟩]:=List.map_append
 rw [e]
 have key:∀ (i:Nat) (r r':List AV),(rN N++[eNodT tk d ts c])[i]?=some r→(rN N++[eNod .no ⟨d,ts.map (·.2),c⟩])[i]?=some r'→r=r'∨(r=eNodT tk d ts c∧r'=eNod .no ⟨d,ts.map (·.2),c⟩):=fun i r r' h h'=>by
  by_cases hi:i<(rN N).length
  ·rw [List.getElem?_append_left hi] at h h'
   rw [h] at h';injection h' with h';exact .inl h'
  ·rw [List.getElem?_append_right (by omega)] at h h'
   cases hm:i - (rN N).length with
   | zero=>rw [hm] at h h';simp at h h';exact .inr ⟨h.symm,h'.symm⟩
   | succ m=>rw [hm] at h;simp at h
 refine .sl _ _ _ (by simp) (fun i r r' h h'=>?_) (fun i r r' j x y h h' hx hy=>?_)
 ·rcases key i r r' h h' with rfl|⟨rfl,rfl⟩
  ·rfl
  ·rfl
 ·rcases key i r r' h h' with rfl|⟨rfl,rfl⟩
  ·rw [hx] at hy;injection hy with hy;subst hy;exact .refl _
  ·match j with
   | 0=>simp [eNodT,eNod] at hx hy;subst hx hy;exact .refl _
   | 1 =>
    have hx:some (AV.sl tk (rLt ts))=some x:=hx
    have hy:some (AV.sl .no (rL (ts.map (·.2))))=some y:=hy
    injection hx with hx
    injection hy with hy
    subst hx hy
    exact wkn_lists _ _
   | j+2 =>
    have hx:(eCel c)[j]?=some x:=hx
    have hy:(eCel c)[j]?=some y:=hy
    rw [hx] at hy;injection hy with hy;subst hy;exact .refl _
theorem wkn_snocP (t v:Tok) (P:List (List Nat)) (p:List Nat):Wkn (.sl t (rPs P++[[.sl v (rP p)]])) (.sl .no (rPs (P++[p]))):=by
 have e:rPs (P++[p])=rPs P++[[.sl .no (rP p)]]:=List.map_append
 rw [e]
 have key:∀ (i:Nat) (r r':List AV),(rPs P++[[.sl v (rP p)]])[i]?=some r→(rPs P++[[.sl .no (rP p)]])[i]?=some r'→r=r'∨(r=[.sl v (rP p)]∧r'=[.sl .no (rP p)]):=fun i r r' h h'=>by
  by_cases hi:i<(rPs P).length
  ·rw [List.getElem?_append_left hi] at h h'
   rw [h] at h';injection h' with h';exact .inl h'
  ·rw [List.getElem?_append_right (by omega)] at h h'
   cases hm:i - (rPs P).length with
   | zero=>rw [hm] at h h';simp at h h';exact .inr ⟨h.symm,h'.symm⟩
   | succ m=>rw [hm] at h;simp at h
 refine .sl _ _ _ (by simp) (fun i r r' h h'=>?_) (fun i r r' j x y h h' hx hy=>?_)
 ·rcases key i r r' h h' with rfl|⟨rfl,rfl⟩
  ·rfl
  ·rfl
 ·rcases key i r r' h h' with rfl|⟨rfl,rfl⟩
  ·rw [hx] at hy;injection hy with hy;subst hy;exact .refl _
  ·match j with
   | 0=>simp at hx hy;subst hx hy;exact wkn_sl _ _
   | j+1=>simp at hx
theorem wkn_resD (t u tk v:Tok) (N:List Nod) (P:List (List Nat)) (o:Bool) (d at':Int) (ts:List (Tok×List Cel)) (c:Cel) (p:List Nat):Wkn (.tup [.agg [.sl t (rN N++[eNodT tk d ts c]),.sl u (rPs P++[[.sl v (rP p)]]),.b o],.i at']) (.tup [.agg (eCubeD .no .no ⟨N++[⟨d,ts.map (·.2),c⟩],P++[p],o⟩),.i at']):=by
 refine .tup _ _ rfl fun i x y hx hy=>?_
 match i with
 | 0 =>
  simp only [List.getElem?_cons_zero,Option.some.injEq] at hx hy
  subst hx hy
  refine .agg _ _ rfl fun j x y hx hy=>?_
  unfold eCubeD at hy
  match j with
  | 0=>simp only [List.getElem?_cons_zero,Option.some.injEq] at hx hy;subst hx hy;exact wkn_snocD _ _ _ _ _ _
  | 1=>simp only [List.getElem?_cons_zero,List.getElem?_cons_succ,Option.some.injEq] at hx hy;subst hx hy;exact wkn_snocP _ _ _ _
  | 2=>simp only [List.getElem?_cons_zero,List.getElem?_cons_succ,Option.some.injEq] at hx hy;subst hx hy;exact .refl _
  | j+3=>simp at hx
 | 1=>simp only [List.getElem?_cons_zero,List.getElem?_cons_succ,Option.some.injEq] at hx hy;subst hx hy;exact .refl _
 | i+2=>simp at hx
set_option maxHeartbeats 8000000 in
theorem rvisit26_step {S:Sc} {facts:List Fct} {f:DSt→List Nat→DSt×Int} {d:Nat} (hF:FactsOk (shpS S) (liftsS S) facts) (hLl:(liftsS S).length=S.dims.length) (hd:d<S.dims.length) (htl:S.dims[d].tiers.length≤4) (hN:∀ k (h:k<S.dims[d].tiers.length),S.dims[d].tiers[k].terms.length=tierN (shpS S) d k) (hTL:((liftsS S).getD d []).length=S.dims[d].tiers.length)
  (hP:∀ part,PartOk facts part→PartIn S.dims[d] facts d part) (hU:∀ part,PartOk facts part→∀ k,k<S.dims[d].tiers.length→∀ j:Nat,undR S.dims[d] facts d k (j:Int) part=part.filter fun i=>decide (keyB (liftsS S) facts d k i=(j:Int)))
  (hf:d+1≠S.dims.length→VisK S facts f (d+1)) (hg:d+1≠S.dims.length→∀ c p,PartOk facts p→DG facts c (f c p).1):VisK S facts (visF (shpS S) (liftsS S) facts f d) d:=by
 intro t u v w c part H hc hp hl
 obtain ⟨f0,f1,f2,f3⟩:=eSc_facts S
 obtain ⟨q0,q1,q2,q3⟩:=eDm_facts S.dims[d]
 have hdl:=hF.dims
 have hfl:=hF.few
 have hpl:=hp.2.1
 have hpi:=hP part hp
 have hUp:=hU part hp
 have hds:(d:Int)<(S.dims.length:Int):=by omega
 have hgc:=cellD_g (facts:=facts) (f:=f) (last:=decide (d+1=S.dims.length)) (fun h=>hg (of_decide_eq_false h))
 have hC:∀ (t u v:Tok) c key p G,DOk facts c→PartOk facts p→(cellD facts f (decide (d+1=S.dims.length)) c key p).1.N.length≤limD→Sound Tryz.prog 105 [.agg (eSc S),.sl w (rF facts),.agg (eCubeD t u c),.i (d:Int),.i key,.sl v (rP p)] G (Pure G (.tup [.agg (eCubeD .no .no (cellD facts f (decide (d+1=S.dims.length)) c key p).1),.agg (eCel (cellD facts f (decide (d+1=S.dims.length)) c key p).2)])):=fun t u v c key p G h1 h2 h3=>r26cell_sound t u v w c key p G hd (by omega) (by omega) hF.ag h1 h2 hf h3
 have hGl:(groupsB (shpS S) (liftsS S) facts d part).length=S.dims[d].tiers.length:=by unfold groupsB;simp only [List.length_map,List.length_range];exact hTL
 have hGg:∀ k (h:k<(groupsB (shpS S) (liftsS S) facts d part).length),(groupsB (shpS S) (liftsS S) facts d part)[k]=grs (keyB (liftsS S) facts d k) (tierN (shpS S) d k) part:=fun k h=>by simp [groupsB]
 have hGo:=groupsB_ok (x:=shpS S) (L:=liftsS S) (d:=d) hp
 have hRv:visF (shpS S) (liftsS S) facts f d c part=visM c (visT d part (cellD facts f (decide (d+1=S.dims.length)) (tiersD (cellD facts f (decide (d+1=S.dims.length))) c (groupsB (shpS S) (liftsS S) facts d part)).1 0 part) (tiersD (cellD facts f (decide (d+1=S.dims.length))) c (groupsB (shpS S) (liftsS S) facts d part)).2) (fndD d part c.N c.P):=by unfold visF;rw [hLl]
 have hun:∀ (k:Nat) (j:Nat) (b:Tok) G,k<S.dims[d].tiers.length→Sound Tryz.prog 104 [.agg (eSc S),.sl w (rF facts),.sl v (rP part),.i (d:Int),.i (k:Int),.i (j:Int)] G (Pure G (.sl .no (rP (part.filter fun i=>decide (keyB (liftsS S) facts d k i=(j:Int)))))):=fun k j b G hk=>by
  rw [← hUp k hk j]
  exact under_sound w v S facts part d k (j:Int) G hd hk (by omega) (by omega) hpi
 rw [hRv] at hl ⊢
 clear hRv hUp hU hP hf hg hLl hTL
 generalize cellD facts f (decide (d+1=S.dims.length))=g at *
 generalize groupsB (shpS S) (liftsS S) facts d part=GS at *
 have e14:∀ t n,(eNod t n).length=14:=fun _ _=>rfl
 have e0:∀ t n,(eNod t n)[0]?=some (.i n.dim):=fun _ _=>rfl
 have e3:∀ t u c,(eCubeD t u c).length=3:=fun _ _ _=>rfl
 have e4:∀ t u c,(eCubeD t u c).take 3=eCubeD t u c:=fun _ _ _=>rfl
 have e5:∀ t u c,(eCubeD t u c)[0]?=some (.sl t (rN c.N)):=fun _ _ _=>rfl
 have e6:∀ t u c,(eCubeD t u c).drop 3=[]:=fun _ _ _=>rfl
 have e7:∀ t u c,(eCubeD t u c)[1]?=some (.sl u (rPs c.P)):=fun _ _ _=>rfl
 have hcN:c.N.length≤limD:=by
  cases hfn:fndD d part c.N c.P with
  | some i=>rw [hfn] at hl;exact hl
  | none =>
   rw [hfn] at hl
   have h1:=(tiersD_g hgc GS c hGo).1
   have h2:=(hgc (tiersD g c GS).1 0 part hp).1
   have h3:=(visT_g d hp (g (tiersD g c GS).1 0 part) (tiersD g c GS).2).1
   exact Nat.le_trans (Nat.le_trans (Nat.le_trans h1 h2) h3) hl
 unfold limD at hcN
 have hwc:=fun x=>wkn_cubeD t u c x
 refine fn_soundQ hE cf58 (Nat.le_of_ble_eq_true rfl) fun Q hQr hQn=>?_
 ((have hd:=trivial;repeat' (first|((first|apply GdK_st|apply GdK_sf|apply CondK_s)<;>intro hd<;>(try simp only [hd]))|simp (disch:=first|assumption|omega|(simp only [nx]<;>omega)|fail) only [hd,hQr,hQn,c58_0,↓YA,YB,YC,YE,YF,YZ,sevalprocAttr,f0,f3,e3,e4,e5,e6,e7,List.length_map]))<;>(try (have hd_:True:=hd;clear hd_ hd)))
 have hx0:AHeap.Ext H (((H.alloc (.cells (eSc S) 25)).alloc (.cells (eCubeD t u c) 41)).alloc (.cells [.sl .full [],.sl .full [],.b false] 41)):=by exact AXT
 have g5:(((H.alloc (.cells (eSc S) 25)).alloc (.cells (eCubeD t u c) 41)).alloc (.cells [.sl .full [],.sl .full [],.b false] 41)).get H.next=some (.cells (eSc S) 25):=by
  rw [AHeap.get_alloc_ne (by simp only [nx];omega),AHeap.get_alloc_ne (by simp only [nx];omega)];exact AHeap.get_alloc_self
 have g7:(((H.alloc (.cells (eSc S) 25)).alloc (.cells (eCubeD t u c) 41)).alloc (.cells [.sl .full [],.sl .full [],.b false] 41)).get (H.next+1)=some (.cells (eCubeD t u c) 41):=by
  rw [AHeap.get_alloc_ne (by simp only [nx];omega)];exact AHeap.get_alloc_self (H:=H.alloc _)
 have g10:(((H.alloc (.cells (eSc S) 25)).alloc (.cells (eCubeD t u c) 41)).alloc (.cells [.sl .full [],.sl .full [],.b false] 41)).get (H.next+1+1)=some (.cells [.sl .full [],.sl .full [],.b false] 41):=AHeap.get_alloc_self (H:=(H.alloc _).alloc _)
 generalize (((H.alloc (.cells (eSc S) 25)).alloc (.cells (eCubeD t u c) 41)).alloc (.cells [.sl .full [],.sl .full [],.b false] 41))=G0 at *
 have l5:=AHeap.lt g5
 have l7:=AHeap.lt g7
 have l10:=AHeap.lt g10
 refine AW_for [1,3,4,5,7,10,22] (σ:=Unit) (fun (k:Nat) s=>∀ j,j<k→hitD d part c.N c.P j=false) (fun k s=>[]) (fun k s=>[]) () (GStep.refl _ _) (by simp only [keep_nil,keep_cons,Fr.put,Fr.get,↓reduceIte,Nat.reduceEqDiff];rfl) (by intro k s;rfl) (by intro k s;rfl) (by rfl) (by unfold maxLen;omega) ?_ (by simp only [FrL_nil]) (by simp only [ObjL_nil]) ?_ ?_
 ·exact fun j h=>absurd h (Nat.not_lt_zero j)
 ·(rintro k s G hk hno hG hn;try simp only [nx] at hn)
  have g7:=(hG.g _ l7 (by simp)).trans g7
  have g10:=(hG.g _ l10 (by simp)).trans g10
  have lg10:=AHeap.lt g10
  have hkP:k<c.P.length:=by rw [← hc.1];exact hk
  have hr1:(rN c.N)[k]?=some (eNod .no c.N[k]):=by simp [hk]
  have hr2:(rPs c.P)[k]?=some [.sl .no (rP c.P[k])]:=by simp [hkP]
  have h0:(0:Int)≤(k:Int):=by omega
  have hx1:AHeap.Ext H G:=hx0.trans hG.ext
  have hcp:=hc.2 _ (List.getElem_mem hkP)
  have hsm:=fun G=>rsame26_sound .no v c.P[k] part G (by omega)
  have hh:hitD d part c.N c.P k=(decide (c.N[k].dim=(d:Int))&&decide (c.P[k]=part)):=by
   unfold hitD
   rw [List.getD_eq_getElem?_getD,List.getElem?_eq_getElem hk,List.getD_eq_getElem?_getD,List.getElem?_eq_getElem hkP];rfl
  have hfk:hitD d part c.N c.P k=true→fndD d part c.N c.P=some k:=fun h=>by
   unfold fndD
   rw [List.find?_range_eq_some]
   exact ⟨h,by simpa using hk,fun j hj=>by rw [hno j hj];rfl⟩
  generalize c.N[k]=nk at *
  generalize c.P[k]=pk at *
  by_cases hdm:nk.dim=(d:Int)
  ·have d1:(nk.dim == (d:Int))=true:=by simpa using hdm
   by_cases hpp:pk=part
   ·have d2:decide (pk=part)=true:=decide_eq_true hpp
    have hfn:=hfk (by rw [hh,decide_eq_true hdm,d2];rfl)
    rw [hfn] at hQr hQn
    rw [d2] at hsm
    ((have hd:=trivial;repeat' (first|((first|apply GdK_st|apply GdK_sf|apply CondK_s)<;>intro hd<;>(try simp only [hd]))|simp (disch:=first|assumption|omega|(simp only [nx]<;>omega)|fail) only [hd,hQr,hQn,c58_0,↓YA,YB,YC,YE,YF,YZ,sevalprocAttr,g7,g10,e0,e3,e4,e5,e6,e7,e14,hr1,hr2,h0,hk,hkP,d1,List.length_map]))<;>(try (have hd_:True:=hd;clear hd_ hd)))
    (refine CallK.use (hsm _) ?_;rintro _ _ ⟨rfl,k1,rfl⟩)
    ((have hd:=trivial;repeat' (first|((first|apply GdK_st|apply GdK_sf|apply CondK_s)<;>intro hd<;>(try simp only [hd]))|simp (disch:=first|assumption|omega|(simp only [nx]<;>omega)|fail) only [hd,hQr,hQn,c58_0,↓YA,YB,YC,YE,YF,YZ,sevalprocAttr,g7,g10,e0,e3,e4,e5,e6,e7,e14,hr1,hr2,h0,hk,hkP,d1,List.length_map]))<;>(try (have hd_:True:=hd;clear hd_ hd)))
    exact fin_wkn (hwc _) ((hx1.bump).set (by omega))
   ·have d2:decide (pk=part)=false:=decide_eq_false hpp
    rw [d2] at hsm
    ((have hd:=trivial;repeat' (first|((first|apply GdK_st|apply GdK_sf|apply CondK_s)<;>intro hd<;>(try simp only [hd]))|simp (disch:=first|assumption|omega|(simp only [nx]<;>omega)|fail) only [hd,hQr,hQn,c58_0,↓YA,YB,YC,YE,YF,YZ,sevalprocAttr,g7,g10,e0,e3,e4,e5,e6,e7,e14,hr1,hr2,h0,hk,hkP,d1,List.length_map]))<;>(try (have hd_:True:=hd;clear hd_ hd)))
    (refine CallK.use (hsm _) ?_;rintro _ _ ⟨rfl,k1,rfl⟩)
    ((have hd:=trivial;repeat' (first|((first|apply GdK_st|apply GdK_sf|apply CondK_s)<;>intro hd<;>(try simp only [hd]))|simp (disch:=first|assumption|omega|(simp only [nx]<;>omega)|fail) only [hd,hQr,hQn,c58_0,↓YA,YB,YC,YE,YF,YZ,sevalprocAttr,g7,g10,e0,e3,e4,e5,e6,e7,e14,hr1,hr2,h0,hk,hkP,d1,List.length_map]))<;>(try (have hd_:True:=hd;clear hd_ hd)))
    exact ⟨(),fun j hj=>by
     rcases Nat.lt_or_eq_of_le (Nat.lt_succ_iff.1 hj) with h|rfl
     ·exact hno j h
     ·rw [hh,d2,Bool.and_false],hG.bump⟩
  ·have d1:(nk.dim == (d:Int))=false:=by simpa using hdm
   ((have hd:=trivial;repeat' (first|((first|apply GdK_st|apply GdK_sf|apply CondK_s)<;>intro hd<;>(try simp only [hd]))|simp (disch:=first|assumption|omega|(simp only [nx]<;>omega)|fail) only [hd,hQr,hQn,c58_0,↓YA,YB,YC,YE,YF,YZ,sevalprocAttr,g7,g10,e0,e3,e4,e5,e6,e7,e14,hr1,hr2,h0,hk,hkP,d1,List.length_map]))<;>(try (have hd_:True:=hd;clear hd_ hd)))
   exact ⟨(),fun j hj=>by
    rcases Nat.lt_or_eq_of_le (Nat.lt_succ_iff.1 hj) with h|rfl
    ·exact hno j h
    ·rw [hh,decide_eq_false hdm,Bool.false_and],hG⟩
 ·(rintro s G hno hG hn;try simp only [nx] at hn)
  have hfn:fndD d part c.N c.P=none:=by
   unfold fndD
   rw [List.find?_eq_none]
   intro j hj
   rw [hno j (by simpa using hj)];decide
  rw [hfn] at hl hQr hQn
  have g5:=(hG.g _ l5 (by simp)).trans g5
  have g7:=(hG.g _ l7 (by simp)).trans g7
  have g10:=(hG.g _ l10 (by simp)).trans g10
  have hxG:AHeap.Ext H G:=hx0.trans hG.ext
  have lg5:=AHeap.lt g5
  have lg7:=AHeap.lt g7
  have lg10:=AHeap.lt g10
  ((have hd:=trivial;repeat' (first|((first|apply GdK_st|apply GdK_sf|apply CondK_s)<;>intro hd<;>(try simp only [hd]))|simp (disch:=first|assumption|omega|(simp only [nx]<;>omega)|fail) only [hd,hQr,hQn,c58_0,↓YA,YB,YC,YE,YF,YZ,sevalprocAttr,g5,g7,g10,f0,f1,f3,q0,q1,q2,hd,hds,List.length_map]))<;>(try (have hd_:True:=hd;clear hd_ hd)))
  have hlV:(visT d part (g (tiersD g c GS).1 0 part) (tiersD g c GS).2).1.N.length≤limD:=hl
  have hTk:∀ k,DOk facts (tiersD g c (GS.take k)).1:=fun k=>(tiersD_g hgc _ c (fun t ht=>hGo t (List.mem_of_mem_take ht))).2 hc
  have hlimA:(g (tiersD g c GS).1 0 part).1.N.length≤limD:=Nat.le_trans (visT_g d hp (g (tiersD g c GS).1 0 part) (tiersD g c GS).2).1 hlV
  have hlimC:∀ k (hk:k<GS.length) (l m:List (Int×List Nat)),GS[k]=l++m→(cellsD g (tiersD g c (GS.take k)).1 l).1.N.length≤limD:=fun k hk l m e=>by
   have e1:(tiersD g c GS).1=(tiersD g (cellsD g (cellsD g (tiersD g c (GS.take k)).1 l).1 m).1 (GS.drop (k+1))).1:=by
    have h1:(tiersD g c GS).1=(tiersD g (tiersD g c (GS.take k)).1 (GS.drop k)).1:=by rw [← tiersD_app,List.take_append_drop]
    rw [h1,List.drop_eq_getElem_cons hk]
    show (tiersD g (cellsD g _ GS[k]).1 _).1=_
    rw [e,cellsD_app]
   have hm:=hGo _ (List.getElem_mem hk)
   have h1:=(cellsD_g hgc m (cellsD g (tiersD g c (GS.take k)).1 l).1 (fun q hq=>hm q (by rw [e];exact List.mem_append_right _ hq))).1
   have h2:=(tiersD_g hgc (GS.drop (k+1)) (cellsD g (cellsD g (tiersD g c (GS.take k)).1 l).1 m).1 (fun t ht=>hGo t (List.mem_of_mem_drop ht))).1
   rw [← e1] at h2
   have h3:=(hgc (tiersD g c GS).1 0 part hp).1
   exact Nat.le_trans (Nat.le_trans (Nat.le_trans h1 h2) h3) hlimA
  have hV0:visM c (visT d part (g (tiersD g c GS).1 0 part) (tiersD g c GS).2) none=visT d part (g (tiersD g c GS).1 0 part) (tiersD g c GS).2:=rfl
  rw [hV0] at hQr hQn
  clear hV0 hl
  have hx1:AHeap.Ext H (G.alloc (.cells [.i d,.sl .full [],.i 0,.i 0,.i 0,.i 0,.i 0,.i 0,.i 0,.i 0,.i 0,.i 0,.i 0,.i 0] 115)):=hxG.alloc
  have hxa:AHeap.Ext G (G.alloc (.cells [.i d,.sl .full [],.i 0,.i 0,.i 0,.i 0,.i 0,.i 0,.i 0,.i 0,.i 0,.i 0,.i 0,.i 0] 115)):=(AHeap.Ext.refl G).alloc
  have g13:(G.alloc (.cells [.i d,.sl .full [],.i 0,.i 0,.i 0,.i 0,.i 0,.i 0,.i 0,.i 0,.i 0,.i 0,.i 0,.i 0] 115)).get G.next=some (.cells (eNodT .full d [] cel0) 115):=AHeap.get_alloc_self
  have g5:=hxa.get _ _ g5
  have g7:=hxa.get _ _ g7
  have g10:=hxa.get _ _ g10
  have l13:=AHeap.lt g13
  generalize G.alloc (.cells [.i d,.sl .full [],.i 0,.i 0,.i 0,.i 0,.i 0,.i 0,.i 0,.i 0,.i 0,.i 0,.i 0,.i 0] 115)=G1 at *
  generalize hi13:G.next=i13 at *
  generalize hT:S.dims[d].tiers=TS at *
  refine AW_forI (N:=TS.length) (fun k F S2=>Fr.get F 55=.i (k:Int)∧Fr.get F 54=.i (TS.length:Int)∧Fr.get F 1=.sl w (rF facts)∧Fr.get F 3=.i (d:Int)∧Fr.get F 4=.sl v (rP part)∧Fr.get F 5=.ptr H.next 0∧Fr.get F 7=.ptr (H.next+1) 0∧Fr.get F 10=.ptr (H.next+1+1) 0∧Fr.get F 13=.ptr i13 0 ∧
   ∃ ts,VisJ H.next (H.next+1) (H.next+1+1) i13 G1.next S d (tiersD g c (GS.take k)).1 ts H S2∧ts.map (·.2)=(tiersD g c (GS.take k)).2∧ts.length=k) (by unfold maxLen;omega) (fun k F G h=>⟨h.1,h.2.1⟩)
   ((GStep.fr (F':=[(55,.i ((0:Nat):Int)),(54,.i (TS.length:Int)),(1,.sl w (rF facts)),(3,.i (d:Int)),(4,.sl v (rP part)),(5,.ptr H.next 0),(7,.ptr (H.next+1) 0),(10,.ptr (H.next+1+1) 0),(13,.ptr i13 0)]) (by simp [Fr.get,Fr.put])).trans (GStep.tokCell i13 1 115 120 1 g13 rfl)) ?_ ?_ ?_
  ·refine ⟨rfl,rfl,rfl,rfl,rfl,rfl,rfl,rfl,rfl,[],⟨(hx1.set (by omega)).alloc,?_,⟨t,u,?_⟩,?_,?_,AHeap.get_alloc_self (H:=G1.set _ _),Nat.le_refl _,by omega,by omega,by omega,by omega⟩,rfl,rfl⟩
   ·rw [AHeap.get_alloc_ne (by simp only [nx];omega),AHeap.get_set_ne (by omega)];exact g5
   ·rw [AHeap.get_alloc_ne (by simp only [nx];omega),AHeap.get_set_ne (by omega)];exact g7
   ·rw [AHeap.get_alloc_ne (by simp only [nx];omega),AHeap.get_set_ne (by omega)];exact g10
   ·rw [AHeap.get_alloc_ne (by simp only [nx];omega),AHeap.get_set_self l13];rfl
  ·rintro k F2 S2 hk ⟨f55,f54,f1',f3',f4,f5,f7,f10,f13,ts,hV,hts,htl2⟩
   have hkG:k<GS.length:=by omega
   have hGk:=hGg k hkG
   have hNk:=hN k hk
   have ht2:tierN (shpS S) d k≤200:=hF.size d k
   have htake:GS.take (k+1)=GS.take k++[GS[k]]:=List.take_succ_eq_append_getElem hkG
   have hlimK:=hlimC k hkG
   have hokK:=hTk k
   have hst:tiersD g c (GS.take (k+1))=((cellsD g (tiersD g c (GS.take k)).1 GS[k]).1,(tiersD g c (GS.take k)).2++[(cellsD g (tiersD g c (GS.take k)).1 GS[k]).2]):=by rw [htake,tiersD_snoc]
   have hrt:=rT_get hk
   obtain ⟨y0,y1,y2,y3,y4⟩:=eTr_facts TS[k]
   have hunK:=fun (j:Nat) G=>hun k j .no G hk
   have hgrsP:∀ j,part.filter (fun i=>decide (keyB (liftsS S) facts d k i=((j:Nat):Int)))≠[]→PartOk facts (part.filter fun i=>decide (keyB (liftsS S) facts d k i=((j:Nat):Int))):=fun j hne=>⟨hne,Nat.le_trans (List.length_filter_le _ _) hpl,fun i hi=>hp.2.2 i (List.mem_filter.1 hi).1⟩
   have hgro:=fun n=>(fun q (hq:q ∈ grs (keyB (liftsS S) facts d k) n part)=>hp.grs hq)
   rw [hGk] at hlimK hst
   rw [← hNk] at hlimK hst ht2
   rw [← hts] at hst
   clear hGk hNk htake hts
   generalize (keyB (liftsS S) facts d k)=key at hlimK hst hunK hgrsP hgro
   generalize (tiersD g c (GS.take k)).1=c1 at hlimK hst hokK hV
   have g5:=hV.g5
   have ls2:=AHeap.lt hV.gt
   have o2:=hV.o2
   have o3:=hV.o3
   have o4:=hV.o4
   have o5:=hV.o5
   ((have hd:=trivial;repeat' (first|((first|apply GdK_st|apply GdK_sf|apply CondK_s)<;>intro hd<;>(try simp only [hd]))|simp (disch:=first|assumption|omega|(simp only [nx]<;>omega)|fail) only [hd,hQr,hQn,c58_0,↓YA,YB,YC,YE,YF,YZ,sevalprocAttr,f55,f54,f1',f3',f4,f5,f7,f10,f13,g5,f0,f1,hd,hds,q0,q2,hrt,hk,y0,y2,List.length_map]))<;>(try (have hd_:True:=hd;clear hd_ hd)))
   generalize TS[k].terms.length=n at *
   clear hlimC hTk
   refine AW_forI (N:=n) (fun j F S3=>Fr.get F 69=.i (j:Int)∧Fr.get F 68=.i (n:Int)∧Fr.get F 55=.i (k:Int)∧Fr.get F 54=.i (TS.length:Int)∧Fr.get F 1=.sl w (rF facts)∧Fr.get F 3=.i (d:Int)∧Fr.get F 4=.sl v (rP part)∧Fr.get F 5=.ptr H.next 0∧Fr.get F 7=.ptr (H.next+1) 0∧Fr.get F 10=.ptr (H.next+1+1) 0∧Fr.get F 13=.ptr i13 0∧Fr.get F 14=.i (k:Int) ∧
    ∃ out,Fr.get F 15=.sl (.own S2.next) (rC out)∧VisJ H.next (H.next+1) (H.next+1+1) i13 G1.next S d (cellsD g c1 (grs key j part)).1 ts H S3∧S3.get S2.next=some (.tok out.length 113 12)∧out=(cellsD g c1 (grs key j part)).2∧out.length≤j) (by unfold maxLen;omega) (fun k F G h=>⟨h.1,h.2.1⟩)
    ((GStep.tok 15 113 12 rfl).trans (GStep.fr (F':=[(69,.i ((0:Nat):Int)),(68,.i (n:Int)),(55,.i (k:Int)),(54,.i (TS.length:Int)),(1,.sl w (rF facts)),(3,.i (d:Int)),(4,.sl v (rP part)),(5,.ptr H.next 0),(7,.ptr (H.next+1) 0),(10,.ptr (H.next+1+1) 0),(13,.ptr i13 0),(14,.i (k:Int)),(15,.sl (.own S2.next) [])]) (by simp [Fr.get,Fr.put,f55,f54,f1',f3',f4,f5,f7,f10,f13]))) ?_ ?_ ?_
   ·exact ⟨rfl,rfl,rfl,rfl,rfl,rfl,rfl,rfl,rfl,rfl,rfl,rfl,[],rfl,hV.mono (AHeap.Ext.refl S2).alloc,AHeap.get_alloc_self,rfl,Nat.zero_le _⟩
   ·rintro j F3 S3 hj ⟨f69,f68,f55,f54,f1',f3',f4,f5,f7,f10,f13,f14,out,f15,hV3,gtc,hout,hol⟩
    obtain ⟨t3,u3,g7⟩:=hV3.g7
    have g5:=hV3.g5
    have l7':=AHeap.lt g7
    have lc:=AHeap.lt gtc
    have l3t:=AHeap.lt hV3.gt
    have hunj:=hunK j
    have hgj:=hgrsP j
    have hsn:=grs_snoc key j part
    obtain ⟨tl,htl'⟩:=grs_pre key (show j+1≤n by omega) part
    have hlj:=hlimK _ _ htl'
    have hcok:=(cellsD_g hgc (grs key j part) c1 (hgro j)).2 hokK
    have hflen:(part.filter fun i=>decide (key i=(j:Int))).length≤1000000:=Nat.le_trans (List.length_filter_le _ _) (by omega)
    rw [hsn] at hlj
    by_cases hz:part.filter (fun i=>decide (key i=(j:Int)))=[]
    ·rw [if_pos hz] at hsn
     rw [hz] at hunj
     ((have hd:=trivial;repeat' (first|((first|apply GdK_st|apply GdK_sf|apply CondK_s)<;>intro hd<;>(try simp only [hd]))|simp (disch:=first|assumption|omega|(simp only [nx]<;>omega)|fail) only [hd,hQr,hQn,c58_0,↓YA,YB,YC,YE,YF,YZ,sevalprocAttr,f69,f68,f55,f54,f1',f3',f4,f5,f7,f10,f13,f14,f15,g5,f0,f3]))<;>(try (have hd_:True:=hd;clear hd_ hd)))
     (refine CallK.use (hunj _) ?_;rintro _ _ ⟨rfl,k1,rfl⟩)
     have d1:decide (((0:Nat):Int) > 0)=false:=by decide
     ((have hd:=trivial;repeat' (first|((first|apply GdK_st|apply GdK_sf|apply CondK_s)<;>intro hd<;>(try simp only [hd]))|simp (disch:=first|assumption|omega|(simp only [nx]<;>omega)|fail) only [hd,hQr,hQn,c58_0,↓YA,YB,YC,YE,YF,YZ,sevalprocAttr,f69,f68,f55,f54,f1',f3',f4,f5,f7,f10,f13,f14,f15,List.map_nil,List.length_nil,d1]))<;>(try (have hd_:True:=hd;clear hd_ hd)))
     rw [← hsn] at hV3 hout
     exact ⟨out,rfl,hV3.mono (AHeap.Ext.refl S3).bump,gtc,hout,by omega⟩
    ·rw [if_neg hz] at hlj hsn
     have hcs:cellsD g c1 (grs key (j+1) part)=((g (cellsD g c1 (grs key j part)).1 (j:Int) (part.filter fun i=>decide (key i=(j:Int)))).1,(cellsD g c1 (grs key j part)).2++[(g (cellsD g c1 (grs key j part)).1 (j:Int) (part.filter fun i=>decide (key i=(j:Int)))).2]):=by rw [hsn,cellsD_snoc]
     rw [cellsD_snoc] at hlj
     have hpj:=hgj hz
     have d1:decide (((part.filter fun i=>decide (key i=(j:Int))).length:Int) > 0)=true:=by
      have:=List.length_pos_iff.2 hz
      simp only [decide_eq_true_eq];omega
     rw [← hout] at hcs
     clear hout hsn hgj hz htl'
     generalize part.filter (fun i=>decide (key i=(j:Int)))=fl at hpj d1 hcs hlj hunj hflen
     generalize (cellsD g c1 (grs key j part)).1=c2 at hcs hlj hV3 hcok g7
     have hCj:=fun G=>hC t3 u3 .no c2 (j:Int) fl G hcok hpj hlj
     generalize g c2 (j:Int) fl=r at hcs hCj
     have c3':∀ c,(eCel c).length=12:=fun _=>rfl
     have c4':∀ c,(eCel c).take 12=eCel c:=fun _=>rfl
     have c5':∀ c,(eCel c).drop 12=[]:=fun _=>rfl
     have la:allLen 12 (rC out)=true:=allLen_map (f:=eCel) (fun _=>rfl) out
     have lb:allLen 12 [eCel r.2]=true:=rfl
     have hn1:out.length+1≤maxLen:=by unfold maxLen;omega
     have hn2:(out.length+1) * 96≤140737488355328:=by omega
     ((have hd:=trivial;repeat' (first|((first|apply GdK_st|apply GdK_sf|apply CondK_s)<;>intro hd<;>(try simp only [hd]))|simp (disch:=first|assumption|omega|(simp only [nx]<;>omega)|fail) only [hd,hQr,hQn,c58_0,↓YA,YB,YC,YE,YF,YZ,sevalprocAttr,f69,f68,f55,f54,f1',f3',f4,f5,f7,f10,f13,f14,f15,g5,f0,f3]))<;>(try (have hd_:True:=hd;clear hd_ hd)))
     (refine CallK.use (hunj _) ?_;rintro _ _ ⟨rfl,k1,rfl⟩)
     ((have hd:=trivial;repeat' (first|((first|apply GdK_st|apply GdK_sf|apply CondK_s)<;>intro hd<;>(try simp only [hd]))|simp (disch:=first|assumption|omega|(simp only [nx]<;>omega)|fail) only [hd,hQr,hQn,c58_0,↓YA,YB,YC,YE,YF,YZ,sevalprocAttr,f69,f68,f55,f54,f1',f3',f4,f5,f7,f10,f13,f14,f15,g5,g7,f0,f3,e3,e4,List.length_map,d1]))<;>(try (have hd_:True:=hd;clear hd_ hd)))
     (refine CallK.use (hCj _) ?_;rintro _ _ ⟨rfl,k2,rfl⟩)
     ((have hd:=trivial;repeat' (first|((first|apply GdK_st|apply GdK_sf|apply CondK_s)<;>intro hd<;>(try simp only [hd]))|simp (disch:=first|assumption|omega|(simp only [nx]<;>omega)|fail) only [hd,hQr,hQn,c58_0,↓YA,YB,YC,YE,YF,YZ,sevalprocAttr,f69,f68,f55,f54,f1',f3',f4,f5,f7,f10,f13,f14,f15,g7,gtc,e3,e4,e6,c3',c4',c5',la,lb,hn1,hn2,List.length_map]))<;>(try (have hd_:True:=hd;clear hd_ hd)))
     refine ⟨out++[r.2],by simp,?_,?_,?_,by simp;omega⟩
     ·rw [hcs]
      exact ((((hV3.mono ((AHeap.Ext.refl S3).bump.bump.alloc.alloc)).set (by omega) _).set (by omega) _).cube _ _ _).set ls2 _
     ·rw [List.length_append];rfl
     ·rw [hcs]
   ·rintro F3 S3 ⟨f69,f68,f55,f54,f1',f3',f4,f5,f7,f10,f13,f14,out,f15,hV3,gtc,hout,hol⟩
    have g13:=hV3.g13
    have gt:=hV3.gt
    have l13':=AHeap.lt g13
    have lgt:=AHeap.lt gt
    unfold eNodT at g13
    have la1:allLen 1 (rLt ts)=true:=allLen_map (f:=fun p:Tok×List Cel=>[AV.sl p.1 (rC p.2)]) (fun _=>rfl) ts
    have la2:allLen 1 [[AV.sl (Tok.own S2.next) (rC out)]]=true:=rfl
    have lm1:ts.length+1≤maxLen:=by unfold maxLen;omega
    have lm2:(ts.length+1) * 24≤140737488355328:=by omega
    ((have hd:=trivial;repeat' (first|((first|apply GdK_st|apply GdK_sf|apply CondK_s)<;>intro hd<;>(try simp only [hd]))|simp (disch:=first|assumption|omega|(simp only [nx]<;>omega)|fail) only [hd,hQr,hQn,c58_0,↓YA,YB,YC,YE,YF,YZ,sevalprocAttr,f69,f68,f55,f54,f1',f3',f4,f5,f7,f10,f13,f14,f15,g13,gt,la1,la2,lm1,lm2,List.length_map,rowsIn,rowsOf]))<;>(try (have hd_:True:=hd;clear hd_ hd)))
    refine ⟨ts++[(.own S2.next,out)],?_,?_,by simp [htl2]⟩
    ·rw [hst]
     exact hV3.list _ _
    ·rw [hst,List.map_append,← hout];rfl
  ·rintro F2 S2 ⟨f55,f54,f1',f3',f4,f5,f7,f10,f13,ts,hV,hts,htl2⟩
   have hTG:GS.take TS.length=GS:=List.take_of_length_le (by omega)
   rw [hTG] at hV hts
   have hok:=hTk GS.length
   rw [List.take_length] at hok
   obtain ⟨t3,u3,g7⟩:=hV.g7
   have g5:=hV.g5
   have g13:=hV.g13
   have lg13:=AHeap.lt g13
   have hCa:=fun G=>hC t3 u3 v (tiersD g c GS).1 0 part G hok hp hlimA
   have hokA:=(hgc (tiersD g c GS).1 0 part hp).2 hok
   rw [← hts] at hQr hQn hlV
   clear hlimC hTk hno
   generalize hUU:(tiersD g c GS).1=U at *
   generalize hAA:g U 0 part=A at *
   obtain ⟨⟨AN,AP,Ao⟩,Ac⟩:=A
   have hlA:AN.length=AP.length:=hokA.1
   have hlN:AN.length≤1000000000000:=hlimA
   have c3':∀ c,(eCel c).length=12:=fun _=>rfl
   have c4':∀ c,(eCel c).take 12=eCel c:=fun _=>rfl
   have c5':∀ c,(eCel c).drop 12=[]:=fun _=>rfl
   have yd:(eCel cel0).drop 12=[]:=rfl
   have o1:=hV.o1
   have o2:=hV.o2
   have o3:=hV.o3
   have o4:=hV.o4
   have o5:=hV.o5
   have hxV:=hV.ext
   have g10:=hV.g10
   have lg10':=AHeap.lt g10
   have lg7':=AHeap.lt g7
   unfold eNodT at g13
   unfold visT at hQr hQn
   simp only at hQr hQn
   ((have hd:=trivial;repeat' (first|((first|apply GdK_st|apply GdK_sf|apply CondK_s)<;>intro hd<;>(try simp only [hd]))|simp (disch:=first|assumption|omega|(simp only [nx]<;>omega)|fail) only [hd,hQr,hQn,c58_0,↓YA,YB,YC,YE,YF,YZ,sevalprocAttr,f55,f54,f1',f3',f4,f5,f7,f10,f13,g5,g7,g13,f0,f3,e3,e4,e6]))<;>(try (have hd_:True:=hd;clear hd_ hd)))
   (refine CallK.use (hCa _) ?_;rintro _ _ ⟨rfl,k1,rfl⟩)
   have aN:=allLen_rN AN
   have aP:allLen 1 (rPs AP)=true:=allLen_map (f:=fun p:List Nat=>[AV.sl .no (rP p)]) (fun _=>rfl) AP
   have aE:allLen 14 [AV.i d :: .sl (.own G1.next) (rLt ts) :: eCel Ac]=true:=rfl
   have aQ:allLen 1 [[AV.sl v (rP part)]]=true:=rfl
   have m1:AN.length≤maxLen:=by unfold maxLen;omega
   have m2:AN.length * 128≤140737488355328:=by omega
   have m3:AN.length+1≤maxLen:=by unfold maxLen;omega
   have m4:(AN.length+1) * 128≤140737488355328:=by omega
   have m5:AN.length * 24≤140737488355328:=by omega
   have m6:(AN.length+1) * 24≤140737488355328:=by omega
   have wL:IntKind.i64.wrap (((AN.length+1:Nat):Int) - 1)=(AN.length:Int):=by rw [wrap_of (by omega) (by omega)];omega
   have aZ:allLen 14 []=true:=rfl
   have aZ2:allLen 1 []=true:=rfl
   have hNc:(AN=[]∧AP=[])∨∃ r0 rs q0 qs,rN AN=r0 :: rs∧rPs AP=q0 :: qs:=by
    cases hn1:AN with
    | nil=>exact .inl ⟨rfl,List.length_eq_zero_iff.1 (by rw [← hlA,hn1];rfl)⟩
    | cons a r =>
     cases hp1:AP with
     | nil=>rw [hn1,hp1] at hlA;simp at hlA
     | cons b q=>exact .inr ⟨_,_,_,_,rfl,rfl⟩
   rcases hNc with ⟨hN0,hP0⟩|⟨r0,rs,q0',qs,hrN,hrP⟩
   ·subst hN0 hP0
    have lz1:(0:Nat)≤maxLen:=Nat.zero_le _
    have lz2:(1:Nat)≤maxLen:=by decide
    have w0:IntKind.i64.wrap (((1:Nat):Int) - 1)=0:=by decide
    ((have hd:=trivial;repeat' (first|((first|apply GdK_st|apply GdK_sf|apply CondK_s)<;>intro hd<;>(try simp only [hd]))|simp (disch:=first|assumption|omega|(simp only [nx]<;>omega)|fail) only [hd,hQr,hQn,c58_0,↓YA,YB,YC,YE,YF,YZ,sevalprocAttr,f55,f54,f1',f3',f4,f5,f7,f10,f13,g5,g7,g10,g13,e6,c3',c4',c5',yd,eCubeD,aZ,aZ2,aE,aQ,lz1,lz2,w0,List.length_nil,List.length_cons,List.map_nil,List.append_nil]))<;>(try (have hd_:True:=hd;clear hd_ hd)))
    exact fin_wkn (wkn_resD _ _ _ _ [] [] _ _ _ _ _ _)
   ·have hr1':rs.length+1=AN.length:=by have:=congrArg List.length hrN;simpa using this.symm
    have hq1':qs.length+1=AN.length:=by have:=congrArg List.length hrP;rw [hlA];simpa using this.symm
    have hwl:∀ y:List AV,(rs++[y]).length+1=AN.length+1:=fun y=>by rw [List.length_append];simp only [List.length_cons,List.length_nil];omega
    rw [hrN] at aN
    rw [hrP] at aP
    ((have hd:=trivial;repeat' (first|((first|apply GdK_st|apply GdK_sf|apply CondK_s)<;>intro hd<;>(try simp only [hd]))|simp (disch:=first|assumption|omega|(simp only [nx]<;>omega)|fail) only [hd,hQr,hQn,c58_0,↓YA,YB,YC,YE,YF,YZ,sevalprocAttr,f55,f54,f1',f3',f4,f5,f7,f10,f13,g5,g7,g10,g13,e6,c3',c4',c5',yd,eCubeD,hrN,hrP,aN,aP,aZ,aZ2,aE,aQ,m1,m2,m3,m4,m5,m6,List.length_cons,List.append_nil,hr1',hq1',hwl,wL]))<;>(try (have hd_:True:=hd;clear hd_ hd)))
    have hw:=wkn_resD (.own (S2.next+k1)) (.own (S2.next+k1+1)) (.own G1.next) v AN AP Ao d AN.length ts Ac part
    rw [hrN,hrP] at hw
    exact fin_wkn hw
theorem rvisit26_sound {S:Sc} {facts:List Fct} (hs:scE S=0) (hr:rowF (shpS S) none facts=0) (hfl:facts.length≤4000) (ha:∀ f ∈ facts,AgIn f.2):∀ (n:Nat),n+1≤S.dims.length→VisK S facts (visD (shpS S) (liftsS S) facts (n+1)) (S.dims.length - (n+1))
 | n,h=>by
  have hF:=facts_ok hs hr hfl ha
  have hLl:(liftsS S).length=S.dims.length:=by unfold liftsS;rw [List.length_map]
  have hd:S.dims.length - (n+1)<S.dims.length:=by omega
  have hD:=(scE_zero hs).2.2.1 _ (List.getElem_mem hd)
  obtain ⟨d1,d2,d3⟩:=dimE_zero hD
  have hsz:(shpS S).sizes.getD (S.dims.length - (n+1)) []=(S.dims[S.dims.length - (n+1)]).tiers.map szT:=by unfold shpS;simp [hd]
  have hv:visD (shpS S) (liftsS S) facts (n+1)=visF (shpS S) (liftsS S) facts (visD (shpS S) (liftsS S) facts n) (S.dims.length - (n+1)):=by
   funext c p
   rw [← hLl];rfl
  rw [hv]
  refine rvisit26_step hF hLl hd (by omega) (fun k hk=>?_) ?_ (fun part hp i hi=>?_) (fun part hp k hk j=>?_) (fun hne=>?_) (fun hne c p hp=>visD_g n c p hp)
  ·unfold tierN
   rw [hsz]
   simp [hk,szT]
  ·unfold liftsS liftsD
   simp [hd]
  ·obtain ⟨k,k1,k2,k3,k4⟩:=key_lift hs hr hd (t:=0) (by omega) (hp.2.2 i hi)
   refine ⟨hp.2.2 i hi,k3,by rw [k2];omega,?_⟩
   unfold kyL
   rw [k2]
   omega
  ·unfold undR
   refine List.filter_congr fun i hi=>?_
   obtain ⟨m,k1,k2,k3,k4⟩:=key_lift hs hr hd hk (hp.2.2 i hi)
   rw [k4]
   unfold kyL
   rw [k2,Int.toNat_natCast]
   rfl
  ·cases n with
   | zero=>omega
   | succ n =>
    have:=rvisit26_sound hs hr hfl ha n (by omega)
    rw [show S.dims.length - (n+1+1)+1=S.dims.length - (n+1) by omega]
    exact this
def lenB:Nat→Nat
 | 0=>0
 | n+1=>801 * lenB n+1
theorem cellsD_len {g:DSt→Int→List Nat→DSt×Cel} {b:Nat} (hg:∀ c k p,(g c k p).1.N.length≤c.N.length+b):∀ (l:List (Int×List Nat)) (c:DSt),(cellsD g c l).1.N.length≤c.N.length+l.length * b
 | [],c=>Nat.le_add_right _ _
 | q :: l,c=>by
  have h1:=cellsD_len hg l (g c q.1 q.2).1
  have h2:=hg c q.1 q.2
  show (cellsD g (g c q.1 q.2).1 l).1.N.length≤_
  simp only [List.length_cons,Nat.add_mul]
  omega
theorem tiersD_len' {g:DSt→Int→List Nat→DSt×Cel} {b:Nat} (hg:∀ c k p,(g c k p).1.N.length≤c.N.length+b):∀ (l:List (List (Int×List Nat))) (c:DSt),(∀ t ∈ l,t.length≤200)→(tiersD g c l).1.N.length≤c.N.length+l.length * (200 * b)
 | [],c,_=>Nat.le_add_right _ _
 | q :: l,c,h=>by
  have h1:=tiersD_len' hg l (cellsD g c q).1 fun t ht=>h t (List.mem_cons_of_mem _ ht)
  have h2:=cellsD_len hg q c
  have h3:q.length * b≤200 * b:=Nat.mul_le_mul_right b (h q List.mem_cons_self)
  show (tiersD g (cellsD g c q).1 l).1.N.length≤_
  simp only [List.length_cons,Nat.add_mul]
  omega
theorem visD_len {x:Shp} {L:List (List (List Int))} {facts:List Fct} (hF:FactsOk x L facts):∀ (n:Nat) (c:DSt) (p:List Nat),n≤L.length→(visD x L facts n c p).1.N.length≤c.N.length+lenB n
 | 0,c,p,_=>Nat.le_add_right _ _
 | n+1,c,p,hn=>by
  have hd:L.length - (n+1)<L.length:=by omega
  have hc:∀ c k p,(cellD facts (visD x L facts n) (decide (L.length - (n+1)+1=L.length)) c k p).1.N.length≤c.N.length+lenB n:=fun c k p=>by
   cases (decide (L.length - (n+1)+1=L.length)) with
   | true=>exact Nat.le_add_right _ _
   | false=>exact visD_len hF n c p (by omega)
  have hg:(groupsB x L facts (L.length - (n+1)) p).length≤4:=by
   unfold groupsB
   have:=(hF.tier _ hd).2.1
   simp [List.getElem?_eq_getElem hd]
   omega
  have hgl:∀ t ∈ groupsB x L facts (L.length - (n+1)) p,t.length≤200:=fun t ht=>by
   unfold groupsB at ht
   obtain ⟨k,_,rfl⟩:=List.mem_map.1 ht
   exact Nat.le_trans (grs_len _ _ _) (hF.size _ k)
  show (visF x L facts (visD x L facts n) (L.length - (n+1)) c p).1.N.length≤_
  have h1:=tiersD_len' hc (groupsB x L facts (L.length - (n+1)) p) c hgl
  have h2:=hc (tiersD (cellD facts (visD x L facts n) (decide (L.length - (n+1)+1=L.length))) c (groupsB x L facts (L.length - (n+1)) p)).1 0 p
  have h3:(groupsB x L facts (L.length - (n+1)) p).length * (200 * lenB n)≤4 * (200 * lenB n):=Nat.mul_le_mul_right _ hg
  unfold visF visM
  have e:lenB (n+1)=801 * lenB n+1:=rfl
  split
  ·show c.N.length≤_;omega
  ·show (_++[_]).length≤_
   rw [List.length_append,List.length_singleton]
   omega
theorem docD_len {S:Sc} {facts:List Fct} (hF:FactsOk (shpS S) (liftsS S) facts) (h5:(liftsS S).length≤5):(docD S facts).N.length≤limD:=by
 unfold docD
 split
 ·exact Nat.zero_le _
 ·have h1:=visD_len hF (liftsS S).length ⟨[],[],false⟩ (List.range facts.length) (Nat.le_refl _)
  have hm:∀ n,n≤5→lenB n≤lenB 5:=fun n hn=>by
   match n,hn with
   | 0,_=>decide
   | 1,_=>decide
   | 2,_=>decide
   | 3,_=>decide
   | 4,_=>decide
   | 5,_=>exact Nat.le_refl _
  have h2:=hm _ h5
  have h3:lenB 5≤limD:=by decide
  simp only [List.length_nil,Nat.zero_add] at h1
  exact Nat.le_trans h1 (Nat.le_trans h2 h3)
set_option maxHeartbeats 2000000 in
theorem rbuild26_sound {S:Sc} {facts:List Fct} (w:Tok) (H:AHeap) (hs:scE S=0) (hr:rowF (shpS S) none facts=0) (hfl:facts.length≤4000) (ha:∀ f ∈ facts,AgIn f.2) (hl:(docD S facts).N.length≤limD) :
  Sound Tryz.prog 16 [.agg (eSc S),.sl w (rF facts)] H (Pure H (.agg (eCubeD .no .no (docD S facts)))):=by
 obtain ⟨f0,f1,f2,f3⟩:=eSc_facts S
 have hLl:(liftsS S).length=S.dims.length:=by unfold liftsS;rw [List.length_map]
 have hs1:=(scE_zero hs).1
 by_cases h0:facts=[]
 ·have hd:docD S facts=⟨[],[],false⟩:=by unfold docD;rw [if_pos h0]
  rw [hd]
  subst h0
  have d00:(((0:Nat):Int) == 0)=true:=rfl
  refine fn_soundQ hE cf16 (Nat.le_of_ble_eq_true rfl) fun Q hQr hQn=>?_
  ((have hd:=trivial;repeat' (first|((first|apply GdK_st|apply GdK_sf|apply CondK_s)<;>intro hd<;>(try simp only [hd]))|simp (disch:=first|assumption|omega|(simp only [nx]<;>omega)|fail) only [hd,hQr,hQn,c16_0,↓YA,YB,YC,YE,YF,YZ,sevalprocAttr,f0,f3,d00,List.length_nil,List.map_nil]))<;>(try (have hd_:True:=hd;clear hd_ hd)))
  exact fin_wkn (v:=.agg (eCubeD .no .no ⟨[],[],false⟩)) (.agg _ _ rfl fun i a b h1 h2=>by
   unfold eCubeD at h2
   match i with
   | 0=>simp only [List.getElem?_cons_zero,Option.some.injEq] at h1 h2;subst h1 h2;exact wkn_sl _ []
   | 1=>simp only [List.getElem?_cons_zero,List.getElem?_cons_succ,Option.some.injEq] at h1 h2;subst h1 h2;exact wkn_sl _ []
   | 2=>simp only [List.getElem?_cons_zero,List.getElem?_cons_succ,Option.some.injEq] at h1 h2;subst h1 h2;exact .refl _
   | i+3=>simp at h1)
 ·have hd:docD S facts=(visD (shpS S) (liftsS S) facts S.dims.length ⟨[],[],false⟩ (List.range facts.length)).1:=by unfold docD;rw [if_neg h0,hLl]
  rw [hd] at hl ⊢
  have hv:=rvisit26_sound hs hr hfl ha (S.dims.length - 1) (by omega)
  rw [show S.dims.length - 1+1=S.dims.length by omega,Nat.sub_self] at hv
  have hpo:PartOk facts (List.range facts.length):=⟨by simp;exact h0,by simp,fun i hi=>by simpa using hi⟩
  have hV:=fun (v:Tok) G=>hv .full .full v w ⟨[],[],false⟩ (List.range facts.length) G ⟨rfl,fun p hp=>by cases hp⟩ hpo hl
  have hc0:∀ c:DSt,(eCubeD .no .no c).length=3∧(eCubeD .no .no c).take 3=eCubeD .no .no c∧(eCubeD .no .no c).drop 3=[]:=fun _=>⟨rfl,rfl,rfl⟩
  have e3:=fun c=>(hc0 c).1
  have e4:=fun c=>(hc0 c).2.1
  have e6:=fun c=>(hc0 c).2.2
  have d0:((facts.length:Int) == 0)=false:=by
   have:facts.length≠0:=fun h=>h0 (List.eq_nil_of_length_eq_zero h)
   simp only [beq_eq_false_iff_ne];omega
  generalize visD (shpS S) (liftsS S) facts S.dims.length ⟨[],[],false⟩ (List.range facts.length)=r at *
  have hx0:AHeap.Ext H ((H.alloc (.cells (eSc S) 25)).alloc (.cells [.sl .full [],.sl .full [],.b false] 41)):=by exact AXT
  have g2:((H.alloc (.cells (eSc S) 25)).alloc (.cells [.sl .full [],.sl .full [],.b false] 41)).get H.next=some (.cells (eSc S) 25):=by
   rw [AHeap.get_alloc_ne (by simp only [nx];omega)];exact AHeap.get_alloc_self
  have g4:((H.alloc (.cells (eSc S) 25)).alloc (.cells [.sl .full [],.sl .full [],.b false] 41)).get (H.next+1)=some (.cells [.sl .full [],.sl .full [],.b false] 41):=AHeap.get_alloc_self (H:=H.alloc _)
  refine fn_soundQ hE cf16 (Nat.le_of_ble_eq_true rfl) fun Q hQr hQn=>?_
  ((have hd:=trivial;repeat' (first|((first|apply GdK_st|apply GdK_sf|apply CondK_s)<;>intro hd<;>(try simp only [hd]))|simp (disch:=first|assumption|omega|(simp only [nx]<;>omega)|fail) only [hd,hQr,hQn,c16_0,↓YA,YB,YC,YE,YF,YZ,sevalprocAttr,f0,f3,d0,List.length_map]))<;>(try (have hd_:True:=hd;clear hd_ hd)))
  generalize ((H.alloc (.cells (eSc S) 25)).alloc (.cells [.sl .full [],.sl .full [],.b false] 41))=G0 at *
  have l2:=AHeap.lt g2
  have l4:=AHeap.lt g4
  refine AW_for [1,2,4,14] (σ:=Unit) (fun (k:Nat) s=>True) (fun k s=>[(5,.sl (.own G0.next) (rP (List.range k)))]) (fun k s=>[(G0.next,.tok k 3 1)]) () (GStep.tok 5 3 1 rfl) (by simp only [keep_nil,keep_cons,Fr.put,Fr.get,↓reduceIte,Nat.reduceEqDiff];rfl) (by intro k s;rfl) (by intro k s;rfl) (by rfl) (by unfold maxLen;omega) ?_ (by simp only [FrL_nil,FrL_cons,Fr.put,Fr.get,↓reduceIte,Nat.reduceEqDiff,and_self]<;>simp) ?_ ?_ ?_
  ·trivial
  ·rw [ObjL_cons]
   exact ⟨AHeap.get_alloc_self (H:=G0),by simp [ObjL]⟩
  ·(rintro k s G hk ht1 hG hn;try simp only [nx] at hn)
   have ho:=hG.o1
   have lo:=AHeap.lt ho
   have la1:allLen 1 (rP (List.range k))=true:=allLen_map (f:=fun i:Nat=>[AV.i (i:Int)]) (fun _=>rfl) _
   have la2:allLen 1 [[AV.i (k:Int)]]=true:=rfl
   have lm1:k+1≤maxLen:=by unfold maxLen;omega
   have lm2:(k+1) * 8≤140737488355328:=by omega
   have hrl:(rP (List.range k)).length=k:=by simp
   have hrs:rP (List.range k)++[[AV.i (k:Int)]]=rP (List.range (k+1)):=by rw [List.range_succ];simp
   ((have hd:=trivial;repeat' (first|((first|apply GdK_st|apply GdK_sf|apply CondK_s)<;>intro hd<;>(try simp only [hd]))|simp (disch:=first|assumption|omega|(simp only [nx]<;>omega)|fail) only [hd,hQr,hQn,c16_0,↓YA,YB,YC,YE,YF,YZ,sevalprocAttr,ho,la1,la2,lm1,lm2,hrl,hrs,rowsIn,rowsOf,List.length_map]))<;>(try (have hd_:True:=hd;clear hd_ hd)))
   exact ⟨(),hG.put⟩
  ·(rintro s G ht1 hG hn;try simp only [nx] at hn)
   have hxG:AHeap.Ext H G:=hG.extO hx0.alloc (by simp;omega)
   have g2:=(hG.g _ (by simp only [nx];omega) (by simp;omega)).trans ((AHeap.get_alloc_ne (by omega)).trans g2)
   have g4:=(hG.g _ (by simp only [nx];omega) (by simp;omega)).trans ((AHeap.get_alloc_ne (by omega)).trans g4)
   have l2:=AHeap.lt g2
   have l4:=AHeap.lt g4
   have hV5:=hV (.own G0.next)
   ((have hd:=trivial;repeat' (first|((first|apply GdK_st|apply GdK_sf|apply CondK_s)<;>intro hd<;>(try simp only [hd]))|simp (disch:=first|assumption|omega|(simp only [nx]<;>omega)|fail) only [hd,hQr,hQn,c16_0,↓YA,YB,YC,YE,YF,YZ,sevalprocAttr,g2,g4,f0,f3]))<;>(try (have hd_:True:=hd;clear hd_ hd)))
   refine CallK.use (hV5 _) ?_
   rintro _ _ ⟨rfl,k1,rfl⟩
   ((have hd:=trivial;repeat' (first|((first|apply GdK_st|apply GdK_sf|apply CondK_s)<;>intro hd<;>(try simp only [hd]))|simp (disch:=first|assumption|omega|(simp only [nx]<;>omega)|fail) only [hd,hQr,hQn,c16_0,↓YA,YB,YC,YE,YF,YZ,sevalprocAttr,g2,g4,e3,e4,e6]))<;>(try (have hd_:True:=hd;clear hd_ hd)))
   refine fin_pA (by rfl)
end Go.Proofs.YtaapiigfmdhobaaGreat
