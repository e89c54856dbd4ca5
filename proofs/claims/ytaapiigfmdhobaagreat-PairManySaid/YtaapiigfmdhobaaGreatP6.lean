/- Texts of the walk. -/
import Derived.Test.YtaapiigfmdhobaaGreatP3
import Derived.Test.YtaapiigfmdhobaaGreatMw
import Derived.Test.YtaapiigfmdhobaaGreatMf
import Derived.Test.YtaapiigfmdhobaaGreatMi
namespace Go.Proofs.YtaapiigfmdhobaaGreat
set_option linter.defProp false
set_option linter.unusedSimpArgs false
set_option linter.unusedVariables false
open Go.RowKit
def jt (a b:Ag):Ag:=if a.n=0 then b else if b.n=0 then a else Zem a b 3
def Gd (a:Ag):Prop:=a=ag0\/1<=a.n
theorem gd0:Gd ag0:=.inl rfl
theorem jt_l (b:Ag):jt ag0 b=b:=if_pos rfl
theorem Gd.z {a:Ag} (h:Gd a) (hz:a.n=0):a=ag0:=h.elim id fun h=>by omega
theorem jt_r {a:Ag} (h:Gd a):jt a ag0=a:=by
 unfold jt
 by_cases c:a.n=0
 ·rw[if_pos c,h.z c]
 ·rw[if_neg c];exact if_pos rfl
theorem ZnW (a b:Ag):Zem a b 3=⟨a.n+b.n,a.s0+b.s0,if b.l0<a.l0 then b.l0 else a.l0,if b.h0 > a.h0 then b.h0 else a.h0,a.s1+b.s1,if b.l1<a.l1 then b.l1 else a.l1,if b.h1 > a.h1 then b.h1 else a.h1,a.s2+b.s2,if b.l2<a.l2 then b.l2 else a.l2,if b.h2 > a.h2 then b.h2 else a.h2⟩:=by
 unfold Zem
 simp only[show(0:Nat)<3 from by decide,show(1:Nat)<3 from by decide,show(2:Nat)<3 from by decide,if_true]
theorem ZoD (a b:Int):(if b<a then b else a)=(if a<b then a else b):=by split<;>split<;>omega
theorem ZoA (a b:Int):(if b > a then b else a)=(if a > b then a else b):=by split<;>split<;>omega
theorem Zoe (a b c:Int):(if c<(if b<a then b else a) then c else (if b<a then b else a))=(if (if c<b then c else b)<a then (if c<b then c else b) else a):=by
 repeat' split
 all_goals omega
theorem Zoh (a b c:Int):(if c > (if b > a then b else a) then c else (if b > a then b else a))=(if (if c > b then c else b) > a then (if c > b then c else b) else a):=by
 repeat' split
 all_goals omega
theorem ZqZ {a b:Ag} (ha:Gd a) (hb:Gd b):Gd (jt a b):=by
 unfold jt
 split
 ·exact hb
 ·rename_i h1
  split
  ·exact ha
  ·rename_i h2
   right
   rw[ZnW]
   rcases ha with rfl|ha
   ·exact absurd rfl h1
   ·rcases hb with rfl|hb
    ·exact absurd rfl h2
    ·simp only;omega
theorem ZqU {a b:Ag} (ha:Gd a) (hb:Gd b):jt a b=jt b a:=by
 by_cases h1:a.n=0
 ·rw[ha.z h1,jt_l,jt_r hb]
 ·by_cases h2:b.n=0
  ·rw[hb.z h2,jt_l,jt_r ha]
  ·unfold jt
   rw[if_neg h1,if_neg h2,if_neg h2,if_neg h1,ZnW,ZnW]
   simp only[Ag.mk.injEq]
   exact⟨Int.add_comm _ _,Int.add_comm _ _,ZoD _ _,ZoA _ _,Int.add_comm _ _,ZoD _ _,ZoA _ _,Int.add_comm _ _,ZoD _ _,ZoA _ _⟩
theorem Znl {a b c:Ag} (ha:Gd a) (hb:Gd b) (hc:Gd c):jt (jt a b) c=jt a (jt b c):=by
 by_cases h1:a.n=0
 ·rw[ha.z h1,jt_l,jt_l]
 ·by_cases h2:b.n=0
  ·rw[hb.z h2,jt_l,jt_r ha]
  ·by_cases h3:c.n=0
   ·rw[hc.z h3,jt_r hb,jt_r (ZqZ ha hb)]
   ·have e1:jt a b=Zem a b 3:=by unfold jt;rw[if_neg h1,if_neg h2]
    have e2:jt b c=Zem b c 3:=by unfold jt;rw[if_neg h2,if_neg h3]
    have a1:1<=a.n:=ha.elim (fun h=>absurd (h ▸ rfl) h1) id
    have b1:1<=b.n:=hb.elim (fun h=>absurd (h ▸ rfl) h2) id
    have c1:1<=c.n:=hc.elim (fun h=>absurd (h ▸ rfl) h3) id
    rw[e1,e2]
    unfold jt
    rw[if_neg (by rw[ZnW];simp only;omega),if_neg h3,if_neg h1,if_neg (by rw[ZnW];simp only;omega)]
    rw[ZnW,ZnW,ZnW,ZnW]
    simp only[Ag.mk.injEq]
    exact⟨zcN _ _ _,zcN _ _ _,Zoe _ _ _,Zoh _ _ _,zcN _ _ _,Zoe _ _ _,Zoh _ _ _,zcN _ _ _,Zoe _ _ _,Zoh _ _ _⟩
theorem Zon {j k:Nat} {a b:Ag} (ha:WAg j a) (hb:WAg k b) (hjk:j+k<=2000):Zdl a b=some (jt a b):=by
 obtain⟨c,hc,_⟩:=Zkv ha hb hjk
 rw[hc]
 unfold Zdl at hc
 unfold jt
 split at hc
 ·rename_i h;rw[if_pos h];exact hc.symm
 rename_i h1
 rw[if_neg h1]
 split at hc
 ·rename_i h;rw[if_pos h];exact hc.symm
 rename_i h2
 rw[if_neg h2]
 split at hc
 ·cases hc
 split at hc
 ·cases hc
 split at hc
 ·cases hc
 split at hc
 ·cases hc
 exact hc.symm
def sumJ (l:List Ag):Ag:=l.foldr jt ag0
theorem ZpA:∀{l:List Ag},(∀a∈l,Gd a)->Gd (sumJ l)
 | [],_=>gd0
 | a :: l,h=>ZqZ (h a zae) (ZpA fun b hb=>h b (zad _ hb))
def keyV (L:List (List (List Int))) (k:List Int) (d t:Nat):Int:=((L.getD d []).getD t []).getD (k.getD d 0).toNat 0
def Znq (L:List (List (List Int))):Nat->List (Int×Int)->List Int->Bool
 | _,[],_=>true
 | d,q :: w,k=>(decide (q.1<0) || (keyV L k d q.1.toNat == q.2))&&Znq L (d+1) w k
theorem Zob (L:List (List (List Int))) (facts:List Fct) (i:Nat):∀(w:List (Int×Int)) (d:Nat),Za9 L facts d w i=Znq L d w (facts.getD i ([],ag0)).1
 | [],_=>rfl
 | q :: w,d=>by rw[Za9,Znq,Zob L facts i w (d+1)];rfl
theorem ZqS {α:Type} (l:List α) (a:α):(List.range l.length).map (fun i=>l.getD i a)=l:=by
 refine List.ext_getElem (by simp) fun i h1 h2=>?_
 rw[zbU,List.getElem_range,zah,zaa h2];rfl
theorem Zqm (S:Sc) (facts:List Fct) (w:List (Int×Int)):(ptW S facts w).map (fun i=>facts.getD i ([],ag0))=facts.filter fun f=>Znq (Zan S) 0 w f.1:=by
 conv=>rhs;rw[<- ZqS facts ([],ag0),List.filter_map]
 unfold ptW
 congr 1
 refine zb4 fun i _=>?_
 exact Zob _ _ _ _ _
theorem Zpy (S:Sc) (facts:List Fct) (w w':List (Int×Int)):ptW S facts w=ptW S facts w' ↔ ∀f∈facts,Znq (Zan S) 0 w f.1=Znq (Zan S) 0 w' f.1:=by
 constructor
 ·intro h f hf
  obtain⟨i,hi,rfl⟩:=zay hf
  have hg:facts.getD i ([],ag0)=facts[i]:=by rw[zah,zaa hi];rfl
  have h1:=Zob (Zan S) facts i w 0
  have h2:=Zob (Zan S) facts i w' 0
  rw[hg]at h1 h2
  rw[<- h1,<- h2,za8]
  have hm:i∈ptW S facts w ↔ i∈ptW S facts w':=by rw[h]
  unfold ptW at hm
  simp only[za7,zbD]at hm
  exact⟨fun q=>(hm.1 ⟨hi,q⟩).2,fun q=>(hm.2 ⟨hi,q⟩).2⟩
 ·intro h
  unfold ptW
  refine zb4 fun i hi=>?_
  have hi:i<facts.length:=by simpa using hi
  have hg:facts.getD i ([],ag0)=facts[i]:=by rw[zah,zaa hi];rfl
  rw[Zob,Zob,hg]
  exact h _ (zaq hi)
theorem ZpC (S:Sc) (facts:List Fct) (w:List (Int×Int)):ptW S facts w=[] ↔ ∀f∈facts,Znq (Zan S) 0 w f.1=false:=by
 have h:=Zqm S facts w
 constructor
 ·intro he f hf
  rw[he,zaS]at h
  have:=zcr.1 h.symm f hf
  simpa using this
 ·intro hf
  rw[zcr.2 fun f hm=>by rw[hf f hm];decide]at h
  exact List.map_eq_nil_iff.1 h
def Zng:Nat->List Fct->List Fct->List Fct
 | 0,_,_=>[]
 | _+1,[],m=>m
 | _+1,f :: l,[]=>f :: l
 | n+1,f :: l,g :: m=>if f.1<g.1 then f :: Zng n l (g :: m) else if g.1<f.1 then g :: Zng n (f :: l) m else (f.1,jt f.2 g.2) :: Zng n l m
theorem Zpp {f g:List Int} (h1:¬f<g) (h2:¬g<f):f=g:=by
 rcases zcH.mp (List.not_lt.mp h1)with h|h
 ·exact absurd h h2
 ·exact h.symm
theorem ZpH {P:Fct->Prop} {a:Fct} {l:List Fct}:(∃f∈a :: l,P f) ↔ P a\/∃f∈l,P f:=by
 constructor
 ·rintro⟨f,hf,h⟩
  rcases zal.1 hf with rfl|hf
  ·exact .inl h
  ·exact .inr ⟨f,hf,h⟩
 ·rintro(h|⟨f,hf,h⟩)
  ·exact⟨a,zae,h⟩
  ·exact⟨f,zad _ hf,h⟩
theorem ZnN:∀(n:Nat) (l m:List Fct),l.length+m.length<=n->∀k:List Int,(∃f∈Zng n l m,f.1=k) ↔ (∃f∈l,f.1=k)\/(∃f∈m,f.1=k)
 | 0,[],[],_,k=>by simp[Zng]
 | 0,f :: l,m,h,k=>by simp at h
 | 0,[],g :: m,h,k=>by simp at h
 | n+1,[],m,_,k=>by simp[Zng]
 | n+1,f :: l,[],_,k=>by simp[Zng]
 | n+1,f :: l,g :: m,h,k=>by
  simp only[List.length_cons]at h
  rw[Zng]
  split
  ·have ih:=ZnN n l (g :: m) (by simp only[List.length_cons];omega) k
   simp only[ZpH]at ih ⊢
   rw[ih]
   constructor
   ·rintro(h|h|h)
    ·exact .inl (.inl h)
    ·exact .inl (.inr h)
    ·exact .inr h
   ·rintro((h|h)|h)
    ·exact .inl h
    ·exact .inr (.inl h)
    ·exact .inr (.inr h)
  ·split
   ·have ih:=ZnN n (f :: l) m (by simp only[List.length_cons];omega) k
    simp only[ZpH]at ih ⊢
    rw[ih]
    constructor
    ·rintro(h|h|h)
     ·exact .inr (.inl h)
     ·exact .inl h
     ·exact .inr (.inr h)
    ·rintro(h|h|h)
     ·exact .inr (.inl h)
     ·exact .inl h
     ·exact .inr (.inr h)
   ·rename_i h1 h2
    have he:=Zpp h1 h2
    have ih:=ZnN n l m (by omega) k
    simp only[ZpH]at ih ⊢
    rw[ih,he]
    constructor
    ·rintro(h|h|h)
     ·exact .inl (.inl h)
     ·exact .inl (.inr h)
     ·exact .inr (.inr h)
    ·rintro((h|h)|h|h)
     ·exact .inl h
     ·exact .inr (.inl h)
     ·exact .inl h
     ·exact .inr (.inr h)
theorem Znn {P:Fct->Prop}:∀(n:Nat) (l m:List Fct),(∀f∈l,P f)->(∀f∈m,P f)->(∀f∈l,∀g∈m,f.1=g.1->P (f.1,jt f.2 g.2))->∀f∈Zng n l m,P f
 | 0,_,_,_,_,_,f,hf=>by simp[Zng]at hf
 | _+1,[],m,_,hm,_,f,hf=>hm f hf
 | _+1,f' :: l,[],hl,_,_,f,hf=>hl f hf
 | n+1,a :: l,g :: m,hl,hm,hj,f,hf=>by
  have hl':=fun f hf=>hl f (zad _ hf)
  have hm':=fun f hf=>hm f (zad _ hf)
  rw[Zng]at hf
  split at hf
  ·rcases zal.1 hf with rfl|hf
   ·exact hl _ zae
   ·exact Znn n l (g :: m) hl' hm (fun f hf=>hj f (zad _ hf)) f hf
  ·split at hf
   ·rcases zal.1 hf with rfl|hf
    ·exact hm _ zae
    ·exact Znn n (a :: l) m hl hm' (fun f hf g hg=>hj f hf g (zad _ hg)) f hf
   ·rename_i h1 h2
    rcases zal.1 hf with rfl|hf
    ·exact hj _ zae _ zae (Zpp h1 h2)
    ·exact Znn n l m hl' hm' (fun f hf g hg=>hj f (zad _ hf) g (zad _ hg)) f hf
def Zqk (p:List Int->Bool) (l:List Fct):Ag:=sumJ ((l.filter fun f=>p f.1).map (·.2))
theorem Zni (p:List Int->Bool) (f:Fct) (l:List Fct):Zqk p (f :: l)=if p f.1=true then jt f.2 (Zqk p l) else Zqk p l:=by
 unfold Zqk
 rw[List.filter_cons]
 split
 ·rw[zas];rfl
 ·rfl
theorem ZnU {p:List Int->Bool} {l:List Fct} (h:∀f∈l,Gd f.2):Gd (Zqk p l):=ZpA fun a ha=>by
 obtain⟨f,hf,rfl⟩:=zat.1 ha
 exact h f (za7.1 hf).1
theorem Zor (p:List Int->Bool):∀(n:Nat) (l m:List Fct),l.length+m.length<=n->(∀f∈l,Gd f.2)->(∀f∈m,Gd f.2)->Zqk p (Zng n l m)=jt (Zqk p l) (Zqk p m)
 | 0,[],[],_,_,_=>(jt_l _).symm
 | 0,f :: l,m,h,_,_=>by simp at h
 | 0,[],g :: m,h,_,_=>by simp at h
 | n+1,[],m,_,_,_=>(jt_l _).symm
 | n+1,f :: l,[],_,hl,_=>(jt_r (ZnU hl)).symm
 | n+1,f :: l,g :: m,h,hl,hm=>by
  simp only[List.length_cons]at h
  have hl':=fun f hf=>hl f (zad _ hf)
  have hm':=fun f hf=>hm f (zad _ hf)
  have gf:=hl f zae
  have gg:=hm g zae
  have sl:=ZnU (p:=p) hl'
  have sm:=ZnU (p:=p) hm'
  rw[Zng]
  split
  ·rw[Zni,Zor p n l (g :: m) (by simp only[List.length_cons];omega) hl' hm,Zni p f l]
   split
   ·exact(Znl gf sl (ZnU hm)).symm
   ·rfl
  ·split
   ·rw[Zni,Zor p n (f :: l) m (by simp only[List.length_cons];omega) hl hm',Zni p g m]
    split
    ·rw[<- Znl gg (ZnU hl) sm,ZqU gg (ZnU hl),Znl (ZnU hl) gg sm]
    ·rfl
   ·rename_i h1 h2
    have he:=Zpp h1 h2
    rw[Zni,Zor p n l m (by omega) hl' hm',Zni p f l,Zni p g m,<- he]
    simp only
    split
    ·rw[Znl gf gg (ZqZ sl sm),Znl gf sl (ZqZ gg sm),<- Znl gg sl sm,ZqU gg sl,Znl sl gg sm]
    ·rfl
abbrev Zom (l:List Fct):Prop:=l.Pairwise fun a b=>a.1<b.1
theorem cmp_lt {a b:List Int}:cmpL a b≥0 ↔ ¬a<b:=by
 have h:=Zjt a b
 by_cases c:a<b
 ·rw[decide_eq_true c]at h
  have h:decide (cmpL a b≥0)=false:=by simpa using h.symm
  exact⟨fun q=>absurd q (of_decide_eq_false h),fun q=>absurd c q⟩
 ·rw[decide_eq_false c]at h
  have h:decide (cmpL a b≥0)=true:=by simpa using h.symm
  exact⟨fun _=>c,fun _=>of_decide_eq_true h⟩
theorem ZnY {x:Shp}:∀{l:List Fct} {w:Option Fct},Zd7 x w l=0->Zom l/\∀q,w=some q->∀f∈l,q.1<f.1
 | [],w,_=>⟨List.Pairwise.nil,fun _ _ f hf=>by cases hf⟩
 | f :: r,w,h=>by
  rw[Zf5]at h
  split at h
  ·rename_i h1;exact absurd h h1
  ·split at h
   ·omega
   ·rename_i h1 h2
    obtain⟨i1,i2⟩:=ZnY h
    refine⟨zaR.2 ⟨i2 f rfl,i1⟩,fun q hq g hg=>?_⟩
    subst hq
    have h3:q.1<f.1:=by
     refine zaA fun hn=>h2 ?_
     exact decide_eq_true (cmp_lt.2 hn)
    rcases zal.1 hg with rfl|hg
    ·exact h3
    ·exact zbW h3 (i2 f rfl g hg)
theorem row_of {x:Shp}:∀{l:List Fct} {w:Option Fct},(∀f∈l,Zb8 x f=0)->Zom l->(∀q,w=some q->∀f∈l,q.1<f.1)->Zd7 x w l=0
 | [],w,_,_,_=>by cases w<;>rfl
 | f :: r,w,h1,h2,h3=>by
  obtain⟨r1,r2⟩:=zaR.1 h2
  have hg:geF w f=false:=by
   cases w with
   | none=>rfl
   | some q=>exact decide_eq_false fun hc=>(cmp_lt.1 hc) (h3 q rfl f zae)
  rw[Zf5,if_neg (fun hc=>hc (h1 f zae)),if_neg (by rw[hg];decide)]
  exact row_of (fun g hg=>h1 g (zad _ hg)) r2 fun q hq g hg=>by injection hq with hq;subst hq;exact r1 g hg
theorem Zn3:∀(n:Nat) (l m:List Fct),(Zng n l m).length<=l.length+m.length
 | 0,_,_=>by simp[Zng]
 | _+1,[],m=>by simp[Zng]
 | _+1,f :: l,[]=>by simp[Zng]
 | n+1,f :: l,g :: m=>by
  rw[Zng]
  have h1:=Zn3 n l (g :: m)
  have h2:=Zn3 n (f :: l) m
  have h3:=Zn3 n l m
  simp only[List.length_cons]at h1 h2 ⊢
  split
  ·simp only[List.length_cons];omega
  ·split
   ·simp only[List.length_cons];omega
   ·simp only[List.length_cons];omega
theorem Zn2:∀(n:Nat) (l m:List Fct),Zom l->Zom m->Zom (Zng n l m)
 | 0,_,_,_,_=>List.Pairwise.nil
 | _+1,[],m,_,hm=>hm
 | _+1,f :: l,[],hl,_=>hl
 | n+1,f :: l,g :: m,hl,hm=>by
  obtain⟨l1,l2⟩:=zaR.1 hl
  obtain⟨m1,m2⟩:=zaR.1 hm
  rw[Zng]
  split
  ·rename_i h
   refine zaR.2 ⟨Znn (P:=fun x=>f.1<x.1) n l (g :: m) l1 (fun x hx=>?_) fun a ha _ _ _=>l1 a ha,Zn2 n l (g :: m) l2 hm⟩
   rcases zal.1 hx with rfl|hx
   ·exact h
   ·exact zbW h (m1 x hx)
  ·split
   ·rename_i h
    have hx:∀x∈f :: l,g.1<x.1:=fun x hx=>by
     rcases zal.1 hx with rfl|hx
     ·exact h
     ·exact zbW h (l1 x hx)
    exact zaR.2 ⟨Znn (P:=fun x=>g.1<x.1) n (f :: l) m hx m1 fun a ha _ _ _=>hx a ha,Zn2 n (f :: l) m hl m2⟩
   ·rename_i h1 h2
    have he:=Zpp h1 h2
    exact zaR.2 ⟨Znn (P:=fun x=>f.1<x.1) n l m l1 (fun x hx=>he ▸ m1 x hx) fun a ha _ _ _=>l1 a ha,Zn2 n l m l2 m2⟩
theorem ptW_in {S:Sc} {facts:List Fct} {w:List (Int×Int)}:(ptW S facts w).length<=facts.length/\∀i∈ptW S facts w,i<facts.length:=by
 unfold ptW
 exact⟨zaB (zb8 _ _) (by simp),fun i hi=>by simpa using (za7.1 hi).1⟩
def ZoG (f:Fct) (out:List Fct):Nat->Nat
 | 0=>0
 | n+1=>match out[n]? with
  | some g=>if f.1<g.1 then ZoG f out n else n+1
  | none=>n+1
def ZoH (out:List Fct) (f:Fct):List Fct:=out.take (ZoG f out out.length)++f :: out.drop (ZoG f out out.length)
def Znr (l:List Fct):List Fct:=l.foldl ZoH []
theorem ZqK (f:Fct) (out:List Fct):∀n,ZoG f out n<=n
 | 0=>zaf _
 | n+1=>by
  rw[ZoG]
  split
  ·split
   ·exact zcn (ZqK f out n)
   ·exact zaf _
  ·exact zaf _
theorem insF_mem {f:Fct} {out:List Fct} (x:Fct):x∈ZoH out f ↔ x=f\/x∈out:=by
 rw[ZoH,zav,zal]
 constructor
 ·rintro(h|h|h)
  ·exact .inr (zaU h)
  ·exact .inl h
  ·exact .inr (zbd h)
 ·rintro(h|h)
  ·exact .inr (.inl h)
  ·rw[<- zbN (ZoG f out out.length) out,zav]at h
   rcases h with h|h
   ·exact .inl h
   ·exact .inr (.inr h)
theorem ZpN (f:Fct) (out:List Fct):(ZoH out f).length=out.length+1:=by
 have hle:=ZqK f out out.length
 rw[ZoH,zai,List.length_cons,za9,zcy];omega
theorem Zod {l:List Fct} {k:Nat} (h:k<l.length):Znr (l.take (k+1))=ZoH (Znr (l.take k)) l[k]:=by
 rw[zar h,Znr,zcq];rfl
theorem ZoB (l:List Fct):∀k,k<=l.length->(Znr (l.take k)).length=k
 | 0,_=>by simp[Znr]
 | k+1,h=>by rw[Zod (by omega),ZpN,ZoB l k (by omega)]
theorem insF_sub {f:Fct} {out:List Fct} {P:Fct->Prop} (hf:P f) (h:∀g∈out,P g):∀g∈ZoH out f,P g:=fun g hg=>by
 rcases (insF_mem g).1 hg with rfl|hg
 ·exact hf
 ·exact h g hg
theorem ZoC {l:List Fct} {P:Fct->Prop} (h:∀g∈l,P g):∀k,k<=l.length->∀g∈Znr (l.take k),P g
 | 0,_=>by simp[Znr]
 | k+1,hk=>by
  rw[Zod (by omega)]
  exact insF_sub (h _ (zaq _)) (ZoC h k (by omega))
theorem rF_take (l:List Fct) (k:Nat):rF (l.take k)=(rF l).take k:=zcs
theorem rF_drop (l:List Fct) (k:Nat):rF (l.drop k)=(rF l).drop k:=zct
theorem HX.thnO {O:List (Nat×Zb3)} {H H1 G:Zaa} (h:HX O H H1) (k:HX [] H1 G):HX O H G :=
 ⟨zaB h.n k.n,fun p hp=>by
  have:=h.o p hp
  rw[k.get _ (Zaa.lt this)];exact this,fun i hi hn=>by rw[k.get _ (zbf hi h.n)];exact h.g i hi hn⟩
theorem lens19 {r q o:Nat} (h:r=q) (ho:o<=1000000) (hq:q<o):r+1<=maxLen/\(r+1) * 104<=140737488355328/\r+1+1<=maxLen/\(r+1+1) * 104<=140737488355328/\r+1+1+(o - (q+1))<=maxLen/\(r+1+1+(o - (q+1))) * 104<=140737488355328:=by
 unfold maxLen
 refine⟨?_,?_,?_,?_,?_,?_⟩<;>omega
@[simp] theorem sortF_nil:Znr []=[]:=rfl
set_option maxHeartbeats 4000000 in
theorem Zpa (t:Tok) (l:List Fct) (H:Zaa) (hl:l.length<=1000000) (hk:∀f∈l,f.1.length<=1000000):Zay Tryz.prog 31 [.sl t (rF l)] H (Pure H (.sl .no (rF (Znr l)))):=by
 refine Zak hE cf31 (zab rfl) fun Q qr qn=>?_
 refine Bz2 ?_
 refine Zbs [8,9] (σ:=Tok) (fun(k:Nat) s=>True) (fun k s=>[(3,.sl s (rF (Znr (l.take k))))]) (fun k s=>[]) Tok.full (GStep.refl _ _) (by simp only[ZaA,Zav,Fr.put,Fr.get,↓reduceIte,Nat.reduceEqDiff];rfl) (by intro k s;rfl) (by intro k s;rfl) (by rfl) (by unfold maxLen;omega) ?_ (by simp only[ZaF,ZaX,Fr.put,Fr.get,↓reduceIte,Nat.reduceEqDiff,and_self]<;>simp) (by simp only[ZaJ]) ?_ ?_
 ·trivial
 ·(rintro k s G hk1 ht hG hn1;try simp only[nx]at hn1)
  have hlen:=ZoB l k (by omega)
  have hsub:=ZoC hk k (by omega)
  have hkf:=hk _ (zaq hk1)
  have hnx:=Zod hk1
  generalize Znr (l.take k)=out at *
  have e1:(ZcI l[k]).length=11:=rfl
  have hlf:ZaE 11 [ZcI l[k]]=true:=rfl
  have e2:(ZcI l[k]).take 11=ZcI l[k]:=rfl
  generalize hfk:l[k]=f at *
  have hZ:=an7 hfk<|an7 e1<|an7 e2<|hk1;refine Bz3 ?_
  have g1:(G.alloc (.cells (ZcI f) 88)).get G.next=some (.cells (ZcI f) 88):=Zaa.Zae
  have hG1:HX [] H (G.alloc (.cells (ZcI f) 88)):=hG.alloc
  have l1:G.next<(G.alloc (.cells (ZcI f) 88)).next:=Zaa.lt g1
  generalize G.next=n1 at *
  generalize G.alloc (.cells (ZcI f) 88)=G1 at *
  refine Zcw [3,5,8,9,10] (σ:=Nat) (fun s=>s<=out.length/\ZoG f out out.length=ZoG f out s) (fun s=>s) (fun s=>[(6,.i (s:Int))]) (fun s=>[]) out.length (GStep.refl _ _) (by simp only[ZaA,Zav,Fr.put,Fr.get,↓reduceIte,Nat.reduceEqDiff];rfl) ?_ (by simp only[ZaF,ZaX,Fr.put,Fr.get,↓reduceIte,Nat.reduceEqDiff,and_self]<;>simp) (by simp only[ZaJ]) ?_
  ·exact⟨zaf _,rfl⟩
  ·(rintro p G2 ⟨hp1,hp2⟩ hG2 hn2;try simp only[nx]at hn2)
   have g2:G2.get n1=_:=(hG2.get _ l1).trans g1
   have hx2:=hG2.ext
   cases p with
   | zero =>
    have d1:decide (((0:Nat):Int) > 0)=false:=rfl
    have h0:(0:Int)<=((0:Nat):Int):=zcd _
    have hs0:(0<=0/\0<=out.length/\out.length<=out.length/\((0:Nat)=0\/ZaE 11 (rF out)=true)):=⟨zaf _,zaD _,zaf _,.inl rfl⟩
    have hal:=Znt out
    have htk:List.take out.length (rF out)=rF out:=zaG (by simp)
    have m3:(1:Nat)<=maxLen:=by unfold maxLen;omega
    have m4:(104:Nat)<=140737488355328:=by omega
    have m5:(1+out.length:Nat)<=maxLen:=by unfold maxLen;omega
    have m6:(1+out.length) * 104<=140737488355328:=by omega
    have a0:(ZaE 11 []=true/\0<=maxLen/\0<=140737488355328/\ZaE 11 []=true):=⟨rfl,zaD _,zaD _,rfl⟩
    ((have hd:=tv;repeat' first|(first|apply Zad|apply Zac|apply Zab)<;>intro hd<;>try simp only[hd]|simp(disch:=first|assumption|omega|simp only[nx]<;>omega|fail)only[hd,qr,qn,ZoW,↓YA,YY,sevalprocAttr,g2,d1,e1,e2,Zdi,Zhj,if_pos h0,Int.toNat_natCast,if_pos hs0,zaX,List.take_zero,htk,hal,ZaL,List.length_nil,zaD,true_and,and_true,or_true,if_true,Zgy,hlf,m3,m4,m5,m6])<;>try revert hd;refine ttr ?_)
    have hpz:ZoG f out out.length=0:=hp2
    exact⟨.own G2.next,congrArg (AV.sl _) (show ZcI f :: rF out=rF (Znr (l.take (k+1))) by rw[hnx,ZoH,hpz];rfl),hG1.thnO hG2.alloc⟩
   | succ q =>
    have d1:decide (((q+1:Nat):Int) > 0)=true:=by simp
    have h0:(0:Int)<=((q+1:Nat):Int):=by omega
    have hs0:(0<=q+1/\q+1<=out.length/\out.length<=out.length/\((0:Nat)=0\/ZaE 11 (rF out)=true)):=⟨zaD _,hp1,zaf _,.inl rfl⟩
    have hq:q<out.length:=by omega
    have hal:=Znt out
    have htk:List.take out.length (rF out)=rF out:=zaG (by simp)
    have d2:((q+1:Nat):Int) - 1=(q:Int):=by omega
    have h1:(0:Int)<=(q:Int):=by omega
    have f1:(ZcI out[q]).length=11:=rfl
    have f2:(ZcI out[q]).take 11=ZcI out[q]:=rfl
    have hL:=fun H=>Zjw f out[q] H hkf (hsub _ (zaq hq))
    obtain⟨r,rs,hA⟩:∃r rs,List.take (q+1) (rF out)=r :: rs:=by
     cases hc:rF out with
     | nil=>exact absurd (congrArg List.length hc) (by rw[zaj];simp only[List.length_nil];omega)
     | cons r rs=>exact⟨r,rs.take q,rfl⟩
    have hlA:ZaE 11 (r :: rs)=true:=by
     have:=Znt (out.take (q+1))
     rw[rF_take,hA]at this;exact this
    have hlr:rs.length=q:=by
     have:=congrArg List.length hA
     rw[za9,zaj,List.length_cons]at this;omega
    have hd1:ZaE 11 (List.drop (q+1) (rF out))=true:=by
     have:=Znt (out.drop (q+1))
     rw[rF_drop]at this;exact this
    have hall:ZaE 11 (r :: (rs++[ZcI f]))=true:=by
     rw[<- List.cons_append,ZaE,List.all_append]
     rw[ZaE]at hlA;rw[hlA];rfl
    obtain⟨m1,m2,m3,m4,m5,m6⟩:=lens19 (r:=rs.length) (q:=q) (o:=out.length) hlr (by omega) hq
    by_cases c:f.1<out[q].1
    ·simp only[decide_eq_true c]at hL
     have hZ:=an7 g2<|an7 d1<|an7 e1<|an7 e2<|an7 d2<|an7 h1<|an7 hq<|an7 f1<|f2;refine Bz3 ?_
     refine qcp (hL _) fun k1=>?_
     refine Bz0 ?_
     refine⟨q,⟨by omega,hp2.trans ?_⟩,by omega,AV_i d2,by exact HXT⟩
     rw[ZoG,zaa hq]
     exact if_pos c
    ·simp only[decide_eq_false c]at hL
     have hZ:=an7 g2<|an7 d1<|an7 e1<|an7 e2<|an7 d2<|an7 h1<|an7 hq<|an7 f1<|f2;refine Bz3 ?_
     refine qcp (hL _) fun k1=>?_
     ((have hd:=tv;repeat' first|(first|apply Zad|apply Zac|apply Zab)<;>intro hd<;>try simp only[hd]|simp(disch:=first|assumption|omega|simp only[nx]<;>omega|fail)only[hd,qr,qn,ZoW,↓YA,YY,sevalprocAttr,Zdi,g2,e1,e2,Zhj,if_pos h0,Int.toNat_natCast,if_pos hs0,zaX,htk,hal,ZaL,List.length_nil,hp1,or_true,true_and,and_true,if_true,hA,hlA,m1,m2,m3,m4,m5,m6,hd1,hlf,Zgy,hall,zai,zcy,zaj,List.length_cons])<;>try revert hd;refine ttr ?_)
     refine⟨.own (G2.next+k1),congrArg (AV.sl _) ?_,hG1.thnO hG2.bump.alloc⟩
     have hpz:ZoG f out out.length=q+1:=by
      rw[hp2,ZoG,zaa hq];exact if_neg c
     rw[hnx,ZoH,hpz]
     simp only[rF,zaV,zas,zcs,zct]at hA ⊢
     rw[hA];simp
 ·(rintro s G ht hG hn1;try simp only[nx]at hn1)
  rw[zaK]at *
  refine Bz0 ?_
  refine Zcm (by rfl)
def ZpE (out:List Fct) (f:Fct):Option (List Fct):=match out.getLast? with
 | none=>some (out++[f])
 | some q=>if q.1<f.1\/f.1<q.1 then some (out++[f]) else match Zdl q.2 f.2 with
  | none=>none
  | some a=>some (out.dropLast++[(f.1,a)])
def ZnG:List Fct->List Fct->Option (List Fct)
 | out,[]=>some out
 | out,f :: r=>match ZpE out f with
  | none=>none
  | some o=>ZnG o r
theorem ZnF {out:List Fct} {f:Fct} (h:∀q,out.getLast?=some q->q.1<f.1):ZpE out f=some (out++[f]):=by
 unfold ZpE
 cases hq:out.getLast? with
 | none=>rfl
 | some q=>simp only;rw[if_pos (.inl (h q hq))]
theorem ZnA {out:List Fct} {f q:Fct} (h:(out++[f]).getLast?=some q):q=f:=by
 rw[zca]at h
 injection h with h;exact h.symm
theorem Zot (f:Fct) (out:List Fct) (n:Nat):ZoG f out (n+1)=match out[n]? with
  | some g=>if f.1<g.1 then ZoG f out n else n+1
  | none=>n+1:=by
 rw[ZoG]<;>(cases out[n]?<;>rfl)
def eqTa:EqT:=⟨eqE,fun t=>t == 88⟩
theorem hEa:∀t ks,eqTa t=some ks->Ziv Tryz.prog t ks:=hE0
def zha0:AV:=.agg [.sl .full [],.sc (.int .i64 0),.sc (.int .i64 0),.sc (.int .i64 0),.sc (.int .i64 0),.sc (.int .i64 0),.sc (.int .i64 0),.sc (.int .i64 0),.sc (.int .i64 0),.sc (.int .i64 0),.sc (.int .i64 0)]
def zha1:AV:=.agg [.sc (.int .i64 0),.sc (.int .i64 0),.sc (.int .i64 0),.sc (.int .i64 0),.sc (.int .i64 0),.sc (.int .i64 0),.sc (.int .i64 0),.sc (.int .i64 0),.sc (.int .i64 0),.sc (.int .i64 0)]
def zhl2:List AV:=[.sl .full [],.sc (.int .i64 0),.sc (.int .i64 0),.sc (.int .i64 0),.sc (.int .i64 0),.sc (.int .i64 0),.sc (.int .i64 0),.sc (.int .i64 0),.sc (.int .i64 0),.sc (.int .i64 0),.sc (.int .i64 0)]
def zhr0:AV:=.agg [.sc (.slice none 0 0),.sc (.int .i64 0),.sc (.int .i64 0),.sc (.int .i64 0),.sc (.int .i64 0),.sc (.int .i64 0),.sc (.int .i64 0),.sc (.int .i64 0),.sc (.int .i64 0),.sc (.int .i64 0),.sc (.int .i64 0)]
def YZh:=an7 zhr0.eq_1<|an7 zha0.eq_1<|an7 zha1.eq_1<|zhl2.eq_1
def v30_1:Zar:=rl 0 12 13 (.t 11) 64<|.blk 1<|rs 13 [.X 11 10 12,.o 6 (.box 88 (.c zhr0)),.Z 11 6 15]<|rs 15 [.R 4,.s 7]<|rk 17 [.i .eql 7 0,.h 19,.M 4,.i .sub 7 1,.X 11 21 23,.L 11 6,.c 57 [25,26],.z,.h 28,.L 11 6,.M 4,.i .sub 7 1,.X 11 31 33,.c 57 [30,35],.z] 37 (rs 37 [.M 4,.L 11 6,.O (.bsv 88 11 [.t 39]),.O (.apv 88 11 104 [.sl .full [],.sc (.int .i64 0),.sc (.int .i64 0),.sc (.int .i64 0),.sc (.int .i64 0),.sc (.int .i64 0),.sc (.int .i64 0),.sc (.int .i64 0),.sc (.int .i64 0),.sc (.int .i64 0),.sc (.int .i64 0)] (.t 38) (.t 40)),.s 4]<|.exit 1)<|rt 42 [.M 4,.i .sub 7 1,.x 11 43 45,.G 1 10 46,.G 1 10 6,.c 70 [48,50],.s 42,.e 42 0,.e 42 1,.o 8 (.box 54 (.c zha1)),.Z 10 8 52,.s 9]<|ri 53 [.M 9,.u 54] 55 (rr 0 [.D 2,.K 3])<|ry 55 [.M 4,.i .sub 7 1,.F 0 6,.L 10 8,.O (.bld zhl2 [(0,(1,.t 60)),(1,(10,.t 61))]),.x 11 56 58,.Z 11 63 62]
def ZnJ:Zar:=rs 0 [.D 2,.K 3]<|rs 0 [.D 4]<|.seq (rs 9 [.R 0,.J 0]<|v30_1)<|rr 64 [.M 4,.s 2,.T 3]
theorem kf2 (f:FuncId) (c:Zar) (r:List Zcq) (n:Nat) (h:cFn Tryz.prog eqTa f=some (c,r,n):=by kernel_rfl):cFn Tryz.prog eqTa f=some (c,r,n):=h
def vf30:=kf2 30 ZnJ [.tmp 2,.tmp 3] 66
def fdV (out:List Fct) (id cap:Nat):AV:=match out with
 | []=>.sl .full []
 | _ :: _=>.arr id 0 out.length cap
def fdO (out:List Fct) (id:Nat) (tail:List AV):List (Nat×Zb3):=match out with
 | []=>[]
 | _ :: _=>[(id,.cells ((rF out).flatten++tail) 88)]
@[simp] theorem fdV_nil (id cap:Nat):fdV [] id cap=.sl .full []:=rfl
theorem ZnM (o:List Fct) (e:Fct) (id cap:Nat):fdV (o++[e]) id cap=.arr id 0 (o.length+1) cap:=by
 cases o with
 | nil=>rfl
 | cons a r=>show AV.arr id 0 (a :: (r++[e])).length cap=_;simp
theorem Zo2 (o:List Fct) (e:Fct) (id:Nat) (tail:List AV):fdO (o++[e]) id tail=[(id,.cells ((rF (o++[e])).flatten++tail) 88)]:=by
 cases o<;>rfl
theorem Zpj (o:List Fct):∀q∈rF o,q.length=11:=fun q hq=>by obtain⟨p,_,rfl⟩:=zat.1 hq;rfl
theorem ZnD (o:List Fct):(rF o).flatten.length=o.length * 11:=by
 rw[Zc7 (sz:=11) (Zpj o),zaj]
theorem ZqI {H:Zaa} {o:List Fct} {id cap:Nat} {tail:List AV} {e:Fct} {x:AV} {zero:List AV} (hz:zero.length=11) {K:AV->Zaa->Prop} (hx:ZaL H 11 x=some [ZcI e])
  (ho:o≠[]->H.get id=some (.cells ((rF o).flatten++tail) 88)/\((rF o).flatten++tail).length=cap * 11/\o.length<=cap) (hl:o.length<=1000000)
  (k:∀id' cap' tail' H',(o≠[]/\id'=id/\H'=H.set id (.cells ((rF (o++[e])).flatten++tail') 88))\/(id'=H.next/\H'=H.alloc (.cells ((rF (o++[e])).flatten++tail') 88))->((rF (o++[e])).flatten++tail').length=cap' * 11->o.length+1<=cap'->K (fdV (o++[e]) id' cap') H') :
  Zk3 H 88 11 104 zero (fdV o id cap) x K:=by
 have hsn:rF o++[ZcI e]=rF (o++[e]):=by simp[rF]
 simp only[ZnM]at k
 cases o with
 | nil =>
  unfold Zk3
  rw[hx]
  refine⟨⟨by simp,rfl,by unfold maxLen;simp,by simp⟩,fun c h1 h2=>?_⟩
  refine k H.next c _ _ (.inr ⟨rfl,rfl⟩) ?_ h1
  rw[zai,ZnD,Zc7 (sz:=11) (rows:=List.replicate _ _) (fun q hq=>by rw[(zbM.1 hq).2];exact hz),zcA,<- zaT]
  simp only[List.length_cons,List.length_nil,List.nil_append]at h1 ⊢
  congr 1
  omega
 | cons a r =>
  obtain⟨h1,h2,h3⟩:=ho (by simp)
  have hrl:(rF (a :: r)).length=(a :: r).length:=zaj ..
  have h:=Zp3 (H:=H) (E:=88) (sz:=11) (bytes:=104) (id:=id) (cap:=cap) (zero:=zero) (rows:=rF (a :: r)) (tail:=tail) (r:=ZcI e) (x:=x) (K:=K)
   h1 (Zpj _) hx rfl h2 (by rw[hrl];exact h3) (by rw[hrl];unfold maxLen;omega) (by rw[hrl];omega) hz (fun id' cap' tail' H' q1 q2 q3 _=>by
    rw[hsn]at q1 q2
    rw[hrl]at q3 ⊢
    refine k id' cap' tail' H' ?_ q2 q3
    rcases q1 with⟨q1,q4⟩|q1
    ·exact .inl ⟨by simp,q1,q4⟩
    ·exact .inr q1)
  rw[hrl]at h
  exact h
theorem Zp2 {H:Zaa} {o:List Fct} {q:Fct} {id cap:Nat} {tail:List AV} {e:Fct} {x:AV} {zero:List AV} (hz:zero.length=11) {K:AV->Zaa->Prop} (hx:ZaL H 11 x=some [ZcI e])
  (ho:H.get id=some (.cells ((rF (o++[q])).flatten++tail) 88)) (h1:((rF (o++[q])).flatten++tail).length=cap * 11) (h2:(o++[q]).length<=cap) (hl:(o++[q]).length<=1000000)
  (k:∀id' cap' tail' H',(o++[q]≠[]/\id'=id/\H'=H.set id (.cells ((rF (o++[q]++[e])).flatten++tail') 88))\/(id'=H.next/\H'=H.alloc (.cells ((rF (o++[q]++[e])).flatten++tail') 88))->((rF (o++[q]++[e])).flatten++tail').length=cap' * 11->(o++[q]).length+1<=cap'->K (fdV (o++[q]++[e]) id' cap') H') :
  Zk3 H 88 11 104 zero (.arr id 0 (o.length+1) cap) x K:=by
 rw[<- ZnM o q]
 exact ZqI hz hx (fun _=>⟨ho,h1,h2⟩) hl k
theorem ZpW:∀(o:List Fct) (tail:List AV),chunk 11 o.length ((rF o).flatten++tail)=rF o
 | [],_=>rfl
 | e :: o,tail=>by
  simp only[rF,zas,List.flatten_cons,List.length_cons,chunk,zaM]
  rw[show(ZcI e++((List.map ZcI o).flatten++tail)).take 11=ZcI e from rfl,show(ZcI e++((List.map ZcI o).flatten++tail)).drop 11=(List.map ZcI o).flatten++tail from rfl]
  exact congrArg _ (ZpW o tail)
theorem frz_fct {H:Zaa} {D:Nat->Bool} {id cap E:Nat} {o:List Fct} {tail:List AV} (hD:D id=true) (hg:H.get id=some (.cells ((rF o).flatten++tail) E)):Frz H D (.arr id 0 o.length cap) (.sl .no (rF o)):=by
 have hch:chunk 11 o.length (((rF o).flatten++tail).drop 0)=rF o:=ZpW o tail
 refine .arr id 0 11 o.length cap E _ _ hD hg (by rw[zai,ZnD];omega) (by simp[rF]) (fun i r r' h1 h2=>?_) (fun i r r' j x y h1 h2 hx hy=>?_)
 ·rw[hch,h2]at h1
  injection h1 with h1
  rw[h1]
 ·rw[hch,h2]at h1
  injection h1 with h1
  rw[<- h1,hy]at hx
  injection hx with hx
  rw[hx]
  exact .refl _
theorem fd_take (o:List Fct) (q:Fct) (tail:List AV):(((rF (o++[q])).flatten++tail).drop (o.length * 11)).take 11=ZcI q:=by
 have e:(rF (o++[q])).flatten++tail=(rF o).flatten++(ZcI q++tail):=by simp[rF]
 rw[e,<- ZnD o,List.drop_left]
 rfl
theorem fd_take2 (o:List Fct) (q:Fct) (tail:List AV):(((rF (o++[q])).flatten++tail).drop (o.length * 11+1)).take 10=eAg q.2:=by
 have e:(rF (o++[q])).flatten++tail=(rF o).flatten++(ZcI q++tail):=by simp[rF]
 rw[e,<- ZnD o,<- zcL,List.drop_left]
 rfl
theorem fd_put (o:List Fct) (q g:Fct) (tail:List AV) (c:List AV) (hc:c=ZcI g):((rF (o++[q])).flatten++tail).take (o.length * 11)++c++((rF (o++[q])).flatten++tail).drop (o.length * 11+11)=(rF (o++[g])).flatten++tail:=by
 have e:∀q:Fct,(rF (o++[q])).flatten++tail=(rF o).flatten++(ZcI q++tail):=fun q=>by simp[rF]
 have e3:(ZcI q++tail).drop 11=tail:=rfl
 rw[e,e,<- ZnD o,zcM,<- zcL,List.drop_left,e3,hc,zaM]
structure FdI (b k:Nat) (o:List Fct) (id cap:Nat) (tail:List AV):Prop where
 room:o≠[]->b<=id/\((rF o).flatten++tail).length=cap * 11/\o.length<=cap
 len:o.length<=k
 ok:∀f∈o,f.1.length<=1000000/\Zho f.2
theorem Zqc (o:List Fct):o=[]\/∃r q,o=r++[q]:=by
 rcases List.eq_nil_or_concat o with h|⟨r,q,h⟩
 ·exact .inl h
 ·exact .inr ⟨r,q,h.trans (by simp)⟩
theorem fd_hx {o o':List Fct} {id id':Nat} {tail tail':List AV} {H G G5:Zaa} (h:HX (fdO o id tail) H G) (hid:o≠[]->H.next<=id) (hn:G.next<=G5.next) (ho:∀p∈fdO o' id' tail',G5.get p.1=some p.2) (hg:∀j,j<H.next->G5.get j=G.get j):HX (fdO o' id' tail') H G5:=by
 refine⟨zaB h.n hn,ho,fun j hj _=>?_⟩
 rw[hg j hj]
 refine h.g j hj ?_
 rw[zbk]
 intro p hp
 cases o with
 | nil=>cases hp
 | cons x r =>
  rw[zam.1 hp]
  have:=hid (by simp)
  simp;omega
theorem ZqQ {G:Zaa} {n:Nat} {f:Fct} (h:G.get n=some (.cells [ZcI f].flatten 88)):ZaL G 11 (.arr n 0 1 1)=some [ZcI f]:=by
 simp only[ZaL,h]
 rfl
theorem Zpw {k:Nat} {o:List Fct} {f:Fct} {id cap id' cap':Nat} {tail tail':List AV} {H G G1 G5:Zaa} (hI:FdI H.next k o id cap tail) (hG:HX (fdO o id tail) H G) (hn:H.next<=G.next) (hf:f.1.length<=1000000/\Zho f.2) (h1:∀j,j<G.next->G1.get j=G.get j) (h2:G.next<=G1.next)
  (hc:(o≠[]/\id'=id/\G5=G1.set id (.cells ((rF (o++[f])).flatten++tail') 88))\/(id'=G1.next/\G5=G1.alloc (.cells ((rF (o++[f])).flatten++tail') 88))) (hl:((rF (o++[f])).flatten++tail').length=cap' * 11) (hcc:o.length+1<=cap') :
  FdI H.next (k+1) (o++[f]) id' cap' tail'/\HX (fdO (o++[f]) id' tail') H G5:=by
 have hid:=fun h=>(hI.room h).1
 have hlt:o≠[]->id<G.next:=fun h=>by
  cases o with
  | nil=>exact absurd rfl h
  | cons a r=>exact Zaa.lt (hG.o (id,.cells ((rF (a :: r)).flatten++tail) 88) (zam.2 rfl))
 refine⟨⟨fun _=>⟨?_,hl,by simpa using hcc⟩,by have:=hI.len;simp;omega,fun x hx=>?_⟩,fd_hx hG hid ?_ ?_ ?_⟩
 ·rcases hc with⟨h,rfl,_⟩|⟨rfl,_⟩
  ·exact hid h
  ·omega
 ·rcases zav.1 hx with hx|hx
  ·exact hI.ok x hx
  ·rw[zam.1 hx];exact hf
 ·rcases hc with⟨_,_,rfl⟩|⟨_,rfl⟩
  ·exact h2
  ·simp only[nx];omega
 ·intro p hp
  rw[Zo2]at hp
  rw[zam.1 hp]
  rcases hc with⟨h,rfl,rfl⟩|⟨rfl,rfl⟩
  ·exact Zaa.Zal (by have:=hlt h;omega)
  ·exact Zaa.Zae
 ·intro j hj
  rcases hc with⟨h,_,rfl⟩|⟨_,rfl⟩
  ·rw[Zaa.Zah (by have:=hid h;omega)]
   exact h1 j (by omega)
  ·rw[Zaa.Zag (by omega)]
   exact h1 j (by omega)
set_option maxHeartbeats 8000000 in
theorem Zpu (t:Tok) (l T:List Fct) (H:Zaa) (hl:l.length<=1000000) (hk:∀f∈l,f.1.length<=1000000/\Zho f.2) (hT:ZnG [] l=some T):Zay Tryz.prog 30 [.sl t (rF l)] H (Pure H (.tup [.sl .no (rF T),.b true])):=by
 refine Zak hEa vf30 (zab rfl) fun Q qr qn=>?_
 ((have hd:=tv;repeat' first|(first|apply Zad|apply Zac|apply Zab)<;>intro hd<;>try simp only[hd]|simp(disch:=first|assumption|omega|simp only[nx]<;>omega|fail)only[hd,qr,qn,ZnJ,↓YA,YY,sevalprocAttr,YZh,zaj])<;>try revert hd;refine ttr ?_)
 refine Zbs [10,11] (σ:=List Fct×Nat×Nat×List AV) (fun(k:Nat) s=>ZnG s.1 (l.drop k)=some T/\FdI H.next k s.1 s.2.1 s.2.2.1 s.2.2.2) (fun k s=>[(4,fdV s.1 s.2.1 s.2.2.1)]) (fun k s=>(fdO s.1 s.2.1 s.2.2.2)) (([]:List Fct),0,0,([]:List AV)) (GStep.refl _ _) (by simp only[ZaA,Zav,Fr.put,Fr.get,↓reduceIte,Nat.reduceEqDiff];rfl) (by intro k s;rfl) (by intro k s;rfl) (by rfl) (by unfold maxLen;omega) ?_ (by simp only[ZaF,ZaX,Fr.put,Fr.get,↓reduceIte,Nat.reduceEqDiff,and_self]<;>simp) ?_ ?_ ?_
 ·exact⟨hT,⟨fun h=>absurd rfl h,zaf _,by simp⟩⟩
 ·simp[Zc5,fdO]
 ·(rintro k s G hk1 ⟨ht,hI⟩ hG hn1;try simp only[nx]at hn1)
  obtain⟨out,id,cap,tail⟩:=s
  simp only at ht hI hG
  have hkf:=hk _ (zaq hk1)
  rw[zao hk1,ZnG]at ht
  have e1:(ZcI l[k]).length=11:=rfl
  have e2:(ZcI l[k]).take 11=ZcI l[k]:=rfl
  generalize hfk:l[k]=f at *
  rcases Zqc out with rfl|⟨o,q,rfl⟩
  ·have v0:∀a b,fdV ([]:List Fct) a b=.sl .full []:=fun _ _=>rfl
   have d00:(((0:Nat):Int) == 0)=true:=rfl
   ((have hd:=tv;repeat' first|(first|apply Zad|apply Zac|apply Zab)<;>intro hd<;>try simp only[hd]|simp(disch:=first|assumption|omega|simp only[nx]<;>omega|fail)only[hd,qr,qn,ZnJ,↓YA,YY,sevalprocAttr,v0,d00,YZh,hfk,e1,e2,hk1,zaj])<;>try revert hd;refine ttr ?_)
   rw[ZnF (fun q hq=>by simp at hq)]at ht
   refine ZqI (o:=[]) (id:=id) (cap:=cap) (tail:=tail) (e:=f) (zero:=[.sl .full [],.i 0,.i 0,.i 0,.i 0,.i 0,.i 0,.i 0,.i 0,.i 0,.i 0]) rfl (H:=(G.alloc (.cells (ZcI f) 88)).alloc (.cells [ZcI f].flatten 88)) (x:=.arr (G.next+1) 0 1 1) (ZqQ (Zaa.Zae (H:=G.alloc _))) (fun h=>absurd rfl h) (by simp) (fun id' cap' tail' G5 hc hcl hcc=>?_)
   obtain⟨q1,q2⟩:=Zpw hI hG hn1 hkf (G1:=(G.alloc (.cells (ZcI f) 88)).alloc (.cells [ZcI f].flatten 88)) (fun j hj=>by rw[Zaa.Zag (by simp only[nx];omega),Zaa.Zag (by omega)]) (by simp only[nx];omega) hc hcl hcc
   ((have hd:=tv;repeat' first|(first|apply Zad|apply Zac|apply Zab)<;>intro hd<;>try simp only[hd]|simp(disch:=first|assumption|omega|simp only[nx]<;>omega|fail)only[hd,qr,qn,ZnJ,↓YA,YY,sevalprocAttr])<;>try revert hd;refine ttr ?_)
   exact⟨([]++[f],id',cap',tail'),⟨ht,q1⟩,rfl,q2⟩
  ·have g0:=hG.o (id,.cells ((rF (o++[q])).flatten++tail) 88) (by rw[Zo2];exact zam.2 rfl)
   simp only at g0
   have lg0:=Zaa.lt g0
   have hqk:=hI.ok q (zbp _ zae)
   have d0:(((o.length+1:Nat):Int) == 0)=false:=by rw[beq_eq_false_iff_ne];omega
   have d2:((o.length+1:Nat):Int) - 1=(o.length:Int):=by omega
   have hb0:(0:Int)<=(o.length:Int):=by omega
   have htk:=fd_take o q tail
   have hol:o.length+1<=1000000:=by have:=hI.len;simp at this;omega
   have hin:(o.length:Int)<((o.length+1:Nat):Int):=by omega
   have g1:(G.alloc (.cells (ZcI f) 88)).get id=some (.cells ((rF (o++[q])).flatten++tail) 88):=by rw[Zaa.Zag (by omega)];exact g0
   have hlc:o.length * 11+11<=((rF (o++[q])).flatten++tail).length:=by rw[zai,ZnD,zai];simp;omega
   have f1:(ZcI q).length=11:=rfl
   have hL1:=fun H=>Zjw q f H hqk.1 hkf.1
   have hL2:=fun H=>Zjw f q H hkf.1 hqk.1
   have hroom:=(hI.room (by simp)).2
   by_cases c1:q.1<f.1
   ·simp only[decide_eq_true c1]at hL1
    have ht2:ZnG (o++[q]++[f]) (l.drop (k+1))=some T:=by
     rw[ZnF (fun x hx=>(ZnA hx) ▸ c1)]at ht
     exact ht
    ((have hd:=tv;repeat' first|(first|apply Zad|apply Zac|apply Zab)<;>intro hd<;>try simp only[hd]|simp(disch:=first|assumption|omega|simp only[nx]<;>omega|fail)only[hd,qr,qn,ZnJ,↓YA,YY,sevalprocAttr,ZnM,YZh,hfk,e1,e2,hk1,d0,d2,hb0,hin,g0,g1,htk,hlc,f1,Int.toNat_natCast,zaj])<;>try revert hd;refine ttr ?_)
    refine qcp (hL1 _) fun k1=>?_
    ((have hd:=tv;repeat' first|(first|apply Zad|apply Zac|apply Zab)<;>intro hd<;>try simp only[hd]|simp(disch:=first|assumption|omega|simp only[nx]<;>omega|fail)only[hd,qr,qn,ZnJ,↓YA,YY,sevalprocAttr,g0,g1,htk,hlc,f1,e1,e2,d2,hb0,hin,Int.toNat_natCast])<;>try revert hd;refine ttr ?_)
    refine Zp2 (o:=o) (q:=q) (id:=id) (cap:=cap) (tail:=tail) (e:=f) (zero:=[.sl .full [],.i 0,.i 0,.i 0,.i 0,.i 0,.i 0,.i 0,.i 0,.i 0,.i 0]) rfl (H:=((G.alloc (.cells (ZcI f) 88)).bump k1).alloc (.cells [ZcI f].flatten 88)) (x:=.arr (G.next+1+k1) 0 1 1) (ZqQ (Zaa.Zae (H:=(G.alloc _).bump k1))) (by rw[Zaa.Zag (by simp only[nx];omega)];exact g1) hroom.1 hroom.2 (by simp;omega) (fun id' cap' tail' G5 hc hcl hcc=>?_)
    obtain⟨q1,q2⟩:=Zpw hI hG hn1 hkf (G1:=((G.alloc (.cells (ZcI f) 88)).bump k1).alloc (.cells [ZcI f].flatten 88)) (fun j hj=>by rw[Zaa.Zag (by simp only[nx];omega)];exact Zaa.Zag (by omega)) (by simp only[nx];omega) hc hcl hcc
    ((have hd:=tv;repeat' first|(first|apply Zad|apply Zac|apply Zab)<;>intro hd<;>try simp only[hd]|simp(disch:=first|assumption|omega|simp only[nx]<;>omega|fail)only[hd,qr,qn,ZnJ,↓YA,YY,sevalprocAttr])<;>try revert hd;refine ttr ?_)
    exact⟨(o++[q]++[f],id',cap',tail'),⟨ht2,q1⟩,rfl,q2⟩
   ·by_cases c2:f.1<q.1
    ·simp only[decide_eq_false c1]at hL1
     simp only[decide_eq_true c2]at hL2
     have ht2:ZnG (o++[q]++[f]) (l.drop (k+1))=some T:=by
      unfold ZpE at ht
      rw[zca]at ht
      simp only at ht
      rw[if_pos (.inr c2)]at ht
      exact ht
     ((have hd:=tv;repeat' first|(first|apply Zad|apply Zac|apply Zab)<;>intro hd<;>try simp only[hd]|simp(disch:=first|assumption|omega|simp only[nx]<;>omega|fail)only[hd,qr,qn,ZnJ,↓YA,YY,sevalprocAttr,ZnM,YZh,hfk,e1,e2,hk1,d0,d2,hb0,hin,g0,g1,htk,hlc,f1,Int.toNat_natCast,zaj])<;>try revert hd;refine ttr ?_)
     refine qcp (hL1 _) fun k1=>?_
     ((have hd:=tv;repeat' first|(first|apply Zad|apply Zac|apply Zab)<;>intro hd<;>try simp only[hd]|simp(disch:=first|assumption|omega|simp only[nx]<;>omega|fail)only[hd,qr,qn,ZnJ,↓YA,YY,sevalprocAttr,g0,g1,htk,hlc,f1,e1,e2,d2,hb0,hin,Int.toNat_natCast])<;>try revert hd;refine ttr ?_)
     refine qcp (hL2 _) fun k2=>?_
     ((have hd:=tv;repeat' first|(first|apply Zad|apply Zac|apply Zab)<;>intro hd<;>try simp only[hd]|simp(disch:=first|assumption|omega|simp only[nx]<;>omega|fail)only[hd,qr,qn,ZnJ,↓YA,YY,sevalprocAttr,g0,g1,htk,hlc,f1,e1,e2,d2,hb0,hin,Int.toNat_natCast])<;>try revert hd;refine ttr ?_)
     refine Zp2 (o:=o) (q:=q) (id:=id) (cap:=cap) (tail:=tail) (e:=f) (zero:=[.sl .full [],.i 0,.i 0,.i 0,.i 0,.i 0,.i 0,.i 0,.i 0,.i 0,.i 0]) rfl (H:=(((G.alloc (.cells (ZcI f) 88)).bump k1).bump k2).alloc (.cells [ZcI f].flatten 88)) (x:=.arr (G.next+1+k1+k2) 0 1 1) (ZqQ (Zaa.Zae (H:=((G.alloc _).bump k1).bump k2))) (by rw[Zaa.Zag (by simp only[nx];omega)];exact g1) hroom.1 hroom.2 (by simp;omega) (fun id' cap' tail' G5 hc hcl hcc=>?_)
     obtain⟨q1,q2⟩:=Zpw hI hG hn1 hkf (G1:=(((G.alloc (.cells (ZcI f) 88)).bump k1).bump k2).alloc (.cells [ZcI f].flatten 88)) (fun j hj=>by rw[Zaa.Zag (by simp only[nx];omega)];exact Zaa.Zag (by omega)) (by simp only[nx];omega) hc hcl hcc
     ((have hd:=tv;repeat' first|(first|apply Zad|apply Zac|apply Zab)<;>intro hd<;>try simp only[hd]|simp(disch:=first|assumption|omega|simp only[nx]<;>omega|fail)only[hd,qr,qn,ZnJ,↓YA,YY,sevalprocAttr])<;>try revert hd;refine ttr ?_)
     exact⟨(o++[q]++[f],id',cap',tail'),⟨ht2,q1⟩,rfl,q2⟩
    ·simp only[decide_eq_false c1]at hL1
     simp only[decide_eq_false c2]at hL2
     unfold ZpE at ht
     rw[zca]at ht
     simp only at ht
     rw[if_neg (fun h=>h.elim c1 c2),List.dropLast_concat]at ht
     have hJ:=fun H=>ZpB q.2 f.2 H hqk.2 hkf.2
     cases hj:Zdl q.2 f.2 with
     | none=>rw[hj]at ht;cases ht
     | some a =>
      rw[hj]at ht
      simp only at ht
      have hJ:∀H,Zay Tryz.prog 70 [.agg (eAg q.2),.agg (eAg f.2)] H (Pure H (.tup [.agg (eAg a),.b true])):=fun H=>by
       have h:=hJ H
       rw[hj]at h
       exact h
      have hai:=Zo5 hqk.2 hkf.2 hj
      obtain⟨w0,w1,w2,w3⟩:=Zbu f
      have htk2:=fd_take2 o q tail
      have hlc2:o.length * 11+1+10<=((rF (o++[q])).flatten++tail).length:=by omega
      ((have hd:=tv;repeat' first|(first|apply Zad|apply Zac|apply Zab)<;>intro hd<;>try simp only[hd]|simp(disch:=first|assumption|omega|simp only[nx]<;>omega|fail)only[hd,qr,qn,ZnJ,↓YA,YY,sevalprocAttr,ZnM,YZh,hfk,e1,e2,hk1,d0,d2,hb0,hin,g0,g1,htk,hlc,f1,Int.toNat_natCast,zaj])<;>try revert hd;refine ttr ?_)
      refine qcp (hL1 _) fun k1=>?_
      ((have hd:=tv;repeat' first|(first|apply Zad|apply Zac|apply Zab)<;>intro hd<;>try simp only[hd]|simp(disch:=first|assumption|omega|simp only[nx]<;>omega|fail)only[hd,qr,qn,ZnJ,↓YA,YY,sevalprocAttr,g0,g1,htk,hlc,f1,e1,e2,d2,hb0,hin,Int.toNat_natCast])<;>try revert hd;refine ttr ?_)
      refine qcp (hL2 _) fun k2=>?_
      ((have hd:=tv;repeat' first|(first|apply Zad|apply Zac|apply Zab)<;>intro hd<;>try simp only[hd]|simp(disch:=first|assumption|omega|simp only[nx]<;>omega|fail)only[hd,qr,qn,ZnJ,↓YA,YY,sevalprocAttr,g0,g1,htk,hlc,f1,e1,e2,htk2,hlc2,hb0,hin,d2,w0,w1,w2,w3,Int.toNat_natCast])<;>try revert hd;refine ttr ?_)
      refine qcp (hJ _) fun k3=>?_
      ((have hd:=tv;repeat' first|(first|apply Zad|apply Zac|apply Zab)<;>intro hd<;>try simp only[hd]|simp(disch:=first|assumption|omega|simp only[nx]<;>omega|fail)only[hd,qr,qn,ZnJ,↓YA,YY,sevalprocAttr,g0,g1,htk,hlc,f1,e1,e2,htk2,hlc2,d2,hb0,hin,Int.toNat_natCast,w0,w1,w2,w3])<;>try revert hd;refine ttr ?_)
      rw[fd_put o q (f.1,a) tail (AV.sl .no (rI f.1) :: eAg a) rfl]
      have hrm:=hI.room (by simp)
      have hin':(o++[q]).length=(o++[(f.1,a)]).length:=by simp
      have hlq:((rF (o++[(f.1,a)])).flatten++tail).length=((rF (o++[q])).flatten++tail).length:=by rw[zai,zai,ZnD,ZnD,hin']
      refine⟨(o++[(f.1,a)],id,cap,tail),⟨ht,⟨fun _=>⟨hrm.1,hlq.trans hrm.2.1,hin' ▸ hrm.2.2⟩,by have:=hI.len;rw[hin']at this;simp only;omega,fun x hx=>?_⟩⟩,(ZnM _ _ _ _).symm,?_⟩
      ·rcases zav.1 hx with hx|hx
       ·exact hI.ok x (zba _ hx)
       ·rw[zam.1 hx];exact⟨hkf.1,hai⟩
      ·refine fd_hx hG (fun _=>hrm.1) (by simp only[nx];omega) (fun p hp=>?_) fun j hj=>?_
       ·simp only at hp
        rw[Zo2]at hp
        rw[zam.1 hp]
        exact Zaa.Zal (by simp only[nx];omega)
       ·have h1:=hrm.1
        rw[Zaa.Zah (by omega),Zaa.Zag (by simp only[nx];omega)]
        exact Zaa.Zag (by omega)
 ·(rintro s G ⟨ht,hI⟩ hG hn1;try simp only[nx]at hn1)
  obtain⟨out,id,cap,tail⟩:=s
  simp only at ht hI hG
  rw[zaP,ZnG]at ht
  injection ht with ht
  subst ht
  have hxG:Zaa.Ext H G:=hG.ZdB (Zaa.Ext.refl H) (by
   intro p hp
   cases out with
   | nil=>cases hp
   | cons x r=>rw[zam.1 hp];exact(hI.room (by simp)).1)
  cases out with
  | nil =>
   ((have hd:=tv;repeat' first|(first|apply Zad|apply Zac|apply Zab)<;>intro hd<;>try simp only[hd]|simp(disch:=first|assumption|omega|simp only[nx]<;>omega|fail)only[hd,qr,qn,ZnJ,↓YA,YY,sevalprocAttr])<;>try revert hd;refine ttr ?_)
   exact ZpD (D:=fun _=>false) (.tup _ _ rfl fun i x y hx hy=>by
    match i,hx,hy with
    | 0,hx,hy =>
     injection hx with hx
     injection hy with hy
     subst hx hy
     exact .sl _ _ _ rfl (fun i r r' h1 _=>by simp at h1) (fun i r r' j x y h1 _ _ _=>by simp at h1)
    | 1,hx,hy =>
     injection hx with hx
     injection hy with hy
     subst hx hy
     exact .refl _
    | j+2,hx,_=>exact absurd hx (by simp)) (fun _ _=>rfl) hxG
  | cons a r =>
   have g0:=hG.o (id,.cells ((rF (a :: r)).flatten++tail) 88) (zam.2 rfl)
   have hid:=(hI.room (by simp)).1
   have v1:fdV (a :: r) id cap=.arr id 0 (a :: r).length cap:=rfl
   ((have hd:=tv;repeat' first|(first|apply Zad|apply Zac|apply Zab)<;>intro hd<;>try simp only[hd]|simp(disch:=first|assumption|omega|simp only[nx]<;>omega|fail)only[hd,qr,qn,ZnJ,↓YA,YY,sevalprocAttr,v1])<;>try revert hd;refine ttr ?_)
   exact ZpD (D:=fun i=>decide (i=id)) (.tup _ _ rfl fun i x y hx hy=>by
    match i,hx,hy with
    | 0,hx,hy =>
     injection hx with hx
     injection hy with hy
     subst hx hy
     exact frz_fct (by simp) g0
    | 1,hx,hy =>
     injection hx with hx
     injection hy with hy
     subst hx hy
     exact .refl _
    | j+2,hx,_=>exact absurd hx (by simp)) (fun i hi=>by simp;omega) hxG
theorem Zov {α β:Type} {R:α->β->Prop}:∀{l:List α} {m:List β},ZeK R l m->∀a∈l,∃b∈m,R a b
 | _,_,.nil,a,h=>by cases h
 | _,_,.cons h t,a,ha=>by
  rcases zal.1 ha with rfl|ha
  ·exact⟨_,zae,h⟩
  ·obtain⟨b,hb,hr⟩:=Zov t a ha
   exact⟨b,zad _ hb,hr⟩
theorem grs_keys {key:Nat->Int} {n:Nat} {p:List Nat} {g:Int×List Nat} (hg:g∈grs key n p):0<=g.1/\g.1<n:=by
 unfold grs at hg
 obtain⟨k,hk0,hk⟩:=zbA.1 hg
 have:=zbD.1 hk0
 split at hk
 ·cases hk
 ·injection hk with hk
  subst hk
  simp only
  omega
section
variable {x:Shp} {L:List (List (List Int))} {facts:List Fct} {c:DSt}
theorem ZqF {b d:Nat} {p:List Nat} {z:Cel} (h:ZiH L facts c b d p z) (ha:∀f∈facts,Zho f.2) (hl:c.N.length<=1000000) (hk:0<=z.key/\z.key<=1000000):Zvb z:=by
 have hz:In64 z.key:=by unfold In64;omega
 unfold ZiH at h
 split at h
 ·obtain⟨h1,h2⟩:=h
  refine⟨hz,by rw[h1];decide,?_⟩
  rw[h2]
  cases hs:ZdJ facts ag0 p with
  | none=>exact Zpn
  | some g=>exact Zqz ha Zpn hs
 ·obtain⟨h1,j,h2,_,h4,_⟩:=h
  exact⟨hz,by rw[h2];unfold In64;omega,by rw[h1];exact Zpn⟩
theorem doc_in (hF:ZbI x L facts) (hD:ZdW x L facts c) (hl:c.N.length<=1000000):∀n∈c.N,Zt7 n:=fun n hn=>by
 obtain⟨i,hi,rfl⟩:=zay hn
 obtain⟨d,hd,h1,h2,h3,h4⟩:=hD.nod i hi
 rw[show c.N.getD i ZdH=c.N[i] by rw[zah,zaa hi];rfl]at h1 h2 h3 h4
 refine⟨fun t ht z hz=>?_,ZqF h3 hF.ag hl (by rw[h2];omega)⟩
 obtain⟨gs,hgs,hr⟩:=Zov h4 t ht
 obtain⟨g,hg,hk,hc⟩:=Zov hr z hz
 unfold ZaC at hgs
 obtain⟨k,_,rfl⟩:=zat.1 hgs
 have:=grs_keys hg
 have hsz:=hF.size d k
 exact ZqF hc hF.ag hl (by rw[hk];omega)
end
theorem Zqn {S:Sc} {most:Int} {facts:List Fct} (h:Zet S most facts=0) (ha:∀f∈facts,Zho f.2):ZbS (Za3 S)=true/\most<=131072/\Grown (Za3 S) most (Ze6 S most facts):=by
 unfold Zet at h
 split at h
 ·rename_i h1;exact absurd h h1
 rename_i h1
 split at h
 ·rename_i h2;exact absurd h h2
 rename_i h2
 split at h
 ·omega
 rename_i h3
 split at h
 ·omega
 rename_i h4
 have h4:newE (Za3 S) most=0:=zaQ.1 h4
 have hm:ZbS (Za3 S)=true/\0<=most/\most<=131072:=by
  unfold newE at h4
  split at h4
  ·assumption
  ·omega
 refine⟨hm.1,hm.2.2,?_⟩
 split at h
 ·rename_i h5
  have e:Ze6 S most facts=[]:=by unfold Ze6;rw[if_pos h5]
  rw[e]
  exact⟨fun i hi=>by simp at hi,fun n hn=>by simp at hn⟩
 ·rename_i h5
  have e:Ze6 S most facts=(Zfa S most facts).N:=by unfold Ze6;rw[if_neg h5]
  rw[e]
  have hF:=ZdS (zaQ.1 h1) (zaQ.1 h2) (by omega) ha
  exact Zfj hF _ (zaf _) _ _ ⟨fun i hi=>by simp at hi,fun n hn=>by simp at hn⟩
theorem ZnR {S:Sc} {most:Int} {facts:List Fct} (hF:ZbI (Za3 S) (Zan S) facts) (h:Zet S most facts=0) (hL:Ze6 S most facts=(Zcn S facts).N) (hD:ZdW (Za3 S) (Zan S) facts (Zcn S facts)) (hlen:(Zcn S facts).N.length<=100000) :
  Prw (Za3 S) (Zcn S facts).N/\∀i (hi:i<(Zcn S facts).N.length),ZbF (Za3 S) most ((Zcn S facts).N.take i) (Zcn S facts).N[i]=0:=by
 obtain⟨h1,h2,h3⟩:=Zqn h hF.ag
 rw[hL]at h3
 exact⟨Zqt (ZtW h1 h2 h3.1) hlen h3.2 (doc_in hF hD (by omega)),h3.1⟩
def Zql:Shp:=⟨[[1]],1⟩
def Zqe:Nod:=⟨0,[[⟨0,0,⟨1,0,0,0,0,0,0,0,0,0⟩⟩]],⟨0,0,⟨1,0,0,0,0,0,0,0,0,0⟩⟩⟩
theorem ZnB:∀n∈[Zqe],Zdb n:=fun n hn=>by
 rw[zam.1 hn];unfold Zdb;decide
theorem w30_prw:Prw Zql [Zqe]:=Zqt (by decide) (by decide) ZnB fun n hn=>by
 rw[zam.1 hn]
 have h:Zvb ⟨0,0,⟨1,0,0,0,0,0,0,0,0,0⟩⟩:=⟨by decide,by decide,⟨by decide,by decide,by decide,by decide⟩⟩
 exact⟨fun l hl c hc=>by
  rw[zam.1 hl]at hc
  rw[zam.1 hc];exact h,h⟩
theorem w30_prw0:Prw Zql []:=Zqt (by decide) (by decide) (by simp) (by simp)
theorem ZqN:(ZoF Zql [Zqe] [] 9).e=0/\(ZoF Zql [Zqe] [] 9).N=[Zqe]:=by decide
theorem w30_may:Zlb Zql [Zqe]=true/\Zlb Zql []=true/\(0:Int)<=9/\(9:Int)<=131072:=by decide
set_option maxHeartbeats 2000000 in
theorem Zm1 (H:Zaa):Zay Tryz.prog 29 [] H (ZrY H (.b true)):=by
 have hL:=fun lt G=>Zqd lt Zql [Zqe] G (by decide) ZnB
 have hN:=fun G=>Zfe Zql 0 G
 refine Zak hE cf29 (zab rfl) fun Q qr qn=>?_
 refine Bz0 ?_
 refine Zap.use (Zay.wknA (hL .no _) rfl fun i a b ha hb=>?_) ?_
 ·match i with
  | 0=>simp only[List.getElem?_cons_zero,zac]at ha hb;subst ha hb;exact Zea (n:=10) rfl
  | 1=>simp only[List.getElem?_cons_zero,List.getElem?_cons_succ,zac]at ha hb;subst ha hb;exact Zea (n:=10) rfl
  | i+2=>simp at ha
 rintro r G1 ⟨hx1,hr⟩
 rcases hr with⟨h1,_⟩|⟨_,aid,rfl,hA⟩
 ·exact absurd (show Zm5 Zql [Zqe]=0 by decide) h1
 obtain⟨tk,tok,hO,i1,i2⟩:=hA
 have hA1:ArA G1 aid Zql [Zqe]:=hO.ara
 have g1:=hx1.get H.next _ ((Zaa.Zag (by simp only[nx];omega)).trans Zaa.Zae)
 have hx1:Zaa.Ext H G1:=((Zaa.Ext.refl H).alloc.alloc).trans hx1
 clear i1 i2 hO
 have hZ:=g1;refine Bz1 ?_
 refine Zap.use (Zay.wknA (hN _) rfl fun i a b ha hb=>?_) ?_
 ·match i with
  | 0=>simp only[List.getElem?_cons_zero,zac]at ha hb;subst ha hb;exact Zea (n:=10) rfl
  | 1=>simp only[List.getElem?_cons_zero,List.getElem?_cons_succ,zac]at ha hb;subst ha hb;exact .refl _
  | i+2=>simp at ha
 rintro r G2 ⟨hx2,hr⟩
 rw[if_pos (by decide)]at hr
 obtain⟨bid,tok2,rfl,_,g2⟩:=hr
 have hA2:ArA G2 bid Zql []:=⟨_,_,_,g2⟩
 have hx1:=hx1.trans hx2
 have hA1:=hA1.ext hx2
 have hM:=Zok 9 hA1 hA2 w30_prw w30_prw0
 refine Bz0 ?_
 refine Zap.use hM ?_
 rintro r G3 ⟨hx3,hr⟩
 rw[if_pos w30_may,if_neg (fun h=>h ZqN.1),ZqN.2]at hr
 obtain⟨did,rfl,hA3,_⟩:=hr
 have hx1:=hx1.trans hx3
 have hA1:=hA1.ext hx3
 have hb:1<=Zql.sizes.length:=by decide
 have hn3:=fun G (h:Zaa.Ext G3 G)=>Znx (hA3.ext h) hb (by decide) ZnB
 have hn1:=fun G (h:Zaa.Ext G3 G)=>Znx (hA1.ext h) hb (by decide) ZnB
 have hR:∀t u G,Zay Tryz.prog 17 [.sl t (rN [Zqe]),.sl u (rN [Zqe])] G (Pure G (.b true)):=fun t u G=>by
  have h:=ZoI t u [Zqe] [Zqe] G (by decide) ZnB
  rw[decide_eq_true rfl]at h
  exact h
 have hl3:=fun G (h:Zaa.Ext G3 G)=>ZhQ (hA3.ext h) hb
 refine Bz0 ?_
 refine qcp (hn3 G3 (Zaa.Ext.refl _)) fun k1=>?_
 refine Bz0 ?_
 refine qcp (hn1 (G3.bump k1) ((Zaa.Ext.refl G3).bump)) fun k2=>?_
 refine Bz0 ?_
 refine qcp (hR _ _ _) fun k3=>?_
 refine Bz0 ?_
 refine Zap.use (hl3 (((G3.bump k1).bump k2).bump k3) ((Zaa.Ext.refl G3).bump.bump.bump)) ?_
 rintro _ G4 ⟨rfl,hx4⟩
 have hx4:Zaa.Ext H G4:=hx1.trans ((Zaa.Ext.refl G3).bump.bump.bump.trans hx4)
 refine Bz4 ?_
 exact Zaq ⟨rfl,by exact AXT⟩
end Go.Proofs.YtaapiigfmdhobaaGreat
