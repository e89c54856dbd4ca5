/- Texts of the walk. -/
import Derived.Test.YtaapiigfmdhobaaGreatN1
import Derived.Test.YtaapiigfmdhobaaGreatMi
import Derived.Test.YtaapiigfmdhobaaGreatMq
import Derived.Test.YtaapiigfmdhobaaGreatMf
import Derived.Test.YtaapiigfmdhobaaGreatMd
namespace Go.Proofs.YtaapiigfmdhobaaGreat
set_option linter.defProp false
set_option linter.unusedSimpArgs false
set_option linter.unusedVariables false
open Go.RowKit
structure Wk (w a b m:Nat) (x:Shp) (l k:List Nod) (M:List ((Int×Int)×Int)) (H:Zaa):Prop where
 gw:H.get w=some (.cells [.ptr a 0,.ptr b 0,.mp m] 158)
 ga:ArA H a x l
 gb:ArA H b x k
 gm:H.get m=some (.map (.row [.int .i64,.int .i64]) (Zgf k2 AV.i M) false)
 one:∀p v,Zcz p M=some v->v=1
 nw:w≠m
 na:a≠m
 nb:b≠m
theorem ArA.extB {m:Nat} {H H':Zaa} {id:Nat} {x:Shp} {l:List Nod} (h:ArA H id x l) (hx:Zh2 m H H') (hn:id≠m):ArA H' id x l:=by
 obtain⟨tok,nt,most,h⟩:=h
 exact⟨tok,nt,most,hx.get _ _ hn h⟩
theorem Wk.ext {w a b m:Nat} {x:Shp} {l k:List Nod} {M:List ((Int×Int)×Int)} {H H':Zaa} (h:Wk w a b m x l k M H) (hx:Zaa.Ext H H'):Wk w a b m x l k M H' :=
 ⟨hx.get _ _ h.gw,h.ga.ext hx,h.gb.ext hx,hx.get _ _ h.gm,h.one,h.nw,h.na,h.nb⟩
def has (M:List ((Int×Int)×Int)) (p:Int×Int):Prop:=(Zcz p M).isSome=true
def tails (l:List Cel):List (Int×Ag):=l.map fun c=>(c.key,c.agg)
def locT (p q:Nod):Bool:=decide (p.dim=q.dim)&&(decide (p.lists.map List.length=q.lists.map List.length)&&decide (tails (each p)=tails (each q)))
def chl (x:Shp) (p q:Nod):List (Int×Int):=if lastB x p.dim=true then [] else ((each p).map Cel.child).zip ((each q).map Cel.child)
def Zra (x:Shp) (l k:List Nod):Nat->Int×Int->Bool
 | 0,_=>false
 | f+1,p=>locT (Zdw l p.1) (Zdw k p.2)&&(chl x (Zdw l p.1) (Zdw k p.2)).all fun q=>Zra x l k f q
def good (x:Shp) (l k:List Nod) (M:List ((Int×Int)×Int)) (p:Int×Int):Prop:=locT (Zdw l p.1) (Zdw k p.2)=true/\∀q∈chl x (Zdw l p.1) (Zdw k p.2),has M q
structure Grow (x:Shp) (l k:List Nod) (M M':List ((Int×Int)×Int)):Prop where
 sub:∀p,has M p->has M' p
 new:∀p,has M' p->has M p\/good x l k M' p
theorem good.mono {x:Shp} {l k:List Nod} {M M':List ((Int×Int)×Int)} {p:Int×Int} (h:good x l k M p) (hs:∀p,has M p->has M' p):good x l k M' p:=⟨h.1,fun q hq=>hs q (h.2 q hq)⟩
theorem Grow.refl (x:Shp) (l k:List Nod) (M:List ((Int×Int)×Int)):Grow x l k M M:=⟨fun _ h=>h,fun _ h=>.inl h⟩
theorem Grow.trans {x:Shp} {l k:List Nod} {M M' M'':List ((Int×Int)×Int)} (h:Grow x l k M M') (g:Grow x l k M' M''):Grow x l k M M'':=⟨fun p hp=>g.sub p (h.sub p hp),fun p hp=>by
 rcases g.new p hp with h1|h1
 ·rcases h.new p h1 with h2|h2
  ·exact .inl h2
  ·exact .inr (h2.mono g.sub)
 ·exact .inr h1⟩
def ZsP (w a b m:Nat) (x:Shp) (l k:List Nod) (M:List ((Int×Int)×Int)) (p:Int×Int) (H:Zaa) (r:AV) (H':Zaa):Prop:=Zh2 m H H' /\
 ((r=.b true/\∃M',Wk w a b m x l k M' H'/\Grow x l k M M'/\has M' p)\/(r=.b false/\∀f,Zra x l k f p=false))
theorem ZsR (t u:Tok) (p q:List Cel) (H:Zaa):Zay Tryz.prog 129 [.sl t (rC p),.sl u (rC q)] H (Pure H (.b (decide (p.length=q.length)))):=by
 refine Zak hE cf129 (zaa rfl) fun Q qr qn=>?_
 refine Bz0 ?_
 refine ZbC (by rw[zaT];simp;omega)
theorem ZsK {l m:List (List Cel)}:Zc8 (fun a b=>decide (a.length=b.length)) l m=decide (l.map List.length=m.map List.length):=by
 induction l generalizing m with
 | nil=>cases m<;>simp[Zc8]
 | cons a l ih=>cases m with
  | nil=>simp[Zc8]
  | cons b m=>rw[zaT];simp[Zc8,ih]
def CelQ (w a b m : Nat) (x : Shp) (l k : List Nod) (last : Bool) (M : List ((Int × Int) × Int)) (p q : Cel) (H : Zaa) (r : AV) (H' : Zaa) : Prop := Zh2 m H H' /\
  ((r = .b true /\ p.key = q.key /\ p.agg = q.agg /\ ∃ M', Wk w a b m x l k M' H' /\ Grow x l k M M' /\ (last = false -> has M' (p.child, q.child))) \/
   (r = .b false /\ (p.key = q.key -> p.agg = q.agg -> last = false /\ ∀ f, Zra x l k f (p.child, q.child) = false)))
section
variable {w a b m:Nat} {x:Shp} {l k:List Nod} {M:List ((Int×Int)×Int)} {H:Zaa}
set_option maxHeartbeats 1000000 in
theorem cel_step {il iw:Nat} {last:Bool} (p q:Cel) (hW:Wk w a b m x l k M H) (hl:H.get il=some (.cells [.b last] 4)) (hw:H.get iw=some (.cells [.ptr w 0] 155))
  (IH:last=false->∀G,Wk w a b m x l k M G->Zay Tryz.prog 86 [.ptr w 0,.agg [.i p.child,.i q.child]] G (ZsP w a b m x l k M (p.child,q.child) G)) :
  Zay Tryz.prog 156 ([]++[.agg (ZbE p),.agg (ZbE q)]++[.ptr il 0,.ptr iw 0]) H (CelQ w a b m x l k last M p q H):=by
 refine Zak hE cf156 (zaa rfl) fun Q qr qn=>?_
 have l1:=Zaa.lt hl
 have l2:=Zaa.lt hw
 cases last with
 | true =>
  have hZ:=an7 hl<|hw;focus (refine Ss1 ?_ ?_<;>intro hd;refine Ss1 ?_ ?_<;>intro hd)
  ·exact Zaq ⟨.of (by exact AXT),.inr ⟨rfl,fun e1 e2=>by simp[e1,e2]at hd⟩⟩
  ·rename_i hd2
   simp at hd hd2
   exact Zaq ⟨.of (by exact AXT),.inl ⟨rfl,by first|exact hd|exact hd2,by first|exact hd|exact hd2,M,hW.ext (by exact AXT),.refl _ _ _ _,by simp⟩⟩
  ·exact Zaq ⟨.of (by exact AXT),.inr ⟨rfl,fun e1 e2=>by simp[e1,e2]at hd⟩⟩
 | false =>
  have hZ:=an7 hl<|hw;focus (refine Ss1 ?_ ?_<;>intro hd;refine Ss1 ?_ ?_<;>intro hd)
  ·exact Zaq ⟨.of (by exact AXT),.inr ⟨rfl,fun e1 e2=>by simp[e1,e2]at hd⟩⟩
  ·rename_i hd2
   simp at hd hd2
   have hx:Zaa.Ext H ((H.alloc (.cells (ZbE p) 113)).alloc (.cells (ZbE q) 113)):=by exact AXT
   refine Zap.use (IH rfl _ (hW.ext hx)) ?_
   rintro r G ⟨hB,⟨rfl,M',hW',hG,hh⟩|⟨rfl,hf⟩⟩
   ·refine Bz0 ?_
    exact Zaq ⟨(Zh2.of hx).trans hB,.inl ⟨rfl,by first|exact hd|exact hd2,by first|exact hd|exact hd2,M',hW',hG,fun _=>hh⟩⟩
   ·refine Bz0 ?_
    exact Zaq ⟨(Zh2.of hx).trans hB,.inr ⟨rfl,fun _ _=>⟨rfl,hf⟩⟩⟩
  ·exact Zaq ⟨.of (by exact AXT),.inr ⟨rfl,fun e1 e2=>by simp[e1,e2]at hd⟩⟩
def CellsQ (w a b m : Nat) (x : Shp) (l k : List Nod) (last : Bool) (M : List ((Int × Int) × Int)) (p q : List Cel) (H : Zaa) (r : AV) (H' : Zaa) : Prop := Zh2 m H H' /\
  ((r = .b true /\ tails p = tails q /\ ∃ M', Wk w a b m x l k M' H' /\ Grow x l k M M' /\ (last = false -> ∀ e ∈ (p.map Cel.child).zip (q.map Cel.child), has M' e)) \/
   (r = .b false /\ (tails p = tails q -> last = false /\ ∃ e ∈ (p.map Cel.child).zip (q.map Cel.child), ∀ f, Zra x l k f e = false)))
structure CelJ (w a b m il iw:Nat) (x:Shp) (l k:List Nod) (last:Bool) (M:List ((Int×Int)×Int)) (p q:List Cel) (H:Zaa) (n:Nat) (G:Zaa):Prop where
 ext:Zh2 m H G
 hl:G.get il=some (.cells [.b last] 4)
 hw:G.get iw=some (.cells [.ptr w 0] 155)
 ex:∃M',Wk w a b m x l k M' G/\Grow x l k M M'/\(∀j (h1:j<p.length) (h2:j<q.length),j<n->p[j].key=q[j].key/\p[j].agg=q[j].agg/\(last=false->has M' (p[j].child,q[j].child)))
set_option maxHeartbeats 1000000 in
theorem ZsD {last:Bool} (t u:Tok) (p q:List Cel) (hp:p.length<=1000000) (hW:Wk w a b m x l k M H)
  (IH:last=false->∀e∈(p.map Cel.child).zip (q.map Cel.child),∀M G,Wk w a b m x l k M G->Zay Tryz.prog 86 [.ptr w 0,.agg [.i e.1,.i e.2]] G (ZsP w a b m x l k M e G)) :
  Zay Tryz.prog 127 [.ptr w 0,.b last,.sl t (rC p),.sl u (rC q)] H (CellsQ w a b m x l k last M p q H):=by
 refine Zak hE cf127 (zaa rfl) fun Q qr qn=>?_
 have hx:Zaa.Ext H ((H.alloc (.cells [.ptr w 0] 155)).alloc (.cells [.b last] 4)):=by exact AXT
 have hlm:=Zaa.lt hW.gm
 refine Bz0 ?_
 have hf:=Ztj (f:=156) (first:=[]) (caps:=[.ptr (H.next+1) 0,.ptr H.next 0]) (Rf:=fun G=>Zh2 m H G/\(tails p=tails q->last=false/\∃e∈(p.map Cel.child).zip (q.map Cel.child),∀f,Zra x l k f e=false))
  (CelJ w a b m (H.next+1) H.next x l k last M p q H) (fun n G G' h hx=>⟨h.ext.trans (.of hx.ext),hx.ext.get _ _ h.hl,hx.ext.get _ _ h.hw,by
   obtain⟨M',h1,h2⟩:=h.ex
   exact⟨M',h1.ext hx.ext,h2⟩⟩) t u p q ((H.alloc (.cells [.ptr w 0] 155)).alloc (.cells [.b last] 4)) hp
  ⟨.of hx,Zaa.Zae (H:=H.alloc _),by rw[Zaa.Zag (by simp)];exact Zaa.Zae,M,hW.ext hx,.refl _ _ _ _,fun j _ _ h=>by omega⟩
  (fun hne=>⟨.of hx,fun e=>absurd (by simpa [tails] using congrArg List.length e) hne⟩)
  (fun n h1 h2 G hJ=>by
   obtain⟨M',hW',hG,hall⟩:=hJ.ex
   have hz:(p[n].child,q[n].child)∈(p.map Cel.child).zip (q.map Cel.child):=by
    refine zcF.2 ⟨n,by simp;omega,by simp⟩
   refine(cel_step p[n] q[n] hW' hJ.hl hJ.hw (fun e G hG=>IH e _ hz M' G hG)).mono ?_
   rintro r G' ⟨hB,⟨rfl,e1,e2,M2,hW2,hG2,hh⟩|⟨rfl,hf⟩⟩
   ·refine .inl ⟨rfl,hJ.ext.trans hB,hB.get _ _ (by omega) hJ.hl,hB.get _ _ (by omega) hJ.hw,M2,hW2,hG.trans hG2,fun j g1 g2 hj=>?_⟩
    rcases zb2 j n with h|h
    ·obtain⟨a1,a2,a3⟩:=hall j g1 g2 h
     exact⟨a1,a2,fun e=>hG2.sub _ (a3 e)⟩
    ·obtain rfl:j=n:=by omega
     exact⟨e1,e2,hh⟩
   ·refine .inr ⟨rfl,hJ.ext.trans hB,fun e=>?_⟩
    have hk:(tails p)[n]'(by simp[tails];omega)=(tails q)[n]'(by simp[tails];omega):=by simp only[e]
    simp only[tails,zbl,zat]at hk
    obtain⟨f1,f2⟩:=hf hk.1 hk.2
    exact⟨f1,_,hz,f2⟩)
 refine Zap.use hf ?_
 rintro r G (⟨rfl,hlen,hJ⟩|⟨rfl,hB,hr⟩)
 ·refine Bz0 ?_
  obtain⟨M',hW',hG,hall⟩:=hJ.ex
  refine Zaq ⟨hJ.ext,.inl ⟨rfl,?_,M',hW',hG,fun e z hz=>?_⟩⟩
  ·refine zcg (by simpa [tails] using hlen) fun j h1 h2=>?_
   simp only[tails,zaj]at h1 h2
   simp only[tails,zbl,zat]
   exact⟨(hall j h1 h2 h1).1,(hall j h1 h2 h1).2.1⟩
  ·obtain⟨j,hj,rfl⟩:=zcF.1 hz
   simp only[List.length_zip,zaj]at hj
   simp only[List.getElem_zip,zbl]
   exact(hall j (by omega) (by omega) (by omega)).2.2 e
 ·refine Bz0 ?_
  exact Zaq ⟨hB,.inr ⟨rfl,hr⟩⟩
end
theorem Zq1 {l:List Nod} (i:Int) (h:∀n∈l,Zdb n):Zdb (Zdw l i):=by
 have h0:Zdb ⟨0,[],⟨0,0,⟨0,0,0,0,0,0,0,0,0,0⟩⟩⟩:=by unfold Zdb;simp
 unfold Zdw
 split
 ·cases he:l[i.toNat]? with
  | none=>exact h0
  | some n=>exact h n (zaS he)
 ·exact h0
set_option maxHeartbeats 4000000 in
theorem Ztf {w a b m:Nat} {x:Shp} {l k:List Nod} {M:List ((Int×Int)×Int)} {H:Zaa} (p:Int×Int) (hW:Wk w a b m x l k M H)
  (hx:1<=x.sizes.length) (hx2:x.sizes.length<=1000) (hm:ZbS x=true) (hn:∀n∈l,Zdb n) (hk:∀n∈k,Zdb n)
  (IH:∀e∈chl x (Zdw l p.1) (Zdw k p.2),∀M G,Wk w a b m x l k M G->Zay Tryz.prog 86 [.ptr w 0,.agg [.i e.1,.i e.2]] G (ZsP w a b m x l k M e G)) :
  Zay Tryz.prog 86 [.ptr w 0,.agg [.i p.1,.i p.2]] H (ZsP w a b m x l k M p H):=by
 obtain⟨i,j⟩:=p
 refine Zak hE cf86 (zaa rfl) fun Q qr qn=>?_
 obtain⟨h1,h2,h3,h4,h5,n1,n2,n3⟩:=hW
 have l1:=Zaa.lt h1
 have l4:=Zaa.lt h4
 have hf:=ZbV (vf:=AV.i) ZsH (i,j) M
 cases hg:Zcz (i,j) M with
 | some v =>
  obtain rfl:=h5 _ _ hg
  rw[hg]at hf
  have hZ:=an7 h1<|an7 h4<|an7 @ZsL<|hf;refine Bz1 ?_
  refine Zaq ⟨.of (by exact AXT),.inl ⟨rfl,M,Wk.ext ⟨h1,h2,h3,h4,h5,n1,n2,n3⟩ (by exact AXT),.refl _ _ _ _,by unfold has;rw[hg];rfl⟩⟩
 | none =>
  rw[hg]at hf
  have hs0:=ZcH (vf:=AV.i) ZsH (i,j) 0 M
  have hf1:=ZbV (vf:=AV.i) ZsH (i,j) (ZbU (i,j) 0 M)
  have hs1:=ZcH (vf:=AV.i) ZsH (i,j) 1 (ZbU (i,j) 0 M)
  rw[ZdP]at hf1
  rw[Zsj]at hs1
  have hw1:Wk w a b m x l k (ZbU (i,j) 1 M) (((H.alloc (.cells [.i i,.i j] 161)).set m (.map (.row [.int .i64,.int .i64]) (Zgf k2 AV.i (ZbU (i,j) 0 M)) false)).set m (.map (.row [.int .i64,.int .i64]) (Zgf k2 AV.i (ZbU (i,j) 1 M)) false)):=by
   have hx1:Zh2 m H (((H.alloc (.cells [.i i,.i j] 161)).set m (.map (.row [.int .i64,.int .i64]) (Zgf k2 AV.i (ZbU (i,j) 0 M)) false)).set m (.map (.row [.int .i64,.int .i64]) (Zgf k2 AV.i (ZbU (i,j) 1 M)) false)):=(Zh2.refl m H).alloc.set.set
   refine⟨hx1.get _ _ n1 h1,h2.extB hx1 n2,h3.extB hx1 n3,Zaa.Zal (by simp;omega),fun p v hp=>?_,n1,n2,n3⟩
   rw[Zeg]at hp
   split at hp
   ·injection hp with hp;exact hp.symm
   ·exact h5 p v hp
  have hb:(((H.alloc (.cells [.i i,.i j] 161)).set m (.map (.row [.int .i64,.int .i64]) (Zgf k2 AV.i (ZbU (i,j) 0 M)) false)).set m (.map (.row [.int .i64,.int .i64]) (Zgf k2 AV.i (ZbU (i,j) 1 M)) false)).get H.next=some (.cells [.i i,.i j] 161):=by
   rw[Zaa.Zah (by omega),Zaa.Zah (by omega)];exact Zaa.Zae
  have hB:Zh2 m H (((H.alloc (.cells [.i i,.i j] 161)).set m (.map (.row [.int .i64,.int .i64]) (Zgf k2 AV.i (ZbU (i,j) 0 M)) false)).set m (.map (.row [.int .i64,.int .i64]) (Zgf k2 AV.i (ZbU (i,j) 1 M)) false)):=(Zh2.refl m H).alloc.set.set
  have hZ:=an7 h1<|an7 h4<|an7 @ZsL<|an7 hf<|an7 hs0<|an7 hf1<|hs1;refine Bz1 ?_
  generalize ((H.alloc (.cells [.i i,.i j] 161)).set m (.map (.row [.int .i64,.int .i64]) (Zgf k2 AV.i (ZbU (i,j) 0 M)) false)).set m (.map (.row [.int .i64,.int .i64]) (Zgf k2 AV.i (ZbU (i,j) 1 M)) false)=G at *
  refine Zap.use (ZfD i hw1.ga hx hn) ?_
  rintro r G1 ⟨hx1,t1,rfl⟩
  have a1:=hx1.get _ _ hw1.gw
  have a2:=hx1.get _ _ hb
  have b1:=Zaa.lt a1
  have b2:=Zaa.lt a2
  have hZ:=an7 a1<|a2;refine Bz1 ?_
  have hw2:=hw1.ext (hx1.trans (Zaa.Ext.alloc (Zaa.Ext.refl G1) (o:=.cells (ZbD t1 (Zdw l i)) 115)))
  refine Zap.use (ZfD j hw2.gb hx hk) ?_
  rintro r G2 ⟨hx2',t2,rfl⟩
  have hXs:=Zq1 i hn
  have hYs:=Zq1 j hk
  have hT0:∀f,Zra x l k f (i,j)=true->locT (Zdw l i) (Zdw k j)=true/\∃g,∀e∈chl x (Zdw l i) (Zdw k j),Zra x l k g e=true:=by
   intro f hf
   cases f with
   | zero=>cases hf
   | succ f =>
    simp only[Zra,zax,zaV]at hf
    exact⟨hf.1,f,hf.2⟩
  have hloc:locT (Zdw l i) (Zdw k j)=(decide ((Zdw l i).dim=(Zdw k j).dim)&&(decide ((Zdw l i).lists.map List.length=(Zdw k j).lists.map List.length)&&decide (tails (each (Zdw l i))=tails (each (Zdw k j))))):=rfl
  have hchl:chl x (Zdw l i) (Zdw k j)=if lastB x (Zdw l i).dim=true then [] else ((each (Zdw l i)).map Cel.child).zip ((each (Zdw k j)).map Cel.child):=rfl
  simp only at IH
  have a3:=hx2'.get _ _ (Zaa.Zae (H:=G1))
  generalize hXe:Zdw l i=X at *
  generalize hYe:Zdw k j=Y at *
  have a4:=(hw2.ext hx2').gw
  have b3:=Zaa.lt a3
  have b4:=Zaa.lt a4
  have hE2:Zaa.Ext G G2:=(hx1.trans (Zaa.Ext.refl G1).alloc).trans hx2'
  have nope:∀G',Zaa.Ext G G'->locT X Y=false->ZsP w a b m x l k M (i,j) H (.b false) G':=fun G' hx hl=>⟨hB.trans (.of hx),.inr ⟨rfl,fun f=>by
   cases h:Zra x l k f (i,j)with
   | false=>rfl
   | true=>have:=(hT0 f h).1;rw[hl]at this;cases this⟩⟩
  have hZ:=a3;focus (refine Ss1 ?_ ?_<;>intro hd;refine Ss1 ?_ ?_<;>intro hd)
  ·refine Zaq (nope _ (hE2.trans (by exact AXT)) ?_)
   rw[hloc]
   have:¬X.lists.map List.length=Y.lists.map List.length:=fun e=>ZnX hd (by simpa using congrArg List.length e)
   simp[this]
  ·rename_i hd1
   have hXd:X.dim=Y.dim:=by simpa using hd1
   have hw3:=(hw2.ext hx2').ext (Zaa.Ext.alloc (Zaa.Ext.refl G2) (o:=.cells (ZbD t2 Y) 115))
   have a5:=hw3.gw
   have hZ:=an7 a3<|a4;refine Bz1 ?_
   obtain⟨tk,nt,mo,hga⟩:=hw3.ga
   refine Zap.use (ZlR hga hm) ?_
   rintro r G3 ⟨hx3,t3,rfl⟩
   have c1:=hx3.get _ _ (Zaa.Zae (H:=G2))
   have c2:=hx3.get _ _ ((Zaa.Ext.refl G2).alloc.get _ _ a3)
   have e1:=Zaa.lt c1
   have e2:=Zaa.lt c2
   have hw4:=hw3.ext hx3
   have hE3:Zaa.Ext G G3:=(hE2.trans (Zaa.Ext.refl G2).alloc).trans hx3
   have hZ:=an7 c1<|c2;refine Bz1 ?_
   refine qcp (Zgq t3 x X.dim _ (by omega)) fun q1=>?_
   have hZ:=an7 c1<|c2;refine Bz1 ?_
   refine qcp (ZkK t1 X _ hXs.1 (by have:=hXs.2.1;omega)) fun q2=>?_
   have hZ:=an7 c1<|c2;refine Bz1 ?_
   refine qcp (ZkK t2 Y _ hYs.1 (by have:=hYs.2.1;omega)) fun q3=>?_
   have hZ:=an7 c1<|c2;refine Bz1 ?_
   refine Zap.use (ZsD .no .no (each X) (each Y) (ZpY hXs) (hw4.ext (by exact AXT)) (fun hl e he M G hM=>IH e (by rw[hchl,hl];exact he) M G hM)) ?_
   rintro r G4 ⟨hB4,⟨rfl,ht,M',hW',hG',hh⟩|⟨rfl,hr⟩⟩
   ·have c3:=hB4.get _ _ (by have:=Zaa.lt hw1.gm;have:=hE2.next;omega) c1
    have c4:=hB4.get _ _ (by have:=Zaa.lt hw1.gm;have:=hx1.next;omega) c2
    have hZ:=an7 c3<|c4;refine Bz1 ?_
    refine qcp (ZsT (e:=fun a b=>decide (a.length=b.length)) t1 t2 X.lists Y.lists _ hXs.1 (fun p hp q G=>ZsR .no .no p q G)) fun q4=>?_
    refine Bz0 ?_
    rw[ZsK]
    have hBB:Zh2 m H (G4.bump q4):=(hB.trans (.of hE3)).trans ((Zh2.bump (Zh2.bump (Zh2.bump (Zh2.refl m G3)))).trans hB4).bump
    cases hlen:decide (X.lists.map List.length=Y.lists.map List.length)with
    | false =>
     refine Zaq ⟨hBB,.inr ⟨rfl,fun f=>?_⟩⟩
     cases h:Zra x l k f (i,j)with
     | false=>rfl
     | true=>have:=(hT0 f h).1;rw[hloc,hlen]at this;simp at this
    | true =>
     have hlocT:locT X Y=true:=by rw[hloc,hlen,hXd,ht];simp
     refine Zaq ⟨hBB,.inl ⟨rfl,M',hW'.ext (by exact AXT),⟨fun p hp=>hG'.sub p ?_,fun p hp=>?_⟩,hG'.sub _ (by unfold has;rw[ZdP];rfl)⟩⟩
     ·unfold has at hp ⊢
      rw[Zeg];split<;>simp[hp]
     ·rcases hG'.new p hp with h|h
      ·unfold has at h
       rw[Zeg]at h
       split at h
       ·rename_i e
        subst e
        refine .inr ⟨by simp only[hXe,hYe];exact hlocT,fun e he=>?_⟩
        simp only[hXe,hYe]at he
        rw[hchl]at he
        cases hl:lastB x X.dim with
        | true=>rw[hl]at he;cases he
        | false=>rw[hl]at he;exact hh hl e he
       ·exact .inl h
      ·exact .inr h
   ·refine Bz0 ?_
    refine Zaq ⟨(hB.trans (.of hE3)).trans ((Zh2.bump (Zh2.bump (Zh2.bump (Zh2.refl m G3)))).trans hB4),.inr ⟨rfl,fun f=>?_⟩⟩
    cases h:Zra x l k f (i,j)with
    | false=>rfl
    | true =>
     obtain⟨g1,g,g2⟩:=hT0 f h
     rw[hloc]at g1
     simp only[zax,decide_eq_true_eq]at g1
     obtain⟨f1,e,he,f2⟩:=hr g1.2.2
     have:=g2 e (by rw[hchl,f1];exact he)
     rw[f2 g]at this;cases this
  ·refine Zaq (nope _ (hE2.trans (by exact AXT)) ?_)
   rw[hloc]
   have:¬X.dim=Y.dim:=by simpa using hd
   simp[this]
theorem ZsC {x:Shp} {l k:List Nod} (h:Down x l) {i j:Int} (hi:0<=i) (hi2:i<l.length) {e:Int×Int} (he:e∈chl x (Zdw l i) (Zdw k j)):0<=e.1/\e.1<i:=by
 unfold chl at he
 split at he
 ·cases he
 ·rename_i hl
  obtain⟨n,rfl⟩:∃n:Nat,i=n:=⟨i.toNat,by omega⟩
  have hm:=(List.of_mem_zip (a:=e.1) (b:=e.2) he).1
  obtain⟨c,hc,he1⟩:=zaq.1 hm
  rw[<- he1]
  exact h n (by omega) (by simpa using hl) c hc
theorem ZrD {w a b m:Nat} {x:Shp} {l k:List Nod} (hx:1<=x.sizes.length) (hx2:x.sizes.length<=1000) (hm:ZbS x=true) (hn:∀n∈l,Zdb n) (hk:∀n∈k,Zdb n) (hd:Down x l) :
  ∀n:Nat,∀p:Int×Int,0<=p.1->p.1<l.length->p.1<n->∀M H,Wk w a b m x l k M H->Zay Tryz.prog 86 [.ptr w 0,.agg [.i p.1,.i p.2]] H (ZsP w a b m x l k M p H)
 | 0,p,h1,h2,h3,M,H,hW=>by omega
 | n+1,p,h1,h2,h3,M,H,hW=>Ztf p hW hx hx2 hm hn hk fun e he M G hG=>by
  have:=ZsC hd h1 h2 he
  exact ZrD hx hx2 hm hn hk hd n e this.1 (by omega) (by omega) M G hG
theorem ZrR {x:Shp} {l k:List Nod} {M:List ((Int×Int)×Int)} (hd:Down x l) (hg:∀p,has M p->good x l k M p):∀n:Nat,∀p:Int×Int,0<=p.1->p.1<l.length->p.1<n->has M p->Zra x l k n p=true
 | 0,p,h1,h2,h3,hp=>by omega
 | n+1,p,h1,h2,h3,hp=>by
  have h:=hg p hp
  simp only[Zra,zax,zaV]
  refine⟨h.1,fun e he=>?_⟩
  have:=ZsC hd h1 h2 he
  exact ZrR hd hg n e this.1 (by omega) (by omega) (h.2 e he)
def part (r:List Bool) (k:Nat):List Bool:=r.take k++List.replicate (r.length - k) false
def Zts (x:Shp) (l m:List Nod):Bool:=Zra x l m l.length ((l.length:Int) - 1,(m.length:Int) - 1)
def eqB (x y:Shp) (l m:List Nod):Bool:=decide (x=y)&&decide (l=m)
set_option maxHeartbeats 1000000 in
theorem Zt3 {H:Zaa} {a b:Nat} {x y:Shp} {l m:List Nod} (ha:ArA H a x l) (hb:ArA H b y m) (wa:ArW x l) (wb:ArW y m):Zay Tryz.prog 76 [.ptr a 0,.ptr b 0] H (ZrY H (.b (eqB x y l m))):=by
 obtain⟨p1,p2,p3⟩:=wa.bounds
 obtain⟨q1,q2,q3⟩:=wb.bounds
 refine Zak hE cf76 (zaa rfl) fun Q qr qn=>?_
 refine Bz0 ?_
 obtain⟨_,_,_,g1⟩:=ha.eAr
 refine Zap.use (ZlR g1 wa.may) ?_
 rintro r H1 ⟨hx1,t1,rfl⟩
 refine Bz0 ?_
 obtain⟨_,_,_,g2⟩:=(hb.ext hx1).eAr
 refine Zap.use (ZlR g2 wb.may) ?_
 rintro r H2 ⟨hx2,t2,rfl⟩
 refine Bz0 ?_
 refine qcp (ZrL t1 t2 x y _ (by omega) (fun s hs=>by have:=p3 s hs;omega)) fun k1=>?_
 cases hxy:decide (x=y)with
 | false =>
  have hZ:=hxy;refine Bz1 ?_
  exact Zaq ⟨by unfold eqB;rw[hxy];rfl,(hx1.trans hx2).bump⟩
 | true =>
  have hl:=wa.len
  have hm:=wb.len
  have hZ:=hxy;refine Bz1 ?_
  refine qcp (Znx ((ha.ext (hx1.trans hx2)).ext (Zaa.Ext.refl H2).bump) p1 (by omega) wa.small) fun k2=>?_
  refine Bz0 ?_
  refine qcp (Znx ((hb.ext (hx1.trans hx2)).ext ((Zaa.Ext.refl H2).bump.bump)) q1 (by omega) wb.small) fun k3=>?_
  refine Bz0 ?_
  refine qcp (ZvG (e:=fun x y=>decide (x=y)) .no .no l m _ (by omega) (fun p hp q hq G=>ZuJ .no .no p q G (wa.small p hp))) fun k4=>?_
  refine Bz0 ?_
  exact Zaq ⟨by unfold eqB;rw[hxy,Zhz];rfl,(hx1.trans hx2).bump.bump.bump.bump⟩
def ZrV (x y:Shp) (l m:List Nod):Bool:=Zlb x l&&(Zlb y m&&(decide (x=y)&&(if l.length=0\/m.length=0 then decide (l.length=m.length) else Zts x l m)))
theorem Zq3 {H:Zaa} {id:Nat} {x:Shp} {l:List Nod} (ha:ArA H id x l) (hw:ArW x l):Zay Tryz.prog 42 [.ptr id 0] H (ZrY H (.i l.length)):=ZhQ ha hw.bounds.1
set_option maxHeartbeats 2000000 in
theorem Zsd {H:Zaa} {a b:Nat} {x y:Shp} {l m:List Nod} (ha:ArA H a x l) (hb:ArA H b y m) (wa:ArW x l) (wb:ArW y m):Zay Tryz.prog 45 [.ptr a 0,.ptr b 0] H (ZrY H (.b (ZrV x y l m))):=by
 obtain⟨p1,p2,p3⟩:=wa.bounds
 obtain⟨q1,q2,q3⟩:=wb.bounds
 have hla:=wa.len
 have hlb:=wb.len
 refine Zak hE cf45 (zaa rfl) fun Q qr qn=>?_
 refine Bz0 ?_
 refine qcp (Znm ha wa) fun k1=>?_
 cases h1:Zlb x l with
 | false =>
  have hZ:=h1;refine Bz1 ?_
  exact Zaq ⟨by unfold ZrV;rw[h1];rfl,(Zaa.Ext.refl H).bump⟩
 | true =>
  have hZ:=h1;refine Bz1 ?_
  refine qcp (Znm (hb.ext (Zaa.Ext.refl H).bump) wb) fun k2=>?_
  cases h2:Zlb y m with
  | false =>
   have hZ:=h2;refine Bz1 ?_
   exact Zaq ⟨by unfold ZrV;rw[h1,h2];rfl,(Zaa.Ext.refl H).bump.bump⟩
  | true =>
   have hZ:=h2;refine Bz1 ?_
   have hx0:Zaa.Ext H ((H.bump k1).bump k2):=by exact AXT
   obtain⟨_,_,_,g1⟩:=(ha.ext hx0).eAr
   refine Zap.use (ZlR g1 wa.may) ?_
   rintro r H1 ⟨hx1,t1,rfl⟩
   have hx1:=hx0.trans hx1
   refine Bz0 ?_
   obtain⟨_,_,_,g2⟩:=(hb.ext hx1).eAr
   refine Zap.use (ZlR g2 wb.may) ?_
   rintro r H2 ⟨hx2,t2,rfl⟩
   have hx2:=hx1.trans hx2
   refine Bz0 ?_
   refine qcp (ZrL t1 t2 x y _ (by omega) (fun s hs=>by have:=p3 s hs;omega)) fun k3=>?_
   cases hxy:decide (x=y)with
   | false =>
    have hZ:=hxy;refine Bz1 ?_
    exact Zaq ⟨by unfold ZrV;rw[h1,h2,hxy];rfl,hx2.bump⟩
   | true =>
    obtain rfl:x=y:=of_decide_eq_true hxy
    have hZ:=hxy;refine Bz1 ?_
    (refine Zap.use (Zq3 (ha.ext hx2.bump) wa) ?_;rintro _ H3 ⟨rfl,hx3⟩)
    have hx3:=hx2.bump.trans hx3
    have fin:∀H' b,Zaa.Ext H H'->b=(if l.length=0\/m.length=0 then decide (l.length=m.length) else Zts x l m)->ZrY H (.b (ZrV x x l m)) (.b b) H':=fun H' b hx e=>⟨by unfold ZrV;rw[h1,h2,hxy,<- e];rfl,hx⟩
    have hee:((l.length:Int) == (m.length:Int))=decide (l.length=m.length):=by rw[zaT];simp;omega
    by_cases hl0:l.length=0
    ·have d1:((l.length:Int) == 0)=true:=by simp[hl0]
     have hZ:=d1;refine Bz1 ?_
     (refine Zap.use (Zq3 (ha.ext hx3) wa) ?_;rintro _ H4 ⟨rfl,hx4⟩)
     have hx4:=hx3.trans hx4
     refine Bz0 ?_
     (refine Zap.use (Zq3 (hb.ext hx4) wb) ?_;rintro _ H5 ⟨rfl,hx5⟩)
     have hZ:=hee;refine Bz1 ?_
     exact Zaq (fin _ _ (hx4.trans hx5) (by rw[if_pos (.inl hl0)]))
    ·have d1:((l.length:Int) == 0)=false:=by rw[beq_eq_false_iff_ne];omega
     have hZ:=d1;refine Bz1 ?_
     (refine Zap.use (Zq3 (hb.ext hx3) wb) ?_;rintro _ H4 ⟨rfl,hx4⟩)
     have hx4:=hx3.trans hx4
     by_cases hm0:m.length=0
     ·have d2:((m.length:Int) == 0)=true:=by simp[hm0]
      have hZ:=d2;refine Bz1 ?_
      (refine Zap.use (Zq3 (ha.ext hx4) wa) ?_;rintro _ H5 ⟨rfl,hx5⟩)
      have hx5:=hx4.trans hx5
      refine Bz0 ?_
      (refine Zap.use (Zq3 (hb.ext hx5) wb) ?_;rintro _ H6 ⟨rfl,hx6⟩)
      have hZ:=hee;refine Bz1 ?_
      exact Zaq (fin _ _ (hx5.trans hx6) (by rw[if_pos (.inr hm0)]))
     ·have d2:((m.length:Int) == 0)=false:=by rw[beq_eq_false_iff_ne];omega
      have hZ:=d2;refine Bz1 ?_
      have hx5:Zaa.Ext H ((H4.alloc (.map (.row [.int .i64,.int .i64]) [] false)).alloc (.cells [.ptr a 0,.ptr b 0,.mp H4.next] 158)):=hx4.alloc.alloc
      refine Zap.use (Ziu (ha.ext hx5) p1 (by omega)) ?_
      rintro _ H5 ⟨rfl,hx6⟩
      have hx7:=hx5.trans hx6
      refine Bz0 ?_
      refine Zap.use (Ziu (hb.ext hx7) q1 (by omega)) ?_
      rintro _ H6 ⟨rfl,hx8⟩
      refine Bz0 ?_
      have ia:=(ha.ext hx4)
      have ib:=(hb.ext hx4)
      have hW:Wk (H4.next+1) a b H4.next x l m [] ((H4.alloc (.map (.row [.int .i64,.int .i64]) [] false)).alloc (.cells [.ptr a 0,.ptr b 0,.mp H4.next] 158)):=by
       obtain⟨_,_,_,e1⟩:=ia
       obtain⟨_,_,_,e2⟩:=ib
       have:=Zaa.lt e1
       have:=Zaa.lt e2
       exact⟨Zaa.Zae (H:=H4.alloc _),ha.ext hx5,hb.ext hx5,by rw[Zaa.Zag (by simp)];exact Zaa.Zae,(fun p v h=>by simp[Zcz]at h),by omega,by omega,by omega⟩
      refine Zap.use (ZrD p1 (by omega) wa.may wa.small wb.small wa.down l.length ((l.length:Int) - 1,(m.length:Int) - 1) (by simp only;omega) (by simp only;omega) (by simp only;omega) [] _ (hW.ext (hx6.trans hx8))) ?_
      have hext:∀G,Zh2 H4.next H6 G->Zaa.Ext H G:=fun G hB=>⟨by have:=(hx7.trans hx8).next;have:=hB.next;omega,fun i o e=>hB.get i o (by have:=Zaa.lt e;have:=hx4.next;omega) ((hx7.trans hx8).get i o e)⟩
      rintro r H7 ⟨hB,⟨rfl,M',hW',hG,hh⟩|⟨rfl,hf⟩⟩
      ·refine Bz0 ?_
       refine Zaq (fin _ _ (hext _ hB) ?_)
       rw[if_neg (by omega)]
       symm
       refine ZrR wa.down (fun p hp=>?_) l.length _ (by simp only;omega) (by simp only;omega) (by simp only;omega) hh
       rcases hG.new p hp with h|h
       ·cases h
       ·exact h
      ·refine Bz0 ?_
       refine Zaq (fin _ _ (hext _ hB) ?_)
       rw[if_neg (by omega)]
       exact(hf l.length).symm
def chs (x:Shp) (l:List Nod) (at_:Int):List Int:=if lastB x (Zdw l at_).dim=true then [] else (each (Zdw l at_)).map Cel.child
theorem Zq8 {x:Shp} {l:List Nod} (hd:Down x l) {i:Int} (h0:0<=i) (h1:i<l.length) {c:Int} (hc:c∈chs x l i):0<=c/\c<i:=by
 unfold chs at hc
 split at hc
 ·cases hc
 ·rename_i hl
  obtain⟨n,rfl⟩:∃n:Nat,i=n:=⟨i.toNat,by omega⟩
  obtain⟨e,he,rfl⟩:=zaq.1 hc
  exact hd n (by omega) (by simpa using hl) e he
def zvl0:List AV:=[.sc (.pointer none),.sc (.int .i64 0),.sl .full [],.sc (.int .i64 0),.sl .full [],.sc (.int .i64 0)]
def zva1:AV:=.agg [.sc (.int .i64 0),.sl .full [],.sc (.int .i64 0),.sc (.int .i64 0),.sc (.int .i64 0),.sc (.int .i64 0),.sc (.int .i64 0),.sc (.int .i64 0),.sc (.int .i64 0),.sc (.int .i64 0),.sc (.int .i64 0),.sc (.int .i64 0),.sc (.int .i64 0),.sc (.int .i64 0)]
def zva2:AV:=.agg [.sc (.int .i64 0),.sc (.int .i64 0),.sc (.int .i64 0),.sc (.int .i64 0),.sc (.int .i64 0),.sc (.int .i64 0),.sc (.int .i64 0),.sc (.int .i64 0),.sc (.int .i64 0),.sc (.int .i64 0),.sc (.int .i64 0),.sc (.int .i64 0)]
def zvl3:List AV:=[.sl .full [],.sc (.int .i64 0),.sc (.int .i64 0),.sc (.int .i64 0),.sc (.int .i64 0),.sc (.int .i64 0),.sc (.int .i64 0),.sc (.int .i64 0),.sc (.int .i64 0),.sc (.int .i64 0),.sc (.int .i64 0)]
def YZv:=an7 zvl0.eq_1<|an7 zva1.eq_1<|an7 zva2.eq_1<|zvl3.eq_1
theorem kf3 (f:FuncId) (c:Zar) (r:List Zcq) (n:Nat) (h:cFn Tryz.prog eqTi f=some (c,r,n):=by kernel_rfl):cFn Tryz.prog eqTi f=some (c,r,n):=h
def v125_1:Zar:=rl 0 33 34 (.t 32) 46<|.blk 1<|rs 34 [.X 12 31 33,.o 10 (.box 113 (.c zva2)),.Z 12 10 36]<|ri 36 [.M 0,.k 37,.F 5 38,.B .neq 40 0] 41 .ret<|ry 41 [.M 8,.M 1,.L 12 10,.O (.call (.t 42) [.t 43,.t 44])]
def Zt2:Zar:=rs 11 [.M 0,.k 12,.F 0 13,.M 2,.c 68 [15,16],.s 11,.e 11 0,.e 11 1,.o 6 (.box 115 (.c zva1)),.Z 14 6 18,.s 7]<|ri 19 [.i .neq 7 0] 21 (rr 21 [.M 0,.M 7,.k 22,.f 5 24,.Z 1 25 23])<|rs 25 [.M 0,.O (.mkf 154 [.t 26] []),.s 8]<|rs 27 [.F 1 6,.O (.ixa 1 (.t 29) (ik 0)),.l 1 30,.n 31,.J 0]<|v125_1
def vf125:=kf3 125 Zt2 [] 47
def ZtF:Zar:=rs 0 [.v 5 113 2]<|.seq (.drw [ip (im 6 0),ip (im 7 0),ip (io 8 (.nck (.t 7))),ip (io 9 (.fla 2 (.t 8))),ip (io 10 (.ld 1 false (.t 9))),ip (io 11 (.fla 0 (.t 5))),ip (io 12 (.ld 1 false (.t 11))),(io 13 (.bsv 3 1 [.t 12]),[io 10 (.ld 1 false (.t 9))]),ip (io 14 (.apv 3 1 8 [.sc (.int .i64 0)] (.t 10) (.t 13))),ip (io 15 (.nck (.t 6))),ip (io 16 (.fla 2 (.t 15))),ip (iz (.st 1 (.t 16) (.t 14)))])<|.seq (rs 16 [.M 1,.M 0,.k 18,.F 1 19,.b .eql 17 21]<|.cond (.t 22) (ry 22 [.M 0,.G 2 10 5,.c 169 [23,25]])<|ry 26 [.M 0,.i .add 1 1,.F 1 5,.c 125 [27,29,31]])<|ry 32 [.M 0,.M 0,.k 34,.F 2 35,.M 1,.O (.slc 1 (.t 37) none (some (.t 38)) none),.k 33,.f 2 40,.Z 1 41 39]
def vf154:=kf3 154 ZtF [] 42
def Zub:Zar:=rs 0 [.v 3 54 1]<|rk 3 [.M 0,.k 4,.N 4 5,.M 0,.k 9,.F 3 10,.b .geq 8 12] 13 (rr 13 [.M 0,.k 14,.f 5 15,.w (.st 1 (.t 16) (ik 6))])<|.drw [ip (im 17 0),ip (im 18 0),ip (io 19 (.nck (.t 18))),ip (io 20 (.fla 4 (.t 19))),ip (io 21 (.ld 1 false (.t 20))),ip (im 22 0),ip (io 23 (.nck (.t 22))),ip (io 24 (.fla 2 (.t 23))),ip (io 25 (.ld 1 false (.t 24))),ip (io 27 (.ld 10 true (.t 3))),(io 26 (.call (jf 95) [.t 25]),[io 21 (.ld 1 false (.t 20)),io 27 (.ld 10 true (.t 3))]),ip (io 28 (.bld zvl3 [(0,(1,.t 26)),(1,(10,.t 27))])),ip (io 29 (.bsl 11 [.t 28])),ip (io 30 (.app 88 11 104 (.t 21) (.t 29))),ip (io 31 (.nck (.t 17))),ip (io 32 (.fla 4 (.t 31))),ip (iz (.st 1 (.t 32) (.t 30)))]
def vf169:=kf3 169 Zub [] 33
end Go.Proofs.YtaapiigfmdhobaaGreat
