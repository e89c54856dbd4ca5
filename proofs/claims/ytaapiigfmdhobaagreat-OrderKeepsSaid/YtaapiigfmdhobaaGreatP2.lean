/- Texts of the walk. -/
import Derived.Test.YtaapiigfmdhobaaGreatN1
import Derived.Test.YtaapiigfmdhobaaGreatMi
import Derived.Test.YtaapiigfmdhobaaGreatMq
import Derived.Test.YtaapiigfmdhobaaGreatMf
import Derived.Test.YtaapiigfmdhobaaGreatMd
namespace Go.Proofs.YtaapiigfmdhobaaGreat
set_option linter.unusedSimpArgs false
set_option linter.unusedVariables false
open Go.RowKit
structure Wk (w a b m:Nat) (x:Shp) (l k:List Nod) (M:List ((Int×Int)×Int)) (H:Zaa):Prop where
 gw:H.get w=some (.cells [.ptr a 0,.ptr b 0,.mp m] 158)
 ga:ArA H a x l
 gb:ArA H b x k
 gm:H.get m=some (.map (.row [.int .i64,.int .i64]) (Zgf k2 AV.i M) false)
 one:∀p v,Zcz p M=some v->v=1
 nw:w≠m
 na:a≠m
 nb:b≠m
theorem ArA.extB {m:Nat} {H H':Zaa} {id:Nat} {x:Shp} {l:List Nod} (h:ArA H id x l) (hx:Zh2 m H H') (hn:id≠m):ArA H' id x l:=by
 obtain⟨tok,nt,most,h⟩:=h
 exact⟨tok,nt,most,hx.get _ _ hn h⟩
theorem Wk.ext {w a b m:Nat} {x:Shp} {l k:List Nod} {M:List ((Int×Int)×Int)} {H H':Zaa} (h:Wk w a b m x l k M H) (hx:Zaa.Ext H H'):Wk w a b m x l k M H' :=
 ⟨hx.get _ _ h.gw,h.ga.ext hx,h.gb.ext hx,hx.get _ _ h.gm,h.one,h.nw,h.na,h.nb⟩
def has (M:List ((Int×Int)×Int)) (p:Int×Int):Prop:=(Zcz p M).isSome=true
def tails (l:List Cel):List (Int×Ag):=l.map fun c=>(c.key,c.agg)
def locT (p q:Nod):Bool:=decide (p.dim=q.dim)&&(decide (p.lists.map List.length=q.lists.map List.length)&&decide (tails (each p)=tails (each q)))
def chl (x:Shp) (p q:Nod):List (Int×Int):=if lastB x p.dim=true then [] else ((each p).map Cel.child).zip ((each q).map Cel.child)
def Zra (x:Shp) (l k:List Nod):Nat->Int×Int->Bool
 | 0,_=>false
 | f+1,p=>locT (Zdw l p.1) (Zdw k p.2)&&(chl x (Zdw l p.1) (Zdw k p.2)).all fun q=>Zra x l k f q
def good (x:Shp) (l k:List Nod) (M:List ((Int×Int)×Int)) (p:Int×Int):Prop:=locT (Zdw l p.1) (Zdw k p.2)=true/\∀q∈chl x (Zdw l p.1) (Zdw k p.2),has M q
structure Grow (x:Shp) (l k:List Nod) (M M':List ((Int×Int)×Int)):Prop where
 sub:∀p,has M p->has M' p
 new:∀p,has M' p->has M p\/good x l k M' p
theorem good.mono {x:Shp} {l k:List Nod} {M M':List ((Int×Int)×Int)} {p:Int×Int} (h:good x l k M p) (hs:∀p,has M p->has M' p):good x l k M' p:=⟨h.1,fun q hq=>hs q (h.2 q hq)⟩
theorem Grow.refl (x:Shp) (l k:List Nod) (M:List ((Int×Int)×Int)):Grow x l k M M:=⟨fun _ h=>h,fun _ h=>.inl h⟩
theorem Grow.trans {x:Shp} {l k:List Nod} {M M' M'':List ((Int×Int)×Int)} (h:Grow x l k M M') (g:Grow x l k M' M''):Grow x l k M M'':=⟨fun p hp=>g.sub p (h.sub p hp),fun p hp=>by
 rcases g.new p hp with h1|h1
 ·rcases h.new p h1 with h2|h2
  ·exact .inl h2
  ·exact .inr (h2.mono g.sub)
 ·exact .inr h1⟩
def ZsP (w a b m:Nat) (x:Shp) (l k:List Nod) (M:List ((Int×Int)×Int)) (p:Int×Int) (H:Zaa) (r:AV) (H':Zaa):Prop:=Zh2 m H H' /\
 ((r=.b true/\∃M',Wk w a b m x l k M' H'/\Grow x l k M M'/\has M' p)\/(r=.b false/\∀f,Zra x l k f p=false))
theorem ZsR (t u:Tok) (p q:List Cel) (H:Zaa):Zay Tryz.prog 129 [.sl t (rC p),.sl u (rC q)] H (Pure H (.b (decide (p.length=q.length)))):=by
 refine Zak hE cf129 (zad rfl) fun Q qr qn=>?_
 ((have hd:=tv;repeat' first|(first|apply Zad|apply Zac|apply Zab)<;>intro hd<;>try simp only[hd]|simp(disch:=first|assumption|omega|simp only[nx]<;>omega|fail)only[hd,qr,qn,c129_0,↓YA,YY,sevalprocAttr])<;>try revert hd;refine ttr ?_)
 refine ZbC (by rw[zbc];simp;omega)
theorem ZsK {l m:List (List Cel)}:Zc8 (fun a b=>decide (a.length=b.length)) l m=decide (l.map List.length=m.map List.length):=by
 induction l generalizing m with
 | nil=>cases m<;>simp[Zc8]
 | cons a l ih=>cases m with
  | nil=>simp[Zc8]
  | cons b m=>rw[zbc];simp[Zc8,ih]
def CelQ (w a b m : Nat) (x : Shp) (l k : List Nod) (last : Bool) (M : List ((Int × Int) × Int)) (p q : Cel) (H : Zaa) (r : AV) (H' : Zaa) : Prop := Zh2 m H H' /\
  ((r = .b true /\ p.key = q.key /\ p.agg = q.agg /\ ∃ M', Wk w a b m x l k M' H' /\ Grow x l k M M' /\ (last = false -> has M' (p.child, q.child))) \/
   (r = .b false /\ (p.key = q.key -> p.agg = q.agg -> last = false /\ ∀ f, Zra x l k f (p.child, q.child) = false)))
section
variable {w a b m:Nat} {x:Shp} {l k:List Nod} {M:List ((Int×Int)×Int)} {H:Zaa}
set_option maxHeartbeats 1000000 in
theorem cel_step {il iw:Nat} {last:Bool} (p q:Cel) (hW:Wk w a b m x l k M H) (hl:H.get il=some (.cells [.b last] 4)) (hw:H.get iw=some (.cells [.ptr w 0] 155))
  (IH:last=false->∀G,Wk w a b m x l k M G->Zay Tryz.prog 86 [.ptr w 0,.agg [.i p.child,.i q.child]] G (ZsP w a b m x l k M (p.child,q.child) G)) :
  Zay Tryz.prog 156 ([]++[.agg (ZbE p),.agg (ZbE q)]++[.ptr il 0,.ptr iw 0]) H (CelQ w a b m x l k last M p q H):=by
 refine Zak hE cf156 (zad rfl) fun Q qr qn=>?_
 have l1:=Zaa.lt hl
 have l2:=Zaa.lt hw
 cases last with
 | true =>
  ((have hd:=tv;repeat' first|(first|apply Zad|apply Zac|apply Zab)<;>intro hd<;>try simp only[hd]|simp(disch:=first|assumption|omega|simp only[nx]<;>omega|fail)only[hd,qr,qn,Zr2,↓YA,YY,sevalprocAttr,hl,hw])<;>try revert hd;refine ttr ?_)
  ·exact Zaq ⟨.of (by exact AXT),.inr ⟨rfl,fun e1 e2=>by simp[e1,e2]at hd⟩⟩
  ·rename_i hd2
   simp at hd hd2
   exact Zaq ⟨.of (by exact AXT),.inl ⟨rfl,by first|exact hd|exact hd2,by first|exact hd|exact hd2,M,hW.ext (by exact AXT),.refl _ _ _ _,by simp⟩⟩
  ·exact Zaq ⟨.of (by exact AXT),.inr ⟨rfl,fun e1 e2=>by simp[e1,e2]at hd⟩⟩
 | false =>
  ((have hd:=tv;repeat' first|(first|apply Zad|apply Zac|apply Zab)<;>intro hd<;>try simp only[hd]|simp(disch:=first|assumption|omega|simp only[nx]<;>omega|fail)only[hd,qr,qn,Zr2,↓YA,YY,sevalprocAttr,hl,hw])<;>try revert hd;refine ttr ?_)
  ·exact Zaq ⟨.of (by exact AXT),.inr ⟨rfl,fun e1 e2=>by simp[e1,e2]at hd⟩⟩
  ·rename_i hd2
   simp at hd hd2
   have hx:Zaa.Ext H ((H.alloc (.cells (ZbE p) 113)).alloc (.cells (ZbE q) 113)):=by exact AXT
   refine Zap.use (IH rfl _ (hW.ext hx)) ?_
   rintro r G ⟨hB,⟨rfl,M',hW',hG,hh⟩|⟨rfl,hf⟩⟩
   ·((have hd:=tv;repeat' first|(first|apply Zad|apply Zac|apply Zab)<;>intro hd<;>try simp only[hd]|simp(disch:=first|assumption|omega|simp only[nx]<;>omega|fail)only[hd,qr,qn,Zr2,↓YA,YY,sevalprocAttr])<;>try revert hd;refine ttr ?_)
    exact Zaq ⟨(Zh2.of hx).trans hB,.inl ⟨rfl,by first|exact hd|exact hd2,by first|exact hd|exact hd2,M',hW',hG,fun _=>hh⟩⟩
   ·((have hd:=tv;repeat' first|(first|apply Zad|apply Zac|apply Zab)<;>intro hd<;>try simp only[hd]|simp(disch:=first|assumption|omega|simp only[nx]<;>omega|fail)only[hd,qr,qn,Zr2,↓YA,YY,sevalprocAttr])<;>try revert hd;refine ttr ?_)
    exact Zaq ⟨(Zh2.of hx).trans hB,.inr ⟨rfl,fun _ _=>⟨rfl,hf⟩⟩⟩
  ·exact Zaq ⟨.of (by exact AXT),.inr ⟨rfl,fun e1 e2=>by simp[e1,e2]at hd⟩⟩
def CellsQ (w a b m : Nat) (x : Shp) (l k : List Nod) (last : Bool) (M : List ((Int × Int) × Int)) (p q : List Cel) (H : Zaa) (r : AV) (H' : Zaa) : Prop := Zh2 m H H' /\
  ((r = .b true /\ tails p = tails q /\ ∃ M', Wk w a b m x l k M' H' /\ Grow x l k M M' /\ (last = false -> ∀ e ∈ (p.map Cel.child).zip (q.map Cel.child), has M' e)) \/
   (r = .b false /\ (tails p = tails q -> last = false /\ ∃ e ∈ (p.map Cel.child).zip (q.map Cel.child), ∀ f, Zra x l k f e = false)))
structure CelJ (w a b m il iw:Nat) (x:Shp) (l k:List Nod) (last:Bool) (M:List ((Int×Int)×Int)) (p q:List Cel) (H:Zaa) (n:Nat) (G:Zaa):Prop where
 ext:Zh2 m H G
 hl:G.get il=some (.cells [.b last] 4)
 hw:G.get iw=some (.cells [.ptr w 0] 155)
 ex:∃M',Wk w a b m x l k M' G/\Grow x l k M M'/\(∀j (h1:j<p.length) (h2:j<q.length),j<n->p[j].key=q[j].key/\p[j].agg=q[j].agg/\(last=false->has M' (p[j].child,q[j].child)))
set_option maxHeartbeats 1000000 in
theorem ZsD {last:Bool} (t u:Tok) (p q:List Cel) (hp:p.length<=1000000) (hW:Wk w a b m x l k M H)
  (IH:last=false->∀e∈(p.map Cel.child).zip (q.map Cel.child),∀M G,Wk w a b m x l k M G->Zay Tryz.prog 86 [.ptr w 0,.agg [.i e.1,.i e.2]] G (ZsP w a b m x l k M e G)) :
  Zay Tryz.prog 127 [.ptr w 0,.b last,.sl t (rC p),.sl u (rC q)] H (CellsQ w a b m x l k last M p q H):=by
 refine Zak hE cf127 (zad rfl) fun Q qr qn=>?_
 have hx:Zaa.Ext H ((H.alloc (.cells [.ptr w 0] 155)).alloc (.cells [.b last] 4)):=by exact AXT
 have hlm:=Zaa.lt hW.gm
 ((have hd:=tv;repeat' first|(first|apply Zad|apply Zac|apply Zab)<;>intro hd<;>try simp only[hd]|simp(disch:=first|assumption|omega|simp only[nx]<;>omega|fail)only[hd,qr,qn,Zsn,↓YA,YY,sevalprocAttr])<;>try revert hd;refine ttr ?_)
 have hf:=Ztj (f:=156) (first:=[]) (caps:=[.ptr (H.next+1) 0,.ptr H.next 0]) (Rf:=fun G=>Zh2 m H G/\(tails p=tails q->last=false/\∃e∈(p.map Cel.child).zip (q.map Cel.child),∀f,Zra x l k f e=false))
  (CelJ w a b m (H.next+1) H.next x l k last M p q H) (fun n G G' h hx=>⟨h.ext.trans (.of hx.ext),hx.ext.get _ _ h.hl,hx.ext.get _ _ h.hw,by
   obtain⟨M',h1,h2⟩:=h.ex
   exact⟨M',h1.ext hx.ext,h2⟩⟩) t u p q ((H.alloc (.cells [.ptr w 0] 155)).alloc (.cells [.b last] 4)) hp
  ⟨.of hx,Zaa.Zae (H:=H.alloc _),by rw[Zaa.Zag (by simp)];exact Zaa.Zae,M,hW.ext hx,.refl _ _ _ _,fun j _ _ h=>by omega⟩
  (fun hne=>⟨.of hx,fun e=>absurd (by simpa [tails] using congrArg List.length e) hne⟩)
  (fun n h1 h2 G hJ=>by
   obtain⟨M',hW',hG,hall⟩:=hJ.ex
   have hz:(p[n].child,q[n].child)∈(p.map Cel.child).zip (q.map Cel.child):=by
    refine zcu.2 ⟨n,by simp;omega,by simp⟩
   refine(cel_step p[n] q[n] hW' hJ.hl hJ.hw (fun e G hG=>IH e _ hz M' G hG)).mono ?_
   rintro r G' ⟨hB,⟨rfl,e1,e2,M2,hW2,hG2,hh⟩|⟨rfl,hf⟩⟩
   ·refine .inl ⟨rfl,hJ.ext.trans hB,hB.get _ _ (by omega) hJ.hl,hB.get _ _ (by omega) hJ.hw,M2,hW2,hG.trans hG2,fun j g1 g2 hj=>?_⟩
    rcases zbJ j n with h|h
    ·obtain⟨a1,a2,a3⟩:=hall j g1 g2 h
     exact⟨a1,a2,fun e=>hG2.sub _ (a3 e)⟩
    ·obtain rfl:j=n:=by omega
     exact⟨e1,e2,hh⟩
   ·refine .inr ⟨rfl,hJ.ext.trans hB,fun e=>?_⟩
    have hk:(tails p)[n]'(by simp[tails];omega)=(tails q)[n]'(by simp[tails];omega):=by simp only[e]
    simp only[tails,zbp,zas]at hk
    obtain⟨f1,f2⟩:=hf hk.1 hk.2
    exact⟨f1,_,hz,f2⟩)
 refine Zap.use hf ?_
 rintro r G (⟨rfl,hlen,hJ⟩|⟨rfl,hB,hr⟩)
 ·((have hd:=tv;repeat' first|(first|apply Zad|apply Zac|apply Zab)<;>intro hd<;>try simp only[hd]|simp(disch:=first|assumption|omega|simp only[nx]<;>omega|fail)only[hd,qr,qn,Zsn,↓YA,YY,sevalprocAttr])<;>try revert hd;refine ttr ?_)
  obtain⟨M',hW',hG,hall⟩:=hJ.ex
  refine Zaq ⟨hJ.ext,.inl ⟨rfl,?_,M',hW',hG,fun e z hz=>?_⟩⟩
  ·refine zbU (by simpa [tails] using hlen) fun j h1 h2=>?_
   simp only[tails,zaa]at h1 h2
   simp only[tails,zbp,zas]
   exact⟨(hall j h1 h2 h1).1,(hall j h1 h2 h1).2.1⟩
  ·obtain⟨j,hj,rfl⟩:=zcu.1 hz
   simp only[List.length_zip,zaa]at hj
   simp only[List.getElem_zip,zbp]
   exact(hall j (by omega) (by omega) (by omega)).2.2 e
 ·((have hd:=tv;repeat' first|(first|apply Zad|apply Zac|apply Zab)<;>intro hd<;>try simp only[hd]|simp(disch:=first|assumption|omega|simp only[nx]<;>omega|fail)only[hd,qr,qn,Zsn,↓YA,YY,sevalprocAttr])<;>try revert hd;refine ttr ?_)
  exact Zaq ⟨hB,.inr ⟨rfl,hr⟩⟩
end
theorem Zq1 {l:List Nod} (i:Int) (h:∀n∈l,Zdb n):Zdb (Zdw l i):=by
 have h0:Zdb ⟨0,[],⟨0,0,⟨0,0,0,0,0,0,0,0,0,0⟩⟩⟩:=by unfold Zdb;simp
 unfold Zdw
 split
 ·cases he:l[i.toNat]? with
  | none=>exact h0
  | some n=>exact h n (zaQ he)
 ·exact h0
set_option maxHeartbeats 4000000 in
theorem Ztf {w a b m:Nat} {x:Shp} {l k:List Nod} {M:List ((Int×Int)×Int)} {H:Zaa} (p:Int×Int) (hW:Wk w a b m x l k M H)
  (hx:1<=x.sizes.length) (hx2:x.sizes.length<=1000) (hm:ZbS x=true) (hn:∀n∈l,Zdb n) (hk:∀n∈k,Zdb n)
  (IH:∀e∈chl x (Zdw l p.1) (Zdw k p.2),∀M G,Wk w a b m x l k M G->Zay Tryz.prog 86 [.ptr w 0,.agg [.i e.1,.i e.2]] G (ZsP w a b m x l k M e G)) :
  Zay Tryz.prog 86 [.ptr w 0,.agg [.i p.1,.i p.2]] H (ZsP w a b m x l k M p H):=by
 obtain⟨i,j⟩:=p
 refine Zak hE cf86 (zad rfl) fun Q qr qn=>?_
 obtain⟨h1,h2,h3,h4,h5,n1,n2,n3⟩:=hW
 have l1:=Zaa.lt h1
 have l4:=Zaa.lt h4
 have hf:=ZbV (vf:=AV.i) ZsH (i,j) M
 cases hg:Zcz (i,j) M with
 | some v =>
  obtain rfl:=h5 _ _ hg
  rw[hg]at hf
  ((have hd:=tv;repeat' first|(first|apply Zad|apply Zac|apply Zab)<;>intro hd<;>try simp only[hd]|simp(disch:=first|assumption|omega|simp only[nx]<;>omega|fail)only[hd,qr,qn,Zrg,↓YA,YY,sevalprocAttr,h1,h4,ZsL,hf])<;>try revert hd;refine ttr ?_)
  refine Zaq ⟨.of (by exact AXT),.inl ⟨rfl,M,Wk.ext ⟨h1,h2,h3,h4,h5,n1,n2,n3⟩ (by exact AXT),.refl _ _ _ _,by unfold has;rw[hg];rfl⟩⟩
 | none =>
  rw[hg]at hf
  have hs0:=ZcH (vf:=AV.i) ZsH (i,j) 0 M
  have hf1:=ZbV (vf:=AV.i) ZsH (i,j) (ZbU (i,j) 0 M)
  have hs1:=ZcH (vf:=AV.i) ZsH (i,j) 1 (ZbU (i,j) 0 M)
  rw[ZdP]at hf1
  rw[Zsj]at hs1
  have hw1:Wk w a b m x l k (ZbU (i,j) 1 M) (((H.alloc (.cells [.i i,.i j] 161)).set m (.map (.row [.int .i64,.int .i64]) (Zgf k2 AV.i (ZbU (i,j) 0 M)) false)).set m (.map (.row [.int .i64,.int .i64]) (Zgf k2 AV.i (ZbU (i,j) 1 M)) false)):=by
   have hx1:Zh2 m H (((H.alloc (.cells [.i i,.i j] 161)).set m (.map (.row [.int .i64,.int .i64]) (Zgf k2 AV.i (ZbU (i,j) 0 M)) false)).set m (.map (.row [.int .i64,.int .i64]) (Zgf k2 AV.i (ZbU (i,j) 1 M)) false)):=(Zh2.refl m H).alloc.set.set
   refine⟨hx1.get _ _ n1 h1,h2.extB hx1 n2,h3.extB hx1 n3,Zaa.Zal (by simp;omega),fun p v hp=>?_,n1,n2,n3⟩
   rw[Zeg]at hp
   split at hp
   ·injection hp with hp;exact hp.symm
   ·exact h5 p v hp
  have hb:(((H.alloc (.cells [.i i,.i j] 161)).set m (.map (.row [.int .i64,.int .i64]) (Zgf k2 AV.i (ZbU (i,j) 0 M)) false)).set m (.map (.row [.int .i64,.int .i64]) (Zgf k2 AV.i (ZbU (i,j) 1 M)) false)).get H.next=some (.cells [.i i,.i j] 161):=by
   rw[Zaa.Zah (by omega),Zaa.Zah (by omega)];exact Zaa.Zae
  have hB:Zh2 m H (((H.alloc (.cells [.i i,.i j] 161)).set m (.map (.row [.int .i64,.int .i64]) (Zgf k2 AV.i (ZbU (i,j) 0 M)) false)).set m (.map (.row [.int .i64,.int .i64]) (Zgf k2 AV.i (ZbU (i,j) 1 M)) false)):=(Zh2.refl m H).alloc.set.set
  ((have hd:=tv;repeat' first|(first|apply Zad|apply Zac|apply Zab)<;>intro hd<;>try simp only[hd]|simp(disch:=first|assumption|omega|simp only[nx]<;>omega|fail)only[hd,qr,qn,Zrg,↓YA,YY,sevalprocAttr,h1,h4,ZsL,hf,hs0,hf1,hs1])<;>try revert hd;refine ttr ?_)
  generalize ((H.alloc (.cells [.i i,.i j] 161)).set m (.map (.row [.int .i64,.int .i64]) (Zgf k2 AV.i (ZbU (i,j) 0 M)) false)).set m (.map (.row [.int .i64,.int .i64]) (Zgf k2 AV.i (ZbU (i,j) 1 M)) false)=G at *
  refine Zap.use (ZfD i hw1.ga hx hn) ?_
  rintro r G1 ⟨hx1,t1,rfl⟩
  have a1:=hx1.get _ _ hw1.gw
  have a2:=hx1.get _ _ hb
  have b1:=Zaa.lt a1
  have b2:=Zaa.lt a2
  ((have hd:=tv;repeat' first|(first|apply Zad|apply Zac|apply Zab)<;>intro hd<;>try simp only[hd]|simp(disch:=first|assumption|omega|simp only[nx]<;>omega|fail)only[hd,qr,qn,Zrg,↓YA,YY,sevalprocAttr,a1,a2])<;>try revert hd;refine ttr ?_)
  have hw2:=hw1.ext (hx1.trans (Zaa.Ext.alloc (Zaa.Ext.refl G1) (o:=.cells (ZbD t1 (Zdw l i)) 115)))
  refine Zap.use (ZfD j hw2.gb hx hk) ?_
  rintro r G2 ⟨hx2',t2,rfl⟩
  have hXs:=Zq1 i hn
  have hYs:=Zq1 j hk
  have hT0:∀f,Zra x l k f (i,j)=true->locT (Zdw l i) (Zdw k j)=true/\∃g,∀e∈chl x (Zdw l i) (Zdw k j),Zra x l k g e=true:=by
   intro f hf
   cases f with
   | zero=>cases hf
   | succ f =>
    simp only[Zra,zaA,zaY]at hf
    exact⟨hf.1,f,hf.2⟩
  have hloc:locT (Zdw l i) (Zdw k j)=(decide ((Zdw l i).dim=(Zdw k j).dim)&&(decide ((Zdw l i).lists.map List.length=(Zdw k j).lists.map List.length)&&decide (tails (each (Zdw l i))=tails (each (Zdw k j))))):=rfl
  have hchl:chl x (Zdw l i) (Zdw k j)=if lastB x (Zdw l i).dim=true then [] else ((each (Zdw l i)).map Cel.child).zip ((each (Zdw k j)).map Cel.child):=rfl
  simp only at IH
  have a3:=hx2'.get _ _ (Zaa.Zae (H:=G1))
  generalize hXe:Zdw l i=X at *
  generalize hYe:Zdw k j=Y at *
  have a4:=(hw2.ext hx2').gw
  have b3:=Zaa.lt a3
  have b4:=Zaa.lt a4
  have hE2:Zaa.Ext G G2:=(hx1.trans (Zaa.Ext.refl G1).alloc).trans hx2'
  have nope:∀G',Zaa.Ext G G'->locT X Y=false->ZsP w a b m x l k M (i,j) H (.b false) G':=fun G' hx hl=>⟨hB.trans (.of hx),.inr ⟨rfl,fun f=>by
   cases h:Zra x l k f (i,j)with
   | false=>rfl
   | true=>have:=(hT0 f h).1;rw[hl]at this;cases this⟩⟩
  ((have hd:=tv;repeat' first|(first|apply Zad|apply Zac|apply Zab)<;>intro hd<;>try simp only[hd]|simp(disch:=first|assumption|omega|simp only[nx]<;>omega|fail)only[hd,qr,qn,Zrg,↓YA,YY,sevalprocAttr,a3])<;>try revert hd;refine ttr ?_)
  ·refine Zaq (nope _ (hE2.trans (by exact AXT)) ?_)
   rw[hloc]
   have:¬X.lists.map List.length=Y.lists.map List.length:=fun e=>ZnX hd (by simpa using congrArg List.length e)
   simp[this]
  ·rename_i hd1
   have hXd:X.dim=Y.dim:=by simpa using hd1
   have hw3:=(hw2.ext hx2').ext (Zaa.Ext.alloc (Zaa.Ext.refl G2) (o:=.cells (ZbD t2 Y) 115))
   have a5:=hw3.gw
   ((have hd:=tv;repeat' first|(first|apply Zad|apply Zac|apply Zab)<;>intro hd<;>try simp only[hd]|simp(disch:=first|assumption|omega|simp only[nx]<;>omega|fail)only[hd,qr,qn,Zrg,↓YA,YY,sevalprocAttr,a3,a4])<;>try revert hd;refine ttr ?_)
   obtain⟨tk,nt,mo,hga⟩:=hw3.ga
   refine Zap.use (ZlR hga hm) ?_
   rintro r G3 ⟨hx3,t3,rfl⟩
   have c1:=hx3.get _ _ (Zaa.Zae (H:=G2))
   have c2:=hx3.get _ _ ((Zaa.Ext.refl G2).alloc.get _ _ a3)
   have e1:=Zaa.lt c1
   have e2:=Zaa.lt c2
   have hw4:=hw3.ext hx3
   have hE3:Zaa.Ext G G3:=(hE2.trans (Zaa.Ext.refl G2).alloc).trans hx3
   ((have hd:=tv;repeat' first|(first|apply Zad|apply Zac|apply Zab)<;>intro hd<;>try simp only[hd]|simp(disch:=first|assumption|omega|simp only[nx]<;>omega|fail)only[hd,qr,qn,Zrg,↓YA,YY,sevalprocAttr,c1,c2])<;>try revert hd;refine ttr ?_)
   (refine Zap.use (Zgq t3 x X.dim _ (by omega)) ?_;rintro _ _ ⟨rfl,q1,rfl⟩)
   ((have hd:=tv;repeat' first|(first|apply Zad|apply Zac|apply Zab)<;>intro hd<;>try simp only[hd]|simp(disch:=first|assumption|omega|simp only[nx]<;>omega|fail)only[hd,qr,qn,Zrg,↓YA,YY,sevalprocAttr,c1,c2])<;>try revert hd;refine ttr ?_)
   (refine Zap.use (ZkK t1 X _ hXs.1 (by have:=hXs.2.1;omega)) ?_;rintro _ _ ⟨rfl,q2,rfl⟩)
   ((have hd:=tv;repeat' first|(first|apply Zad|apply Zac|apply Zab)<;>intro hd<;>try simp only[hd]|simp(disch:=first|assumption|omega|simp only[nx]<;>omega|fail)only[hd,qr,qn,Zrg,↓YA,YY,sevalprocAttr,c1,c2])<;>try revert hd;refine ttr ?_)
   (refine Zap.use (ZkK t2 Y _ hYs.1 (by have:=hYs.2.1;omega)) ?_;rintro _ _ ⟨rfl,q3,rfl⟩)
   ((have hd:=tv;repeat' first|(first|apply Zad|apply Zac|apply Zab)<;>intro hd<;>try simp only[hd]|simp(disch:=first|assumption|omega|simp only[nx]<;>omega|fail)only[hd,qr,qn,Zrg,↓YA,YY,sevalprocAttr,c1,c2])<;>try revert hd;refine ttr ?_)
   refine Zap.use (ZsD .no .no (each X) (each Y) (ZpY hXs) (hw4.ext (by exact AXT)) (fun hl e he M G hM=>IH e (by rw[hchl,hl];exact he) M G hM)) ?_
   rintro r G4 ⟨hB4,⟨rfl,ht,M',hW',hG',hh⟩|⟨rfl,hr⟩⟩
   ·have c3:=hB4.get _ _ (by have:=Zaa.lt hw1.gm;have:=hE2.next;omega) c1
    have c4:=hB4.get _ _ (by have:=Zaa.lt hw1.gm;have:=hx1.next;omega) c2
    ((have hd:=tv;repeat' first|(first|apply Zad|apply Zac|apply Zab)<;>intro hd<;>try simp only[hd]|simp(disch:=first|assumption|omega|simp only[nx]<;>omega|fail)only[hd,qr,qn,Zrg,↓YA,YY,sevalprocAttr,c3,c4])<;>try revert hd;refine ttr ?_)
    (refine Zap.use (ZsT (e:=fun a b=>decide (a.length=b.length)) t1 t2 X.lists Y.lists _ hXs.1 (fun p hp q G=>ZsR .no .no p q G)) ?_;rintro _ _ ⟨rfl,q4,rfl⟩)
    ((have hd:=tv;repeat' first|(first|apply Zad|apply Zac|apply Zab)<;>intro hd<;>try simp only[hd]|simp(disch:=first|assumption|omega|simp only[nx]<;>omega|fail)only[hd,qr,qn,Zrg,↓YA,YY,sevalprocAttr])<;>try revert hd;refine ttr ?_)
    rw[ZsK]
    have hBB:Zh2 m H (G4.bump q4):=(hB.trans (.of hE3)).trans ((Zh2.bump (Zh2.bump (Zh2.bump (Zh2.refl m G3)))).trans hB4).bump
    cases hlen:decide (X.lists.map List.length=Y.lists.map List.length)with
    | false =>
     refine Zaq ⟨hBB,.inr ⟨rfl,fun f=>?_⟩⟩
     cases h:Zra x l k f (i,j)with
     | false=>rfl
     | true=>have:=(hT0 f h).1;rw[hloc,hlen]at this;simp at this
    | true =>
     have hlocT:locT X Y=true:=by rw[hloc,hlen,hXd,ht];simp
     refine Zaq ⟨hBB,.inl ⟨rfl,M',hW'.ext (by exact AXT),⟨fun p hp=>hG'.sub p ?_,fun p hp=>?_⟩,hG'.sub _ (by unfold has;rw[ZdP];rfl)⟩⟩
     ·unfold has at hp ⊢
      rw[Zeg];split<;>simp[hp]
     ·rcases hG'.new p hp with h|h
      ·unfold has at h
       rw[Zeg]at h
       split at h
       ·rename_i e
        subst e
        refine .inr ⟨by simp only[hXe,hYe];exact hlocT,fun e he=>?_⟩
        simp only[hXe,hYe]at he
        rw[hchl]at he
        cases hl:lastB x X.dim with
        | true=>rw[hl]at he;cases he
        | false=>rw[hl]at he;exact hh hl e he
       ·exact .inl h
      ·exact .inr h
   ·((have hd:=tv;repeat' first|(first|apply Zad|apply Zac|apply Zab)<;>intro hd<;>try simp only[hd]|simp(disch:=first|assumption|omega|simp only[nx]<;>omega|fail)only[hd,qr,qn,Zrg,↓YA,YY,sevalprocAttr])<;>try revert hd;refine ttr ?_)
    refine Zaq ⟨(hB.trans (.of hE3)).trans ((Zh2.bump (Zh2.bump (Zh2.bump (Zh2.refl m G3)))).trans hB4),.inr ⟨rfl,fun f=>?_⟩⟩
    cases h:Zra x l k f (i,j)with
    | false=>rfl
    | true =>
     obtain⟨g1,g,g2⟩:=hT0 f h
     rw[hloc]at g1
     simp only[zaA,decide_eq_true_eq]at g1
     obtain⟨f1,e,he,f2⟩:=hr g1.2.2
     have:=g2 e (by rw[hchl,f1];exact he)
     rw[f2 g]at this;cases this
  ·refine Zaq (nope _ (hE2.trans (by exact AXT)) ?_)
   rw[hloc]
   have:¬X.dim=Y.dim:=by simpa using hd
   simp[this]
theorem ZsC {x:Shp} {l k:List Nod} (h:Down x l) {i j:Int} (hi:0<=i) (hi2:i<l.length) {e:Int×Int} (he:e∈chl x (Zdw l i) (Zdw k j)):0<=e.1/\e.1<i:=by
 unfold chl at he
 split at he
 ·cases he
 ·rename_i hl
  obtain⟨n,rfl⟩:∃n:Nat,i=n:=⟨i.toNat,by omega⟩
  have hm:=(List.of_mem_zip (a:=e.1) (b:=e.2) he).1
  obtain⟨c,hc,he1⟩:=zan.1 hm
  rw[<- he1]
  exact h n (by omega) (by simpa using hl) c hc
theorem ZrD {w a b m:Nat} {x:Shp} {l k:List Nod} (hx:1<=x.sizes.length) (hx2:x.sizes.length<=1000) (hm:ZbS x=true) (hn:∀n∈l,Zdb n) (hk:∀n∈k,Zdb n) (hd:Down x l) :
  ∀n:Nat,∀p:Int×Int,0<=p.1->p.1<l.length->p.1<n->∀M H,Wk w a b m x l k M H->Zay Tryz.prog 86 [.ptr w 0,.agg [.i p.1,.i p.2]] H (ZsP w a b m x l k M p H)
 | 0,p,h1,h2,h3,M,H,hW=>by omega
 | n+1,p,h1,h2,h3,M,H,hW=>Ztf p hW hx hx2 hm hn hk fun e he M G hG=>by
  have:=ZsC hd h1 h2 he
  exact ZrD hx hx2 hm hn hk hd n e this.1 (by omega) (by omega) M G hG
theorem ZrR {x:Shp} {l k:List Nod} {M:List ((Int×Int)×Int)} (hd:Down x l) (hg:∀p,has M p->good x l k M p):∀n:Nat,∀p:Int×Int,0<=p.1->p.1<l.length->p.1<n->has M p->Zra x l k n p=true
 | 0,p,h1,h2,h3,hp=>by omega
 | n+1,p,h1,h2,h3,hp=>by
  have h:=hg p hp
  simp only[Zra,zaA,zaY]
  refine⟨h.1,fun e he=>?_⟩
  have:=ZsC hd h1 h2 he
  exact ZrR hd hg n e this.1 (by omega) (by omega) (h.2 e he)
def part (r:List Bool) (k:Nat):List Bool:=r.take k++List.replicate (r.length - k) false
def Zts (x:Shp) (l m:List Nod):Bool:=Zra x l m l.length ((l.length:Int) - 1,(m.length:Int) - 1)
def ZrV (x y:Shp) (l m:List Nod):Bool:=Zlb x l&&(Zlb y m&&(decide (x=y)&&(if l.length=0\/m.length=0 then decide (l.length=m.length) else Zts x l m)))
theorem Zq3 {H:Zaa} {id:Nat} {x:Shp} {l:List Nod} (ha:ArA H id x l) (hw:ArW x l):Zay Tryz.prog 42 [.ptr id 0] H (ZrY H (.i l.length)):=ZhQ ha hw.bounds.1
set_option maxHeartbeats 2000000 in
theorem Zsd {H:Zaa} {a b:Nat} {x y:Shp} {l m:List Nod} (ha:ArA H a x l) (hb:ArA H b y m) (wa:ArW x l) (wb:ArW y m):Zay Tryz.prog 45 [.ptr a 0,.ptr b 0] H (ZrY H (.b (ZrV x y l m))):=by
 obtain⟨p1,p2,p3⟩:=wa.bounds
 obtain⟨q1,q2,q3⟩:=wb.bounds
 have hla:=wa.len
 have hlb:=wb.len
 refine Zak hE cf45 (zad rfl) fun Q qr qn=>?_
 ((have hd:=tv;repeat' first|(first|apply Zad|apply Zac|apply Zab)<;>intro hd<;>try simp only[hd]|simp(disch:=first|assumption|omega|simp only[nx]<;>omega|fail)only[hd,qr,qn,Zq5,↓YA,YY,sevalprocAttr])<;>try revert hd;refine ttr ?_)
 (refine Zap.use (Znm ha wa) ?_;rintro _ _ ⟨rfl,k1,rfl⟩)
 cases h1:Zlb x l with
 | false =>
  ((have hd:=tv;repeat' first|(first|apply Zad|apply Zac|apply Zab)<;>intro hd<;>try simp only[hd]|simp(disch:=first|assumption|omega|simp only[nx]<;>omega|fail)only[hd,qr,qn,Zq5,↓YA,YY,sevalprocAttr,h1])<;>try revert hd;refine ttr ?_)
  exact Zaq ⟨by unfold ZrV;rw[h1];rfl,(Zaa.Ext.refl H).bump⟩
 | true =>
  ((have hd:=tv;repeat' first|(first|apply Zad|apply Zac|apply Zab)<;>intro hd<;>try simp only[hd]|simp(disch:=first|assumption|omega|simp only[nx]<;>omega|fail)only[hd,qr,qn,Zq5,↓YA,YY,sevalprocAttr,h1])<;>try revert hd;refine ttr ?_)
  (refine Zap.use (Znm (hb.ext (Zaa.Ext.refl H).bump) wb) ?_;rintro _ _ ⟨rfl,k2,rfl⟩)
  cases h2:Zlb y m with
  | false =>
   ((have hd:=tv;repeat' first|(first|apply Zad|apply Zac|apply Zab)<;>intro hd<;>try simp only[hd]|simp(disch:=first|assumption|omega|simp only[nx]<;>omega|fail)only[hd,qr,qn,Zq5,↓YA,YY,sevalprocAttr,h2])<;>try revert hd;refine ttr ?_)
   exact Zaq ⟨by unfold ZrV;rw[h1,h2];rfl,(Zaa.Ext.refl H).bump.bump⟩
  | true =>
   ((have hd:=tv;repeat' first|(first|apply Zad|apply Zac|apply Zab)<;>intro hd<;>try simp only[hd]|simp(disch:=first|assumption|omega|simp only[nx]<;>omega|fail)only[hd,qr,qn,Zq5,↓YA,YY,sevalprocAttr,h2])<;>try revert hd;refine ttr ?_)
   have hx0:Zaa.Ext H ((H.bump k1).bump k2):=by exact AXT
   obtain⟨_,_,_,g1⟩:=(ha.ext hx0).eAr
   refine Zap.use (ZlR g1 wa.may) ?_
   rintro r H1 ⟨hx1,t1,rfl⟩
   have hx1:=hx0.trans hx1
   ((have hd:=tv;repeat' first|(first|apply Zad|apply Zac|apply Zab)<;>intro hd<;>try simp only[hd]|simp(disch:=first|assumption|omega|simp only[nx]<;>omega|fail)only[hd,qr,qn,Zq5,↓YA,YY,sevalprocAttr])<;>try revert hd;refine ttr ?_)
   obtain⟨_,_,_,g2⟩:=(hb.ext hx1).eAr
   refine Zap.use (ZlR g2 wb.may) ?_
   rintro r H2 ⟨hx2,t2,rfl⟩
   have hx2:=hx1.trans hx2
   ((have hd:=tv;repeat' first|(first|apply Zad|apply Zac|apply Zab)<;>intro hd<;>try simp only[hd]|simp(disch:=first|assumption|omega|simp only[nx]<;>omega|fail)only[hd,qr,qn,Zq5,↓YA,YY,sevalprocAttr])<;>try revert hd;refine ttr ?_)
   (refine Zap.use (ZrL t1 t2 x y _ (by omega) (fun s hs=>by have:=p3 s hs;omega)) ?_;rintro _ _ ⟨rfl,k3,rfl⟩)
   cases hxy:decide (x=y)with
   | false =>
    ((have hd:=tv;repeat' first|(first|apply Zad|apply Zac|apply Zab)<;>intro hd<;>try simp only[hd]|simp(disch:=first|assumption|omega|simp only[nx]<;>omega|fail)only[hd,qr,qn,Zq5,↓YA,YY,sevalprocAttr,hxy])<;>try revert hd;refine ttr ?_)
    exact Zaq ⟨by unfold ZrV;rw[h1,h2,hxy];rfl,hx2.bump⟩
   | true =>
    obtain rfl:x=y:=of_decide_eq_true hxy
    ((have hd:=tv;repeat' first|(first|apply Zad|apply Zac|apply Zab)<;>intro hd<;>try simp only[hd]|simp(disch:=first|assumption|omega|simp only[nx]<;>omega|fail)only[hd,qr,qn,Zq5,↓YA,YY,sevalprocAttr,hxy])<;>try revert hd;refine ttr ?_)
    (refine Zap.use (Zq3 (ha.ext hx2.bump) wa) ?_;rintro _ H3 ⟨rfl,hx3⟩)
    have hx3:=hx2.bump.trans hx3
    have fin:∀H' b,Zaa.Ext H H'->b=(if l.length=0\/m.length=0 then decide (l.length=m.length) else Zts x l m)->ZrY H (.b (ZrV x x l m)) (.b b) H':=fun H' b hx e=>⟨by unfold ZrV;rw[h1,h2,hxy,<- e];rfl,hx⟩
    have hee:((l.length:Int) == (m.length:Int))=decide (l.length=m.length):=by rw[zbc];simp;omega
    by_cases hl0:l.length=0
    ·have d1:((l.length:Int) == 0)=true:=by simp[hl0]
     ((have hd:=tv;repeat' first|(first|apply Zad|apply Zac|apply Zab)<;>intro hd<;>try simp only[hd]|simp(disch:=first|assumption|omega|simp only[nx]<;>omega|fail)only[hd,qr,qn,Zq5,↓YA,YY,sevalprocAttr,d1])<;>try revert hd;refine ttr ?_)
     (refine Zap.use (Zq3 (ha.ext hx3) wa) ?_;rintro _ H4 ⟨rfl,hx4⟩)
     have hx4:=hx3.trans hx4
     ((have hd:=tv;repeat' first|(first|apply Zad|apply Zac|apply Zab)<;>intro hd<;>try simp only[hd]|simp(disch:=first|assumption|omega|simp only[nx]<;>omega|fail)only[hd,qr,qn,Zq5,↓YA,YY,sevalprocAttr])<;>try revert hd;refine ttr ?_)
     (refine Zap.use (Zq3 (hb.ext hx4) wb) ?_;rintro _ H5 ⟨rfl,hx5⟩)
     ((have hd:=tv;repeat' first|(first|apply Zad|apply Zac|apply Zab)<;>intro hd<;>try simp only[hd]|simp(disch:=first|assumption|omega|simp only[nx]<;>omega|fail)only[hd,qr,qn,Zq5,↓YA,YY,sevalprocAttr,hee])<;>try revert hd;refine ttr ?_)
     exact Zaq (fin _ _ (hx4.trans hx5) (by rw[if_pos (.inl hl0)]))
    ·have d1:((l.length:Int) == 0)=false:=by rw[beq_eq_false_iff_ne];omega
     ((have hd:=tv;repeat' first|(first|apply Zad|apply Zac|apply Zab)<;>intro hd<;>try simp only[hd]|simp(disch:=first|assumption|omega|simp only[nx]<;>omega|fail)only[hd,qr,qn,Zq5,↓YA,YY,sevalprocAttr,d1])<;>try revert hd;refine ttr ?_)
     (refine Zap.use (Zq3 (hb.ext hx3) wb) ?_;rintro _ H4 ⟨rfl,hx4⟩)
     have hx4:=hx3.trans hx4
     by_cases hm0:m.length=0
     ·have d2:((m.length:Int) == 0)=true:=by simp[hm0]
      ((have hd:=tv;repeat' first|(first|apply Zad|apply Zac|apply Zab)<;>intro hd<;>try simp only[hd]|simp(disch:=first|assumption|omega|simp only[nx]<;>omega|fail)only[hd,qr,qn,Zq5,↓YA,YY,sevalprocAttr,d2])<;>try revert hd;refine ttr ?_)
      (refine Zap.use (Zq3 (ha.ext hx4) wa) ?_;rintro _ H5 ⟨rfl,hx5⟩)
      have hx5:=hx4.trans hx5
      ((have hd:=tv;repeat' first|(first|apply Zad|apply Zac|apply Zab)<;>intro hd<;>try simp only[hd]|simp(disch:=first|assumption|omega|simp only[nx]<;>omega|fail)only[hd,qr,qn,Zq5,↓YA,YY,sevalprocAttr])<;>try revert hd;refine ttr ?_)
      (refine Zap.use (Zq3 (hb.ext hx5) wb) ?_;rintro _ H6 ⟨rfl,hx6⟩)
      ((have hd:=tv;repeat' first|(first|apply Zad|apply Zac|apply Zab)<;>intro hd<;>try simp only[hd]|simp(disch:=first|assumption|omega|simp only[nx]<;>omega|fail)only[hd,qr,qn,Zq5,↓YA,YY,sevalprocAttr,hee])<;>try revert hd;refine ttr ?_)
      exact Zaq (fin _ _ (hx5.trans hx6) (by rw[if_pos (.inr hm0)]))
     ·have d2:((m.length:Int) == 0)=false:=by rw[beq_eq_false_iff_ne];omega
      ((have hd:=tv;repeat' first|(first|apply Zad|apply Zac|apply Zab)<;>intro hd<;>try simp only[hd]|simp(disch:=first|assumption|omega|simp only[nx]<;>omega|fail)only[hd,qr,qn,Zq5,↓YA,YY,sevalprocAttr,d2])<;>try revert hd;refine ttr ?_)
      have hx5:Zaa.Ext H ((H4.alloc (.map (.row [.int .i64,.int .i64]) [] false)).alloc (.cells [.ptr a 0,.ptr b 0,.mp H4.next] 158)):=hx4.alloc.alloc
      refine Zap.use (Ziu (ha.ext hx5) p1 (by omega)) ?_
      rintro _ H5 ⟨rfl,hx6⟩
      have hx7:=hx5.trans hx6
      ((have hd:=tv;repeat' first|(first|apply Zad|apply Zac|apply Zab)<;>intro hd<;>try simp only[hd]|simp(disch:=first|assumption|omega|simp only[nx]<;>omega|fail)only[hd,qr,qn,Zq5,↓YA,YY,sevalprocAttr])<;>try revert hd;refine ttr ?_)
      refine Zap.use (Ziu (hb.ext hx7) q1 (by omega)) ?_
      rintro _ H6 ⟨rfl,hx8⟩
      ((have hd:=tv;repeat' first|(first|apply Zad|apply Zac|apply Zab)<;>intro hd<;>try simp only[hd]|simp(disch:=first|assumption|omega|simp only[nx]<;>omega|fail)only[hd,qr,qn,Zq5,↓YA,YY,sevalprocAttr])<;>try revert hd;refine ttr ?_)
      have ia:=(ha.ext hx4)
      have ib:=(hb.ext hx4)
      have hW:Wk (H4.next+1) a b H4.next x l m [] ((H4.alloc (.map (.row [.int .i64,.int .i64]) [] false)).alloc (.cells [.ptr a 0,.ptr b 0,.mp H4.next] 158)):=by
       obtain⟨_,_,_,e1⟩:=ia
       obtain⟨_,_,_,e2⟩:=ib
       have:=Zaa.lt e1
       have:=Zaa.lt e2
       exact⟨Zaa.Zae (H:=H4.alloc _),ha.ext hx5,hb.ext hx5,by rw[Zaa.Zag (by simp)];exact Zaa.Zae,(fun p v h=>by simp[Zcz]at h),by omega,by omega,by omega⟩
      refine Zap.use (ZrD p1 (by omega) wa.may wa.small wb.small wa.down l.length ((l.length:Int) - 1,(m.length:Int) - 1) (by simp only;omega) (by simp only;omega) (by simp only;omega) [] _ (hW.ext (hx6.trans hx8))) ?_
      have hext:∀G,Zh2 H4.next H6 G->Zaa.Ext H G:=fun G hB=>⟨by have:=(hx7.trans hx8).next;have:=hB.next;omega,fun i o e=>hB.get i o (by have:=Zaa.lt e;have:=hx4.next;omega) ((hx7.trans hx8).get i o e)⟩
      rintro r H7 ⟨hB,⟨rfl,M',hW',hG,hh⟩|⟨rfl,hf⟩⟩
      ·((have hd:=tv;repeat' first|(first|apply Zad|apply Zac|apply Zab)<;>intro hd<;>try simp only[hd]|simp(disch:=first|assumption|omega|simp only[nx]<;>omega|fail)only[hd,qr,qn,Zq5,↓YA,YY,sevalprocAttr])<;>try revert hd;refine ttr ?_)
       refine Zaq (fin _ _ (hext _ hB) ?_)
       rw[if_neg (by omega)]
       symm
       refine ZrR wa.down (fun p hp=>?_) l.length _ (by simp only;omega) (by simp only;omega) (by simp only;omega) hh
       rcases hG.new p hp with h|h
       ·cases h
       ·exact h
      ·((have hd:=tv;repeat' first|(first|apply Zad|apply Zac|apply Zab)<;>intro hd<;>try simp only[hd]|simp(disch:=first|assumption|omega|simp only[nx]<;>omega|fail)only[hd,qr,qn,Zq5,↓YA,YY,sevalprocAttr])<;>try revert hd;refine ttr ?_)
       refine Zaq (fin _ _ (hext _ hB) ?_)
       rw[if_neg (by omega)]
       exact(hf l.length).symm
def chs (x:Shp) (l:List Nod) (at_:Int):List Int:=if lastB x (Zdw l at_).dim=true then [] else (each (Zdw l at_)).map Cel.child
def Zq7 (x:Shp) (l:List Nod):Nat->List Int->Int->List Int
 | 0,came,_=>came
 | n+1,came,at_=>if came.contains at_=true then came else (chs x l at_).foldl (Zq7 x l n) came++[at_]
structure Plc (n:Nat) (r:List Int):Prop where
 nodup:r.Nodup
 lo:∀u∈r,0<=u/\u<n
theorem Plc.len {n:Nat} {r:List Int} (h:Plc n r):r.length<=n:=by
 have h1:(r.map Int.toNat).Nodup:=by
  refine List.Pairwise.map _ ?_ (List.Pairwise.and_mem.1 h.nodup)
  rintro a b ⟨ha,hb,hne⟩ e
  have:=h.lo a ha
  have:=h.lo b hb
  exact hne (by omega)
 have h2:∀u∈r.map Int.toNat,u<n:=by
  intro u hu
  obtain⟨v,hv,rfl⟩:=zan.1 hu
  have:=h.lo v hv
  omega
 have h3:=List.Nodup.length_le_of_subset (l₂:=List.range n) h1 (fun u hu=>zbq.2 (h2 u hu))
 simpa using h3
theorem Plc.nil (n:Nat):Plc n []:=⟨List.nodup_nil,by simp⟩
def Clo (x:Shp) (l:List Nod) (r:List Int):Prop:=∀i (h:i<r.length),∀c∈chs x l r[i],c∈r.take i
theorem Zq8 {x:Shp} {l:List Nod} (hd:Down x l) {i:Int} (h0:0<=i) (h1:i<l.length) {c:Int} (hc:c∈chs x l i):0<=c/\c<i:=by
 unfold chs at hc
 split at hc
 ·cases hc
 ·rename_i hl
  obtain⟨n,rfl⟩:∃n:Nat,i=n:=⟨i.toNat,by omega⟩
  obtain⟨e,he,rfl⟩:=zan.1 hc
  exact hd n (by omega) (by simpa using hl) e he
structure VisQ (x:Shp) (l:List Nod) (came r:List Int) (ats:List Int):Prop where
 pre:∃new,r=came++new/\∀u∈new,(u∈ats\/∃v∈new,u∈chs x l v)/\∃a∈ats,u<=a
 plc:Plc l.length r
 clo:Clo x l r
 all:∀u∈ats,u∈r
theorem Zsv {x:Shp} {l:List Nod} {n:Nat} (ih:∀(came:List Int) (at_:Int),Plc l.length came->Clo x l came->0<=at_->at_<l.length->at_<n->VisQ x l came (Zq7 x l n came at_) [at_]) :
  ∀(cs came:List Int),Plc l.length came->Clo x l came->(∀c∈cs,0<=c/\c<l.length/\c<n)->VisQ x l came (cs.foldl (Zq7 x l n) came) cs
 | [],came,h1,h2,h3=>⟨⟨[],by simp,by simp⟩,h1,h2,by simp⟩
 | c :: cs,came,h1,h2,h3=>by
  obtain⟨a,b,e⟩:=h3 c zah
  have q:=ih came c h1 h2 a b e
  have r:=Zsv ih cs (Zq7 x l n came c) q.plc q.clo fun d hd=>h3 d (zae _ hd)
  rw[List.foldl_cons]
  obtain⟨n1,e1,f1⟩:=q.pre
  obtain⟨n2,e2,f2⟩:=r.pre
  refine⟨⟨n1++n2,by rw[e2,e1,zaI],fun u hu=>?_⟩,r.plc,r.clo,fun u hu=>?_⟩
  ·rcases zaC.1 hu with hu|hu
   ·obtain⟨f1,d,hd,hle⟩:=f1 u hu
    rw[zat]at hd
    subst hd
    refine⟨?_,d,zah,hle⟩
    rcases f1 with h|⟨v,hv,hc⟩
    ·exact .inl (by rw[zat]at h;simp[h])
    ·exact .inr ⟨v,zbf _ hv,hc⟩
   ·obtain⟨f2,d,hd,hle⟩:=f2 u hu
    refine⟨?_,d,zae _ hd,hle⟩
    rcases f2 with h|⟨v,hv,hc⟩
    ·exact .inl (zae _ h)
    ·exact .inr ⟨v,zbA _ hv,hc⟩
  ·rcases zao.1 hu with rfl|hu
   ·rw[e2];exact zbf _ (q.all u (by simp))
   ·exact r.all u hu
theorem Zsr {x:Shp} {l:List Nod} (hd:Down x l):∀(n:Nat) (came:List Int) (at_:Int),Plc l.length came->Clo x l came->0<=at_->at_<l.length->at_<(n:Int)->VisQ x l came (Zq7 x l n came at_) [at_]
 | 0,came,at_,h1,h2,h3,h4,h5=>by omega
 | n+1,came,at_,h1,h2,h3,h4,h5=>by
  unfold Zq7
  split
  ·rename_i hc
   exact⟨⟨[],by simp,by simp⟩,h1,h2,by simpa using hc⟩
  ·rename_i hc
   have hcs:∀c∈chs x l at_,0<=c/\c<l.length/\c<(n:Int):=fun c hc=>by have:=Zq8 hd h3 h4 hc;omega
   have r:=Zsv (fun came a b c d e f=>Zsr hd n came a b c d e f) (chs x l at_) came h1 h2 hcs
   generalize (chs x l at_).foldl (Zq7 x l n) came=R at *
   obtain⟨new,e,f⟩:=r.pre
   have hnot:at_ ∉ R:=by
    rw[e]
    intro hm
    rcases zaC.1 hm with hm|hm
    ·exact hc (by simpa using hm)
    ·obtain⟨_,a,ha,hle⟩:=f at_ hm
     have:=Zq8 hd h3 h4 ha
     omega
   refine⟨⟨new++[at_],by rw[e,zaI],fun u hu=>?_⟩,⟨?_,fun u hu=>?_⟩,fun i hi c hc=>?_,fun u hu=>?_⟩
   ·rcases zaC.1 hu with hu|hu
    ·obtain⟨f1,a,ha,hle⟩:=f u hu
     have:=Zq8 hd h3 h4 ha
     refine⟨.inr ?_,at_,by simp,by omega⟩
     rcases f1 with h|⟨v,hv,hc⟩
     ·exact⟨at_,by simp,h⟩
     ·exact⟨v,zbf _ hv,hc⟩
    ·rw[zat]at hu
     subst hu
     exact⟨.inl (by simp),u,by simp,by omega⟩
   ·rw[zb5]
    refine⟨r.plc.nodup,by simp,fun a ha b hb=>?_⟩
    rw[zat]at hb
    subst hb
    rintro rfl
    exact hnot ha
   ·rcases zaC.1 hu with hu|hu
    ·exact r.plc.lo u hu
    ·rw[zat]at hu;subst hu;exact⟨h3,h4⟩
   ·rw[zaj]at hi
    by_cases hir:i<R.length
    ·rw[zbK hir]at hc
     rw[zbM (by omega)]
     exact r.clo i hir c hc
    ·have hie:i=R.length:=by simp at hi;omega
     subst hie
     simp only[List.getElem_append_right (zai _),zcd,List.getElem_singleton]at hc
     rw[List.take_left']
     ·exact r.all c hc
     ·rfl
   ·rw[zat]at hu;subst hu;simp
theorem vst_last {x:Shp} {l:List Nod} {n:Nat} {at_:Int} (h:0<n):∃r,Zq7 x l n [] at_=r++[at_]:=by
 obtain⟨n,rfl⟩:∃m,n=m+1:=⟨n - 1,by omega⟩
 unfold Zq7
 simp
def Zq6 (x:Shp) (l:List Nod) (top:Int):List Int:=if 0<=top/\top<l.length then Zq7 x l l.length [] top else []
def mvC (inner:Bool) (ps:List Int) (c:Cel):Cel:=if inner=true/\0<=c.child/\c.child<ps.length then ⟨c.key,ps.getD c.child.toNat 0,c.agg⟩ else c
def mvL (inner:Bool) (ps:List Int) (l:List Cel):List Cel:=l.map (mvC inner ps)
def mvN (x:Shp) (ps:List Int) (n:Nod):Nod:=⟨n.dim,n.lists.map (mvL (!lastB x n.dim) ps),mvC (!lastB x n.dim) ps n.all⟩
theorem Zrf {α β:Type} {f:α->β} {l:List α} {k:Nat} (h:k<l.length):(l.take (k+1)).map f=(l.take k).map f++[f l[k]]:=by
 rw[zax h,zaV];rfl
def plF (n:Nat) (r:List Int):Nat->List Int
 | 0=>List.replicate n 0
 | k+1=>(plF n r k).set (r.getD k 0).toNat (k:Int)
theorem Zsb (n:Nat) (r:List Int):∀k,(plF n r k).length=n
 | 0=>by simp[plF]
 | k+1=>by simp[plF,Zsb n r k]
theorem Zsk {x:Shp} {l:List Nod} (hd:Down x l) (top:Int):Plc l.length (Zq6 x l top):=by
 unfold Zq6
 split
 ·rename_i h
  exact(Zsr hd l.length [] top (Plc.nil _) (fun i h=>by cases h) h.1 h.2 h.2).plc
 ·exact Plc.nil _
set_option maxHeartbeats 4000000 in
theorem Zrm {H:Zaa} {id:Nat} {x:Shp} {l:List Nod} (ha:ArA H id x l) (hw:ArW x l) (i:Int):Zay Tryz.prog 126 [.ptr id 0,.i i] H (Pure H (.sl .no (rI (chs x l i)))):=by
 obtain⟨b1,b2,b3⟩:=hw.bounds
 refine Zak hE cf126 (zad rfl) fun Q qr qn=>?_
 ((have hd:=tv;repeat' first|(first|apply Zad|apply Zac|apply Zab)<;>intro hd<;>try simp only[hd]|simp(disch:=first|assumption|omega|simp only[nx]<;>omega|fail)only[hd,qr,qn,Zre,↓YA,YY,sevalprocAttr])<;>try revert hd;refine ttr ?_)
 refine Zap.use (ZfD i ha b1 hw.small) ?_
 rintro r G1 ⟨hx1,t1,rfl⟩
 ((have hd:=tv;repeat' first|(first|apply Zad|apply Zac|apply Zab)<;>intro hd<;>try simp only[hd]|simp(disch:=first|assumption|omega|simp only[nx]<;>omega|fail)only[hd,qr,qn,Zre,↓YA,YY,sevalprocAttr])<;>try revert hd;refine ttr ?_)
 have hX:=Zq1 i hw.small
 have hg0:(G1.alloc (.cells (ZbD t1 (Zdw l i)) 115)).get G1.next=some (.cells (ZbD t1 (Zdw l i)) 115):=Zaa.Zae
 obtain⟨_,_,_,g1⟩:=((ha.ext hx1).ext (Zaa.Ext.alloc (Zaa.Ext.refl G1) (o:=.cells (ZbD t1 (Zdw l i)) 115))).eAr
 have hxG:Zaa.Ext H (G1.alloc (.cells (ZbD t1 (Zdw l i)) 115)):=by exact AXT
 generalize hid:G1.next=n0 at *
 generalize G1.alloc (.cells (ZbD t1 (Zdw l i)) 115)=G2 at *
 refine Zap.use (ZlR g1 hw.may) ?_
 rintro r G3 ⟨hx3,t3,rfl⟩
 have c1:=hx3.get _ _ hg0
 have e1:=Zaa.lt c1
 have hxG3:=hxG.trans hx3
 have hchs:chs x l i=if lastB x (Zdw l i).dim=true then [] else (each (Zdw l i)).map Cel.child:=rfl
 generalize Zdw l i=X at *
 ((have hd:=tv;repeat' first|(first|apply Zad|apply Zac|apply Zab)<;>intro hd<;>try simp only[hd]|simp(disch:=first|assumption|omega|simp only[nx]<;>omega|fail)only[hd,qr,qn,Zre,↓YA,YY,sevalprocAttr,c1,hg0])<;>try revert hd;refine ttr ?_)
 (refine Zap.use (Zgq t3 x X.dim _ (by omega)) ?_;rintro _ _ ⟨rfl,k1,rfl⟩)
 have hb:=bfd (lastB x X.dim)
 rcases hb with hb|hb
 ·rw[hb]at hchs
  simp only[zbm,if_false]at hchs
  rw[hchs]at qr qn
  have hel:=ZpY hX
  ((have hd:=tv;repeat' first|(first|apply Zad|apply Zac|apply Zab)<;>intro hd<;>try simp only[hd]|simp(disch:=first|assumption|omega|simp only[nx]<;>omega|fail)only[hd,qr,qn,Zre,↓YA,YY,sevalprocAttr,hb,c1])<;>try revert hd;refine ttr ?_)
  (refine Zap.use (ZkK t1 X _ hX.1 (by have:=hX.2.1;omega)) ?_;rintro _ _ ⟨rfl,k2,rfl⟩)
  ((have hd:=tv;repeat' first|(first|apply Zad|apply Zac|apply Zab)<;>intro hd<;>try simp only[hd]|simp(disch:=first|assumption|omega|simp only[nx]<;>omega|fail)only[hd,qr,qn,Zre,↓YA,YY,sevalprocAttr])<;>try revert hd;refine ttr ?_)
  generalize hcc:each X=es at *
  have hxG4:Zaa.Ext H ((G3.bump k1).bump k2):=by exact AXT
  generalize (G3.bump k1).bump k2=G4 at *
  refine Zbs [22,23] (σ:=Unit) (fun(k:Nat) s=>True) (fun k s=>[(7,.sl (.own G4.next) (rI ((es.take k).map Cel.child)))]) (fun k s=>[(G4.next,.tok k 3 1)]) () (GStep.tok 7 3 1 rfl) (by simp only[ZaA,Zav,Fr.put,Fr.get,↓reduceIte,Nat.reduceEqDiff];rfl) (by intro k s;rfl) (by intro k s;rfl) (by rfl) (by unfold maxLen;omega) ?_ (by simp only[ZaF,ZaX,Fr.put,Fr.get,↓reduceIte,Nat.reduceEqDiff,and_self]<;>simp) ?_ ?_ ?_
  ·trivial
  ·rw[ZaP]
   exact⟨Zaa.Zae (H:=G4),by simp[Zc5]⟩
  ·(rintro k s G hk ht hG hn;try simp only[nx]at hn)
   have hg:=hG.o (_,_) (zat.2 rfl)
   have hlg:=Zaa.lt hg
   have hlen:((es.take k).map Cel.child).length=k:=by simp;omega
   have la1:=Zfq ((es.take k).map Cel.child)
   have la2:ZaE 1 [[AV.i es[k].child]]=true:=rfl
   have lm1:k+1<=maxLen:=by unfold maxLen;omega
   have lm2:(k+1) * 8<=140737488355328:=by omega
   have hsn:rI ((es.take k).map Cel.child)++[[AV.i es[k].child]]=rI ((es.take (k+1)).map Cel.child):=by rw[Zrf hk];simp
   generalize ((es.take k).map Cel.child)=D at *
   ((have hd:=tv;repeat' first|(first|apply Zad|apply Zac|apply Zab)<;>intro hd<;>try simp only[hd]|simp(disch:=first|assumption|omega|simp only[nx]<;>omega|fail)only[hd,qr,qn,Zre,↓YA,YY,sevalprocAttr,hg,la1,la2,lm1,lm2,hlen])<;>try revert hd;refine ttr ?_)
   exact⟨(),congrArg (AV.sl _) hsn,hG.alloc.put⟩
  ·(rintro s G ht hG hn;try simp only[nx]at hn)
   ((have hd:=tv;repeat' first|(first|apply Zad|apply Zac|apply Zab)<;>intro hd<;>try simp only[hd]|simp(disch:=first|assumption|omega|simp only[nx]<;>omega|fail)only[hd,qr,qn,Zre,↓YA,YY,sevalprocAttr])<;>try revert hd;refine ttr ?_)
   rw[zaP]
   exact ZaW (hxG4.trans (hG.ZdB (Zaa.Ext.refl G4).alloc (by simp))) rfl
 ·rw[hb]at hchs
  simp only[if_true]at hchs
  rw[hchs]at qr qn
  ((have hd:=tv;repeat' first|(first|apply Zad|apply Zac|apply Zab)<;>intro hd<;>try simp only[hd]|simp(disch:=first|assumption|omega|simp only[nx]<;>omega|fail)only[hd,qr,qn,Zre,↓YA,YY,sevalprocAttr,hb])<;>try revert hd;refine ttr ?_)
  exact ZaW (by exact AXT) rfl
theorem Zrq {α β:Type} {f g:β->α->β}:∀(l:List α) (b:β),(∀b,∀a∈l,f b a=g b a)->l.foldl f b=l.foldl g b
 | [],b,_=>rfl
 | a :: l,b,h=>by
  rw[List.foldl_cons,List.foldl_cons,h b a zah]
  exact Zrq l _ fun b c hc=>h b c (zae _ hc)
theorem ZrE {x:Shp} {l:List Nod} (hd:Down x l):∀(n m:Nat) (came:List Int) (a:Int),0<=a->a<l.length->a<n->a<m->Zq7 x l n came a=Zq7 x l m came a
 | 0,_,_,a,h0,_,h2,_=>by omega
 | _,0,_,a,h0,_,_,h3=>by omega
 | n+1,m+1,came,a,h0,h1,h2,h3=>by
  simp only[Zq7]
  split
  ·rfl
  ·congr 1
   refine Zrq _ _ fun b c hc=>?_
   have:=Zq8 hd h0 h1 hc
   exact ZrE hd n m b c (by omega) (by omega) (by omega) (by omega)
def visV (x:Shp) (l:List Nod) (came:List Int) (a:Int):List Int:=Zq7 x l (a.toNat+1) came a
theorem visV_in {x:Shp} {l:List Nod} {came:List Int} {a:Int} (h:a∈came):visV x l came a=came:=by
 have:came.contains a=true:=by simpa using h
 simp[visV,Zq7,h]
theorem Zsl {x:Shp} {l:List Nod} (hd:Down x l) {came:List Int} {a:Int} (h0:0<=a) (h1:a<l.length) (h:a ∉ came):visV x l came a=(chs x l a).foldl (visV x l) came++[a]:=by
 have hc:¬came.contains a=true:=by simpa using h
 unfold visV
 rw[Zq7,if_neg hc]
 congr 1
 refine Zrq _ _ fun b c hc=>?_
 have:=Zq8 hd h0 h1 hc
 exact ZrE hd _ _ b c (by omega) (by omega) (by omega) (by omega)
def Zs0 (x:Shp) (l:List Nod):List Int->List (Int×List Int)->List Int
 | out,[]=>out
 | out,(a,left) :: st=>Zs0 x l (left.foldl (visV x l) out++[a]) st
theorem Zs2 {x:Shp} {l:List Nod} {out left:List Int} {a c:Int} {st:List (Int×List Int)} (h:c∈out):Zs0 x l out ((a,c :: left) :: st)=Zs0 x l out ((a,left) :: st):=by
 simp only[Zs0,List.foldl_cons,visV_in h]
theorem ZrT {x:Shp} {l:List Nod} (hd:Down x l) {out left:List Int} {a c:Int} {st:List (Int×List Int)} (h0:0<=c) (h1:c<l.length) (h:c ∉ out):Zs0 x l out ((a,c :: left) :: st)=Zs0 x l out ((c,chs x l c) :: (a,left) :: st):=by
 simp only[Zs0,List.foldl_cons,Zsl hd h0 h1 h]
theorem finV_one {x:Shp} {l:List Nod} (hd:Down x l) {a:Int} (h0:0<=a) (h1:a<l.length):Zs0 x l [] [(a,chs x l a)]=Zq7 x l l.length [] a:=by
 have e:Zq7 x l l.length [] a=visV x l [] a:=ZrE hd _ _ _ _ h0 h1 h1 (by omega)
 rw[e,Zsl hd h0 h1 (by simp)]
 rfl
def Stk (x:Shp) (l:List Nod):List (Int×List Int)->Prop
 | []=>True
 | (a,left) :: st=>0<=a/\a<l.length/\(∀c∈left,c∈chs x l a)/\(∀p∈st,a<p.1)/\Stk x l st
theorem Stk.tail {x:Shp} {l:List Nod} {a c:Int} {left:List Int} {st:List (Int×List Int)} (h:Stk x l ((a,c :: left) :: st)):Stk x l ((a,left) :: st):=⟨h.1,h.2.1,fun d hd=>h.2.2.1 d (zae _ hd),h.2.2.2⟩
theorem Stk.head {x:Shp} {l:List Nod} (hd:Down x l) {a c:Int} {left:List Int} {st:List (Int×List Int)} (h:Stk x l ((a,c :: left) :: st)):0<=c/\c<a/\∀p∈(a,left) :: st,c<p.1:=by
 obtain⟨h0,h1,h2,h3,h4⟩:=h
 have hc:=Zq8 hd h0 h1 (h2 c zah)
 refine⟨hc.1,hc.2,fun p hp=>?_⟩
 rcases zao.1 hp with rfl|hp
 ·exact hc.2
 ·have:=h3 p hp;omega
theorem Stk.push {x:Shp} {l:List Nod} (hd:Down x l) {a c:Int} {left:List Int} {st:List (Int×List Int)} (h:Stk x l ((a,c :: left) :: st)):Stk x l ((c,chs x l c) :: (a,left) :: st):=by
 obtain⟨h0,h1,h2⟩:=h.head hd
 exact⟨h0,by have:=h.2.1;omega,fun _ h=>h,h2,h.tail⟩
def Zrs (x:Shp) (l:List Nod) (met:Int->Bool):Nat:=((List.range l.length).map fun i:Nat=>bif met (i:Int) then 0 else 2+(chs x l (i:Int)).length).sum
def Zrl:List (Int×List Int)->Nat
 | []=>0
 | p :: st=>1+p.2.length+Zrl st
theorem Ztk {α:Type} {f g:α->Nat}:∀(l:List α),(∀a∈l,f a<=g a)->(l.map f).sum<=(l.map g).sum
 | [],_=>by simp
 | a :: l,h=>by
  simp only[zak,List.sum_cons]
  have:=h a zah
  have:=Ztk l fun b hb=>h b (zae _ hb)
  omega
theorem Zsi {α:Type} {f g:α->Nat} {d:Nat}:∀(l:List α),(∀a∈l,f a<=g a)->(∃a∈l,f a+d<=g a)->(l.map f).sum+d<=(l.map g).sum
 | [],_,⟨_,h,_⟩=>by cases h
 | a :: l,h,⟨b,hb,hd⟩=>by
  simp only[zak,List.sum_cons]
  have h1:=h a zah
  rcases zao.1 hb with rfl|hb
  ·have:=Ztk l fun b hb=>h b (zae _ hb)
   omega
  ·have:=Zsi l (fun b hb=>h b (zae _ hb)) ⟨b,hb,hd⟩
   omega
theorem ZsO {x:Shp} {l:List Nod} {met met':Int->Bool} {c:Int} (h0:0<=c) (h1:c<l.length) (hc:met c=false) (hc':met' c=true) (hm:∀v,met v=true->met' v=true):Zrs x l met'+(2+(chs x l c).length)<=Zrs x l met:=by
 refine Zsi _ (fun i _=>?_) ⟨c.toNat,zbq.2 (by omega),?_⟩
 ·have:=hm i
  cases h:met i
  ·cases h':met' i<;>simp
  ·rw[this h];simp
 ·have e:((c.toNat:Nat):Int)=c:=by omega
  rw[e,hc,hc']
  simp
def v83_1:Zar:=.blk 0 (.loop (.seq (.seq (.reg [im 27 7,io 28 (.len false (.t 27)),io 29 (.bin .gtr (.t 28) (ik 0))]) (.cond (.t 29) .skip (.exit 0))) (.blk 1 (.seq (.reg [im 30 7,im 31 7,io 32 (.len false (.t 31)),io 33 (.bin .sub (.t 32) (ik 1)),io 34 (.ixa 2 (.t 30) (.t 33)),im 8 34]) (.seq (.seq (.reg [im 35 8,io 36 (.nck (.t 35)),io 37 (.fla 1 (.t 36)),io 38 (.ld 1 false (.t 37)),io 39 (.len false (.t 38)),io 40 (.bin .eql (.t 39) (ik 0))]) (.cond (.t 40) (.seq (.reg [im 41 6,im 42 8,io 43 (.nck (.t 42)),io 44 (.fla 0 (.t 43)),io 45 (.ld 1 false (.t 44)),io 46 (.bsl 1 [.t 45]),io 47 (.app 3 1 8 (.t 41) (.t 46)),im 6 47]) (.seq (.reg [im 48 7,im 49 7,io 50 (.len false (.t 49)),io 51 (.bin .sub (.t 50) (ik 1)),io 52 (.slc 2 (.t 48) none (some (.t 51)) none),im 7 52]) (.exit 1))) .skip)) (.seq (.reg [im 53 8,io 54 (.nck (.t 53)),io 55 (.fla 1 (.t 54)),io 56 (.ld 1 false (.t 55)),io 57 (.ixa 1 (.t 56) (ik 0)),io 58 (.ld 1 false (.t 57)),im 9 58]) (.seq (.reg [im 59 8,im 60 8,io 61 (.nck (.t 60)),io 62 (.fla 1 (.t 61)),io 63 (.ld 1 false (.t 62)),io 64 (.slc 1 (.t 63) (some (ik 1)) none none),io 65 (.nck (.t 59)),io 66 (.fla 1 (.t 65)),iz (.st 1 (.t 66) (.t 64))]) (.seq (.reg [im 67 5,im 68 9,io 69 (.lkp (.one (.int .i64)) (.sc (.int .i64 0)) false (.t 67) (.t 68)),io 70 (.bin .add (.t 69) (ik 1)),iz (.mup (.one (.int .i64)) (.t 67) (.t 68) (.t 70))]) (.seq (.reg [im 71 5,im 72 9,io 73 (.lkp (.one (.int .i64)) (.sc (.int .i64 0)) false (.t 71) (.t 72)),io 74 (.bin .eql (.t 73) (ik 1))]) (.cond (.t 74) (.reg [im 75 7,im 76 9,im 77 0,im 78 9,io 79 (.call (jf 126) [.t 77,.t 78]),io 80 (.bld [.sc (.int .i64 0),.sl .full []] [(0,(1,.t 76)),(1,(1,.t 79))]),io 81 (.bsv 209 2 [.t 80]),io 82 (.apv 209 2 32 [.sc (.int .i64 0),.sl .full []] (.t 75) (.t 81)),im 7 82]) .skip))))))))))
def Zrj:Zar:=.seq (.reg [io 4 (.mv jn)]) (.seq (.seq (.reg [im 10 1,io 11 (.bin .lss (.t 10) (ik 0)),im 12 11,ih 12 13 (.mv (.t 1)),ih 12 14 (.mv (.t 0)),ih 12 15 (.call (jf 42) [.t 14]),ih 12 16 (.bin .geq (.t 13) (.t 15)),io 17 (.pick (.t 12) (ib true) (.t 16))]) (.cond (.t 17) (.seq (.reg [io 4 (.mv jn)]) .ret) .skip)) (.seq (.reg [io 18 (.mkm (.one (.int .i64))),im 19 1,iz (.mup (.one (.int .i64)) (.t 18) (.t 19) (ik 1)),im 20 18,im 5 20]) (.seq (.reg [io 6 (.mv jn)]) (.seq (.reg [im 21 1,im 22 0,im 23 1,io 24 (.call (jf 126) [.t 22,.t 23]),io 25 (.bld [.sc (.int .i64 0),.sl .full []] [(0,(1,.t 21)),(1,(1,.t 24))]),io 26 (.bsv 209 2 [.t 25]),im 7 26]) (.seq v83_1 (.seq (.reg [im 83 6,im 4 83]) .ret))))))
theorem vf83:cFn Tryz.prog eqTf 83=some (Zrj,[(.tmp 4)],84):=by kernel_rfl
def zvl0:List AV:=[.sc (.pointer none),.sc (.int .i64 0),.sl .full [],.sc (.int .i64 0),.sl .full [],.sc (.int .i64 0)]
def zva1:AV:=.agg [.sc (.int .i64 0),.sl .full [],.sc (.int .i64 0),.sc (.int .i64 0),.sc (.int .i64 0),.sc (.int .i64 0),.sc (.int .i64 0),.sc (.int .i64 0),.sc (.int .i64 0),.sc (.int .i64 0),.sc (.int .i64 0),.sc (.int .i64 0),.sc (.int .i64 0),.sc (.int .i64 0)]
def zva2:AV:=.agg [.sc (.int .i64 0),.sc (.int .i64 0),.sc (.int .i64 0),.sc (.int .i64 0),.sc (.int .i64 0),.sc (.int .i64 0),.sc (.int .i64 0),.sc (.int .i64 0),.sc (.int .i64 0),.sc (.int .i64 0),.sc (.int .i64 0),.sc (.int .i64 0)]
def zvl3:List AV:=[.sl .full [],.sc (.int .i64 0),.sc (.int .i64 0),.sc (.int .i64 0),.sc (.int .i64 0),.sc (.int .i64 0),.sc (.int .i64 0),.sc (.int .i64 0),.sc (.int .i64 0),.sc (.int .i64 0),.sc (.int .i64 0)]
theorem YZv:True/\zvl0=[.sc (.pointer none),.sc (.int .i64 0),.sl .full [],.sc (.int .i64 0),.sl .full [],.sc (.int .i64 0)]/\zva1=.agg [.sc (.int .i64 0),.sl .full [],.sc (.int .i64 0),.sc (.int .i64 0),.sc (.int .i64 0),.sc (.int .i64 0),.sc (.int .i64 0),.sc (.int .i64 0),.sc (.int .i64 0),.sc (.int .i64 0),.sc (.int .i64 0),.sc (.int .i64 0),.sc (.int .i64 0),.sc (.int .i64 0)]/\zva2=.agg [.sc (.int .i64 0),.sc (.int .i64 0),.sc (.int .i64 0),.sc (.int .i64 0),.sc (.int .i64 0),.sc (.int .i64 0),.sc (.int .i64 0),.sc (.int .i64 0),.sc (.int .i64 0),.sc (.int .i64 0),.sc (.int .i64 0),.sc (.int .i64 0)]/\zvl3=[.sl .full [],.sc (.int .i64 0),.sc (.int .i64 0),.sc (.int .i64 0),.sc (.int .i64 0),.sc (.int .i64 0),.sc (.int .i64 0),.sc (.int .i64 0),.sc (.int .i64 0),.sc (.int .i64 0),.sc (.int .i64 0)]:=⟨trivial,rfl,rfl,rfl,rfl⟩
def fF (p:Int×List Int):List AV:=[.i p.1,.sl .no (rI p.2)]
def stC:List (Int×List Int)->List AV->List AV
 | [],t=>t
 | p :: st,t=>stC st (.i p.1 :: .sl .no (rI p.2) :: t)
theorem ZrC:∀(st:List (Int×List Int)) (t:List AV),stC st t=(st.reverse.map fF).flatten++t
 | [],t=>by simp[stC]
 | p :: st,t=>by simp[stC,ZrC st,fF]
theorem ZrN (st:List (Int×List Int)) (t:List AV):(stC st t).length=st.length * 2+t.length:=by
 rw[ZrC,zaj,Zc7 (sz:=2) (fun q hq=>by obtain⟨p,_,rfl⟩:=zan.1 hq;rfl)]
 simp
theorem Zsg (st:List (Int×List Int)) (t:List AV):stC st t=stC st []++t:=by simp[ZrC]
theorem Ztg (st:List (Int×List Int)) (t:List AV) (j:Nat):(stC st t)[st.length * 2+j]?=t[j]?:=by
 have h:=ZrN st []
 rw[Zsg,zaS (by simp at h;omega),h]
 simp
theorem stC_top (st:List (Int×List Int)) (a u v:AV) (t:List AV):(stC st (a :: u :: t)).take (st.length * 2+1)++[v]++(stC st (a :: u :: t)).drop (st.length * 2+1+1)=stC st (a :: v :: t):=by
 have h:=ZrN st []
 simp only[List.length_nil,Nat.add_zero]at h
 rw[Zsg st (a :: u :: t),Zsg st (a :: v :: t),List.take_append,List.drop_append,h]
 rw[zaL (by omega),zbn (by omega)]
 rw[show st.length * 2+1 - st.length * 2=1 by omega,show st.length * 2+1+1 - st.length * 2=2 by omega]
 simp
structure Met (M:List (Int×Int)) (out:List Int) (st:List (Int×List Int)) (B:Nat):Prop where
 iff:∀c,(Zcz c M).isSome=true ↔ c∈out\/∃p∈st,p.1=c
 lo:∀c v,Zcz c M=some v->1<=v/\v+B<=1000000000000000
def mB (M:List (Int×Int)) (v:Int):Bool:=(Zcz v M).isSome
structure VSt (H:Zaa) (x:Shp) (l:List Nod) (R:List Int) (mid tid id cap n:Nat) (M:List (Int×Int)) (out:List Int) (st:List (Int×List Int)) (tail:List AV) (G:Zaa):Prop where
 ext:Zaa.Ext H G
 gm:G.get mid=some (.map (.one (.int .i64)) (Zgf kI AV.i M) false)
 gt:G.get tid=some (.tok out.length 3 1)
 gs:G.get id=some (.cells (stC st tail) 209)
 i1:H.next<=mid
 i2:H.next<=tid
 i3:H.next<=id
 n1:tid≠mid
 n2:id≠mid
 n3:id≠tid
 len:(stC st tail).length=cap * 2
 le:st.length<=cap
 stk:Stk x l st
 met:Met M out st n
 mu:Zrs x l (mB M)+Zrl st<=n
 fin:Zs0 x l out st=R
 b1:out.length+n<=1000000000000
 b2:st.length+n<=1000000000000
theorem Zs9 {x:Shp} {l:List Nod} (hn:∀n∈l,Zdb n) (met:Int->Bool):Zrs x l met<=l.length * 1000002:=by
 have h:Zrs x l met<=((List.range l.length).map fun _=>1000002).sum:=by
  refine Ztk _ fun i _=>?_
  have hc:(chs x l (i:Int)).length<=1000000:=by
   unfold chs
   split
   ·simp
   ·rw[zaa];exact ZpY (Zq1 _ hn)
  cases met (i:Int)<;>simp<;>omega
 rw[List.map_const',List.sum_replicate_nat]at h
 simpa using h
theorem ZsG {H:Zaa} {id cap:Nat} {st:List (Int×List Int)} {tail:List AV} {x:AV} {K:AV->Zaa->Prop} (p:Int×List Int)
  (ho:H.get id=some (.cells (stC st tail) 209)) (hc:(stC st tail).length=cap * 2) (hn:st.length<=cap) (hb:st.length<=1000000000000) (hx:ZaL H 2 x=some [fF p])
  (k:∀id' cap' tail' H',(id'=id/\H'=H.set id (.cells (stC (p :: st) tail') 209))\/(id'=H.next/\H'=H.alloc (.cells (stC (p :: st) tail') 209))->(stC (p :: st) tail').length=cap' * 2->st.length+1<=cap'->K (.arr id' 0 (st.length+1) cap') H') :
  Zk3 H 209 2 32 [.i 0,.sl .full []] (.arr id 0 st.length cap) x K:=by
 have hrl:(st.reverse.map fF).length=st.length:=by simp
 have hl:∀q∈st.reverse.map fF,q.length=2:=fun q hq=>by obtain⟨p,_,rfl⟩:=zan.1 hq;rfl
 have he:∀tail',(st.reverse.map fF++[fF p]).flatten++tail'=stC (p :: st) tail':=fun tail'=>by rw[ZrC];simp
 have h:=Zp3 (H:=H) (E:=209) (sz:=2) (bytes:=32) (id:=id) (cap:=cap) (zero:=[.i 0,.sl .full []]) (rows:=st.reverse.map fF) (tail:=tail) (r:=fF p) (x:=x) (K:=K)
  (by rw[<- ZrC];exact ho) hl hx rfl (by rw[<- ZrC];exact hc) (by omega) (by unfold maxLen;omega) (by omega) rfl (fun id' cap' tail' H' h1 h2 h3 _=>by
   rw[he]at h1 h2
   rw[hrl]at h3 ⊢
   exact k id' cap' tail' H' h1 h2 h3)
 rw[hrl]at h
 exact h
theorem met_pop {c a:Int} {out left:List Int} {st:List (Int×List Int)}:(c∈out\/∃p∈(a,left) :: st,p.1=c) ↔ (c∈out++[a]\/∃p∈st,p.1=c):=by
 simp only[zaC,zao,zar,or_false]
 constructor
 ·rintro(h|⟨p,rfl|h,rfl⟩)
  ·exact .inl (.inl h)
  ·exact .inl (.inr rfl)
  ·exact .inr ⟨p,h,rfl⟩
 ·rintro((h|rfl)|⟨p,h,rfl⟩)
  ·exact .inl h
  ·exact .inr ⟨_,.inl rfl,rfl⟩
  ·exact .inr ⟨p,.inr h,rfl⟩
set_option maxHeartbeats 16000000 in
theorem Zrb {H:Zaa} {aid:Nat} {x:Shp} {l:List Nod} (ha:ArA H aid x l) (hw:ArW x l) (top:Int):Zay Tryz.prog 83 [.ptr aid 0,.i top] H (Pure H (.sl .no (rI (Zq6 x l top)))):=by
 have hlen:=hw.len
 have hdn:=hw.down
 refine Zak hEf vf83 (zad rfl) fun Q qr qn=>?_
 by_cases c1:top<0
 ·have d1:decide (top<0)=true:=by simpa using c1
  have hO:Zq6 x l top=[]:=by unfold Zq6;rw[if_neg (by omega)]
  rw[hO]at qr qn
  ((have hd:=tv;repeat' first|(first|apply Zad|apply Zac|apply Zab)<;>intro hd<;>try simp only[hd]|simp(disch:=first|assumption|omega|simp only[nx]<;>omega|fail)only[hd,qr,qn,Zrj,↓YA,YY,sevalprocAttr,d1,YZv])<;>try revert hd;refine ttr ?_)
  exact ZaW (by exact AXT) rfl
 have d1:decide (top<0)=false:=by simpa using c1
 ((have hd:=tv;repeat' first|(first|apply Zad|apply Zac|apply Zab)<;>intro hd<;>try simp only[hd]|simp(disch:=first|assumption|omega|simp only[nx]<;>omega|fail)only[hd,qr,qn,Zrj,↓YA,YY,sevalprocAttr,d1,YZv])<;>try revert hd;refine ttr ?_)
 (refine Zap.use (Zq3 ha hw) ?_;rintro _ H1 ⟨rfl,hx1⟩)
 by_cases c2:top<(l.length:Int)
 case neg =>
  have d2:decide (top≥(l.length:Int))=true:=by simp;omega
  have hO:Zq6 x l top=[]:=by unfold Zq6;rw[if_neg (by omega)]
  rw[hO]at qr qn
  ((have hd:=tv;repeat' first|(first|apply Zad|apply Zac|apply Zab)<;>intro hd<;>try simp only[hd]|simp(disch:=first|assumption|omega|simp only[nx]<;>omega|fail)only[hd,qr,qn,Zrj,↓YA,YY,sevalprocAttr,d2,YZv])<;>try revert hd;refine ttr ?_)
  exact ZaW (by exact AXT) rfl
 have d2:decide (top≥(l.length:Int))=false:=by simp;omega
 have hr:0<=top/\top<l.length:=by omega
 have hO:Zq6 x l top=Zs0 x l [] [(top,chs x l top)]:=by unfold Zq6;rw[if_pos hr,finV_one hdn hr.1 hr.2]
 rw[hO]at qr qn
 generalize hR:Zs0 x l [] [(top,chs x l top)]=R at *
 have ms0:∀(k:Value) (a:AV),Ziw k a []=[(k,a)]:=fun _ _=>rfl
 ((have hd:=tv;repeat' first|(first|apply Zad|apply Zac|apply Zab)<;>intro hd<;>try simp only[hd]|simp(disch:=first|assumption|omega|simp only[nx]<;>omega|fail)only[hd,qr,qn,Zrj,↓YA,YY,sevalprocAttr,d2,YZv,ZrS,ms0])<;>try revert hd;refine ttr ?_)
 have hm0:[(kI top,AV.i 1)]=Zgf kI AV.i [(top,1)]:=rfl
 rw[hm0]
 have hx2:Zaa.Ext H (H1.alloc (.map (.one (.int .i64)) (Zgf kI AV.i [(top,1)]) false)):=by exact AXT
 have hg2:(H1.alloc (.map (.one (.int .i64)) (Zgf kI AV.i [(top,1)]) false)).get H1.next=some (.map (.one (.int .i64)) (Zgf kI AV.i [(top,1)]) false):=Zaa.Zae
 have hmn:=hx1.next
 generalize hmid:H1.next=mid at *
 generalize H1.alloc (.map (.one (.int .i64)) (Zgf kI AV.i [(top,1)]) false)=G2 at *
 have lm:=Zaa.lt hg2
 (refine Zap.use (Zrm (ha.ext hx2) hw top) ?_;rintro _ _ ⟨rfl,k1,rfl⟩)
 ((have hd:=tv;repeat' first|(first|apply Zad|apply Zac|apply Zab)<;>intro hd<;>try simp only[hd]|simp(disch:=first|assumption|omega|simp only[nx]<;>omega|fail)only[hd,qr,qn,Zrj,↓YA,YY,sevalprocAttr,YZv])<;>try revert hd;refine ttr ?_)
 unfold v83_1
 rw[Za8]
 have hun:=Zs9 (x:=x) hw.small (mB [(top,1)])
 have hcl:(chs x l top).length<=1000000:=by
  unfold chs
  split
  ·simp
  ·rw[zaa];exact ZpY (Zq1 _ hw.small)
 have hl1:Zrl [(top,chs x l top)]=1+(chs x l top).length+0:=rfl
 refine Zg1 (fun n F G=>∃id cap M out st tail,VSt H x l R mid (G2.next+k1+1) id cap n M out st tail G/\Fr.get F 0=.ptr aid 0/\Fr.get F 5=.mp mid/\Fr.get F 6=.sl (.own (G2.next+k1+1)) (rI out)/\Fr.get F 7=.arr id 0 st.length cap) (Zrs x l (mB [(top,1)])+Zrl [(top,chs x l top)]) (GStep.tok 6 3 1 rfl) ⟨G2.next+k1,1,[(top,1)],[],[(top,chs x l top)],[],?_,rfl,rfl,rfl,rfl⟩ ?_
 ·refine⟨by exact AXT,?_,Zaa.Zae (H:=(G2.bump k1).alloc _),?_,by omega,by omega,by omega,by omega,by omega,by omega,rfl,zai _,⟨hr.1,hr.2,fun _ h=>h,(fun p h=>by cases h),trivial⟩,⟨fun c=>?_,fun c v h=>?_⟩,zai _,hR,by simp only[List.length_nil];omega,by simp only[List.length_cons,List.length_nil];omega⟩
  ·rw[Zaa.Zag (by simp only[nx];omega),Zaa.Zag (by simp only[nx];omega)];exact hg2
  ·rw[Zaa.Zag (by simp only[nx];omega)];exact Zaa.Zae (H:=G2.bump k1)
  ·simp only[Zcz]
   by_cases e:c=top
   ·simp[e]
   ·simp[e,zbo e]
  ·simp only[Zcz]at h
   split at h
   ·simp only[zac]at h;omega
   ·cases h
 generalize hT:G2.next+k1+1=tid at *
 clear hun hcl hl1 hg2 lm hmid hm0 ms0 hx2 hR
 rintro n F G ⟨id,cap,M,out,st,tail,hS,f0,f5,f6,f7⟩
 have gm:=hS.gm
 have gt:=hS.gt
 have gs:=hS.gs
 have lm:=Zaa.lt gm
 have lt:=Zaa.lt gt
 have ls:=Zaa.lt gs
 have n1:=hS.n1
 have n2:=hS.n2
 have n3:=hS.n3
 have i1:=hS.i1
 have i2:=hS.i2
 have i3:=hS.i3
 have hxS:=hS.ext
 cases st with
 | nil =>
  have e:out=R:=hS.fin
  subst e
  have d1:decide (((0:Nat):Int) > 0)=false:=by decide
  simp only[List.length_nil]at f7
  ((have hd:=tv;repeat' first|(first|apply Zad|apply Zac|apply Zab)<;>intro hd<;>try simp only[hd]|simp(disch:=first|assumption|omega|simp only[nx]<;>omega|fail)only[hd,qr,qn,Zrj,↓YA,YY,sevalprocAttr,f0,f5,f6,f7,d1])<;>try revert hd;refine ttr ?_)
  exact ZaW (by exact AXT) rfl
 | cons p st =>
  obtain⟨a,left⟩:=p
  have hb2:=hS.b2
  have hb1:=hS.b1
  have hle:=hS.le
  have hlen2:=hS.len
  simp only[List.length_cons]at f7 hb2 hle
  have d1:decide (((st.length+1:Nat):Int) > 0)=true:=by simp
  have hsub:((st.length+1:Nat):Int) - 1=(st.length:Int):=by omega
  have hlt:(st.length:Int)<((st.length+1:Nat):Int):=by omega
  have hstl:=ZrN st (.i a :: .sl .no (rI left) :: tail)
  have hcs:stC ((a,left) :: st) tail=stC st (.i a :: .sl .no (rI left) :: tail):=rfl
  rw[hcs]at gs hlen2
  have g0:=Ztg st (.i a :: .sl .no (rI left) :: tail) 0
  have g1:=Ztg st (.i a :: .sl .no (rI left) :: tail) 1
  simp only[Nat.add_zero,List.getElem?_cons_zero,List.getElem?_cons_succ]at g0 g1
  have htop:=fun v=>stC_top st (.i a) (.sl .no (rI left)) v tail
  generalize hC:stC st (.i a :: .sl .no (rI left) :: tail)=C at gs hlen2 hstl hcs g0 g1 htop
  have hst:=hS.stk
  have hmu:=hS.mu
  cases left with
  | nil =>
   have d2:(((0:Nat):Int) == 0)=true:=by decide
   have la1:=Zfq out
   have la2:ZaE 1 [[AV.i a]]=true:=rfl
   have lm1:out.length+1<=maxLen:=by unfold maxLen;omega
   have lm2:(out.length+1) * 8<=140737488355328:=by omega
   have hl3:¬(cap=0):=by omega
   have hb0:(0:Int)<=(st.length:Int):=by omega
   have hb3:st.length<=cap:=by omega
   have hb4:cap<=cap:=zai _
   have hsn:rI out++[[AV.i a]]=rI (out++[a]):=by simp
   have hmu:Zrs x l (mB M)+(1+0+Zrl st)<=n:=hmu
   ((have hd:=tv;repeat' first|(first|apply Zad|apply Zac|apply Zab)<;>intro hd<;>try simp only[hd]|simp(disch:=first|assumption|omega|simp only[nx]<;>omega|fail)only[hd,qr,qn,Zrj,↓YA,YY,sevalprocAttr,f0,f5,f6,f7,d1,d2,hsub,hlt,gs,g0,g1,la1,la2,lm1,lm2,gt,List.length_nil,Zdi,AX.ev,Fr.get,hb0,hb3,hb4,hl3,Int.toNat_natCast,Nat.sub_zero,zbr,zaT,and_true,true_and])<;>try revert hd;refine ttr ?_)
   have hlo:=hS.met.lo
   refine⟨n - 1,by omega,id,cap,M,out++[a],st,.i a :: .sl .no (rI []) :: tail,⟨hxS.set i2,by rw[Zaa.Zah (zbo n1)];exact gm,by rw[Zaa.Zal lt];simp,by rw[Zaa.Zah n3,gs,<- hcs];rfl,i1,i2,i3,n1,n2,n3,by rw[show stC st (.i a :: .sl .no (rI []) :: tail)=C from hcs];exact hlen2,by omega,hst.2.2.2.2,⟨fun c=>?_,fun c v h=>?_⟩,by omega,hS.fin,by simp;omega,by omega⟩,congrArg (AV.sl _) hsn,rfl⟩
   ·rw[hS.met.iff];exact met_pop
   ·have:=hlo c v h;omega
  | cons c left =>
   have d2:(((left.length+1:Nat):Int) == 0)=false:=by rw[beq_eq_false_iff_ne];omega
   have hoff:st.length * 2+1+1<=C.length:=by rw[hstl];simp only[List.length_cons];omega
   have la1:ZaE 1 ([AV.i c] :: rI left)=true:=Zfq (c :: left)
   have htk:(rI left).take left.length=rI left:=by rw[zaL (by simp)]
   have nid:mid≠id:=zbo n2
   have hhd:=hst.head hdn
   have ha0:=hst.1
   have hal:=hst.2.1
   have hnst:¬∃p∈(a,c :: left) :: st,p.1=c:=by
    rintro⟨p,hp,e⟩
    rcases zao.1 hp with rfl|hp
    ·simp only at e;omega
    ·have:=hhd.2.2 p (zae _ hp);omega
   have hl0:Zrl ((a,c :: left) :: st)=1+(left.length+1)+Zrl st:=rfl
   have hl1:Zrl ((a,left) :: st)=1+left.length+Zrl st:=rfl
   have hlo:=hS.met.lo
   have hiff:=hS.met.iff
   have hC':(stC st (.i a :: .sl .no (rI left) :: tail)).length=cap * 2:=by rw[ZrN,<- hlen2,hstl];rfl
   obtain hcm|⟨v,hcm⟩:Zcz c M=none\/∃v,Zcz c M=some v:=by cases Zcz c M with
    | none=>exact .inl rfl
    | some v=>exact .inr ⟨v,rfl⟩
   ·have hco:c ∉ out:=fun h=>by have:=(hiff c).2 (.inl h);rw[hcm]at this;cases this
    have ms1:=ZcH (kf:=kI) (vf:=AV.i) ZkH c 1 M
    have mf1:=ZdP c 1 M
    ((have hd:=tv;repeat' first|(first|apply Zad|apply Zac|apply Zab)<;>intro hd<;>try simp only[hd]|simp(disch:=first|assumption|omega|simp only[nx]<;>omega|fail)only[hd,qr,qn,Zrj,↓YA,YY,sevalprocAttr,f0,f5,f6,f7,d1,d2,hsub,hlt,gs,g0,g1,la1,List.length_nil,zaa,hoff,Zdi,AX.ev,Fr.get,Zhj,or_true,htk,htop,gm,ZrS,ZbV ZkH,hcm,Option.map_none,ms1,mf1])<;>try revert hd;refine ttr ?_)
    have gm1:((G.set id (.cells (stC st (.i a :: .sl .no (rI left) :: tail)) 209)).set mid (.map (.one (.int .i64)) (Zgf kI AV.i (ZbU c 1 M)) false)).get mid=some (.map (.one (.int .i64)) (Zgf kI AV.i (ZbU c 1 M)) false):=by rw[Zaa.Zal (by simp only[nx];omega)]
    have gt1:((G.set id (.cells (stC st (.i a :: .sl .no (rI left) :: tail)) 209)).set mid (.map (.one (.int .i64)) (Zgf kI AV.i (ZbU c 1 M)) false)).get tid=some (.tok out.length 3 1):=by rw[Zaa.Zah n1,Zaa.Zah (zbo n3)];exact gt
    have gs1:((G.set id (.cells (stC st (.i a :: .sl .no (rI left) :: tail)) 209)).set mid (.map (.one (.int .i64)) (Zgf kI AV.i (ZbU c 1 M)) false)).get id=some (.cells (stC ((a,left) :: st) tail) 209):=by rw[Zaa.Zah n2,Zaa.Zal ls];rfl
    have hx1:Zaa.Ext H ((G.set id (.cells (stC st (.i a :: .sl .no (rI left) :: tail)) 209)).set mid (.map (.one (.int .i64)) (Zgf kI AV.i (ZbU c 1 M)) false)):=(hxS.set i3).set i1
    generalize (G.set id (.cells (stC st (.i a :: .sl .no (rI left) :: tail)) 209)).set mid (.map (.one (.int .i64)) (Zgf kI AV.i (ZbU c 1 M)) false)=G1 at *
    (refine Zap.use (Zrm (ha.ext hx1) hw c) ?_;rintro _ _ ⟨rfl,k2,rfl⟩)
    ((have hd:=tv;repeat' first|(first|apply Zad|apply Zac|apply Zab)<;>intro hd<;>try simp only[hd]|simp(disch:=first|assumption|omega|simp only[nx]<;>omega|fail)only[hd,qr,qn,Zrj,↓YA,YY,sevalprocAttr,f0,f5,f6,f7])<;>try revert hd;refine ttr ?_)
    have hmn1:=Zaa.lt gm1
    have htn1:=Zaa.lt gt1
    have hsn1:=Zaa.lt gs1
    have hxa:=hx1.next
    have hsk:=hst.push hdn
    have hun:=ZsO (x:=x) (l:=l) (c:=c) (met:=mB M) (met':=mB (ZbU c 1 M)) hhd.1 (by omega) (by unfold mB;rw[hcm];rfl) (by unfold mB;rw[mf1];rfl) (fun v hv=>by unfold mB at hv ⊢;rw[Zeg];split;rfl;exact hv)
    have hl2:Zrl ((c,chs x l c) :: (a,left) :: st)=1+(chs x l c).length+Zrl ((a,left) :: st):=rfl
    refine ZsG (st:=(a,left) :: st) (tail:=tail) (c,chs x l c) ?_ hC' hle (by simp only[List.length_cons];omega) ?_ ?_
    ·rw[Zaa.Zag (by simp only[nx];omega)];exact gs1
    ·simp only[ZaL]
     rw[show((G1.bump k2).alloc (.cells [[AV.sc (Value.int IntKind.i64 c),AV.sl Tok.no (rI (chs x l c))]].flatten 209)).get (G1.next+k2)=some (.cells [[AV.sc (Value.int IntKind.i64 c),AV.sl Tok.no (rI (chs x l c))]].flatten 209)from Zaa.Zae (H:=G1.bump k2)]
     rfl
    ·rintro id' cap' tail' H' hor hc2 hc3
     have hmt:Met (ZbU c 1 M) out ((c,chs x l c) :: (a,left) :: st) (n - 1):=by
      refine⟨fun u=>?_,fun u w h=>?_⟩
      ·rw[Zeg]
       split
       ·rename_i e
        subst e
        exact⟨fun _=>.inr ⟨_,zah,rfl⟩,fun _=>rfl⟩
       ·rename_i e
        rw[hiff]
        simp only[zao,exists_eq_or_imp]
        simp only[zbo e,false_or]
      ·rw[Zeg]at h
       split at h
       ·simp only[zac]at h;omega
       ·have:=hlo u w h;omega
     have hV:VSt H x l R mid tid id' cap' (n - 1) (ZbU c 1 M) out ((c,chs x l c) :: (a,left) :: st) tail' H':=by
      rcases hor with⟨rfl,rfl⟩|⟨rfl,rfl⟩
      ·refine⟨((hx1.bump).alloc).set i3,?_,?_,?_,i1,i2,i3,n1,n2,n3,hc2,by simp only[List.length_cons]at *;omega,hsk,hmt,by omega,by rw[<- hS.fin,ZrT hdn hhd.1 (by omega) hco],by omega,by simp only[List.length_cons];omega⟩
       ·rw[Zaa.Zah (zbo n2),Zaa.Zag (by simp only[nx];omega)];exact gm1
       ·rw[Zaa.Zah (zbo n3),Zaa.Zag (by simp only[nx];omega)];exact gt1
       ·rw[Zaa.Zal (by simp only[nx];omega)]
      ·refine⟨((hx1.bump).alloc).alloc,?_,?_,?_,i1,i2,by simp only[nx];omega,n1,by simp only[nx];omega,by simp only[nx];omega,hc2,by simp only[List.length_cons]at *;omega,hsk,hmt,by omega,by rw[<- hS.fin,ZrT hdn hhd.1 (by omega) hco],by omega,by simp only[List.length_cons];omega⟩
       ·rw[Zaa.Zag (by simp only[nx];omega),Zaa.Zag (by simp only[nx];omega)];exact gm1
       ·rw[Zaa.Zag (by simp only[nx];omega),Zaa.Zag (by simp only[nx];omega)];exact gt1
       ·exact Zaa.Zae (H:=(G1.bump k2).alloc _)
     ((have hd:=tv;repeat' first|(first|apply Zad|apply Zac|apply Zab)<;>intro hd<;>try simp only[hd]|simp(disch:=first|assumption|omega|simp only[nx]<;>omega|fail)only[hd,qr,qn,Zrj,↓YA,YY,sevalprocAttr,f0,f5,f6])<;>try revert hd;refine ttr ?_)
     exact⟨n - 1,by omega,id',cap',ZbU c 1 M,out,(c,chs x l c) :: (a,left) :: st,tail',hV,rfl,rfl⟩
   ·obtain⟨v1,v2⟩:=hlo c v hcm
    have hci:c∈out:=((hiff c).1 (by rw[hcm];rfl)).resolve_right hnst
    have ms1:=ZcH (kf:=kI) (vf:=AV.i) ZkH c (v+1) M
    have mf1:=ZdP c (v+1) M
    have d3:(v+1 == 1)=false:=by rw[beq_eq_false_iff_ne];omega
    have hmb:mB (ZbU c (v+1) M)=mB M:=by
     funext u
     unfold mB
     rw[Zeg]
     split
     ·rename_i e;subst e;rw[hcm];rfl
     ·rfl
    ((have hd:=tv;repeat' first|(first|apply Zad|apply Zac|apply Zab)<;>intro hd<;>try simp only[hd]|simp(disch:=first|assumption|omega|simp only[nx]<;>omega|fail)only[hd,qr,qn,Zrj,↓YA,YY,sevalprocAttr,f0,f5,f6,f7,d1,d2,d3,hsub,hlt,gs,g0,g1,la1,List.length_nil,zaa,hoff,Zdi,AX.ev,Fr.get,Zhj,or_true,htk,htop,gm,ZrS,ZbV ZkH,hcm,ms1,mf1])<;>try revert hd;refine ttr ?_)
    refine⟨n - 1,by omega,id,cap,ZbU c (v+1) M,out,(a,left) :: st,tail,⟨(hxS.set i3).set i1,by rw[Zaa.Zal (by simp only[nx];omega)],by rw[Zaa.Zah n1,Zaa.Zah (zbo n3)];exact gt,by rw[Zaa.Zah n2,Zaa.Zal ls];rfl,i1,i2,i3,n1,n2,n3,hC',hle,hst.tail,⟨fun u=>?_,fun u w h=>?_⟩,by rw[hmb];omega,by rw[<- hS.fin,Zs2 hci],by omega,by simp only[List.length_cons];omega⟩,rfl,rfl⟩
    ·rw[Zeg]
     split
     ·rename_i e
      subst e
      exact⟨fun _=>.inl hci,fun _=>rfl⟩
     ·rw[hiff]
      simp
    ·rw[Zeg]at h
     split at h
     ·simp only[zac]at h;omega
     ·have:=hlo u w h;omega
def eqTc:EqT:=⟨eqE,fun t=>t == 113⟩
theorem hEc:∀t ks,eqTc t=some ks->Ziv Tryz.prog t ks:=hE0
def zvc0:AV:=.agg [.sc (.int .i64 0),.sl .full [],.sc (.int .i64 0),.sc (.int .i64 0),.sc (.int .i64 0),.sc (.int .i64 0),.sc (.int .i64 0),.sc (.int .i64 0),.sc (.int .i64 0),.sc (.int .i64 0),.sc (.int .i64 0),.sc (.int .i64 0),.sc (.int .i64 0),.sc (.int .i64 0)]
def zvc1:List AV:=[.sc (.int .i64 0),.sl .full [],.sc (.int .i64 0),.sc (.int .i64 0),.sc (.int .i64 0),.sc (.int .i64 0),.sc (.int .i64 0),.sc (.int .i64 0),.sc (.int .i64 0),.sc (.int .i64 0),.sc (.int .i64 0),.sc (.int .i64 0),.sc (.int .i64 0),.sc (.int .i64 0)]
theorem YZw:True/\zvc0=.agg [.sc (.int .i64 0),.sl .full [],.sc (.int .i64 0),.sc (.int .i64 0),.sc (.int .i64 0),.sc (.int .i64 0),.sc (.int .i64 0),.sc (.int .i64 0),.sc (.int .i64 0),.sc (.int .i64 0),.sc (.int .i64 0),.sc (.int .i64 0),.sc (.int .i64 0),.sc (.int .i64 0)]/\zvc1=[.sc (.int .i64 0),.sl .full [],.sc (.int .i64 0),.sc (.int .i64 0),.sc (.int .i64 0),.sc (.int .i64 0),.sc (.int .i64 0),.sc (.int .i64 0),.sc (.int .i64 0),.sc (.int .i64 0),.sc (.int .i64 0),.sc (.int .i64 0),.sc (.int .i64 0),.sc (.int .i64 0)]:=⟨trivial,rfl,rfl⟩
def v61_1:Zar:=.blk 0 (.loop (.seq (.reg [io 15 (.bin .lss (.t 14) (.t 13))]) (.seq (.cond (.t 15) .skip (.exit 0)) (.seq (.blk 1 (.seq (.reg [io 16 (.ixa 1 (.t 12) (.t 14)),io 17 (.ld 1 false (.t 16)),im 5 17]) (.drw [ip (io 18 (.fla 1 (.t 3))),ip (io 19 (.ld 1 false (.t 18))),ip (im 20 5),(io 21 (.call (jf 106) [.t 20]),[io 19 (.ld 1 false (.t 18))]),ip (io 22 (.bsl 1 [.t 21])),ip (io 23 (.app 120 1 24 (.t 19) (.t 22))),ip (io 24 (.fla 1 (.t 3))),ip (iz (.st 1 (.t 24) (.t 23)))]))) (.reg [io 25 (.bin .add (.t 14) (ik 1)),im 14 25])))))
def ZsZ:Zar:=.seq (.reg [io 1 (.box 115 (.t 0)),io 2 (.box 115 (.c zvc0))]) (.seq (.reg [io 6 (.fla 0 (.t 1)),io 7 (.ld 1 false (.t 6)),io 8 (.fla 2 (.t 1)),io 9 (.ld 12 true (.t 8)),io 10 (.bld zvc1 [(0,(1,.t 7)),(2,(12,.t 9))]),io 3 (.box 115 (.c zvc0)),iz (.st 14 (.t 3) (.t 10))]) (.seq (.seq (.reg [io 11 (.fla 1 (.t 1)),io 12 (.ld 1 false (.t 11)),io 13 (.len false (.t 12)),jm 14 0]) v61_1) (.seq (.reg [io 26 (.ld 14 true (.t 3)),iz (.st 14 (.t 2) (.t 26))]) .ret)))
theorem vf61:cFn Tryz.prog eqTc 61=some (ZsZ,[(.cell 14 true 2)],27):=by kernel_rfl
def v85_2:Zar:=.blk 2 (.loop (.seq (.reg [io 28 (.bin .lss (.t 27) (.t 26))]) (.seq (.cond (.t 28) .skip (.exit 2)) (.seq (.blk 3 (.seq (.reg [im 29 27,im 10 29]) (.reg [im 30 9,im 31 10,im 32 2,im 33 9,im 34 10,io 35 (.ixa 12 (.t 33) (.t 34)),io 36 (.fla 1 (.t 35)),io 37 (.ld 1 false (.t 36)),io 38 (.call (.t 32) [.t 37]),io 39 (.ixa 12 (.t 30) (.t 31)),io 40 (.fla 1 (.t 39)),iz (.st 1 (.t 40) (.t 38))]))) (.reg [io 41 (.bin .add (.t 27) (ik 1)),im 27 41])))))
def v85_1:Zar:=.blk 0 (.loop (.seq (.reg [io 22 (.bin .lss (.t 21) (.t 20))]) (.seq (.cond (.t 22) .skip (.exit 0)) (.seq (.blk 1 (.seq (.reg [io 23 (.ixa 1 (.t 19) (.t 21)),io 24 (.ld 1 false (.t 23)),im 9 24]) (.seq (.reg [im 25 9,io 26 (.len false (.t 25)),jm 27 0]) v85_2))) (.reg [io 42 (.bin .add (.t 21) (ik 1)),im 21 42])))))
def Zro:Zar:=.seq (.reg [io 3 (.box 37 (.t 0)),io 4 (.box 115 (.t 1)),io 6 (.box 115 (.c zvc0))]) (.seq (.reg [io 11 (.ld 14 true (.t 4)),io 12 (.call (jf 61) [.t 11]),io 7 (.box 115 (.c zvc0)),iz (.st 14 (.t 7) (.t 12))]) (.seq (.seq (.reg [io 13 (.ld 2 true (.t 3)),io 14 (.fla 0 (.t 4)),io 15 (.ld 1 false (.t 14)),io 16 (.call (jf 62) [.t 13,.t 15])]) (.cond (.t 16) (.seq (.reg [io 17 (.ld 14 true (.t 7)),iz (.st 14 (.t 6) (.t 17))]) .ret) .skip)) (.seq (.seq (.reg [io 18 (.fla 1 (.t 7)),io 19 (.ld 1 false (.t 18)),io 20 (.len false (.t 19)),jm 21 0]) v85_1) (.seq (.reg [im 43 2,io 44 (.fla 2 (.t 7)),io 45 (.fla 1 (.t 44)),io 46 (.ld 1 false (.t 45)),io 47 (.call (.t 43) [.t 46]),io 48 (.fla 2 (.t 7)),io 49 (.fla 1 (.t 48)),iz (.st 1 (.t 49) (.t 47))]) (.seq (.reg [io 50 (.ld 14 true (.t 7)),iz (.st 14 (.t 6) (.t 50))]) .ret)))))
theorem vf85:cFn Tryz.prog eqTc 85=some (Zro,[(.cell 14 true 6)],51):=by kernel_rfl
def ZsY:Zar:=.seq (.reg [io 2 (.mv jn)]) (.seq (.seq (.reg [im 3 0,io 4 (.eqs false (.t 3))]) (.cond (.t 4) (.seq (.reg [io 2 (.mv jn)]) .ret) .skip)) (.seq (.reg [io 5 (.bsv 113 12 []),im 6 0,io 7 (.apv 113 12 96 [.sc (.int .i64 0),.sc (.int .i64 0),.sc (.int .i64 0),.sc (.int .i64 0),.sc (.int .i64 0),.sc (.int .i64 0),.sc (.int .i64 0),.sc (.int .i64 0),.sc (.int .i64 0),.sc (.int .i64 0),.sc (.int .i64 0),.sc (.int .i64 0)] (.t 5) (.t 6)),im 2 7]) .ret))
theorem vf106:cFn Tryz.prog eqTc 106=some (ZsY,[(.tmp 2)],8):=by kernel_rfl
theorem rC_at:∀{l:List Cel} {tail:List AV} {j o:Nat} (h:j<l.length),o<12->((rC l).flatten++tail)[j * 12+o]?=(ZbE l[j])[o]?
 | c :: l,tail,0,o,h,ho=>by
  simp only[zak,List.flatten_cons,zbr,zaz,List.getElem_cons_zero]
  rw[zaI,zaH (by show o<12;exact ho)]
 | c :: l,tail,j+1,o,h,ho=>by
  have ih:=rC_at (l:=l) (tail:=tail) (j:=j) (o:=o) (by simpa using h) ho
  simp only[zak,List.flatten_cons,List.getElem_cons_succ]
  rw[zaI,zaS (by show 12<=_;omega),<- ih]
  congr 1
  show(j+1) * 12+o - 12=_
  omega
theorem rC_put:∀{l:List Cel} {tail:List AV} {j:Nat} (h:j<l.length) (v:Int),((rC l).flatten++tail).take (j * 12+1)++[AV.i v]++((rC l).flatten++tail).drop (j * 12+1+1)=(rC (l.set j ⟨l[j].key,v,l[j].agg⟩)).flatten++tail
 | c :: l,tail,0,h,v=>by simp[ZbE]
 | c :: l,tail,j+1,h,v=>by
  have ih:=rC_put (l:=l) (tail:=tail) (j:=j) (by simpa using h) v
  simp only[zak,List.flatten_cons,List.getElem_cons_succ,List.set_cons_succ]
  rw[zaI (ZbE c),show(j+1) * 12+1=(ZbE c).length+(j * 12+1) by show _=12+_;omega,zbD (ZbE c).length,List.take_length_add_append,List.drop_length_add_append,zaI (ZbE c),zaI (ZbE c),zaI (ZbE c)]
  congr 1
theorem Zsx:∀(l:List Cel) (tail:List AV),chunk 12 l.length ((rC l).flatten++tail)=rC l
 | [],tail=>rfl
 | c :: l,tail=>by
  simp only[zak,List.flatten_cons,List.length_cons,chunk,zaI]
  rw[show(ZbE c++((rC l).flatten++tail)).take 12=ZbE c from List.take_left' rfl,show(ZbE c++((rC l).flatten++tail)).drop 12=(rC l).flatten++tail from List.drop_left' rfl,Zsx l tail]
theorem rC_len (l:List Cel):(rC l).flatten.length=l.length * 12:=by
 rw[Zc7 (sz:=12) (fun q hq=>by obtain⟨p,_,rfl⟩:=zan.1 hq;rfl)]
 simp
theorem apv_new {H:Zaa} {E sz bytes:Nat} {zero:List AV} {x:AV} {K:AV->Zaa->Prop} {xs:List (List AV)} (hx:ZaL H sz x=some xs) (hne:xs≠[]) (ha:ZaE sz xs=true) (h1:xs.length<=maxLen) (h2:xs.length * bytes<=140737488355328)
  (k:∀cap tail,xs.length<=cap->K (.arr H.next 0 xs.length cap) (H.alloc (.cells (xs.flatten++tail) E))):Zk3 H E sz bytes zero (.sl .full []) x K:=by
 unfold Zk3
 rw[hx]
 exact⟨⟨hne,ha,h1,h2⟩,fun cap hc _=>k cap _ hc⟩
set_option maxHeartbeats 1000000 in
theorem ZrZ (tok:Tok) (l:List Cel) (H:Zaa) (hl:l.length<=1000000) (hne:l≠[]):Zay Tryz.prog 106 [.sl tok (rC l)] H fun r H'=>∃cap tail,r=.arr H.next 0 l.length cap/\l.length<=cap/\H'=H.alloc (.cells ((rC l).flatten++tail) 113):=by
 refine Zak hEc vf106 (zad rfl) fun Q qr qn=>?_
 obtain⟨c,m,rfl⟩:∃c m,l=c :: m:=by
  cases l with
  | nil=>exact absurd rfl hne
  | cons c m=>exact⟨c,m,rfl⟩
 ((have hd:=tv;repeat' first|(first|apply Zad|apply Zac|apply Zab)<;>intro hd<;>try simp only[hd]|simp(disch:=first|assumption|omega|simp only[nx]<;>omega|fail)only[hd,qr,qn,ZsY,↓YA,YY,sevalprocAttr,YZw])<;>try revert hd;refine ttr ?_)
 have ha:=Zei (c :: m)
 have hm:(c :: m).length<=maxLen:=by unfold maxLen;omega
 have hm2:(c :: m).length * 96<=140737488355328:=by omega
 refine apv_new (xs:=rC (c :: m)) rfl (by simp) ha (by simpa using hm) (by simpa using hm2) fun cap tail hcap=>?_
 rw[zaa]at hcap ⊢
 ((have hd:=tv;repeat' first|(first|apply Zad|apply Zac|apply Zab)<;>intro hd<;>try simp only[hd]|simp(disch:=first|assumption|omega|simp only[nx]<;>omega|fail)only[hd,qr,qn,ZsY,↓YA,YY,sevalprocAttr])<;>try revert hd;refine ttr ?_)
 exact Zaq ⟨cap,tail,rfl,hcap,rfl⟩
abbrev rA (ts:List (Nat×Nat×List Cel)):List (List AV):=ts.map fun p=>[.arr p.1 0 p.2.2.length p.2.1]
structure ZrP (base:Nat) (ts:List (Nat×Nat×List Cel)) (G:Zaa):Prop where
 get:∀p∈ts,∃tail,G.get p.1=some (.cells ((rC p.2.2).flatten++tail) 113)
 lo:∀p∈ts,base<=p.1
 nd:(ts.map (·.1)).Nodup
theorem ZrP.ext {base:Nat} {ts:List (Nat×Nat×List Cel)} {G G':Zaa} (h:ZrP base ts G) (hx:Zaa.Ext G G'):ZrP base ts G' :=
 ⟨fun p hp=>by obtain⟨t,e⟩:=h.get p hp;exact⟨t,hx.get _ _ e⟩,h.lo,h.nd⟩
theorem ZrP.lt {base:Nat} {ts:List (Nat×Nat×List Cel)} {G:Zaa} (h:ZrP base ts G):∀p∈ts,p.1<G.next:=fun p hp=>by
 obtain⟨t,e⟩:=h.get p hp
 exact Zaa.lt e
theorem ZrP.keep {base:Nat} {ts:List (Nat×Nat×List Cel)} {G G':Zaa} (h:ZrP base ts G) (hk:∀p∈ts,G'.get p.1=G.get p.1):ZrP base ts G' :=
 ⟨fun p hp=>by obtain⟨t,e⟩:=h.get p hp;exact⟨t,by rw[hk p hp];exact e⟩,h.lo,h.nd⟩
theorem ZrP.snoc {base:Nat} {ts:List (Nat×Nat×List Cel)} {G:Zaa} {id cap:Nat} {l:List Cel} {tail:List AV} (h:ZrP base ts G) (hg:G.get id=some (.cells ((rC l).flatten++tail) 113)) (hb:base<=id) (hn:∀p∈ts,p.1≠id):ZrP base (ts++[(id,cap,l)]) G :=
 ⟨fun p hp=>by
  rcases zaC.1 hp with hp|hp
  ·exact h.get p hp
  ·rw[zat]at hp;subst hp;exact⟨tail,hg⟩,fun p hp=>by
  rcases zaC.1 hp with hp|hp
  ·exact h.lo p hp
  ·rw[zat]at hp;subst hp;exact hb,by
  rw[zaV,zb5]
  refine⟨h.nd,by simp,fun a ha b hb=>?_⟩
  obtain⟨p,hp,rfl⟩:=zan.1 ha
  simp at hb
  subst hb
  exact hn p hp⟩
def Zq2 (t:Tok) (dim:Int) (ts:List (Nat×Nat×List Cel)) (all:Cel):List AV:=.i dim :: .sl t (rA ts) :: ZbE all
structure CpV (H0:Zaa) (id t j:Nat) (n:Nod) (ts:List (Nat×Nat×List Cel)) (s:Zaa):Prop where
 ne:id≠t
 lo:H0.next<=id
 lo2:H0.next<=t
 cell:s.get id=some (.cells (Zq2 (.own t) n.dim ts n.all) 115)
 tok:s.get t=some (.tok j 120 1)
 ext:Zaa.Ext H0 s
 ls:ZrP H0.next ts s
 of:ts.map (·.2.2)=n.lists.take j
theorem ZsW (ts:List (Nat×Nat×List Cel)):ZaE 1 (rA ts)=true:=ZaU (f:=fun p:Nat×Nat×List Cel=>[AV.arr p.1 0 p.2.2.length p.2.1]) (fun _=>rfl) ts
def NodA (n:Nod) (H:Zaa) (r:AV) (H':Zaa):Prop:=Zaa.Ext H H'/\∃tk ts,r=.agg (Zq2 tk n.dim ts n.all)/\ZrP H.next ts H'/\ts.map (·.2.2)=n.lists
theorem Zrd {α:Type} {l:List α} {k:Nat} (h:k<l.length):l.take (k+1)=l.take k++[l[k]]:=by
 rw[zcF,zab h];rfl
set_option maxHeartbeats 4000000 in
theorem ZrH (t:Tok) (n:Nod) (H:Zaa) (hn:Zsq n.lists) (hne:∀c∈n.lists,c≠[]):Zay Tryz.prog 61 [.agg (ZbD t n)] H (NodA n H):=by
 obtain⟨hn1,hn2⟩:=hn
 obtain⟨dim,lists,all⟩:=n
 simp only at hn1 hn2 hne
 refine Zak hEc vf61 (zad rfl) fun Q qr qn=>?_
 ((have hd:=tv;repeat' first|(first|apply Zad|apply Zac|apply Zab)<;>intro hd<;>try simp only[hd]|simp(disch:=first|assumption|omega|simp only[nx]<;>omega|fail)only[hd,qr,qn,ZsZ,↓YA,YY,sevalprocAttr,YZw])<;>try revert hd;refine ttr ?_)
 have hx0:=(Zaa.Ext.refl H).alloc (o:=.cells (ZbD t ⟨dim,lists,all⟩) 115)
 refine Zj1 fun G hG=>?_
 have hGn:G.next=H.next+3:=by rw[hG];simp only[nx]
 have hg2:G.get (H.next+1+1)=some (.cells (Zq2 .full dim [] all) 115):=by rw[hG];exact Zaa.Zae (H:=(H.alloc _).alloc _)
 have hg1:∃Z:List AV,Z.length=14/\G.get (H.next+1)=some (.cells Z 115):=by
  rw[hG,Zaa.Zag (by simp only[nx];omega)]
  exact⟨_,rfl,Zaa.Zae (H:=H.alloc _)⟩
 have hGe:Zaa.Ext H G:=by rw[hG];exact(Zaa.Ext.refl H).alloc.alloc.alloc
 obtain⟨Z,hZ,hg1⟩:=hg1
 clear hG hx0
 unfold v61_1
 refine ZbJ (N:=lists.length) (fun k F s=>Fr.get F 14=.i (k:Int)/\Fr.get F 13=.i (lists.length:Int)/\Fr.get F 12=.sl t (rL lists)/\Fr.get F 3=.ptr (H.next+1+1) 0/\Fr.get F 2=.ptr (H.next+1) 0/\(∃ts,CpV H (H.next+1+1) G.next k ⟨dim,lists,all⟩ ts s/\∀p∈ts,H.next+3<=p.1/\p.1≠G.next)/\s.get (H.next+1)=some (.cells Z 115)) (by unfold maxLen;omega) (fun k F G h=>⟨h.1,h.2.1⟩)
  (F1:=[(14,.i ((0:Nat):Int)),(13,.i (lists.length:Int)),(12,.sl t (rL lists)),(3,.ptr (H.next+1+1) 0),(2,.ptr (H.next+1) 0)]) (H1:=(G.set (H.next+1+1) (.cells (Zq2 (.own G.next) dim [] all) 115)).alloc (.tok 0 120 1)) ?_ ?_ ?_ ?_
 ·exact(GStep.fr (by simp[Fr.get])).trans (GStep.ZdO (H.next+1+1) 1 115 120 1 hg2 rfl)
 ·refine⟨rfl,rfl,rfl,rfl,rfl,⟨[],⟨by omega,by omega,by omega,?_,Zaa.Zae (H:=G.set _ _),(hGe.set (by omega)).alloc,⟨by simp,by simp,by simp⟩,rfl⟩,by simp⟩,?_⟩
  ·rw[Zaa.Zag (by simp only[nx];omega)]
   exact Zaa.Zal (by omega)
  ·rw[Zaa.Zag (by simp only[nx];omega),Zaa.Zah (by omega)]
   exact hg1
 ·rintro k F s hk ⟨f14,f13,f12,f3,f2,⟨ts,hinv,hids⟩,hs1⟩
  have hl1:=hn2 _ (zal hk)
  have hc:=hinv.cell
  have ht:=hinv.tok
  have hc1:=Zaa.lt hc
  have ht1:=Zaa.lt ht
  have hs1l:=Zaa.lt hs1
  have hne1:=hinv.ne
  have hne':=zbo hne1
  have hts:ts.length=k:=by rw[<- zaa (f:=fun p:Nat×Nat×List Cel=>p.2.2),hinv.of,zaZ];simp only;omega
  have hex:=hinv.ext.next
  unfold Zq2 at hc
  ((have hd:=tv;repeat' first|(first|apply Zad|apply Zac|apply Zab)<;>intro hd<;>try simp only[hd]|simp(disch:=first|assumption|omega|simp only[nx]<;>omega|fail)only[hd,qr,qn,ZsZ,↓YA,YY,sevalprocAttr,f14,f12,f3,f13,f2,hc])<;>try revert hd;refine ttr ?_)
  refine Zap.use (ZrZ .no lists[k] _ (by omega) (hne _ (zal hk))) ?_
  rintro r H' ⟨cap,tail,rfl,hcap,rfl⟩
  have ha1:=ZsW ts
  have hb1:k+1<=maxLen:=by unfold maxLen;omega
  have hb2:(k+1) * 24<=140737488355328:=by omega
  have ho1:ZaE 1 [[AV.arr s.next 0 lists[k].length cap]]=true:=rfl
  ((have hd:=tv;repeat' first|(first|apply Zad|apply Zac|apply Zab)<;>intro hd<;>try simp only[hd]|simp(disch:=first|assumption|omega|simp only[nx]<;>omega|fail)only[hd,qr,qn,ZsZ,↓YA,YY,sevalprocAttr,f14,f12,f3,f13,f2,hc,ht,ha1,hb1,hb2,ho1,hts])<;>try revert hd;refine ttr ?_)
  have hsn:rA ts++[[AV.arr s.next 0 lists[k].length cap]]=rA (ts++[(s.next,cap,lists[k])]):=by simp
  have hlt:=hinv.ls.lt
  refine⟨⟨ts++[(s.next,cap,lists[k])],⟨hinv.ne,hinv.lo,hinv.lo2,?_,?_,((hinv.ext.alloc).set (by omega)).set (by omega),?_,?_⟩,?_⟩,hs1⟩
  ·rw[Zaa.Zal (by simp only[nx];omega),hsn];rfl
  ·rw[Zaa.Zah hne',Zaa.Zal (by simp only[nx];omega)]
  ·refine ZrP.snoc (tail:=tail) (hinv.ls.keep fun p hp=>?_) ?_ (by omega) (fun p hp=>by have:=hlt p hp;omega)
   ·have:=hids p hp
    have:=hlt p hp
    rw[Zaa.Zah (by omega),Zaa.Zah (by omega),Zaa.Zag (by omega)]
   ·rw[Zaa.Zah (by omega),Zaa.Zah (by omega)];exact Zaa.Zae
  ·rw[zaV,hinv.of,Zrd hk];rfl
  ·intro p hp
   rcases zaC.1 hp with hp|hp
   ·exact hids p hp
   ·rw[zat]at hp;subst hp;exact⟨by simp only;omega,by simp only;omega⟩
 ·rintro F s ⟨f14,f13,f12,f3,f2,⟨ts,hinv,hids⟩,hs1⟩
  have hc:=hinv.cell
  have hc1:=Zaa.lt hc
  have hs1l:=Zaa.lt hs1
  have hx:=hinv.ext
  have hof:=hinv.of
  simp only[zaP]at hof
  have hle:(Zq2 (.own G.next) dim ts all).length=14:=rfl
  have htk:(Zq2 (.own G.next) dim ts all).take 14=Zq2 (.own G.next) dim ts all:=rfl
  have hdz:Z.drop 14=[]:=by rw[zbn (by omega)]
  have hlz:(14:Nat)<=Z.length:=by omega
  ((have hd:=tv;repeat' first|(first|apply Zad|apply Zac|apply Zab)<;>intro hd<;>try simp only[hd]|simp(disch:=first|assumption|omega|simp only[nx]<;>omega|fail)only[hd,qr,qn,ZsZ,↓YA,YY,sevalprocAttr,f3,f2,hc,hs1,hle,htk,hdz,hZ])<;>try revert hd;refine ttr ?_)
  exact Zaq ⟨hx.set (by omega),.own G.next,ts,rfl,hinv.ls.keep fun p hp=>by have:=hids p hp;rw[Zaa.Zah (by omega)],hof⟩
def mvM (M:List (Int×Int)) (c:Cel):Cel:=⟨c.key,(Zcz c.child M).getD 0,c.agg⟩
def mvMN (x:Shp) (M:List (Int×Int)) (n:Nod):Nod:=if lastB x n.dim=true then n else ⟨n.dim,n.lists.map fun l=>l.map (mvM M),mvM M n.all⟩
structure Look (pid mid:Nat) (M:List (Int×Int)) (H:Zaa):Prop where
 p:H.get pid=some (.cells [.mp mid] 152)
 m:H.get mid=some (.map (.one (.int .i64)) (Zgf kI AV.i M) false)
theorem Look.ext {pid mid:Nat} {M:List (Int×Int)} {H H':Zaa} (h:Look pid mid M H) (hx:Zaa.Ext H H'):Look pid mid M H':=⟨hx.get _ _ h.p,hx.get _ _ h.m⟩
theorem ZrB {pid mid:Nat} {M:List (Int×Int)} {H:Zaa} (h:Look pid mid M H) (c:Int):Zay Tryz.prog 84 [.i c,.ptr pid 0] H (Pure H (.i ((Zcz c M).getD 0))):=by
 have hp:=h.p
 have hm:=h.m
 refine Zak hE cf84 (zad rfl) fun Q qr qn=>?_
 cases e:Zcz c M with
 | none =>
  ((have hd:=tv;repeat' first|(first|apply Zad|apply Zac|apply Zab)<;>intro hd<;>try simp only[hd]|simp(disch:=first|assumption|omega|simp only[nx]<;>omega|fail)only[hd,qr,qn,c84_0,↓YA,YY,sevalprocAttr,hp,hm,ZrS,ZbV ZkH,e,Option.map_none])<;>try revert hd;refine ttr ?_)
  exact ZaW (by exact AXT) rfl
 | some v =>
  ((have hd:=tv;repeat' first|(first|apply Zad|apply Zac|apply Zab)<;>intro hd<;>try simp only[hd]|simp(disch:=first|assumption|omega|simp only[nx]<;>omega|fail)only[hd,qr,qn,c84_0,↓YA,YY,sevalprocAttr,hp,hm,ZrS,ZbV ZkH,e])<;>try revert hd;refine ttr ?_)
  exact ZaW (by exact AXT) rfl
theorem mv_list {f:Cel->Cel} {l:List Cel} {j:Nat} (h:j<l.length):∃h2:j<((l.take j).map f++l.drop j).length,((l.take j).map f++l.drop j)[j]=l[j]/\((l.take j).map f++l.drop j).set j (f l[j])=(l.take (j+1)).map f++l.drop (j+1):=by
 have h1:((l.take j).map f).length=j:=by simp;omega
 refine⟨by simp;omega,?_,?_⟩
 ·rw[List.getElem_append_right (by omega),List.getElem_drop]
  congr 1
  omega
 ·rw[List.set_append_right _ _ (by omega),h1,zcd,zav h,List.set_cons_zero,Zrf h]
  simp
theorem frz_node {H:Zaa} {base:Nat} {tk:Tok} {dim:Int} {ts:List (Nat×Nat×List Cel)} {all:Cel} {D:Nat->Bool} (h:ZrP base ts H) (hD:∀p∈ts,D p.1=true):Frz H D (.agg (Zq2 tk dim ts all)) (.agg (ZbD .no ⟨dim,ts.map (·.2.2),all⟩)):=by
 refine .agg _ _ rfl (fun i x y hx hy=>?_)
 have e:ZbD .no ⟨dim,ts.map (·.2.2),all⟩=.i dim :: .sl .no (rL (ts.map (·.2.2))) :: ZbE all:=rfl
 rw[e]at hy
 unfold Zq2 at hx
 match i with
 | 0=>simp at hx hy;subst hx hy;exact .refl _
 | 1 =>
  simp only[List.getElem?_cons_succ,List.getElem?_cons_zero,zac]at hx hy
  subst hx hy
  refine .sl _ _ _ (by simp) (fun i r r' h1 h2=>?_) (fun i r r' j x y h1 h2 hx hy=>?_)
  ·rw[zaN]at h1 h2
   rw[zaN]at h2
   cases hi:ts[i]? with
   | none=>rw[hi]at h1;cases h1
   | some p=>rw[hi]at h1 h2;simp at h1 h2;subst h1 h2;rfl
  ·rw[zaN]at h1 h2
   rw[zaN]at h2
   cases hi:ts[i]? with
   | none=>rw[hi]at h1;cases h1
   | some p =>
    rw[hi]at h1 h2
    simp only[Option.map_some,zac]at h1 h2
    subst h1 h2
    have hp:=zaQ hi
    cases j with
    | succ j=>simp at hx
    | zero =>
     simp only[List.getElem?_cons_zero,zac]at hx hy
     subst hx hy
     obtain⟨tail,hg⟩:=h.get p hp
     have hk:=Zsx p.2.2 tail
     refine .arr p.1 0 12 p.2.2.length p.2.1 113 _ (rC p.2.2) (hD p hp) hg (by rw[zaj,rC_len];omega) (by simp) (fun i r r' a b=>?_) (fun i r r' j x y a b c d=>?_)
     ·rw[zaX,hk]at a;rw[a]at b;injection b with b;rw[b]
     ·rw[zaX,hk]at a;rw[a]at b;injection b with b;subst b;rw[c]at d;injection d with d;subst d;exact .refl _
 | i+2=>simp only[List.getElem?_cons_succ]at hx hy;rw[hx]at hy;injection hy with hy;subst hy;exact .refl _
theorem Zsm {H0 H:Zaa} {base:Nat} {tk:Tok} {dim:Int} {ts:List (Nat×Nat×List Cel)} {all:Cel} {n:Nod} (h:ZrP base ts H) (hb:H0.next<=base) (hx:Zaa.Ext H0 H) (hn:(⟨dim,ts.map (·.2.2),all⟩:Nod)=n):∃r2 H2,Zb6 (.agg (Zq2 tk dim ts all)) H r2 H2/\Pure H0 (.agg (ZbD .no n)) r2 H2:=by
 subst hn
 refine ZpD (frz_node (D:=fun i=>(ts.map (·.1)).contains i) h fun p hp=>?_) (fun i hi=>?_) hx
 ·rw[zaO];exact zan.2 ⟨p,hp,rfl⟩
 ·cases e:(ts.map (·.1)).contains i with
  | false=>rfl
  | true =>
   rw[zaO]at e
   obtain⟨p,hp,rfl⟩:=zan.1 e
   have:=h.lo p hp
   omega
structure MvLs (M:List (Int×Int)) (ts:List (Nat×Nat×List Cel)) (k:Nat) (G:Zaa):Prop where
 get:∀i (h:i<ts.length),∃tail,G.get ts[i].1=some (.cells ((rC (if i<k then ts[i].2.2.map (mvM M) else ts[i].2.2)).flatten++tail) 113)
set_option maxHeartbeats 8000000 in
theorem Zse {x:Shp} {M:List (Int×Int)} {pid mid:Nat} {H:Zaa} (tx t:Tok) (n:Nod) (hL:Look pid mid M H) (hn:Zsq n.lists) (hne:∀c∈n.lists,c≠[]) (hx:x.sizes.length<=1000000) :
  Zay Tryz.prog 85 [.agg [.sl tx (rII x.sizes),.i x.measures],.agg (ZbD t n),.fn 84 [] [.ptr pid 0]] H (Pure H (.agg (ZbD .no (mvMN x M n)))):=by
 have hpl:=Zaa.lt hL.p
 have hml:=Zaa.lt hL.m
 refine Zak hEc vf85 (zad rfl) fun Q qr qn=>?_
 ((have hd:=tv;repeat' first|(first|apply Zad|apply Zac|apply Zab)<;>intro hd<;>try simp only[hd]|simp(disch:=first|assumption|omega|simp only[nx]<;>omega|fail)only[hd,qr,qn,Zro,↓YA,YY,sevalprocAttr,YZw])<;>try revert hd;refine ttr ?_)
 have g3:(((H.alloc (.cells [.sl tx (rII x.sizes),.i x.measures] 37)).alloc (.cells (ZbD t n) 115)).alloc (.cells [.i 0,.sl .full [],.i 0,.i 0,.i 0,.i 0,.i 0,.i 0,.i 0,.i 0,.i 0,.i 0,.i 0,.i 0] 115)).get H.next=some (.cells [.sl tx (rII x.sizes),.i x.measures] 37):=by
  rw[Zaa.Zag (by simp only[nx];omega),Zaa.Zag (by simp only[nx];omega)];exact Zaa.Zae
 have g4:(((H.alloc (.cells [.sl tx (rII x.sizes),.i x.measures] 37)).alloc (.cells (ZbD t n) 115)).alloc (.cells [.i 0,.sl .full [],.i 0,.i 0,.i 0,.i 0,.i 0,.i 0,.i 0,.i 0,.i 0,.i 0,.i 0,.i 0] 115)).get (H.next+1)=some (.cells (ZbD t n) 115):=by
  rw[Zaa.Zag (by simp only[nx];omega)];exact Zaa.Zae (H:=H.alloc _)
 have g6:(((H.alloc (.cells [.sl tx (rII x.sizes),.i x.measures] 37)).alloc (.cells (ZbD t n) 115)).alloc (.cells [.i 0,.sl .full [],.i 0,.i 0,.i 0,.i 0,.i 0,.i 0,.i 0,.i 0,.i 0,.i 0,.i 0,.i 0] 115)).get (H.next+1+1)=some (.cells [.i 0,.sl .full [],.i 0,.i 0,.i 0,.i 0,.i 0,.i 0,.i 0,.i 0,.i 0,.i 0,.i 0,.i 0] 115):=Zaa.Zae (H:=(H.alloc _).alloc _)
 have hx0:Zaa.Ext H (((H.alloc (.cells [.sl tx (rII x.sizes),.i x.measures] 37)).alloc (.cells (ZbD t n) 115)).alloc (.cells [.i 0,.sl .full [],.i 0,.i 0,.i 0,.i 0,.i 0,.i 0,.i 0,.i 0,.i 0,.i 0,.i 0,.i 0] 115)):=by exact AXT
 have hn0:(((H.alloc (.cells [.sl tx (rII x.sizes),.i x.measures] 37)).alloc (.cells (ZbD t n) 115)).alloc (.cells [.i 0,.sl .full [],.i 0,.i 0,.i 0,.i 0,.i 0,.i 0,.i 0,.i 0,.i 0,.i 0,.i 0,.i 0] 115)).next=H.next+3:=by simp only[nx]
 generalize ((H.alloc (.cells [.sl tx (rII x.sizes),.i x.measures] 37)).alloc (.cells (ZbD t n) 115)).alloc (.cells [.i 0,.sl .full [],.i 0,.i 0,.i 0,.i 0,.i 0,.i 0,.i 0,.i 0,.i 0,.i 0,.i 0,.i 0] 115)=G0 at *
 generalize hZ:[AV.i 0,AV.sl .full [],.i 0,.i 0,.i 0,.i 0,.i 0,.i 0,.i 0,.i 0,.i 0,.i 0,.i 0,.i 0]=Z at g6
 have hZl:Z.length=14:=by rw[<- hZ];rfl
 have hdz:Z.drop 14=[]:=by rw[<- hZ];rfl
 clear hZ
 refine Zap.use (ZrH t n _ hn hne) ?_
 rintro r G1 ⟨hx1,tk,ts,rfl,hts,hof⟩
 rw[hn0]at hts
 have g3:=hx1.get _ _ g3
 have g4:=hx1.get _ _ g4
 have g6:=hx1.get _ _ g6
 have l3:=Zaa.lt g3
 have l4:=Zaa.lt g4
 have l6:=Zaa.lt g6
 have hle:(Zq2 tk n.dim ts n.all).length=14:=rfl
 have htk:(Zq2 tk n.dim ts n.all).take 14=Zq2 tk n.dim ts n.all:=rfl
 have hi0:(Zq2 tk n.dim ts n.all)[1]?=some (.sl tk (rA ts)):=rfl
 ((have hd:=tv;repeat' first|(first|apply Zad|apply Zac|apply Zab)<;>intro hd<;>try simp only[hd]|simp(disch:=first|assumption|omega|simp only[nx]<;>omega|fail)only[hd,qr,qn,Zro,↓YA,YY,sevalprocAttr,YZw,hle,g3,g4,hZl,hdz])<;>try revert hd;refine ttr ?_)
 have hxG:Zaa.Ext H (G1.alloc (.cells (Zq2 tk n.dim ts n.all) 115)):=(hx0.trans hx1).alloc
 have g7:(G1.alloc (.cells (Zq2 tk n.dim ts n.all) 115)).get G1.next=some (.cells (Zq2 tk n.dim ts n.all) 115):=Zaa.Zae
 have g3:(G1.alloc (.cells (Zq2 tk n.dim ts n.all) 115)).get _=_:=((Zaa.Ext.refl G1).alloc).get _ _ g3
 have g6:(G1.alloc (.cells (Zq2 tk n.dim ts n.all) 115)).get _=_:=((Zaa.Ext.refl G1).alloc).get _ _ g6
 have hts:=hts.ext ((Zaa.Ext.refl G1).alloc (o:=.cells (Zq2 tk n.dim ts n.all) 115))
 have htl:=hts.lt
 have hn1:(G1.alloc (.cells (Zq2 tk n.dim ts n.all) 115)).next=G1.next+1:=rfl
 have hts7:∀p∈ts,p.1≠G1.next:=fun p hp e=>by
  obtain⟨tail,h⟩:=hts.get p hp
  rw[e,g7]at h
  simp at h
 generalize G1.alloc (.cells (Zq2 tk n.dim ts n.all) 115)=G2 at *
 (refine Zap.use (Zgq tx x n.dim _ hx) ?_;rintro _ _ ⟨rfl,k1,rfl⟩)
 have hb:=bfd (lastB x n.dim)
 rcases hb with hb|hb
 ·have hM:mvMN x M n=⟨n.dim,n.lists.map fun l=>l.map (mvM M),mvM M n.all⟩:=by unfold mvMN;rw[hb];rfl
  rw[hM]at qr qn
  ((have hd:=tv;repeat' first|(first|apply Zad|apply Zac|apply Zab)<;>intro hd<;>try simp only[hd]|simp(disch:=first|assumption|omega|simp only[nx]<;>omega|fail)only[hd,qr,qn,Zro,↓YA,YY,sevalprocAttr,hb,g7,hi0])<;>try revert hd;refine ttr ?_)
  have hx3:Zaa.Ext H (G2.bump k1):=hxG.bump
  have hL3:=hL.ext hx3
  have g7:(G2.bump k1).get G1.next=_:=g7
  have g6:(G2.bump k1).get (H.next+1+1)=_:=g6
  have hts:ZrP (H.next+3) ts (G2.bump k1):=hts.keep fun _ _=>rfl
  have htl:∀p∈ts,p.1<(G2.bump k1).next:=hts.lt
  generalize G2.bump k1=G3 at *
  have hnd:=hts.nd
  have htsl:ts.length=n.lists.length:=by rw[<- hof,zaa]
  have hts_len:ts.length<=maxLen:=by have:=hn.1;unfold maxLen;omega
  have hnl:∀p∈ts,p.2.2.length<=1000000:=fun p hp=>hn.2 _ (by rw[<- hof];exact zan.2 ⟨p,hp,rfl⟩)
  have hdis:∀i k (hi:i<ts.length) (hk:k<ts.length),i≠k->ts[i].1≠ts[k].1:=fun i k hi hk hne e=>by
   have hh:=zbI.1 hnd
   rcases Nat.lt_or_gt_of_ne hne with h|h
   ·exact hh i k (by simpa using hi) (by simpa using hk) h (by simpa using e)
   ·exact hh k i (by simpa using hk) (by simpa using hi) h (by simpa using e.symm)
  refine ZbJ (N:=ts.length) (fun k F S=>Fr.get F 21=.i (k:Int)/\Fr.get F 20=.i (ts.length:Int)/\Fr.get F 19=.sl tk (rA ts)/\Fr.get F 2=.fn 84 [] [.ptr pid 0]/\Fr.get F 6=.ptr (H.next+1+1) 0/\Fr.get F 7=.ptr G1.next 0 /\
   Zaa.Ext H S/\S.get G1.next=some (.cells (Zq2 tk n.dim ts n.all) 115)/\S.get (H.next+1+1)=some (.cells Z 115)/\MvLs M ts k S) hts_len (fun k F G h=>⟨h.1,h.2.1⟩) (GStep.refl _ _) ⟨rfl,by simp only[Fr.get,↓reduceIte,Nat.reduceEqDiff],rfl,rfl,rfl,rfl,hx3,g7,g6,⟨fun i hi=>?_⟩⟩ ?_ ?_
  ·rw[if_neg (by omega)]
   exact hts.get _ (zal hi)
  ·rintro k F S hk ⟨f21,f20,f19,f2,f6,f7,hxS,s7,s6,hS⟩
   have hp:=zal hk
   have hlo:=hts.lo _ hp
   have hne7:=hts7 _ hp
   obtain⟨tail,hg⟩:=hS.get k hk
   rw[if_neg (by omega)]at hg
   have hll:=hnl _ hp
   have hrk:(rA ts)[k]?=some [.arr ts[k].1 0 ts[k].2.2.length ts[k].2.1]:=by simp[hk]
   have hlS:=Zaa.lt hg
   have ls7:=Zaa.lt s7
   have ls6:=Zaa.lt s6
   ((have hd:=tv;repeat' first|(first|apply Zad|apply Zac|apply Zab)<;>intro hd<;>try simp only[hd]|simp(disch:=first|assumption|omega|simp only[nx]<;>omega|fail)only[hd,qr,qn,Zro,↓YA,YY,sevalprocAttr,f21,f20,f19,f2,f6,f7,hrk])<;>try revert hd;refine ttr ?_)
   generalize hid:ts[k].1=id at *
   generalize hl:ts[k].2.2=l at *
   generalize ts[k].2.1=cap at *
   refine ZbJ (N:=l.length) (fun j F S2=>Fr.get F 27=.i (j:Int)/\Fr.get F 26=.i (l.length:Int)/\Fr.get F 9=.arr id 0 l.length cap/\Fr.get F 21=.i (k:Int)/\Fr.get F 20=.i (ts.length:Int)/\Fr.get F 19=.sl tk (rA ts)/\Fr.get F 2=.fn 84 [] [.ptr pid 0]/\Fr.get F 6=.ptr (H.next+1+1) 0/\Fr.get F 7=.ptr G1.next 0 /\
    Zh2 id S S2/\S2.get id=some (.cells ((rC ((l.take j).map (mvM M)++l.drop j)).flatten++tail) 113)) (by unfold maxLen;omega) (fun k F G h=>⟨h.1,h.2.1⟩) (GStep.refl _ _) ⟨rfl,rfl,rfl,by simp only[Fr.get,↓reduceIte,Nat.reduceEqDiff];exact f21,by simp only[Fr.get,↓reduceIte,Nat.reduceEqDiff];exact f20,by simp only[Fr.get,↓reduceIte,Nat.reduceEqDiff];exact f19,by simp only[Fr.get,↓reduceIte,Nat.reduceEqDiff];exact f2,by simp only[Fr.get,↓reduceIte,Nat.reduceEqDiff];exact f6,by simp only[Fr.get,↓reduceIte,Nat.reduceEqDiff];exact f7,Zh2.refl _ _,by simpa using hg⟩ ?_ ?_
   ·rintro j F S2 hj ⟨f27,f26,f9,f21,f20,f19,f2,f6,f7,hB,hg2⟩
    obtain⟨h2,h3,h4⟩:=mv_list (f:=mvM M) hj
    generalize hLj:(l.take j).map (mvM M)++l.drop j=L at *
    have hLl:L.length=l.length:=by rw[<- hLj];simp;omega
    have c1:=rC_at (tail:=tail) h2 (show 1<12 by omega)
    have c2:=rC_put (tail:=tail) h2 ((Zcz l[j].child M).getD 0)
    rw[h3]at c1 c2
    have hmv:(⟨l[j].key,(Zcz l[j].child M).getD 0,l[j].agg⟩:Cel)=mvM M l[j]:=rfl
    rw[hmv,h4]at c2
    have c1:((rC L).flatten++tail)[j * 12+1]?=some (.i l[j].child):=c1
    have hcl:j * 12+1+1<=((rC L).flatten++tail).length:=by rw[zaj,rC_len];omega
    have hLk:Look pid mid M S2:=by
     have:=hL.ext hxS
     exact⟨hB.get _ _ (by omega) this.p,hB.get _ _ (by omega) this.m⟩
    generalize (rC L).flatten++tail=C at *
    have hj2:(0:Int)<=(j:Int)/\(j:Int)<(l.length:Int):=by omega
    ((have hd:=tv;repeat' first|(first|apply Zad|apply Zac|apply Zab)<;>intro hd<;>try simp only[hd]|simp(disch:=first|assumption|omega|simp only[nx]<;>omega|fail)only[hd,qr,qn,Zro,↓YA,YY,sevalprocAttr,f27,f26,f9,f21,f20,f19,f2,f6,f7,hg2,c1,hj2])<;>try revert hd;refine ttr ?_)
    (refine Zap.use (ZrB hLk l[j].child) ?_;rintro _ _ ⟨rfl,k2,rfl⟩)
    ((have hd:=tv;repeat' first|(first|apply Zad|apply Zac|apply Zab)<;>intro hd<;>try simp only[hd]|simp(disch:=first|assumption|omega|simp only[nx]<;>omega|fail)only[hd,qr,qn,Zro,↓YA,YY,sevalprocAttr,f27,f26,f9,f21,f20,f19,f2,f6,f7,hg2,c1,hj2,hcl])<;>try revert hd;refine ttr ?_)
    have hl2:=Zaa.lt hg2
    refine⟨(hB.bump).set,?_⟩
    rw[Zaa.Zal (by simp only[nx];omega)]
    rw[<- c2]
   ·rintro F S2 ⟨f27,f26,f9,f21,f20,f19,f2,f6,f7,hB,hg2⟩
    ((have hd:=tv;repeat' first|(first|apply Zad|apply Zac|apply Zab)<;>intro hd<;>try simp only[hd]|simp(disch:=first|assumption|omega|simp only[nx]<;>omega|fail)only[hd,qr,qn,Zro,↓YA,YY,sevalprocAttr,f27,f26,f9,f21,f20,f19,f2,f6,f7])<;>try revert hd;refine ttr ?_)
    refine⟨⟨zaM hxS.next hB.next,fun i o e=>hB.get i o (by have:=Zaa.lt e;omega) (hxS.get i o e)⟩,hB.get _ _ (zbo hne7) s7,hB.get _ _ (by omega) s6,⟨fun i hi=>?_⟩⟩
    by_cases hik:i=k
    ·subst hik
     rw[if_pos (by omega),hid,hl]
     rw[zaP,zbd,zau]at hg2
     exact⟨tail,hg2⟩
    ·obtain⟨tail2,h2⟩:=hS.get i hi
     refine⟨tail2,?_⟩
     have:=hdis i k hi hk hik
     rw[hid]at this
     rw[hB.get _ _ this h2]
     by_cases hlt:i<k
     ·rw[if_pos hlt,if_pos (by omega)]
     ·rw[if_neg hlt,if_neg (by omega)]
  ·rintro F S ⟨f21,f20,f19,f2,f6,f7,hxS,s7,s6,hS⟩
   have hi3:(Zq2 tk n.dim ts n.all)[3]?=some (.i n.all.child):=rfl
   have hput:∀v,(Zq2 tk n.dim ts n.all).take 3++[AV.i v]++(Zq2 tk n.dim ts n.all).drop 4=Zq2 tk n.dim ts ⟨n.all.key,v,n.all.agg⟩:=fun v=>rfl
   have ls7:=Zaa.lt s7
   have ls6:=Zaa.lt s6
   have l34:3+1<=14:=by omega
   have hle2:∀a,(Zq2 tk n.dim ts a).length=14:=fun _=>rfl
   have htk2:∀a,(Zq2 tk n.dim ts a).take 14=Zq2 tk n.dim ts a:=fun _=>rfl
   ((have hd:=tv;repeat' first|(first|apply Zad|apply Zac|apply Zab)<;>intro hd<;>try simp only[hd]|simp(disch:=first|assumption|omega|simp only[nx]<;>omega|fail)only[hd,qr,qn,Zro,↓YA,YY,sevalprocAttr,f21,f20,f19,f2,f6,f7,s7,hi3])<;>try revert hd;refine ttr ?_)
   (refine Zap.use (ZrB (hL.ext hxS) n.all.child) ?_;rintro _ _ ⟨rfl,k2,rfl⟩)
   have h67:H.next+1+1≠G1.next:=by omega
   ((have hd:=tv;repeat' first|(first|apply Zad|apply Zac|apply Zab)<;>intro hd<;>try simp only[hd]|simp(disch:=first|assumption|omega|simp only[nx]<;>omega|fail)only[hd,qr,qn,Zro,↓YA,YY,sevalprocAttr,f21,f20,f19,f2,f6,f7,s7,hi3,hle,hput,l34,hle2,htk2,s6,hZl,hdz])<;>try revert hd;refine ttr ?_)
   have hrA:∀a,Zq2 tk n.dim ts a=Zq2 tk n.dim (ts.map fun p=>(p.1,p.2.1,p.2.2.map (mvM M))) a:=fun a=>by
    unfold Zq2
    congr 3
    simp only[zbw]
    exact zbV fun p _=>by simp
   rw[hrA]
   refine Zsm (base:=H.next+3) ⟨fun p hp=>?_,fun p hp=>?_,?_⟩ (by omega) (((hxS.bump).set (by omega)).set (by omega)) ?_
   ·obtain⟨q,hq,rfl⟩:=zan.1 hp
    obtain⟨i,hi,rfl⟩:=zaw hq
    obtain⟨tail,h⟩:=hS.get i hi
    rw[if_pos hi]at h
    have hlo:=hts.lo _ (zal hi)
    have hne7:=hts7 _ (zal hi)
    exact⟨tail,by rw[Zaa.Zah (by simp only;omega),Zaa.Zah hne7];exact h⟩
   ·obtain⟨q,hq,rfl⟩:=zan.1 hp
    exact hts.lo q hq
   ·simpa [zbw,Function.comp_def] using hnd
   ·rw[<- hof]
    simp[mvM,Function.comp_def]
 ·have hM:mvMN x M n=n:=by unfold mvMN;rw[hb];rfl
  rw[hM]at qr qn
  ((have hd:=tv;repeat' first|(first|apply Zad|apply Zac|apply Zab)<;>intro hd<;>try simp only[hd]|simp(disch:=first|assumption|omega|simp only[nx]<;>omega|fail)only[hd,qr,qn,Zro,↓YA,YY,sevalprocAttr,hb,g7,g6,hle,htk,hZl,hdz])<;>try revert hd;refine ttr ?_)
  exact Zsm (base:=H.next+3) ((hts.keep fun _ _=>rfl:ZrP (H.next+3) ts (G2.bump k1)).keep fun p hp=>by have:=hts.lo p hp;rw[Zaa.Zah (by omega)]) (by omega) ((hxG.bump).set (by omega)) (by rw[hof])
end Go.Proofs.YtaapiigfmdhobaaGreat
