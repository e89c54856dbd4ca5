/- Texts of the walk. -/
import Derived.Test.YtaapiigfmdhobaaGreatMi
import Derived.Test.YtaapiigfmdhobaaGreatMk
import Derived.Test.YtaapiigfmdhobaaGreatMp
import Derived.Test.YtaapiigfmdhobaaGreatMo
namespace Go.Proofs.YtaapiigfmdhobaaGreat
set_option linter.defProp false
set_option linter.unusedSimpArgs false
set_option linter.unusedVariables false
open Go.RowKit
def Down (x:Shp) (l:List Nod):Prop:=∀i:Nat,i<l.length->lastB x (Zdw l i).dim=false->∀c∈each (Zdw l i),0<=c.child/\c.child<i
theorem Zm8 {l:List Nod} {k:Nat} (h:k<l.length):Zdw l (k:Int)=l[k]:=by
 unfold Zdw
 simp[h]
structure ArW (x:Shp) (l:List Nod):Prop where
 may:ZbS x=true
 len:l.length<=100000
 small:∀n∈l,Zdb n
 down:Down x l
theorem ArW.bounds {x:Shp} {l:List Nod} (h:ArW x l):1<=x.sizes.length/\x.sizes.length<=16/\∀s∈x.sizes,s.length<=4:=by
 obtain⟨b1,b2,b3,b4,b5⟩:=Zby h.may
 exact⟨b1,b2,fun s hs=>(ZcP (b5 s hs)).2.1⟩
theorem ArW.child {x:Shp} {l:List Nod} (h:ArW x l):∀n∈l,lastB x n.dim=false->∀c∈each n,0<=c.child/\c.child<l.length:=by
 intro n hn hl c hc
 obtain⟨i,hi,rfl⟩:=zay hn
 have:=h.down i hi
 rw[Zm8 hi]at this
 have:=this hl c hc
 omega
theorem Znm {H:Zaa} {id:Nat} {x:Shp} {l:List Nod} (ha:ArA H id x l) (hw:ArW x l):Zay Tryz.prog 19 [.ptr id 0] H (Pure H (.b (Zlb x l))):=by
 obtain⟨b1,b2,b3⟩:=hw.bounds
 exact ZpM ha b1 (by omega) (by have:=hw.len;omega) hw.small hw.child
theorem ArA.eAr {H:Zaa} {id:Nat} {x:Shp} {l:List Nod} (h:ArA H id x l):∃tok nodes most,H.get id=some (.cells (eAr x tok nodes most) 117):=by
 obtain⟨tok,nt,most,h⟩:=h
 exact⟨_,_,_,h⟩
structure Wlk (x:Shp) (l:List Nod):Prop where
 w:ArW x l
 ne:∀n∈l,n.lists≠[]
 ne2:∀n∈l,∀c∈n.lists,c≠[]
 dm:∀i:Nat,i<l.length->0<=(Zdw l i).dim/\(Zdw l i).dim<x.sizes.length
 dim:∀i:Nat,i<l.length->lastB x (Zdw l i).dim=false->∀c∈each (Zdw l i),(Zdw l c.child).dim=(Zdw l i).dim+1
theorem Zqv (t:Tok) (rows:List (List AV)):Wkn (.sl t rows) (.sl .no rows):=Zfm t rows
theorem bfd (b:Bool):b=false\/b=true:=by cases b<;>simp
def nodZ:Nod:=⟨0,[],⟨0,0,⟨0,0,0,0,0,0,0,0,0,0⟩⟩⟩
def Zm3 (l:List Nod) (i:Int):Nod:=if i = -1 then nodZ else Zdw l i
theorem ZoO {H:Zaa} {id:Nat} {x:Shp} {l:List Nod} (ha:ArA H id x l) (hw:ArW x l) (i:Int):Zay Tryz.prog 114 [.ptr id 0,.i i] H (fun r H'=>Zaa.Ext H H'/\∃t,r=.agg (ZbD t (Zm3 l i))):=by
 obtain⟨p1,p2,p3⟩:=hw.bounds
 refine Zak hE cf114 (zab rfl) fun Q qr qn=>?_
 by_cases c:i = -1
 ·have d1:(i == -1)=true:=by simpa using c
  have hG:Zm3 l i=nodZ:=by unfold Zm3;rw[if_pos c]
  rw[hG]at qr qn
  have hZ:=d1;refine Bz1 ?_
  exact Zaq ⟨by exact AXT,.full,rfl⟩
 ·have d1:(i == -1)=false:=by simpa using c
  have hG:Zm3 l i=Zdw l i:=by unfold Zm3;rw[if_neg c]
  rw[hG]at qr qn
  have hZ:=d1;refine Bz1 ?_
  refine Zap.use (ZfD i (ha.ext (by exact AXT)) p1 hw.small) ?_
  rintro r G1 ⟨hx1,t1,rfl⟩
  have e14:(ZbD t1 (Zdw l i)).length=14:=rfl
  have e15:(ZbD t1 (Zdw l i)).take 14=ZbD t1 (Zdw l i):=rfl
  have g4:=hx1.get _ _ (Zaa.Zae (H:=H) (o:=.cells [.i 0,.sl .full [],.i 0,.i 0,.i 0,.i 0,.i 0,.i 0,.i 0,.i 0,.i 0,.i 0,.i 0,.i 0] 115))
  have l4:=Zaa.lt g4
  have hx0:Zaa.Ext H G1:=((Zaa.Ext.refl H).alloc).trans hx1
  have hZ:=an7 e14<|an7 e15<|g4;refine Bz1 ?_
  exact Zaq ⟨by exact AXT,t1,rfl⟩
def Znp (c:Cel) (b:Bool):List AV:=ZbE c++[.b b]
def Zoc (c:Cel) (b:Bool):Int:=if b=true then c.child else -1
theorem ZoN (c:Cel) (b:Bool) (H:Zaa):Zay Tryz.prog 147 [.agg (Znp c b)] H (Pure H (.i (Zoc c b))):=by
 have e0:(Znp c b)[12]?=some (.b b):=rfl
 have e1:(Znp c b)[1]?=some (.i c.child):=rfl
 refine Zak hE cf147 (zab rfl) fun Q qr qn=>?_
 cases b with
 | false =>
  have hZ:=an7 e0<|e1;refine Bz1 ?_
  exact ZaW (by exact AXT) rfl
 | true =>
  have hZ:=an7 e0<|e1;refine Bz1 ?_
  exact ZaW (by exact AXT) rfl
theorem Zoi (t:Tok) (n:Nod) (k:Nat) (H:Zaa) (hn:n.lists.length<=1000000):Zay Tryz.prog 116 [.agg (ZbD t n),.i (k:Int)] H (Pure H (.sl .no (rC (n.lists.getD k [])))):=by
 refine Zak hE cf116 (zab rfl) fun Q qr qn=>?_
 by_cases c:k<n.lists.length
 ·have d1:decide ((k:Int)<(n.lists.length:Int))=true:=by simp;omega
  have hg:n.lists.getD k []=n.lists[k]:=by rw[zah,zaa c];rfl
  rw[hg]at qr qn
  have hZ:=an7 d1<|c;refine Bz3 ?_
  exact ZaW (by exact AXT) rfl
 ·have d1:decide ((k:Int)<(n.lists.length:Int))=false:=by simp;omega
  have hg:n.lists.getD k []=[]:=by rw[zah,za2 (by omega)];rfl
  rw[hg]at qr qn
  have hZ:=d1;refine Bz3 ?_
  exact ZaW (by exact AXT) rfl
theorem Zpz (t u:Tok) (x y:Shp) (H:Zaa) (hx:x.sizes.length<=1000000) (hs:∀s∈x.sizes,s.length<=1000000):Zay Tryz.prog 73 [.agg [.sl t (rII x.sizes),.i x.measures],.agg [.sl u (rII y.sizes),.i y.measures]] H (Pure H (.b (decide (x=y)))):=by
 rw[shp_eq]
 refine Zak hE cf73 (zab rfl) fun Q qr qn=>?_
 by_cases c:x.measures=y.measures
 ·have d1:(x.measures == y.measures)=true:=by simpa using c
  have d2:decide (x.measures=y.measures)=true:=by simpa using c
  rw[d2,zaY]at qr qn
  have hZ:=d1;refine Bz1 ?_
  refine qcp (Zso (e:=fun a b=>decide (a=b)) t u x.sizes y.sizes _ hx (fun a ha b G=>by have:=Zqi .no .no a b G (hs a ha);rw[Zhz]at this;exact this)) fun k1=>?_
  rw[Zhz]
  refine Bz0 ?_
  exact ZaW (by exact AXT) rfl
 ·have d1:(x.measures == y.measures)=false:=by simpa using c
  have d2:decide (x.measures=y.measures)=false:=by simpa using c
  rw[d2,zcm]at qr qn
  have hZ:=d1;refine Bz1 ?_
  exact ZaW (by exact AXT) rfl
def ofC (l:List Cel) (key:Int):Cel:=(l.find? fun c=>c.key == key).getD ⟨0,-1,⟨0,0,0,0,0,0,0,0,0,0⟩⟩
structure MSt where
 N:List Nod
 P:List (Int×Int)
 e:Int
structure MOk (a b:List Nod) (most:Int) (s:MSt):Prop where
 len:s.P.length=s.N.length
 few:(s.N.length:Int)<=most
 small:∀n∈s.N,Zdb n
 dim:∀(j:Nat) n p,s.N[j]?=some n->s.P[j]?=some p->n.dim=max (Zm3 a p.1).dim (Zm3 b p.2).dim
def noC:Cel:=⟨0,-1,⟨0,0,0,0,0,0,0,0,0,0⟩⟩
def Zm2:Nat->List Cel->List Cel->List (Int×Cel×Cel)
 | 0,_,_=>[]
 | _+1,[],[]=>[]
 | n+1,p :: xs,[]=>(p.key,p,noC) :: Zm2 n xs []
 | n+1,[],q :: ys=>(q.key,noC,q) :: Zm2 n [] ys
 | n+1,p :: xs,q :: ys=>if p.key<q.key then (p.key,p,noC) :: Zm2 n xs (q :: ys) else if q.key<p.key then (q.key,noC,q) :: Zm2 n (p :: xs) ys else (p.key,p,q) :: Zm2 n xs ys
section
variable (x:Shp) (f:MSt->Int×Int->MSt×Int)
def Znj (d:Int) (s:MSt) (key:Int) (p q:Cel):MSt×Cel :=
 if s.e≠0 then (s,ZcE) else
 if lastB x d=true then
  match Zdl p.agg q.agg with
  | some g=>(s,⟨key,0,g⟩)
  | none=>(⟨s.N,s.P,12⟩,ZcE)
 else ((f s (p.child,q.child)).1,⟨key,(f s (p.child,q.child)).2,⟨0,0,0,0,0,0,0,0,0,0⟩⟩)
def Zm9 (d:Int):MSt->List (Int×Cel×Cel)->MSt×List Cel
 | s,[]=>(s,[])
 | s,(key,p,q) :: r=>((Zm9 d (Znj x f d s key p q).1 r).1,(Znj x f d s key p q).2 :: (Zm9 d (Znj x f d s key p q).1 r).2)
def Zm4 (d:Int):MSt->List (List (Int×Cel×Cel))->MSt×List (List Cel)
 | s,[]=>(s,[])
 | s,t :: r=>((Zm4 d (Zm9 x f d s t).1 r).1,(Zm9 x f d s t).2 :: (Zm4 d (Zm9 x f d s t).1 r).2)
end
def Zm7 (X Y:Nod) (T:Nat):List (List (Int×Cel×Cel)):=(List.range T).map fun t=>Zm2 ((X.lists.getD t []).length+(Y.lists.getD t []).length) (X.lists.getD t []) (Y.lists.getD t [])
def ZnV (n:Nod) (i:Int):Cel:=if i = -1 then noC else n.all
def Zoy (x:Shp) (a b:List Nod) (most:Int):Nat->MSt->Int×Int->MSt×Int
 | 0,s,_=>(s,0)
 | n+1,s,p=>match s.P.findIdx? (· == p)with
  | some j=>(s,(j:Int))
  | none=>if s.e≠0 then (s,0) else
   let X:=Zm3 a p.1
   let Y:=Zm3 b p.2
   let d:=max X.dim Y.dim
   let r:=Zm4 x (Zoy x a b most n) d s (Zm7 X Y (max X.lists.length Y.lists.length))
   let t:=Znj x (Zoy x a b most n) d r.1 0 (ZnV X p.1) (ZnV Y p.2)
   if t.1.e≠0 then (t.1,0) else
   if ZbF x most t.1.N ⟨d,r.2,t.2⟩≠0 then (⟨t.1.N,t.1.P,ZbF x most t.1.N ⟨d,r.2,t.2⟩⟩,0) else
   (⟨t.1.N++[⟨d,r.2,t.2⟩],t.1.P++[p],0⟩,(t.1.N.length:Int))
theorem ZpO {x:Shp} {f:MSt->Int×Int->MSt×Int} {d:Int} {s:MSt} {key:Int} {p q:Cel} (h:s.e≠0):Znj x f d s key p q=(s,ZcE):=by
 unfold Znj;rw[if_pos h]
theorem Znd {x:Shp} {f:MSt->Int×Int->MSt×Int} {d:Int}:∀{r:List (Int×Cel×Cel)} {s:MSt},s.e≠0->(Zm9 x f d s r).1=s
 | [],_,_=>rfl
 | (key,p,q) :: r,s,h=>by
  unfold Zm9
  rw[ZpO h]
  exact Znd h
theorem ZoL {x:Shp} {f:MSt->Int×Int->MSt×Int} {d:Int}:∀{r:List (List (Int×Cel×Cel))} {s:MSt},s.e≠0->(Zm4 x f d s r).1=s
 | [],_,_=>rfl
 | t :: r,s,h=>by
  unfold Zm4
  have:=Znd (x:=x) (f:=f) (d:=d) (r:=t) h
  simp only[this]
  exact ZoL h
def Zol (hi:Int):Int->List Cel->Prop
 | _,[]=>True
 | lo,c :: r=>lo<=c.key/\c.key<hi/\0<=c.child/\Zol hi (c.key+1) r
theorem Zol.up {hi lo:Int} {c:Cel} {r:List Cel} (h:Zol hi lo (c :: r)) (hl:lo<c.key):Zol hi (lo+1) (c :: r):=⟨by omega,h.2⟩
theorem ofC_lt {hi:Int}:∀{l:List Cel} {lo key:Int},Zol hi lo l->key<lo->ofC l key=noC
 | [],_,_,_,_=>rfl
 | c :: r,lo,key,h,hk=>by
  have h1:=h.1
  have hne:(c.key == key)=false:=by rw[beq_eq_false_iff_ne];omega
  have:=ofC_lt (l:=r) (key:=key) h.2.2.2 (by omega)
  unfold ofC at this ⊢
  rw[List.find?_cons,hne]
  exact this
theorem Zps {c:Cel} {r:List Cel}:ofC (c :: r) c.key=c:=by unfold ofC;simp
theorem ofC_tl {c:Cel} {r:List Cel} {key:Int} (h:c.key<key):ofC (c :: r) key=ofC r key:=by
 have hne:(c.key == key)=false:=by rw[beq_eq_false_iff_ne];omega
 unfold ofC
 rw[List.find?_cons,hne]
def ZnO (g h:Int->Cel):Nat->Int->List (Int×Cel×Cel)
 | 0,_=>[]
 | n+1,k=>if 0<=(g k).child\/0<=(h k).child then (k,g k,h k) :: ZnO g h n (k+1) else ZnO g h n (k+1)
theorem Znb {g h g' h':Int->Cel}:∀{n:Nat} {k:Int},(∀j,k<=j->g j=g' j/\h j=h' j)->ZnO g h n k=ZnO g' h' n k
 | 0,_,_=>rfl
 | n+1,k,e=>by
  obtain⟨e1,e2⟩:=e k (zcd _)
  simp only[ZnO,e1,e2,Znb (n:=n) (k:=k+1) fun j hj=>e j (by omega)]
theorem Zn1:¬0<=noC.child:=by decide
theorem ZqO:∀n:Nat,Zm2 n [] []=[]
 | 0=>rfl
 | _+1=>rfl
theorem ZpS:∀(cnt:Nat) (lo:Int) (xs ys:List Cel) (n:Nat),Zol (lo+cnt) lo xs->Zol (lo+cnt) lo ys->xs.length+ys.length<=n->ZnO (ofC xs) (ofC ys) cnt lo=Zm2 n xs ys
 | 0,lo,xs,ys,n,hx,hy,hn=>by
  have e:∀l,Zol (lo+(0:Nat)) lo l->l=[]:=fun l h=>by
   cases l with
   | nil=>rfl
   | cons c r=>have:=h.1;have:=h.2.1;omega
  rw[e xs hx,e ys hy,ZqO];rfl
 | cnt+1,lo,xs,ys,n,hx,hy,hn=>by
  have hhi:lo+((cnt+1:Nat):Int)=lo+1+(cnt:Int):=by omega
  rw[hhi]at hx hy
  have ih:=ZpS cnt (lo+1)
  have lowN:∀l,Zol (lo+1+cnt) (lo+1) l->ofC l lo=noC:=fun l h=>ofC_lt h (by omega)
  have tl:∀(c:Cel) (r:List Cel),c.key=lo->∀j,lo+1<=j->ofC (c :: r) j=ofC r j:=fun c r e j hj=>ofC_tl (by omega)
  unfold ZnO
  match xs,ys with
  | [],[] =>
   rw[if_neg (by simp[ofC,Zn1,show(⟨0,-1,⟨0,0,0,0,0,0,0,0,0,0⟩⟩:Cel)=noC from rfl]),ih [] [] n trivial trivial hn]
  | p :: xs,[] =>
   obtain⟨n,rfl⟩:∃m,n=m+1:=⟨n - 1,by simp at hn;omega⟩
   by_cases e:p.key=lo
   ·have h1:ofC (p :: xs) lo=p:=by rw[<- e];exact Zps
    rw[if_pos (.inl (by rw[h1];exact hx.2.2.1)),h1,Znb fun j hj=>⟨tl p xs e j hj,rfl⟩,ih xs [] n (by have:=hx.2.2.2;rw[e]at this;exact this) trivial (by simp at hn ⊢;omega)]
    simp only[Zm2,e]
    rfl
   ·have h1:=hx.up (by have:=hx.1;omega)
    rw[if_neg (by rw[lowN _ h1,lowN [] trivial];simp[Zn1]),ih (p :: xs) [] (n+1) h1 trivial hn]
  | [],q :: ys =>
   obtain⟨n,rfl⟩:∃m,n=m+1:=⟨n - 1,by simp at hn;omega⟩
   by_cases e:q.key=lo
   ·have h1:ofC (q :: ys) lo=q:=by rw[<- e];exact Zps
    rw[if_pos (.inr (by rw[h1];exact hy.2.2.1)),h1,Znb fun j hj=>⟨rfl,tl q ys e j hj⟩,ih [] ys n trivial (by have:=hy.2.2.2;rw[e]at this;exact this) (by simp at hn ⊢;omega)]
    simp only[Zm2,e]
    rfl
   ·have h1:=hy.up (by have:=hy.1;omega)
    rw[if_neg (by rw[lowN _ h1,lowN [] trivial];simp[Zn1]),ih [] (q :: ys) (n+1) trivial h1 hn]
  | p :: xs,q :: ys =>
   obtain⟨n,rfl⟩:∃m,n=m+1:=⟨n - 1,by simp at hn;omega⟩
   by_cases e:p.key=lo
   ·have h1:ofC (p :: xs) lo=p:=by rw[<- e];exact Zps
    have hx':Zol (lo+1+cnt) (lo+1) xs:=by have:=hx.2.2.2;rw[e]at this;exact this
    by_cases e2:q.key=lo
    ·have h2:ofC (q :: ys) lo=q:=by rw[<- e2];exact Zps
     have hy':Zol (lo+1+cnt) (lo+1) ys:=by have:=hy.2.2.2;rw[e2]at this;exact this
     rw[if_pos (.inl (by rw[h1];exact hx.2.2.1)),h1,h2,Znb fun j hj=>⟨tl p xs e j hj,tl q ys e2 j hj⟩,ih xs ys n hx' hy' (by simp at hn ⊢;omega)]
     simp only[Zm2]
     rw[if_neg (by omega),if_neg (by omega),e]
    ·have h2:=hy.up (by have:=hy.1;omega)
     have hq:=hy.1
     rw[if_pos (.inl (by rw[h1];exact hx.2.2.1)),h1,lowN _ h2,Znb fun j hj=>⟨tl p xs e j hj,rfl⟩,ih xs (q :: ys) n hx' h2 (by simp at hn ⊢;omega)]
     simp only[Zm2]
     rw[if_pos (by omega),e]
   ·have h1:=hx.up (by have:=hx.1;omega)
    have hp:=hx.1
    by_cases e2:q.key=lo
    ·have h2:ofC (q :: ys) lo=q:=by rw[<- e2];exact Zps
     have hy':Zol (lo+1+cnt) (lo+1) ys:=by have:=hy.2.2.2;rw[e2]at this;exact this
     rw[if_pos (.inr (by rw[h2];exact hy.2.2.1)),h2,lowN _ h1,Znb fun j hj=>⟨rfl,tl q ys e2 j hj⟩,ih (p :: xs) ys n h1 hy' (by simp at hn ⊢;omega)]
     simp only[Zm2]
     rw[if_neg (by omega),if_pos (by omega),e2]
    ·have h2:=hy.up (by have:=hy.1;omega)
     rw[if_neg (by rw[lowN _ h1,lowN _ h2];simp[Zn1]),ih (p :: xs) (q :: ys) (n+1) h1 h2 hn]
structure Mrg (base mg aid bid oid tk mid:Nat) (x:Shp) (tok:Tok) (a b:List Nod) (most:Int) (s:MSt) (G:Zaa):Prop where
 o:G.get mg=some (.cells [.ptr aid 0,.ptr bid 0,.ptr oid 0,.mp mid,.i s.e] 138)
 aa:ArA G aid x a
 ab:ArA G bid x b
 out:ArO G oid tk x tok s.N most
 mp:∃M,G.get mid=some (.map (.row [.int .i64,.int .i64]) (Zgf k2 AV.i M) false)/\∀p,Zcz p M=(s.P.findIdx? (· == p)).map fun j:Nat=>(j:Int)
 l1:aid<base
 l2:bid<base
 l3:base<=mg
 l4:base<=oid
 l5:base<=tk
 l6:base<=mid
 ok:MOk a b most s
section
variable {base mg aid bid oid tk mid:Nat} {x:Shp} {tok:Tok} {a b:List Nod} {most:Int} {s:MSt} {G G':Zaa}
theorem Mrg.ext (h:Mrg base mg aid bid oid tk mid x tok a b most s G) (hx:Zaa.Ext G G'):Mrg base mg aid bid oid tk mid x tok a b most s G':=by
 obtain⟨M,hM,hq⟩:=h.mp
 exact⟨hx.get _ _ h.o,h.aa.ext hx,h.ab.ext hx,⟨h.out.ne,hx.get _ _ h.out.cell,hx.get _ _ h.out.row⟩,⟨M,hx.get _ _ hM,hq⟩,h.l1,h.l2,h.l3,h.l4,h.l5,h.l6,h.ok⟩
theorem Mrg.err (h:Mrg base mg aid bid oid tk mid x tok a b most s G) (e:Int):Mrg base mg aid bid oid tk mid x tok a b most ⟨s.N,s.P,e⟩ (G.set mg (.cells [.ptr aid 0,.ptr bid 0,.ptr oid 0,.mp mid,.i e] 138)):=by
 obtain⟨M,hM,hq⟩:=h.mp
 have hl:=Zaa.lt h.o
 have n1:oid≠mg:=fun e=>by have:=h.out.cell;rw[e,h.o]at this;simp[Zk5]at this
 have n2:tk≠mg:=fun e=>by have:=h.out.row;rw[e,h.o]at this;cases this
 have n3:mid≠mg:=fun e=>by rw[e,h.o]at hM;cases hM
 have l1:=h.l1
 have l2:=h.l2
 have l3:=h.l3
 refine⟨Zaa.Zal hl,?_,?_,⟨h.out.ne,by rw[Zaa.Zah n1];exact h.out.cell,by rw[Zaa.Zah n2];exact h.out.row⟩,⟨M,by rw[Zaa.Zah n3];exact hM,hq⟩,h.l1,h.l2,h.l3,h.l4,h.l5,h.l6,⟨h.ok.len,h.ok.few,h.ok.small,h.ok.dim⟩⟩
 ·obtain⟨t,nt,m,e⟩:=h.aa
  exact⟨t,nt,m,by rw[Zaa.Zah (by omega)];exact e⟩
 ·obtain⟨t,nt,m,e⟩:=h.ab
  exact⟨t,nt,m,by rw[Zaa.Zah (by omega)];exact e⟩
theorem Mrg.set {H:Zaa} {s':MSt} {id:Nat} {o:Zb3} (hM:Mrg base mg aid bid oid tk mid x tok a b most s' H) (hM2:Mrg base mg aid bid oid tk mid x tok a b most s G) (hi:H.next<=id):Mrg base mg aid bid oid tk mid x tok a b most s (G.set id o):=by
 obtain⟨Mp,hMp,_⟩:=hM.mp
 have q1:=Zaa.lt hM.o
 have q2:=Zaa.lt hM.out.cell
 have q3:=Zaa.lt hM.out.row
 have q4:=Zaa.lt hMp
 obtain⟨M2,hM3,hq⟩:=hM2.mp
 have l1:=hM.l1
 have l2:=hM.l2
 have l3:=hM.l3
 refine⟨by rw[Zaa.Zah (by omega)];exact hM2.o,?_,?_,⟨hM2.out.ne,by rw[Zaa.Zah (by omega)];exact hM2.out.cell,by rw[Zaa.Zah (by omega)];exact hM2.out.row⟩,⟨M2,by rw[Zaa.Zah (by omega)];exact hM3,hq⟩,hM.l1,hM.l2,hM.l3,hM.l4,hM.l5,hM.l6,hM2.ok⟩
 ·obtain⟨t,nt,m,e⟩:=hM2.aa
  exact⟨t,nt,m,by rw[Zaa.Zah (by omega)];exact e⟩
 ·obtain⟨t,nt,m,e⟩:=hM2.ab
  exact⟨t,nt,m,by rw[Zaa.Zah (by omega)];exact e⟩
end
def Zm6 (c:Cel) (b:Bool):Cel:=if b=true then c else noC
theorem Zoj (c:Cel) (b:Bool):(Zm6 c b).child=Zoc c b:=by cases b<;>rfl
def Zqa (base mg aid bid oid tk mid:Nat) (x:Shp) (tok:Tok) (a b:List Nod) (most:Int) (f:MSt->Int×Int->MSt×Int) (s:MSt) (p:Int×Int):Prop :=
 ∀G,Mrg base mg aid bid oid tk mid x tok a b most s G->Zay Tryz.prog 74 [.ptr mg 0,.agg [.i p.1,.i p.2]] G (fun r G'=>ZcD [mg,oid,tk,mid] G G'/\Mrg base mg aid bid oid tk mid x tok a b most (f s p).1 G'/\∃v,r=.i v/\((f s p).1.e=0->v=(f s p).2))
set_option maxHeartbeats 4000000 in
theorem Zos {base mg aid bid oid tk mid:Nat} {x:Shp} {tok:Tok} {a b:List Nod} {most:Int} {s:MSt} {H:Zaa} {f:MSt->Int×Int->MSt×Int} {d key:Int} {c1 c2:Cel} {b1 b2:Bool}
  (hM:Mrg base mg aid bid oid tk mid x tok a b most s H) (he:s.e=0) (hf:lastB x d=false->Zqa base mg aid bid oid tk mid x tok a b most f s (Zoc c1 b1,Zoc c2 b2)) (i1:Zho c1.agg) (i2:Zho c2.agg) (z1:b1=false->c1.agg=noC.agg) (z2:b2=false->c2.agg=noC.agg) :
  Zay Tryz.prog 117 [.ptr mg 0,.b (lastB x d),.i key,.agg (Znp c1 b1),.agg (Znp c2 b2)] H (fun r H'=>ZcD [mg,oid,tk,mid] H H'/\Mrg base mg aid bid oid tk mid x tok a b most (Znj x f d s key (Zm6 c1 b1) (Zm6 c2 b2)).1 H'/\∃c,r=.agg (ZbE c)/\((Znj x f d s key (Zm6 c1 b1) (Zm6 c2 b2)).1.e=0->c=(Znj x f d s key (Zm6 c1 b1) (Zm6 c2 b2)).2)):=by
 have hb:=bfd (lastB x d)
 have e13:∀c b,(Znp c b).length=13:=fun _ _=>rfl
 have et:∀c b,(Znp c b).take 13=Znp c b:=fun _ _=>rfl
 have ea:∀c b,((Znp c b).drop 2).take 10=eAg c.agg:=fun _ _=>rfl
 refine Zak hE cf117 (zab rfl) fun Q qr qn=>?_
 rcases hb with hb|hb
 ·have hc:Znj x f d s key (Zm6 c1 b1) (Zm6 c2 b2)=((f s (Zoc c1 b1,Zoc c2 b2)).1,⟨key,(f s (Zoc c1 b1,Zoc c2 b2)).2,⟨0,0,0,0,0,0,0,0,0,0⟩⟩):=by
   unfold Znj
   rw[if_neg (by simp[he]),hb,if_neg (by simp),Zoj,Zoj]
  rw[hc]at qr qn
  have hZ:=an7 hb<|an7 e13<|et;refine Bz1 ?_
  refine qcp (ZoN c1 b1 _) fun k1=>?_
  have hZ:=an7 hb<|an7 e13<|et;refine Bz1 ?_
  refine qcp (ZoN c2 b2 _) fun k2=>?_
  have hZ:=an7 hb<|an7 e13<|et;refine Bz1 ?_
  have hx1:Zaa.Ext H (((((H.alloc (.cells (Znp c1 b1) 198)).alloc (.cells (Znp c2 b2) 198)).alloc (.cells [.i 0,.i 0,.i 0,.i 0,.i 0,.i 0,.i 0,.i 0,.i 0,.i 0,.i 0,.i 0] 113)).bump k1).bump k2):=by exact AXT
  have h10:(((((H.alloc (.cells (Znp c1 b1) 198)).alloc (.cells (Znp c2 b2) 198)).alloc (.cells [.i 0,.i 0,.i 0,.i 0,.i 0,.i 0,.i 0,.i 0,.i 0,.i 0,.i 0,.i 0] 113)).bump k1).bump k2).get (H.next+1+1)=some (.cells [.i 0,.i 0,.i 0,.i 0,.i 0,.i 0,.i 0,.i 0,.i 0,.i 0,.i 0,.i 0] 113):=Zaa.Zae (H:=(H.alloc _).alloc _)
  obtain⟨Mp,hMp,_⟩:=hM.mp
  have q1:=Zaa.lt hM.o
  have q2:=Zaa.lt hM.out.cell
  have q3:=Zaa.lt hM.out.row
  have q4:=Zaa.lt hMp
  refine Zap.use (hf hb _ (hM.ext hx1)) ?_
  rintro r G2 ⟨hx2,hM2,v,rfl,hv⟩
  have h10:=hx2.get _ _ (by simp;omega) h10
  have l10:=Zaa.lt h10
  have hZ:=an7 hb<|h10;refine Bz1 ?_
  exact Zaq ⟨((ZcD.of hx1).trans hx2).set (.inr (by omega)),hM.set hM2 (by omega),⟨key,v,⟨0,0,0,0,0,0,0,0,0,0⟩⟩,rfl,fun h=>by rw[hv h]⟩
 ·have ho:∀(c:Cel) (b:Bool),(b=false->c.agg=noC.agg)->(Zm6 c b).agg=c.agg:=by
   intro c b h
   cases b
   ·exact(h rfl).symm
   ·rfl
  cases hj:Zdl c1.agg c2.agg with
  | some g =>
   have hc:Znj x f d s key (Zm6 c1 b1) (Zm6 c2 b2)=(s,⟨key,0,g⟩):=by
    unfold Znj
    rw[if_neg (by simp[he]),hb,if_pos rfl,ho _ _ z1,ho _ _ z2,hj]
   rw[hc]at qr qn
   have hA:∀G,Zay Tryz.prog 148 [.agg (eAg c1.agg),.agg (eAg c2.agg)] G (Pure G (.tup [.agg (eAg g),.b true])):=by
    intro G
    have:=ZfK c1.agg c2.agg G i1 i2
    rw[hj]at this
    exact this
   have hZ:=an7 hb<|an7 e13<|an7 et<|ea;refine Bz1 ?_
   refine qcp (hA _) fun k1=>?_
   have hZ:=an7 hb<|an7 e13<|an7 et<|ea;refine Bz1 ?_
   have hx1:Zaa.Ext H (((((H.alloc (.cells (Znp c1 b1) 198)).alloc (.cells (Znp c2 b2) 198)).alloc (.cells [.i 0,.i 0,.i 0,.i 0,.i 0,.i 0,.i 0,.i 0,.i 0,.i 0,.i 0,.i 0] 113)).bump k1).alloc (.cells (eAg g) 54)):=by exact AXT
   exact Zaq ⟨(ZcD.of hx1).set (.inr (by omega)),hM.set (hM.ext hx1) (by omega),⟨key,0,g⟩,rfl,fun _=>rfl⟩
  | none =>
   have hc:Znj x f d s key (Zm6 c1 b1) (Zm6 c2 b2)=(⟨s.N,s.P,12⟩,ZcE):=by
    unfold Znj
    rw[if_neg (by simp[he]),hb,if_pos rfl,ho _ _ z1,ho _ _ z2,hj]
   rw[hc]at qr qn
   have hA:∀G,Zay Tryz.prog 148 [.agg (eAg c1.agg),.agg (eAg c2.agg)] G (Pure G (.tup [.agg (eAg ag0),.b false])):=by
    intro G
    have:=ZfK c1.agg c2.agg G i1 i2
    rw[hj]at this
    exact this
   have hZ:=an7 hb<|an7 e13<|an7 et<|ea;refine Bz1 ?_
   refine qcp (hA _) fun k1=>?_
   have hx1:Zaa.Ext H (((((H.alloc (.cells (Znp c1 b1) 198)).alloc (.cells (Znp c2 b2) 198)).alloc (.cells [.i 0,.i 0,.i 0,.i 0,.i 0,.i 0,.i 0,.i 0,.i 0,.i 0,.i 0,.i 0] 113)).bump k1).alloc (.cells (eAg ag0) 54)):=by exact AXT
   have hM2:=hM.ext hx1
   have hg:=hM2.o
   have lg:=Zaa.lt hg
   have q1:=Zaa.lt hM.o
   have hs:∀o,((((((H.alloc (.cells (Znp c1 b1) 198)).alloc (.cells (Znp c2 b2) 198)).alloc (.cells [.i 0,.i 0,.i 0,.i 0,.i 0,.i 0,.i 0,.i 0,.i 0,.i 0,.i 0,.i 0] 113)).bump k1).alloc (.cells (eAg ag0) 54)).set mg o).get (H.next+1+1+1+k1)=some (.cells (eAg ag0) 54):=fun o=>by
    rw[Zaa.Zah (by omega)]
    exact Zaa.Zae (H:=((((H.alloc (.cells (Znp c1 b1) 198)).alloc (.cells (Znp c2 b2) 198)).alloc (.cells [.i 0,.i 0,.i 0,.i 0,.i 0,.i 0,.i 0,.i 0,.i 0,.i 0,.i 0,.i 0] 113)).bump k1))
   have e10:(eAg ag0).length=10:=rfl
   have t10:(eAg ag0).take 10=eAg ag0:=rfl
   have h0:=hM.o
   ((have hd:=tv;repeat' first|(first|apply Zad|apply Zac|apply Zab)<;>intro hd<;>try simp only[hd]|simp(disch:=first|assumption|omega|simp only[nx]<;>omega|fail)only[hd,qr,qn,ZnZ,↓YA,YY,↓reduceIte,Nat.reduceEqDiff,Nat.reduceAdd,Nat.reduceMul,Nat.reduceLeDiff,Int.reduceToNat,Int.reduceLE,Int.reduceLT,Int.reduceGT,Int.reduceGE,Int.reduceAdd,Int.reduceSub,Int.reduceNeg,Int.reduceBEq,Int.reduceBNe,Nat.reduceSub,hb,e13,et,ea,h0,hs,he,e10,t10])<;>try revert hd;refine ttr ?_)
   exact Zaq ⟨((ZcD.of hx1).set (.inl (by simp))).set (.inr (by omega)),hM.set (hM2.err 12) (by omega),⟨key,0,ag0⟩,rfl,fun h=>absurd h (by decide)⟩
theorem Znf:∀(n:Nat) (xs ys:List Cel),xs.length+ys.length<=n->Zm2 (n+1) xs ys=Zm2 n xs ys
 | 0,[],[],_=>rfl
 | _+1,[],[],_=>rfl
 | 0,p :: xs,_,h=>by simp at h
 | 0,[],q :: ys,h=>by simp at h
 | n+1,p :: xs,[],h=>by
  show _ :: Zm2 (n+1) xs []=_ :: Zm2 n xs []
  rw[Znf n xs [] (by simp at h ⊢;omega)]
 | n+1,[],q :: ys,h=>by
  show _ :: Zm2 (n+1) [] ys=_ :: Zm2 n [] ys
  rw[Znf n [] ys (by simp at h ⊢;omega)]
 | n+1,p :: xs,q :: ys,h=>by
  show(if p.key<q.key then _ :: Zm2 (n+1) xs (q :: ys) else if q.key<p.key then _ :: Zm2 (n+1) (p :: xs) ys else _ :: Zm2 (n+1) xs ys)=(if p.key<q.key then _ :: Zm2 n xs (q :: ys) else if q.key<p.key then _ :: Zm2 n (p :: xs) ys else _ :: Zm2 n xs ys)
  rw[Znf n xs (q :: ys) (by simp at h ⊢;omega),Znf n (p :: xs) ys (by simp at h ⊢;omega),Znf n xs ys (by simp at h ⊢;omega)]
set_option maxHeartbeats 4000000 in
theorem ZpG {base mg aid bid oid tk mid:Nat} {x:Shp} {tok t u:Tok} {a b:List Nod} {most:Int} {s:MSt} {H:Zaa} {f:MSt->Int×Int->MSt×Int} {d:Int} {X Y:List Cel}
  (hM:Mrg base mg aid bid oid tk mid x tok a b most s H) (hX:X.length<=1000000) (hY:Y.length<=1000000) (hin:∀c,c∈X\/c∈Y->Zho c.agg/\0<=c.key/\c.key<=9223372036854775807)
  (hf:lastB x d=false->∀s c1 c2,s.e=0->(c1∈X/\c2∈Y)\/(c1∈X/\c2=noC)\/(c1=noC/\c2∈Y)->Zqa base mg aid bid oid tk mid x tok a b most f s (c1.child,c2.child)) :
  Zay Tryz.prog 115 [.ptr mg 0,.b (lastB x d),.sl t (rC X),.sl u (rC Y)] H (fun r H'=>ZcD [mg,oid,tk,mid] H H'/\Mrg base mg aid bid oid tk mid x tok a b most (Zm9 x f d s (Zm2 (X.length+Y.length) X Y)).1 H'/\∃l to,r=.sl to (rC l)/\((Zm9 x f d s (Zm2 (X.length+Y.length) X Y)).1.e=0->l=(Zm9 x f d s (Zm2 (X.length+Y.length) X Y)).2)):=by
 refine Zak hE cf115 (zab rfl) fun Q qr qn=>?_
 generalize hbl:lastB x d=bl at qr qn
 have hZ:=hbl;refine Bz1 ?_
 unfold c115_1
 rw[Za8]
 obtain⟨Mp,hMp,_⟩:=hM.mp
 have q1:=Zaa.lt hM.o
 have q2:=Zaa.lt hM.out.cell
 have q3:=Zaa.lt hM.out.row
 have q4:=Zaa.lt hMp
 have hx0:Zaa.Ext H (H.alloc (.tok 0 113 12)):=by exact AXT
 refine Zg1 (fun n F G=>∃s' xs ys out t1 u1,Mrg base mg aid bid oid tk mid x tok a b most s' G/\ZcD [mg,oid,tk,mid] H G/\G.get H.next=some (.tok out.length 113 12)/\out.length+n<=2000000/\(∀c∈xs,c∈X)/\(∀c∈ys,c∈Y)/\n=xs.length+ys.length/\(Zm9 x f d s (Zm2 (X.length+Y.length) X Y)).1=(Zm9 x f d s' (Zm2 n xs ys)).1/\((Zm9 x f d s (Zm2 (X.length+Y.length) X Y)).1.e=0->(Zm9 x f d s (Zm2 (X.length+Y.length) X Y)).2=out++(Zm9 x f d s' (Zm2 n xs ys)).2)/\Fr.get F 0=.ptr mg 0/\Fr.get F 1=.b bl/\Fr.get F 2=.sl t1 (rC xs)/\Fr.get F 3=.sl u1 (rC ys)/\Fr.get F 9=.sl (.own H.next) (rC out)) (X.length+Y.length) (GStep.tok 9 113 12 rfl) ⟨s,X,Y,[],t,u,hM.ext hx0,.of hx0,Zaa.Zae,by simp only[List.length_nil];omega,fun _ h=>h,fun _ h=>h,rfl,rfl,fun _=>rfl,rfl,rfl,rfl,rfl,rfl⟩ ?_
 rintro n F G ⟨s',xs,ys,out,t1,u1,hM',hx',ht,hlen,hxs,hys,rfl,hq1,hq2,f0,f1,f2,f3,f9⟩
 have h0:=hM'.o
 have hC:∀(c1 c2:Cel) (b1 b2:Bool) (key:Int) G1,s'.e=0->Mrg base mg aid bid oid tk mid x tok a b most s' G1->(lastB x d=false->Zqa base mg aid bid oid tk mid x tok a b most f s' (Zoc c1 b1,Zoc c2 b2))->Zho c1.agg->Zho c2.agg->(b1=false->c1.agg=noC.agg)->(b2=false->c2.agg=noC.agg)->Zay Tryz.prog 117 [.ptr mg 0,.b bl,.i key,.agg (ZbE c1++[.b b1]),.agg (ZbE c2++[.b b2])] G1 (fun r H'=>ZcD [mg,oid,tk,mid] G1 H'/\Mrg base mg aid bid oid tk mid x tok a b most (Znj x f d s' key (Zm6 c1 b1) (Zm6 c2 b2)).1 H'/\∃c,r=.agg (ZbE c)/\((Znj x f d s' key (Zm6 c1 b1) (Zm6 c2 b2)).1.e=0->c=(Znj x f d s' key (Zm6 c1 b1) (Zm6 c2 b2)).2)):=by
  intro c1 c2 b1 b2 key G1 he h1 h2 h3 h4 h5 h6
  have:=Zos (key:=key) h1 he h2 h3 h4 h5 h6
  rw[hbl]at this
  exact this
 have l0:=Zaa.lt h0
 have lt:=Zaa.lt ht
 have z0:(((0:Nat):Int) == 0)=true:=rfl
 have g0:decide (((0:Nat):Int) > 0)=false:=rfl
 have z1:∀n:Nat,(((n+1:Nat):Int) == 0)=false:=fun n=>by simp;omega
 have w0:decide (IntKind.i64.wrap (((0:Nat):Int)+((0:Nat):Int)) > 0)=false:=by decide
 have e1:∀c,(ZbE c++[AV.sc (Value.bool false)]).length=13:=fun _=>rfl
 have e2:∀c,(ZbE c++[AV.sc (Value.bool false)]).take 12=ZbE c:=fun _=>rfl
 have e3:∀c,(ZbE c++[AV.sc (Value.bool false)]).drop 13=[]:=fun _=>rfl
 have e4:∀c,(ZbE c++[AV.sc (Value.bool true)]).length=13:=fun _=>rfl
 have e5:∀c,(ZbE c++[AV.sc (Value.bool true)]).take 13=ZbE c++[AV.sc (Value.bool true)]:=fun _=>rfl
 have e6:∀c,(ZbE c++[AV.sc (Value.bool true)])[0]?=some (.i c.key):=fun _=>rfl
 by_cases he:s'.e=0
 ·cases xs with
  | nil =>
   cases ys with
   | nil =>
    have w00:decide (((0:Nat):Int)+((0:Nat):Int) > 0)=false:=rfl
    have hZ:=an7 f0<|an7 f1<|an7 f2<|an7 f3<|an7 f9<|an7 h0<|an7 he<|an7 w0<|w00;refine Bz5 ?_
    exact Zaq ⟨hx',by rw[hq1];exact hM',out,_,rfl,fun h=>by rw[hq2 h];simp[Zm2,Zm9]⟩
   | cons p ys =>
    have w1:decide (IntKind.i64.wrap (((0:Nat):Int)+((ys.length+1:Nat):Int)) > 0)=true:=by
     simp only[List.length_cons,List.length_nil]at hlen
     rw[Zaw (by omega) (by omega)];simp
    have la:ZaE 12 (ZbE p :: ys.map ZbE)=true:=ZaU (f:=ZbE) (fun _=>rfl) (p :: ys)
    have tk1:((ZbE p :: ys.map ZbE).take (ys.length+1)).drop 1=ys.map ZbE:=by
     rw[zaG (by simp)];rfl
    have n01:(1:Nat)<=ys.length+1:=by omega
    have i01:(1:Int).toNat=1:=rfl
    have hp:=hin p (.inr (hys _ (by simp)))
    have ifk:(if p.key > 0 then p.key else 0)=p.key:=by split<;>omega
    have i0:Zho ZcE.agg:=⟨by decide,by decide,by decide,by decide⟩
    ((have hd:=tv;repeat' first|(first|apply Zad|apply Zac|apply Zab)<;>intro hd<;>try simp only[hd]|simp(disch:=first|assumption|omega|simp only[nx]<;>omega|fail)only[hd,qr,qn,Zno,↓YA,YY,↓reduceIte,Nat.reduceEqDiff,Nat.reduceAdd,Nat.reduceMul,Nat.reduceLeDiff,Int.reduceToNat,Int.reduceLE,Int.reduceLT,Int.reduceGT,Int.reduceGE,Int.reduceAdd,Int.reduceSub,Int.reduceNeg,Int.reduceBEq,Int.reduceBNe,Nat.reduceSub,f0,f1,f2,f3,f9,zaj,List.length_nil,List.length_cons,h0,he,w1,z0,g0,z1,e1,e2,e3,Zdi,AX.ev,la,tk1,n01,or_true,i01,e4,e5,e6,ifk])<;>try revert hd;refine ttr ?_)
    have hB:Mrg base mg aid bid oid tk mid x tok a b most s' ((G.alloc (.cells (ZbE ZcE++[.b false]) 198)).alloc (.cells (ZbE p++[.b true]) 198)):=hM'.ext (by exact AXT)
    have hX1:ZcD [mg,oid,tk,mid] G ((G.alloc (.cells (ZbE ZcE++[.b false]) 198)).alloc (.cells (ZbE p++[.b true]) 198)):=ZcD.of (by exact AXT)
    refine Zap.use (hC ZcE p false true p.key _ he hB (fun h=>hf h s' noC p he (.inr (.inr ⟨rfl,hys _ (by simp)⟩))) i0 hp.1 (fun _=>rfl) (fun h=>by cases h)) ?_
    rintro r G2 ⟨hx2,hM2,c,rfl,hc⟩
    have ht2:=(hX1.trans hx2).get _ _ (by simp;omega) ht
    have lb:ZaE 12 (out.map ZbE)=true:=ZaU (f:=ZbE) (fun _=>rfl) out
    have lc:ZaE 12 [ZbE c]=true:=rfl
    have hn1:out.length+1<=maxLen:=by simp only[List.length_cons,List.length_nil]at hlen;unfold maxLen;omega
    have hn2:(out.length+1) * 96<=140737488355328:=by simp only[List.length_cons,List.length_nil]at hlen;omega
    have hZ:=an7 ht2<|an7 f9<|an7 lb<|an7 lc<|an7 hn1<|hn2;refine Bz5 ?_
    refine⟨ys.length,by omega,(Znj x f d s' p.key noC p).1,[],ys,out++[c],t1,Zhj u1 (ys.length+1) 1 (ys.length+1) none,hM.set hM2 (zaf _),((hx'.trans hX1).trans hx2).set (.inr (zaf _)),?_,?_,hxs,fun c h=>hys c (zad _ h),by simp,(by rw[hq1,show([]:List Cel).length+(p :: ys).length=ys.length+1 by simp];rfl),fun h=>?_,f0,f1,f2,?_,?_⟩
    ·rw[Zaa.Zal (Zaa.lt ht2)];simp
    ·simp only[zai,List.length_cons,List.length_nil]at hlen ⊢;omega
    ·have hz:(Znj x f d s' p.key noC p).1.e=0:=by
      refine zaA fun h2=>h2 ?_
      have:=Znd (x:=x) (f:=f) (d:=d) (r:=Zm2 ys.length [] ys) h2
      rw[hq1,show([]:List Cel).length+(p :: ys).length=ys.length+1 by simp]at h
      rw[<- this];exact h
     rw[hq2 h,hc hz,zaM,show([]:List Cel).length+(p :: ys).length=ys.length+1 by simp];rfl
    ·rw[zaG (by simp)]
    ·simp[rC]
  | cons p xs =>
   cases ys with
   | nil => 
    have w1:decide (IntKind.i64.wrap (((xs.length+1:Nat):Int)+((0:Nat):Int)) > 0)=true:=by
     simp only[List.length_cons,List.length_nil]at hlen
     rw[Zaw (by omega) (by omega)];simp
    have la:ZaE 12 (ZbE p :: xs.map ZbE)=true:=ZaU (f:=ZbE) (fun _=>rfl) (p :: xs)
    have tk1:((ZbE p :: xs.map ZbE).take (xs.length+1)).drop 1=xs.map ZbE:=by
     rw[zaG (by simp)];rfl
    have n01:(1:Nat)<=xs.length+1:=by omega
    have i01:(1:Int).toNat=1:=rfl
    have hp:=hin p (.inl (hxs _ (by simp)))
    have ifk:(if 0 > p.key then 0 else p.key)=p.key:=if_neg (by omega)
    have i0:Zho ZcE.agg:=⟨by decide,by decide,by decide,by decide⟩
    ((have hd:=tv;repeat' first|(first|apply Zad|apply Zac|apply Zab)<;>intro hd<;>try simp only[hd]|simp(disch:=first|assumption|omega|simp only[nx]<;>omega|fail)only[hd,qr,qn,Zno,↓YA,YY,↓reduceIte,Nat.reduceEqDiff,Nat.reduceAdd,Nat.reduceMul,Nat.reduceLeDiff,Int.reduceToNat,Int.reduceLE,Int.reduceLT,Int.reduceGT,Int.reduceGE,Int.reduceAdd,Int.reduceSub,Int.reduceNeg,Int.reduceBEq,Int.reduceBNe,Nat.reduceSub,f0,f1,f2,f3,f9,zaj,List.length_nil,List.length_cons,h0,he,w1,z0,g0,z1,e1,e2,e3,Zdi,AX.ev,la,tk1,n01,or_true,i01,e4,e5,e6,ifk])<;>try revert hd;refine ttr ?_)
    have hB:Mrg base mg aid bid oid tk mid x tok a b most s' (((G.alloc (.cells (ZbE ZcE++[.b false]) 198)).alloc (.cells (ZbE ZcE++[.b false]) 198)).set G.next (.cells (ZbE p++[.b true]) 198)):=hM'.set (hM'.ext (by exact AXT)) (zaf _)
    have hX1:ZcD [mg,oid,tk,mid] G (((G.alloc (.cells (ZbE ZcE++[.b false]) 198)).alloc (.cells (ZbE ZcE++[.b false]) 198)).set G.next (.cells (ZbE p++[.b true]) 198)):=(ZcD.of (by exact AXT)).set (.inr (zaf _))
    refine Zap.use (hC p ZcE true false p.key _ he hB (fun h=>hf h s' p noC he (.inr (.inl ⟨hxs _ (by simp),rfl⟩))) hp.1 i0 (fun h=>by cases h) (fun _=>rfl)) ?_
    rintro r G2 ⟨hx2,hM2,c,rfl,hc⟩
    have ht2:=(hX1.trans hx2).get _ _ (by simp;omega) ht
    have lb:ZaE 12 (out.map ZbE)=true:=ZaU (f:=ZbE) (fun _=>rfl) out
    have lc:ZaE 12 [ZbE c]=true:=rfl
    have hn1:out.length+1<=maxLen:=by simp only[List.length_cons,List.length_nil]at hlen;unfold maxLen;omega
    have hn2:(out.length+1) * 96<=140737488355328:=by simp only[List.length_cons,List.length_nil]at hlen;omega
    have hZ:=an7 ht2<|an7 f9<|an7 lb<|an7 lc<|an7 hn1<|hn2;refine Bz5 ?_
    refine⟨xs.length,by omega,(Znj x f d s' p.key p noC).1,xs,[],out++[c],Zhj t1 (xs.length+1) 1 (xs.length+1) none,u1,hM.set hM2 (zaf _),((hx'.trans hX1).trans hx2).set (.inr (zaf _)),?_,?_,fun c h=>hxs c (zad _ h),hys,rfl,hq1.trans rfl,fun h=>?_,f0,f1,?_,f3,?_⟩
    ·rw[Zaa.Zal (Zaa.lt ht2)];simp
    ·simp only[zai,List.length_cons,List.length_nil]at hlen ⊢;omega
    ·have hz:(Znj x f d s' p.key p noC).1.e=0:=by
      refine zaA fun h2=>h2 ?_
      have:=Znd (x:=x) (f:=f) (d:=d) (r:=Zm2 xs.length xs []) h2
      rw[hq1]at h
      rw[<- this];exact h
     rw[hq2 h,hc hz,zaM];rfl
    ·rw[zaG (by simp)]
    ·simp[rC]
   | cons q ys =>
    have w1:decide (IntKind.i64.wrap (((xs.length+1:Nat):Int)+((ys.length+1:Nat):Int)) > 0)=true:=by
     simp only[List.length_cons,List.length_nil]at hlen
     rw[Zaw (by omega) (by omega)];simp;omega
    have g1:∀n:Nat,decide (((n+1:Nat):Int) > 0)=true:=fun n=>by simp
    have w2:decide (((xs.length+1:Nat):Int)+((ys.length+1:Nat):Int) > 0)=true:=by simp;omega
    have la:ZaE 12 (ZbE p :: xs.map ZbE)=true:=ZaU (f:=ZbE) (fun _=>rfl) (p :: xs)
    have la2:ZaE 12 (ZbE q :: ys.map ZbE)=true:=ZaU (f:=ZbE) (fun _=>rfl) (q :: ys)
    have tk1:((ZbE p :: xs.map ZbE).take (xs.length+1)).drop 1=xs.map ZbE:=by
     rw[zaG (by simp)];rfl
    have tk2:((ZbE q :: ys.map ZbE).take (ys.length+1)).drop 1=ys.map ZbE:=by
     rw[zaG (by simp)];rfl
    have n01:(1:Nat)<=xs.length+1:=by omega
    have n02:(1:Nat)<=ys.length+1:=by omega
    have i01:(1:Int).toNat=1:=rfl
    have hp:=hin p (.inl (hxs _ (by simp)))
    have hq:=hin q (.inr (hys _ (by simp)))
    have ifk:(if 0 > p.key then 0 else p.key)=p.key:=if_neg (by omega)
    have ifq:(if q.key > 0 then q.key else 0)=q.key:=by split<;>omega
    have i0:Zho ZcE.agg:=⟨by decide,by decide,by decide,by decide⟩
    have k0:∀c,(ZbE c)[0]?=some (.i c.key):=fun _=>rfl
    have hn0:(p :: xs).length+(q :: ys).length=(xs.length+ys.length+1)+1:=by simp only[List.length_cons];omega
    rw[hn0]at hq1 hq2
    have hn1:out.length+1<=maxLen:=by simp only[List.length_cons,List.length_nil]at hlen;unfold maxLen;omega
    have hn2:(out.length+1) * 96<=140737488355328:=by simp only[List.length_cons,List.length_nil]at hlen;omega
    have lb:ZaE 12 (out.map ZbE)=true:=ZaU (f:=ZbE) (fun _=>rfl) out
    have lc:∀c,ZaE 12 [ZbE c]=true:=fun _=>rfl
    by_cases c1:p.key<q.key
    ·have d1:decide (p.key<q.key)=true:=decide_eq_true c1
     have hk:Zm2 (xs.length+ys.length+1+1) (p :: xs) (q :: ys)=(p.key,p,noC) :: Zm2 (xs.length+(q :: ys).length) xs (q :: ys):=if_pos c1
     rw[hk]at hq1 hq2
     ((have hd:=tv;repeat' first|(first|apply Zad|apply Zac|apply Zab)<;>intro hd<;>try simp only[hd]|simp(disch:=first|assumption|omega|simp only[nx]<;>omega|fail)only[hd,qr,qn,Zno,↓YA,YY,sevalprocAttr,f0,f1,f2,f3,f9,zaj,List.length_nil,List.length_cons,h0,he,w1,w2,z0,g0,g1,z1,e1,e2,e3,Zdi,AX.ev,la,tk1,n01,or_true,i01,e4,e5,e6,ifk,k0,d1])<;>try revert hd;refine ttr ?_)
     have hB:Mrg base mg aid bid oid tk mid x tok a b most s' (((G.alloc (.cells (ZbE ZcE++[.b false]) 198)).alloc (.cells (ZbE ZcE++[.b false]) 198)).set G.next (.cells (ZbE p++[.b true]) 198)):=hM'.set (hM'.ext (by exact AXT)) (zaf _)
     have hX1:ZcD [mg,oid,tk,mid] G (((G.alloc (.cells (ZbE ZcE++[.b false]) 198)).alloc (.cells (ZbE ZcE++[.b false]) 198)).set G.next (.cells (ZbE p++[.b true]) 198)):=(ZcD.of (by exact AXT)).set (.inr (zaf _))
     refine Zap.use (hC p ZcE true false p.key _ he hB (fun h=>hf h s' p noC he (.inr (.inl ⟨hxs _ (by simp),rfl⟩))) hp.1 i0 (fun h=>by cases h) (fun _=>rfl)) ?_
     rintro r G2 ⟨hx2,hM2,c,rfl,hc⟩
     have ht2:=(hX1.trans hx2).get _ _ (by simp;omega) ht
     have hZ:=an7 ht2<|an7 f9<|an7 lb<|an7 lc<|an7 hn1<|hn2;refine Bz5 ?_
     refine⟨xs.length+(q :: ys).length,by simp only[List.length_cons];omega,(Znj x f d s' p.key p noC).1,xs,q :: ys,out++[c],Zhj t1 (xs.length+1) 1 (xs.length+1) none,u1,hM.set hM2 (zaf _),((hx'.trans hX1).trans hx2).set (.inr (zaf _)),?_,?_,fun c h=>hxs c (zad _ h),hys,rfl,hq1.trans rfl,fun h=>?_,f0,f1,?_,f3,?_⟩
     ·rw[Zaa.Zal (Zaa.lt ht2)];simp
     ·simp only[zai,List.length_cons,List.length_nil]at hlen ⊢;omega
     ·have hz:(Znj x f d s' p.key p noC).1.e=0:=by
       refine zaA fun h2=>h2 ?_
       have:=Znd (x:=x) (f:=f) (d:=d) (r:=Zm2 (xs.length+(q :: ys).length) xs (q :: ys)) h2
       rw[hq1]at h
       rw[<- this];exact h
      rw[hq2 h,hc hz,zaM];rfl
     ·rw[zaG (by simp)]
     ·simp[rC]
    have d1:decide (p.key<q.key)=false:=decide_eq_false c1
    by_cases c2:q.key<p.key
    ·have d2:decide (q.key<p.key)=true:=decide_eq_true c2
     have hk:Zm2 (xs.length+ys.length+1+1) (p :: xs) (q :: ys)=(q.key,noC,q) :: Zm2 (xs.length+ys.length+1) (p :: xs) ys:=(if_neg c1).trans (if_pos c2)
     rw[hk]at hq1 hq2
     ((have hd:=tv;repeat' first|(first|apply Zad|apply Zac|apply Zab)<;>intro hd<;>try simp only[hd]|simp(disch:=first|assumption|omega|simp only[nx]<;>omega|fail)only[hd,qr,qn,Zno,↓YA,YY,sevalprocAttr,f0,f1,f2,f3,f9,zaj,List.length_nil,List.length_cons,h0,he,w1,w2,z0,g0,g1,z1,e1,e2,e3,Zdi,AX.ev,la2,tk2,n02,or_true,i01,e4,e5,e6,ifq,k0,d1,d2])<;>try revert hd;refine ttr ?_)
     have hB:Mrg base mg aid bid oid tk mid x tok a b most s' ((G.alloc (.cells (ZbE ZcE++[.b false]) 198)).alloc (.cells (ZbE q++[.b true]) 198)):=hM'.ext (by exact AXT)
     have hX1:ZcD [mg,oid,tk,mid] G ((G.alloc (.cells (ZbE ZcE++[.b false]) 198)).alloc (.cells (ZbE q++[.b true]) 198)):=ZcD.of (by exact AXT)
     refine Zap.use (hC ZcE q false true q.key _ he hB (fun h=>hf h s' noC q he (.inr (.inr ⟨rfl,hys _ (by simp)⟩))) i0 hq.1 (fun _=>rfl) (fun h=>by cases h)) ?_
     rintro r G2 ⟨hx2,hM2,c,rfl,hc⟩
     have ht2:=(hX1.trans hx2).get _ _ (by simp;omega) ht
     have hZ:=an7 ht2<|an7 f9<|an7 lb<|an7 lc<|an7 hn1<|hn2;refine Bz5 ?_
     refine⟨xs.length+ys.length+1,by omega,(Znj x f d s' q.key noC q).1,p :: xs,ys,out++[c],t1,Zhj u1 (ys.length+1) 1 (ys.length+1) none,hM.set hM2 (zaf _),((hx'.trans hX1).trans hx2).set (.inr (zaf _)),?_,?_,hxs,fun c h=>hys c (zad _ h),by simp only[List.length_cons];omega,hq1.trans rfl,fun h=>?_,f0,f1,f2,?_,?_⟩
     ·rw[Zaa.Zal (Zaa.lt ht2)];simp
     ·simp only[zai,List.length_cons,List.length_nil]at hlen ⊢;omega
     ·have hz:(Znj x f d s' q.key noC q).1.e=0:=by
       refine zaA fun h2=>h2 ?_
       have:=Znd (x:=x) (f:=f) (d:=d) (r:=Zm2 (xs.length+ys.length+1) (p :: xs) ys) h2
       rw[hq1]at h
       rw[<- this];exact h
      rw[hq2 h,hc hz,zaM];rfl
     ·rw[zaG (by simp)]
     ·simp[rC]
    have d2:decide (q.key<p.key)=false:=decide_eq_false c2
    have hk:Zm2 (xs.length+ys.length+1+1) (p :: xs) (q :: ys)=(p.key,p,q) :: Zm2 (xs.length+ys.length) xs ys:=by
     rw[<- Znf _ xs ys (zaf _)]
     exact(if_neg c1).trans (if_neg c2)
    rw[hk]at hq1 hq2
    have ifb:(if q.key > p.key then q.key else p.key)=p.key:=if_neg (by omega)
    ((have hd:=tv;repeat' first|(first|apply Zad|apply Zac|apply Zab)<;>intro hd<;>try simp only[hd]|simp(disch:=first|assumption|omega|simp only[nx]<;>omega|fail)only[hd,qr,qn,Zno,↓YA,YY,sevalprocAttr,f0,f1,f2,f3,f9,zaj,List.length_nil,List.length_cons,h0,he,w1,w2,z0,g0,g1,z1,e1,e2,e3,Zdi,AX.ev,la,tk1,n01,la2,tk2,n02,or_true,i01,e4,e5,e6,ifb,k0,d1,d2])<;>try revert hd;refine ttr ?_)
    have hB:Mrg base mg aid bid oid tk mid x tok a b most s' ((((G.alloc (.cells (ZbE ZcE++[.b false]) 198)).alloc (.cells (ZbE ZcE++[.b false]) 198)).set G.next (.cells (ZbE p++[.b true]) 198)).set (G.next+1) (.cells (ZbE q++[.b true]) 198)):=hM'.set (hM'.set (hM'.ext (by exact AXT)) (zaf _)) (zcc _)
    have hX1:ZcD [mg,oid,tk,mid] G ((((G.alloc (.cells (ZbE ZcE++[.b false]) 198)).alloc (.cells (ZbE ZcE++[.b false]) 198)).set G.next (.cells (ZbE p++[.b true]) 198)).set (G.next+1) (.cells (ZbE q++[.b true]) 198)):=((ZcD.of (by exact AXT)).set (.inr (zaf _))).set (.inr (zcc _))
    refine Zap.use (hC p q true true p.key _ he hB (fun h=>hf h s' p q he (.inl ⟨hxs _ (by simp),hys _ (by simp)⟩)) hp.1 hq.1 (fun h=>by cases h) (fun h=>by cases h)) ?_
    rintro r G2 ⟨hx2,hM2,c,rfl,hc⟩
    have ht2:=(hX1.trans hx2).get _ _ (by simp;omega) ht
    have hZ:=an7 ht2<|an7 f9<|an7 lb<|an7 lc<|an7 hn1<|hn2;refine Bz5 ?_
    refine⟨xs.length+ys.length,by omega,(Znj x f d s' p.key p q).1,xs,ys,out++[c],Zhj t1 (xs.length+1) 1 (xs.length+1) none,Zhj u1 (ys.length+1) 1 (ys.length+1) none,hM.set hM2 (zaf _),((hx'.trans hX1).trans hx2).set (.inr (zaf _)),?_,?_,fun c h=>hxs c (zad _ h),fun c h=>hys c (zad _ h),rfl,hq1.trans rfl,fun h=>?_,f0,f1,?_,?_,?_⟩
    ·rw[Zaa.Zal (Zaa.lt ht2)];simp
    ·simp only[zai,List.length_cons,List.length_nil]at hlen ⊢;omega
    ·have hz:(Znj x f d s' p.key p q).1.e=0:=by
      refine zaA fun h2=>h2 ?_
      have:=Znd (x:=x) (f:=f) (d:=d) (r:=Zm2 (xs.length+ys.length) xs ys) h2
      rw[hq1]at h
      rw[<- this];exact h
     rw[hq2 h,hc hz,zaM];rfl
    ·rw[zaG (by simp)]
    ·rw[zaG (by simp)]
    ·simp[rC]
 ·have hen:(s'.e == 0)=false:=by simp;exact he
  have hz:=Znd (x:=x) (f:=f) (d:=d) (r:=Zm2 (xs.length+ys.length) xs ys) he
  ((have hd:=tv;repeat' first|(first|apply Zad|apply Zac|apply Zab)<;>intro hd<;>try simp only[hd]|simp(disch:=first|assumption|omega|simp only[nx]<;>omega|fail)only[hd,qr,qn,Zno,↓YA,YY,sevalprocAttr,f0,f1,f2,f3,f9,zaj,h0,hen])<;>try revert hd;refine ttr ?_)
  all_goals exact Zaq ⟨hx',by rw[hq1,hz];exact hM',out,_,rfl,fun h=>absurd (by rw[hq1,hz]at h;exact h) he⟩
theorem Zol.len {hi:Int}:∀{l:List Cel} {lo:Int},Zol hi lo l->lo<=hi->(l.length:Int)<=hi - lo
 | [],lo,_,h=>by simp;omega
 | c :: r,lo,h,_=>by
  have:=Zol.len h.2.2.2 (by have:=h.2.1;omega)
  have h1:=h.1
  simp only[List.length_cons]
  omega
theorem Zol.key {hi:Int}:∀{l:List Cel} {lo:Int},Zol hi lo l->∀c∈l,lo<=c.key/\c.key<hi/\0<=c.child
 | [],_,_,_,h=>by simp at h
 | p :: r,lo,h,c,hc=>by
  rcases zal.1 hc with rfl|hc
  ·exact⟨h.1,h.2.1,h.2.2.1⟩
  ·have:=Zol.key h.2.2.2 c hc
   have h1:=h.1
   omega
structure Prw (x:Shp) (l:List Nod):Prop where
 k:Wlk x l
 inn:∀n∈l,Zt7 n
 lens:∀n∈l,n.lists.length=(x.sizes.getD n.dim.toNat []).length
 rise:∀n∈l,∀t:Nat,Zol ((x.sizes.getD n.dim.toNat []).getD t 0) 0 (n.lists.getD t [])
 allc:∀n∈l,0<=n.all.child
 size:∀s∈x.sizes,∀k∈s,1<=k/\k<=200
def At (l:List Nod) (D:Nat) (i:Int):Prop:=i = -1\/(0<=i/\i<l.length/\(Zdw l i).dim=D)
theorem ZnC {l:List Nod} {D:Nat} {i:Int} (h:At l D i) (hi:i ≠ -1):Zm3 l i∈l/\(Zm3 l i).dim=D/\Zm3 l i=Zdw l i:=by
 rcases h with h|⟨h1,h2,h3⟩
 ·exact absurd h hi
 ·obtain⟨b,rfl⟩:∃b:Nat,i=b:=⟨i.toNat,by omega⟩
  have hb:b<l.length:=by omega
  have e:Zm3 l (b:Int)=Zdw l b:=if_neg hi
  rw[e]
  refine⟨?_,h3,rfl⟩
  rw[Zm8 hb]
  exact zaq hb
theorem ZnH {l:List Nod}:Zm3 l (-1)=nodZ:=if_pos rfl
theorem Zpo {x:Shp} {l:List Nod} (h:Prw x l) (d t:Nat):0<=(x.sizes.getD d []).getD t 0/\(x.sizes.getD d []).getD t 0<=200:=by
 by_cases h1:d<x.sizes.length
 ·have e:x.sizes.getD d []=x.sizes[d]:=by rw[zah,zaa h1];rfl
  rw[e]
  by_cases h2:t<x.sizes[d].length
  ·have e2:x.sizes[d].getD t 0=x.sizes[d][t]:=by rw[zah,zaa h2];rfl
   have:=h.size _ (zaq h1) _ (zaq h2)
   rw[e2];omega
  ·have e2:x.sizes[d].getD t 0=0:=by rw[zah,za2 (by omega)];rfl
   rw[e2];omega
 ·have e:x.sizes.getD d []=[]:=by rw[zah,za2 (by omega)];rfl
  rw[e];exact⟨zcd _,show(0:Int)<=200 by decide⟩
theorem ZoE (t:Nat):nodZ.lists.getD t []=[]:=rfl
theorem Zn8 {x:Shp} {l:List Nod} {D:Nat} {i:Int} (h:Prw x l) (ha:At l D i):(Zm3 l i).lists.length<=4/\(∀t:Nat,((Zm3 l i).lists.getD t []).length<=200)/\(∀t:Nat,∀c∈(Zm3 l i).lists.getD t [],Zho c.agg/\0<=c.key/\c.key<=9223372036854775807/\0<=c.child/\c∈each (Zm3 l i))/\Zho (Zm3 l i).all.agg:=by
 by_cases hi:i = -1
 ·subst hi
  rw[ZnH]
  exact⟨zaD _,fun t=>by rw[ZoE];exact zaD _,fun t c hc=>by rw[ZoE]at hc;simp at hc,⟨by decide,by decide,by decide,by decide⟩⟩
 ·obtain⟨hm,hd,_⟩:=ZnC ha hi
  have hr:=h.rise _ hm
  have hin:=h.inn _ hm
  have hl:=h.lens _ hm
  obtain⟨b1,b2,b3⟩:=h.k.w.bounds
  refine⟨?_,fun t=>?_,fun t c hc=>?_,hin.2.agg⟩
  ·rw[hl,zah]
   cases e:x.sizes[(Zm3 l i).dim.toNat]? with
   | none=>exact zaD _
   | some s=>exact b3 s (zaF e)
  ·have:=Zpo h (Zm3 l i).dim.toNat t
   have:=(hr t).len this.1
   omega
  ·have:=Zpo h (Zm3 l i).dim.toNat t
   have hk:=(hr t).key c hc
   have hmem:(Zm3 l i).lists.getD t []∈(Zm3 l i).lists:=by
    rw[zah]at hc ⊢
    cases e:(Zm3 l i).lists[t]? with
    | none=>rw[e]at hc;simp at hc
    | some c'=>exact zaF e
   exact⟨(hin.1 _ hmem c hc).agg,hk.1,by omega,hk.2.2,zba _ (zbm.2 ⟨_,hmem,hc⟩)⟩
theorem Zns:∀(n:Nat) (xs ys:List Cel),(Zm2 n xs ys).length<=xs.length+ys.length
 | 0,_,_=>by simp[Zm2]
 | _+1,[],[]=>by simp[Zm2]
 | n+1,p :: xs,[]=>by have:=Zns n xs [];simp[Zm2]at this ⊢;omega
 | n+1,[],q :: ys=>by have:=Zns n [] ys;simp[Zm2]at this ⊢;omega
 | n+1,p :: xs,q :: ys=>by
  have h1:=Zns n xs (q :: ys)
  have h2:=Zns n (p :: xs) ys
  have h3:=Zns n xs ys
  unfold Zm2
  simp only[List.length_cons]at h1 h2 ⊢
  split
  ·simp only[List.length_cons];omega
  ·split<;>simp only[List.length_cons]<;>omega
theorem Zpc {x:Shp} {f:MSt->Int×Int->MSt×Int} {d:Int}:∀(r:List (Int×Cel×Cel)) (s:MSt),(Zm9 x f d s r).2.length=r.length
 | [],_=>rfl
 | (key,p,q) :: r,s=>by unfold Zm9;simp only[List.length_cons,Zpc r]
theorem ZoQ {x:Shp} {f:MSt->Int×Int->MSt×Int} {d:Int} {m:Nat}:∀(r:List (List (Int×Cel×Cel))) (s:MSt),(∀t∈r,t.length<=m)->∀l∈(Zm4 x f d s r).2,l.length<=m
 | [],_,_,l,h=>by simp[Zm4]at h
 | t :: r,s,hr,l,h=>by
  unfold Zm4 at h
  rcases zal.1 h with rfl|h
  ·rw[Zpc];exact hr _ zae
  ·exact ZoQ r _ (fun t ht=>hr t (zad _ ht)) l h
theorem ZqE {l:List (List Cel)} {m:Nat} (h:∀c∈l,c.length<=m):l.flatten.length<=l.length * m:=by
 induction l with
 | nil=>simp
 | cons c r ih =>
  have h1:=h c zae
  have h2:=ih fun d hd=>h d (zad _ hd)
  simp only[List.flatten_cons,zai,List.length_cons,zaT]
  omega
theorem Zpk {p q:Int×Int} {P:List (Int×Int)} (h:P.findIdx? (· == p)=none):(P++[p]).findIdx? (· == q)=if q=p then some P.length else P.findIdx? (· == q):=by
 rw[List.findIdx?_append]
 by_cases e:q=p
 ·subst e
  rw[h,if_pos rfl]
  simp
 ·rw[if_neg e]
  cases hq:P.findIdx? (· == q)with
  | some j=>rfl
  | none =>
   have:(p == q)=false:=by rw[beq_eq_false_iff_ne];exact fun h=>e h.symm
   simp[this]
section
variable {R:MSt->MSt->Prop} (hr:∀s,R s s) (ht:∀s t u,R s t->R t u->R s u) (hE:∀s e,R s ⟨s.N,s.P,e⟩) {x:Shp} {f:MSt->Int×Int->MSt×Int} {d:Int}
include hr hE
theorem Zp8 {s:MSt} {key:Int} {p q:Cel} (hf:lastB x d=false->s.e=0->R s (f s (p.child,q.child)).1):R s (Znj x f d s key p q).1:=by
 unfold Znj
 split
 ·exact hr s
 ·split
  ·split
   ·exact hr s
   ·exact hE s 12
  ·rename_i h1 h2
   exact hf (by simpa using h2) (zaA h1)
include ht
theorem Zpb:∀(r:List (Int×Cel×Cel)) (s:MSt),(lastB x d=false->∀s,s.e=0->∀key p q,(key,p,q)∈r->R s (f s (p.child,q.child)).1)->R s (Zm9 x f d s r).1
 | [],s,_=>hr s
 | (key,p,q) :: r,s,hf=>ht _ _ _ (Zp8 hr hE fun h he=>hf h s he key p q zae) (Zpb r _ fun h s he k p q hm=>hf h s he k p q (zad _ hm))
theorem ZoJ:∀(r:List (List (Int×Cel×Cel))) (s:MSt),(lastB x d=false->∀s,s.e=0->∀t∈r,∀key p q,(key,p,q)∈t->R s (f s (p.child,q.child)).1)->R s (Zm4 x f d s r).1
 | [],s,_=>hr s
 | t :: r,s,hf=>ht _ _ _ (Zpb hr ht hE t s fun h s he=>hf h s he t zae) (ZoJ r _ fun h s he u hu=>hf h s he u (zad _ hu))
end
theorem Znu:∀{n:Nat} {xs ys:List Cel} {key:Int} {p q:Cel},(key,p,q)∈Zm2 n xs ys->(p∈xs/\q∈ys)\/(p∈xs/\q=noC)\/(p=noC/\q∈ys)
 | 0,_,_,_,_,_,h=>by simp[Zm2]at h
 | _+1,[],[],_,_,_,h=>by simp[Zm2]at h
 | n+1,u :: xs,[],key,p,q,h=>by
  simp only[Zm2,zal,zau]at h
  rcases h with⟨_,rfl,rfl⟩|h
  ·exact .inr (.inl ⟨zae,rfl⟩)
  ·rcases Znu h with⟨_,h⟩|⟨h,e⟩|⟨_,h⟩
   ·simp at h
   ·exact .inr (.inl ⟨zad _ h,e⟩)
   ·simp at h
 | n+1,[],v :: ys,key,p,q,h=>by
  simp only[Zm2,zal,zau]at h
  rcases h with⟨_,rfl,rfl⟩|h
  ·exact .inr (.inr ⟨rfl,zae⟩)
  ·rcases Znu h with⟨h,_⟩|⟨h,_⟩|⟨e,h⟩
   ·simp at h
   ·simp at h
   ·exact .inr (.inr ⟨e,zad _ h⟩)
 | n+1,u :: xs,v :: ys,key,p,q,h=>by
  unfold Zm2 at h
  split at h
  ·rcases zal.1 h with h|h
   ·simp only[zau]at h
    obtain⟨_,rfl,rfl⟩:=h
    exact .inr (.inl ⟨zae,rfl⟩)
   ·rcases Znu h with⟨a,b⟩|⟨a,e⟩|⟨e,b⟩
    ·exact .inl ⟨zad _ a,b⟩
    ·exact .inr (.inl ⟨zad _ a,e⟩)
    ·exact .inr (.inr ⟨e,b⟩)
  ·split at h
   ·rcases zal.1 h with h|h
    ·simp only[zau]at h
     obtain⟨_,rfl,rfl⟩:=h
     exact .inr (.inr ⟨rfl,zae⟩)
    ·rcases Znu h with⟨a,b⟩|⟨a,e⟩|⟨e,b⟩
     ·exact .inl ⟨a,zad _ b⟩
     ·exact .inr (.inl ⟨a,e⟩)
     ·exact .inr (.inr ⟨e,zad _ b⟩)
   ·rcases zal.1 h with h|h
    ·simp only[zau]at h
     obtain⟨_,rfl,rfl⟩:=h
     exact .inl ⟨zae,zae⟩
    ·rcases Znu h with⟨a,b⟩|⟨a,e⟩|⟨e,b⟩
     ·exact .inl ⟨zad _ a,zad _ b⟩
     ·exact .inr (.inl ⟨zad _ a,e⟩)
     ·exact .inr (.inr ⟨e,zad _ b⟩)
theorem Zpt {a b:List Nod} {D:Nat} {i j:Int} (ha:At a D i) (hb:At b D j) (h:¬(i = -1/\j = -1)):(if (Zm3 b j).dim > (Zm3 a i).dim then (Zm3 b j).dim else (Zm3 a i).dim)=(D:Int)/\max (Zm3 a i).dim (Zm3 b j).dim=(D:Int):=by
 have h0:nodZ.dim=0:=rfl
 have key:∀u v:Int,(u=D/\v=D)\/(u=0/\v=D)\/(u=D/\v=0)->(if v > u then v else u)=(D:Int)/\max u v=(D:Int):=fun u v h=>by
  rcases h with⟨rfl,rfl⟩|⟨rfl,rfl⟩|⟨rfl,rfl⟩
  ·exact⟨by split<;>omega,by omega⟩
  ·exact⟨by split<;>omega,by omega⟩
  ·exact⟨by split<;>omega,by omega⟩
 refine key _ _ ?_
 by_cases h1:i = -1
 ·have h2:j ≠ -1:=fun e=>h ⟨h1,e⟩
  exact .inr (.inl ⟨by rw[h1,ZnH,h0],(ZnC hb h2).2.1⟩)
 ·by_cases h2:j = -1
  ·exact .inr (.inr ⟨(ZnC ha h1).2.1,by rw[h2,ZnH,h0]⟩)
  ·exact .inl ⟨(ZnC ha h1).2.1,(ZnC hb h2).2.1⟩
theorem ZoV {x:Shp} {l:List Nod} {D:Nat} {i:Int} (h:Prw x l) (ha:At l D i) (hi:i ≠ -1) (hb:lastB x (D:Int)=false) {c:Cel} (hc:c∈each (Zm3 l i)):At l (D+1) c.child:=by
 obtain⟨_,hd,hn⟩:=ZnC ha hi
 rcases ha with h1|⟨h1,h2,h3⟩
 ·exact absurd h1 hi
 ·obtain⟨b,rfl⟩:∃b:Nat,i=b:=⟨i.toNat,by omega⟩
  rw[hn]at hc
  have hbl:b<l.length:=by omega
  have hk:=h.k.w.child _ (zaq hbl) (by rw[<- Zm8 hbl,h3];exact hb) c (by rw[<- Zm8 hbl];exact hc)
  refine .inr ⟨hk.1,hk.2,?_⟩
  rw[h.k.dim b hbl (by rw[h3];exact hb) c hc,h3];omega
theorem ZnI {x:Shp} {l:List Nod} {D t:Nat} {i:Int} (h:Prw x l) (ha:At l D i) (hb:lastB x (D:Int)=false) {c:Cel} (hc:c∈(Zm3 l i).lists.getD t []):At l (D+1) c.child/\c.child ≠ -1:=by
 by_cases hi:i = -1
 ·subst hi;rw[ZnH,ZoE]at hc;simp at hc
 ·obtain⟨_,_,h3,_⟩:=Zn8 h ha
  have:=h3 t c hc
  exact⟨ZoV h ha hi hb this.2.2.2.2,by omega⟩
def Znh (x:Shp) (a b:List Nod) (most:Int) (f:MSt->Int×Int->MSt×Int) (s:MSt) (p:Int×Int):MSt×Int:=match s.P.findIdx? (· == p)with
 | some j=>(s,(j:Int))
 | none=>if s.e≠0 then (s,0) else
  let X:=Zm3 a p.1
  let Y:=Zm3 b p.2
  let d:=max X.dim Y.dim
  let r:=Zm4 x f d s (Zm7 X Y (max X.lists.length Y.lists.length))
  let t:=Znj x f d r.1 0 (ZnV X p.1) (ZnV Y p.2)
  if t.1.e≠0 then (t.1,0) else
  if ZbF x most t.1.N ⟨d,r.2,t.2⟩≠0 then (⟨t.1.N,t.1.P,ZbF x most t.1.N ⟨d,r.2,t.2⟩⟩,0) else
  (⟨t.1.N++[⟨d,r.2,t.2⟩],t.1.P++[p],0⟩,(t.1.N.length:Int))
theorem ZnK (x:Shp) (a b:List Nod) (most:Int) (n:Nat):Zoy x a b most (n+1)=Znh x a b most (Zoy x a b most n):=rfl
def dimP (a b:List Nod) (q:Int×Int):Int:=max (Zm3 a q.1).dim (Zm3 b q.2).dim
def Zo1 (a b:List Nod) (D:Int) (s t:MSt):Prop:=∀q∈t.P,q∈s.P\/D<=dimP a b q
theorem Zo1.refl (a b:List Nod) (D:Int) (s:MSt):Zo1 a b D s s:=fun _ h=>.inl h
theorem Zo1.trans (a b:List Nod) (D:Int) (s t u:MSt) (h:Zo1 a b D s t) (k:Zo1 a b D t u):Zo1 a b D s u:=fun q hq=>(k q hq).elim (h q) .inr
theorem keys_at {x:Shp} {a b:List Nod} {D t n:Nat} {i j key:Int} {p q:Cel} (ha:Prw x a) (hb:Prw x b) (h1:At a D i) (h2:At b D j) (hl:lastB x (D:Int)=false) (h:(key,p,q)∈Zm2 n ((Zm3 a i).lists.getD t []) ((Zm3 b j).lists.getD t [])):At a (D+1) p.child/\At b (D+1) q.child/\¬(p.child = -1/\q.child = -1):=by
 have hn1:noC.child = -1:=rfl
 rcases Znu h with⟨hu,hv⟩|⟨hu,rfl⟩|⟨rfl,hv⟩
 ·obtain⟨a1,a2⟩:=ZnI ha h1 hl hu
  obtain⟨a3,a4⟩:=ZnI hb h2 hl hv
  exact⟨a1,a3,fun h=>a2 h.1⟩
 ·obtain⟨a1,a2⟩:=ZnI ha h1 hl hu
  exact⟨a1,.inl hn1,fun h=>a2 h.1⟩
 ·obtain⟨a3,a4⟩:=ZnI hb h2 hl hv
  exact⟨.inl hn1,a3,fun h=>a4 h.2⟩
theorem ZqB {x:Shp} {l:List Nod} {D:Nat} {i:Int} (hl:Prw x l) (hi:At l D i) (hb:lastB x (D:Int)=false):At l (D+1) (ZnV (Zm3 l i) i).child/\((ZnV (Zm3 l i) i).child = -1->i = -1):=by
 by_cases h:i = -1
 ·subst h;exact⟨.inl rfl,fun _=>rfl⟩
 ·have e2:ZnV (Zm3 l i) i=(Zm3 l i).all:=if_neg h
  obtain⟨hm,_,_⟩:=ZnC hi h
  have:=hl.allc _ hm
  rw[e2]
  exact⟨ZoV hl hi h hb (zbp _ (by simp)),fun h=>by omega⟩
theorem Zp9 {x:Shp} {a b:List Nod} {f:MSt->Int×Int->MSt×Int} {s:MSt} {D:Nat} {i j:Int} (ha:Prw x a) (hb:Prw x b) (h1:At a D i) (h2:At b D j) (h3:¬(i = -1/\j = -1))
  (hs:lastB x (D:Int)=false->∀s q,s.e=0->At a (D+1) q.1->At b (D+1) q.2->¬(q.1 = -1/\q.2 = -1)->Zo1 a b (D+1) s (f s q).1) (T:Nat) :
  Zo1 a b (D+1) s (Znj x f D (Zm4 x f D s (Zm7 (Zm3 a i) (Zm3 b j) T)).1 0 (ZnV (Zm3 a i) i) (ZnV (Zm3 b j) j)).1:=by
 refine Zo1.trans _ _ _ _ _ _ (ZoJ (Zo1.refl a b (D+1)) (Zo1.trans a b (D+1)) (fun s e q h=>.inl h) _ s fun hl s he t ht key p q hm=>?_) (Zp8 (Zo1.refl a b (D+1)) (fun s e q h=>.inl h) fun hl he=>?_)
 ·unfold Zm7 at ht
  obtain⟨k,_,rfl⟩:=zat.1 ht
  obtain⟨a1,a2,a3⟩:=keys_at ha hb h1 h2 hl hm
  exact hs hl s _ he a1 a2 a3
 ·obtain⟨a1,a2⟩:=ZqB ha h1 hl
  obtain⟨a3,a4⟩:=ZqB hb h2 hl
  exact hs hl _ _ he a1 a3 fun h=>h3 ⟨a2 h.1,a4 h.2⟩
theorem Zo8 {x:Shp} {a b:List Nod} {most:Int} {f:MSt->Int×Int->MSt×Int} {s:MSt} {D:Nat} {i j:Int} (ha:Prw x a) (hb:Prw x b) (h1:At a D i) (h2:At b D j) (h3:¬(i = -1/\j = -1))
  (hs:lastB x (D:Int)=false->∀s q,s.e=0->At a (D+1) q.1->At b (D+1) q.2->¬(q.1 = -1/\q.2 = -1)->Zo1 a b (D+1) s (f s q).1):Zo1 a b D s (Znh x a b most f s (i,j)).1:=by
 have hd:dimP a b (i,j)=D:=(Zpt h1 h2 h3).2
 have h:=Zp9 (s:=s) ha hb h1 h2 h3 hs (max (Zm3 a i).lists.length (Zm3 b j).lists.length)
 have h':Zo1 a b D s _:=fun q hq=>(h q hq).imp id fun h=>by omega
 unfold Znh
 split
 ·exact Zo1.refl _ _ _ _
 ·split
  ·exact Zo1.refl _ _ _ _
  ·simp only[(Zpt h1 h2 h3).2]
   split
   ·exact h'
   ·split
    ·exact h'
    ·intro q hq
     rcases zav.1 hq with hq|hq
     ·exact h' q hq
     ·rw[zam.1 hq,hd];exact .inr (zcd _)
def ZnQ (x:Shp) (most:Int) (D:Nat) (p:Int×Int) (t:MSt×Cel) (ls:List (List Cel)):MSt×Int :=
 if t.1.e≠0 then (t.1,0) else
 if ZbF x most t.1.N ⟨D,ls,t.2⟩≠0 then (⟨t.1.N,t.1.P,ZbF x most t.1.N ⟨D,ls,t.2⟩⟩,0) else
 (⟨t.1.N++[⟨D,ls,t.2⟩],t.1.P++[p],0⟩,(t.1.N.length:Int))
theorem Zp7 (n:Nod) (i:Int):Zm6 n.all (i != -1)=ZnV n i:=by
 unfold Zm6 ZnV
 by_cases h:i = -1
 ·simp[h]
 ·simp[h]
structure MNodI (mg oid tk mid i3 i7 i8 i9 i10:Nat) (i j:Int) (t1 t2:Tok) (X Y:Nod) (D:Nat) (ts:List (Tok×List Cel)) (H S:Zaa):Prop where
 ext:ZcD [mg,oid,tk,mid] H S
 g3:S.get i3=some (.cells [.i i,.i j] 140)
 g7:S.get i7=some (.cells (ZbD t1 X) 115)
 g8:S.get i8=some (.cells (ZbD t2 Y) 115)
 g9:S.get i9=some (.cells (Ze0 (.own i10) D ts ZcE) 115)
 gt:S.get i10=some (.tok ts.length 120 1)
theorem MNodI.mono {mg oid tk mid i3 i7 i8 i9 i10:Nat} {i j:Int} {t1 t2:Tok} {X Y:Nod} {D:Nat} {ts:List (Tok×List Cel)} {H S S':Zaa} (h:MNodI mg oid tk mid i3 i7 i8 i9 i10 i j t1 t2 X Y D ts H S) (hx:ZcD [mg,oid,tk,mid] S S') (hn:∀k∈[i3,i7,i8,i9,i10],k ∉ [mg,oid,tk,mid]):MNodI mg oid tk mid i3 i7 i8 i9 i10 i j t1 t2 X Y D ts H S' :=
 ⟨h.ext.trans hx,hx.get _ _ (hn _ (by simp)) h.g3,hx.get _ _ (hn _ (by simp)) h.g7,hx.get _ _ (hn _ (by simp)) h.g8,hx.get _ _ (hn _ (by simp)) h.g9,hx.get _ _ (hn _ (by simp)) h.gt⟩
theorem Zpv {x:Shp} {f:MSt->Int×Int->MSt×Int} {d:Int} {KS:List (List (Int×Cel×Cel))} {k:Nat} (hk:k<KS.length) {s s':MSt} {done:List (List Cel)}
  (h1:(Zm4 x f d s KS).1=(Zm4 x f d s' (KS.drop k)).1) (h2:(Zm4 x f d s KS).1.e=0->(Zm4 x f d s KS).2=done++(Zm4 x f d s' (KS.drop k)).2) {l:List Cel} (hl:(Zm9 x f d s' KS[k]).1.e=0->l=(Zm9 x f d s' KS[k]).2) :
  (Zm4 x f d s KS).1=(Zm4 x f d (Zm9 x f d s' KS[k]).1 (KS.drop (k+1))).1/\((Zm4 x f d s KS).1.e=0->(Zm4 x f d s KS).2=(done++[l])++(Zm4 x f d (Zm9 x f d s' KS[k]).1 (KS.drop (k+1))).2):=by
 rw[zao hk]at h1 h2
 refine⟨h1,fun h=>?_⟩
 have hz:(Zm9 x f d s' KS[k]).1.e=0:=by
  refine zaA fun h3=>h3 ?_
  have:=ZoL (x:=x) (f:=f) (d:=d) (r:=KS.drop (k+1)) h3
  rw[h1]at h
  rw[<- this];exact h
 rw[h2 h,hl hz,zaM];rfl
theorem Mrg.add {base mg aid bid oid tk mid:Nat} {x:Shp} {tok:Tok} {a b:List Nod} {most:Int} {s:MSt} {G G':Zaa} {n:Nod} {p:Int×Int} {M:List ((Int×Int)×Int)} (h:Mrg base mg aid bid oid tk mid x tok a b most s G) (he:s.e=0) (hx:Zqr oid tk G G') (hO:ArO G' oid tk x tok (s.N++[n]) most)
  (hMp:G.get mid=some (.map (.row [.int .i64,.int .i64]) (Zgf k2 AV.i M) false)) (hq:∀p,Zcz p M=(s.P.findIdx? (· == p)).map fun j:Nat=>(j:Int)) (hf:s.P.findIdx? (· == p)=none) (ea:ZbF x most s.N n=0) (hs:Zdb n) (hd:n.dim=max (Zm3 a p.1).dim (Zm3 b p.2).dim) :
  Mrg base mg aid bid oid tk mid x tok a b most ⟨s.N++[n],s.P++[p],0⟩ (G'.set mid (.map (.row [.int .i64,.int .i64]) (Zgf k2 AV.i (ZbU p (s.N.length:Int) M)) false)):=by
 have h0:=h.o
 have n1:mg≠oid:=fun e=>by have:=h.out.cell;rw[<- e,h0]at this;simp[Zk5]at this
 have n2:mg≠tk:=fun e=>by have:=h.out.row;rw[<- e,h0]at this;cases this
 have n3:mg≠mid:=fun e=>by rw[e,hMp]at h0;cases h0
 have n4:mid≠oid:=fun e=>by have:=h.out.cell;rw[<- e,hMp]at this;cases this
 have n5:mid≠tk:=fun e=>by have:=h.out.row;rw[<- e,hMp]at this;cases this
 have l1:=h.l1
 have l2:=h.l2
 have l4:=h.l4
 have l5:=h.l5
 have l6:=h.l6
 have hN:(s.N.length:Int)<most:=by
  unfold ZbF at ea
  split at ea
  ·omega
  ·split at ea
   ·omega
   ·split at ea<;>omega
 have lm:=Zaa.lt (hx.get _ _ n4 n5 hMp)
 refine⟨?_,?_,?_,⟨hO.ne,?_,?_⟩,⟨_,Zaa.Zal lm,fun q=>?_⟩,l1,l2,h.l3,l4,l5,l6,⟨?_,?_,?_,?_⟩⟩
 ·rw[Zaa.Zah n3,hx.get _ _ n1 n2 h0,he]
 ·obtain⟨t,nt,m,e⟩:=h.aa
  exact⟨t,nt,m,by rw[Zaa.Zah (by omega)];exact hx.get _ _ (by omega) (by omega) e⟩
 ·obtain⟨t,nt,m,e⟩:=h.ab
  exact⟨t,nt,m,by rw[Zaa.Zah (by omega)];exact hx.get _ _ (by omega) (by omega) e⟩
 ·rw[Zaa.Zah n4.symm];exact hO.cell
 ·rw[Zaa.Zah n5.symm];exact hO.row
 ·rw[Zeg,Zpk hf]
  by_cases e:q=p
  ·rw[if_pos e,if_pos e,h.ok.len];rfl
  ·rw[if_neg e,if_neg e];exact hq q
 ·simp[h.ok.len]
 ·simp only[zai,List.length_cons,List.length_nil];omega
 ·intro m hm
  rcases zav.1 hm with hm|hm
  ·exact h.ok.small m hm
  ·rw[zam.1 hm];exact hs
 ·intro j m q hj hp
  have hl:=h.ok.len
  by_cases hjl:j<s.N.length
  ·have e1:(s.N++[n])[j]?=s.N[j]?:=zaC hjl
   have e2:(s.P++[p])[j]?=s.P[j]?:=zaC (by omega)
   exact h.ok.dim j m q (e1.symm.trans hj) (e2.symm.trans hp)
  ·have hjl2:j<(s.N++[n]).length:=(zan.1 hj).1
   simp only[zai,List.length_cons,List.length_nil]at hjl2
   obtain rfl:j=s.N.length:=by omega
   have e1:(s.N++[n])[s.N.length]?=some n:=by simp
   have e2:(s.P++[p])[s.N.length]?=some p:=by rw[<- hl];simp
   have h1:some n=some m:=e1.symm.trans hj
   have h2:some p=some q:=e2.symm.trans hp
   injection h1 with h1
   injection h2 with h2
   rw[<- h1,<- h2];exact hd
set_option maxHeartbeats 4000000 in
theorem ZoK {base mg aid bid oid tk mid:Nat} {x:Shp} {tok:Tok} {a b:List Nod} {most:Int} {f:MSt->Int×Int->MSt×Int} {s:MSt} {D:Nat} (i j:Int) (ha:Prw x a) (hb:Prw x b) (hm:most<=131072) (hD:D<x.sizes.length) (h1:At a D i) (h2:At b D j) (h3:¬(i = -1/\j = -1))
  (hf:lastB x (D:Int)=false->∀s q,s.e=0->At a (D+1) q.1->At b (D+1) q.2->¬(q.1 = -1/\q.2 = -1)->Zqa base mg aid bid oid tk mid x tok a b most f s q)
  (hs:lastB x (D:Int)=false->∀s q,s.e=0->At a (D+1) q.1->At b (D+1) q.2->¬(q.1 = -1/\q.2 = -1)->Zo1 a b (D+1) s (f s q).1):Zqa base mg aid bid oid tk mid x tok a b most (Znh x a b most f) s (i,j):=by
 intro H hM
 obtain⟨M,hMp,hq⟩:=hM.mp
 have h0:=hM.o
 have hfd:=ZbV (vf:=AV.i) ZsH (i,j) M
 have hqp:=hq (i,j)
 have l0:=Zaa.lt h0
 have l1:=Zaa.lt hMp
 cases e:s.P.findIdx? (· == (i,j))with
 | some k =>
  have hR:Znh x a b most f s (i,j)=(s,(k:Int)):=by unfold Znh;rw[e]
  rw[hR]
  rw[e,Option.map_some]at hqp
  rw[hqp]at hfd
  refine Zak hE cf74 (zab rfl) fun Q qr qn=>?_
  have hZ:=an7 h0<|an7 hMp<|an7 @ZsL<|hfd;refine Bz5 ?_
  exact Zaq ⟨.of (by exact AXT),hM.ext (by exact AXT),k,rfl,fun _=>rfl⟩
 | none =>
  rw[e,Option.map_none]at hqp
  rw[hqp]at hfd
  by_cases he:s.e=0
  ·obtain⟨hmx,hmx2⟩:=Zpt h1 h2 h3
   obtain⟨p1,p2,p3⟩:=ha.k.w.bounds
   refine Zak hE cf74 (zab rfl) fun Q qr qn=>?_
   have hZ:=an7 h0<|an7 hMp<|an7 @ZsL<|an7 hfd<|he;refine Bz5 ?_
   have hx0:Zaa.Ext H (H.alloc (.cells [.i i,.i j] 140)):=by exact AXT
   have g3:(H.alloc (.cells [.i i,.i j] 140)).get H.next=some (.cells [.i i,.i j] 140):=Zaa.Zae
   refine Zap.use (ZoO ((hM.ext hx0).aa) ha.k.w i) ?_
   rintro r G1 ⟨hx1,t1,rfl⟩
   have hM1:=(hM.ext hx0).ext hx1
   have h01:=hM1.o
   have g31:=hx1.get _ _ g3
   have hZ:=an7 h01<|g31;refine Bz1 ?_
   refine Zap.use (ZoO hM1.ab hb.k.w j) ?_
   rintro r G2 ⟨hx2,t2,rfl⟩
   have hM2:=hM1.ext hx2
   have h02:=hM2.o
   have g32:=hx2.get _ _ g31
   have e14:∀t n,(ZbD t n).length=14:=fun _ _=>rfl
   have e15:∀t n,(ZbD t n).take 14=ZbD t n:=fun _ _=>rfl
   have e0:∀t n,(ZbD t n)[0]?=some (.i n.dim):=fun _ _=>rfl
   have l2:=Zaa.lt h02
   have l3:=Zaa.lt g32
   have ed:∀t n,(ZbD t n).drop 14=[]:=fun _ _=>rfl
   generalize hX:Zm3 a i=X at *
   generalize hY:Zm3 b j=Y at *
   have hZ:=an7 h02<|an7 g32<|an7 e14<|an7 e15<|an7 e0<|an7 ed<|hmx;refine Bz1 ?_
   obtain⟨b1,b2,b3,b4⟩:=Zn8 ha h1
   obtain⟨c1,c2,c3,c4⟩:=Zn8 hb h2
   rw[hX]at b1 b2 b3 b4
   rw[hY]at c1 c2 c3 c4
   have hxz:Zaa.Ext G2 (((((G2.alloc (.cells [.i 0,.sl .full [],.i 0,.i 0,.i 0,.i 0,.i 0,.i 0,.i 0,.i 0,.i 0,.i 0,.i 0,.i 0] 115)).alloc (.cells [.i 0,.sl .full [],.i 0,.i 0,.i 0,.i 0,.i 0,.i 0,.i 0,.i 0,.i 0,.i 0,.i 0,.i 0] 115)).set G2.next (.cells (ZbD t1 X) 115)).set (G2.next+1) (.cells (ZbD t2 Y) 115)).alloc (.cells [.i D,.sl .full [],.i 0,.i 0,.i 0,.i 0,.i 0,.i 0,.i 0,.i 0,.i 0,.i 0,.i 0,.i 0] 115)):=by exact AXT
   have g7:(((((G2.alloc (.cells [.i 0,.sl .full [],.i 0,.i 0,.i 0,.i 0,.i 0,.i 0,.i 0,.i 0,.i 0,.i 0,.i 0,.i 0] 115)).alloc (.cells [.i 0,.sl .full [],.i 0,.i 0,.i 0,.i 0,.i 0,.i 0,.i 0,.i 0,.i 0,.i 0,.i 0,.i 0] 115)).set G2.next (.cells (ZbD t1 X) 115)).set (G2.next+1) (.cells (ZbD t2 Y) 115)).alloc (.cells [.i D,.sl .full [],.i 0,.i 0,.i 0,.i 0,.i 0,.i 0,.i 0,.i 0,.i 0,.i 0,.i 0,.i 0] 115)).get G2.next=some (.cells (ZbD t1 X) 115):=by
    rw[Zaa.Zag (by simp only[nx];omega),Zaa.Zah (by omega),Zaa.Zal (by simp only[nx];omega)]
   have g8:(((((G2.alloc (.cells [.i 0,.sl .full [],.i 0,.i 0,.i 0,.i 0,.i 0,.i 0,.i 0,.i 0,.i 0,.i 0,.i 0,.i 0] 115)).alloc (.cells [.i 0,.sl .full [],.i 0,.i 0,.i 0,.i 0,.i 0,.i 0,.i 0,.i 0,.i 0,.i 0,.i 0,.i 0] 115)).set G2.next (.cells (ZbD t1 X) 115)).set (G2.next+1) (.cells (ZbD t2 Y) 115)).alloc (.cells [.i D,.sl .full [],.i 0,.i 0,.i 0,.i 0,.i 0,.i 0,.i 0,.i 0,.i 0,.i 0,.i 0,.i 0] 115)).get (G2.next+1)=some (.cells (ZbD t2 Y) 115):=by
    rw[Zaa.Zag (by simp only[nx];omega),Zaa.Zal (by simp only[nx];omega)]
   have g9:(((((G2.alloc (.cells [.i 0,.sl .full [],.i 0,.i 0,.i 0,.i 0,.i 0,.i 0,.i 0,.i 0,.i 0,.i 0,.i 0,.i 0] 115)).alloc (.cells [.i 0,.sl .full [],.i 0,.i 0,.i 0,.i 0,.i 0,.i 0,.i 0,.i 0,.i 0,.i 0,.i 0,.i 0] 115)).set G2.next (.cells (ZbD t1 X) 115)).set (G2.next+1) (.cells (ZbD t2 Y) 115)).alloc (.cells [.i D,.sl .full [],.i 0,.i 0,.i 0,.i 0,.i 0,.i 0,.i 0,.i 0,.i 0,.i 0,.i 0,.i 0] 115)).get (G2.next+1+1)=some (.cells (Ze0 .full D [] ZcE) 115):=Zaa.Zae (H:=((((G2.alloc _).alloc _).set _ _).set _ _))
   have hM3:=hM2.ext hxz
   have g33:=hxz.get _ _ g32
   have hX3:Zaa.Ext H _:=((hx0.trans hx1).trans hx2).trans hxz
   have hn3:=hX3.next
   have hn2:=hx2.next
   have hn1:=hx1.next
   generalize ((((G2.alloc (.cells [.i 0,.sl .full [],.i 0,.i 0,.i 0,.i 0,.i 0,.i 0,.i 0,.i 0,.i 0,.i 0,.i 0,.i 0] 115)).alloc (.cells [.i 0,.sl .full [],.i 0,.i 0,.i 0,.i 0,.i 0,.i 0,.i 0,.i 0,.i 0,.i 0,.i 0,.i 0] 115)).set G2.next (.cells (ZbD t1 X) 115)).set (G2.next+1) (.cells (ZbD t2 Y) 115)).alloc (.cells [.i D,.sl .full [],.i 0,.i 0,.i 0,.i 0,.i 0,.i 0,.i 0,.i 0,.i 0,.i 0,.i 0,.i 0] 115)=G3 at *
   obtain⟨_,_,_,ge⟩:=hM3.out.ara.eAr
   refine Zap.use (ZlR ge ha.k.w.may) ?_
   rintro r G4 ⟨hx4,t4,rfl⟩
   have g94:=hx4.get _ _ g9
   unfold Ze0 at g94
   have hZ:=g94;refine Bz1 ?_
   refine qcp (Zgq t4 x (D:Int) _ (by omega)) fun k5=>?_
   have hx5:Zaa.Ext G3 (G4.bump k5):=by exact AXT
   have hM5:=hM3.ext hx5
   have h05:=hM5.o
   have g35:=hx5.get _ _ g33
   have g75:=hx5.get _ _ g7
   have g85:=hx5.get _ _ g8
   have g95:=hx5.get _ _ g9
   have hX5:=hX3.trans hx5
   generalize G4.bump k5=G5 at *
   have e1:∀t n,(ZbD t n)[1]?=some (.sl t (rL n.lists)):=fun _ _=>rfl
   have l5:=Zaa.lt h05
   have l9:=Zaa.lt g95
   obtain⟨T,hT⟩:∃T:Nat,max X.lists.length Y.lists.length=T:=⟨_,rfl⟩
   have hT4:T<=4:=by omega
   have ifT:(if (Y.lists.length:Int) > (X.lists.length:Int) then (Y.lists.length:Int) else (X.lists.length:Int))=(T:Int):=by split<;>omega
   have hZ:=an7 g75<|an7 g85<|an7 e1<|ifT;refine Bz3 ?_
   have hR:Znh x a b most f s (i,j)=ZnQ x most D (i,j) (Znj x f D (Zm4 x f D s (Zm7 X Y T)).1 0 (ZnV X i) (ZnV Y j)) (Zm4 x f D s (Zm7 X Y T)).2:=by
    unfold Znh ZnQ
    rw[e]
    simp only[hX,hY,hmx2,hT]
    exact if_neg (by simp[he])
   rw[hR]at qr qn
   have hsub:=Zp9 (s:=s) ha hb h1 h2 h3 hs T
   rw[hX,hY]at hsub
   have hKm:∀t∈Zm7 X Y T,t.length<=400:=fun t ht=>by
    unfold Zm7 at ht
    obtain⟨k,_,rfl⟩:=zat.1 ht
    have:=Zns ((X.lists.getD k []).length+(Y.lists.getD k []).length) (X.lists.getD k []) (Y.lists.getD k [])
    have:=b2 k
    have:=c2 k
    omega
   generalize hKS:Zm7 X Y T=KS at *
   have hKl:KS.length=T:=by rw[<- hKS];simp[Zm7]
   have hKg:∀k (h:k<KS.length),KS[k]=Zm2 ((X.lists.getD k []).length+(Y.lists.getD k []).length) (X.lists.getD k []) (Y.lists.getD k []):=fun k h=>by
    subst hKS;simp[Zm7]
   generalize hbl:lastB x (D:Int)=bl at *
   obtain⟨Mp5,hMp5,_⟩:=hM5.mp
   have lo5:=Zaa.lt hM5.out.cell
   have lt5:=Zaa.lt hM5.out.row
   have lm5:=Zaa.lt hMp5
   have lg5:=Zaa.lt h05
   have lo0:=Zaa.lt hM.out.cell
   have lt0:=Zaa.lt hM.out.row
   have hnn:∀k∈[H.next,G2.next,G2.next+1,G2.next+1+1,G5.next],k ∉ [mg,oid,tk,mid]:=fun k hk=>by
    simp only[zal,zaE,or_false]at hk ⊢
    omega
   refine ZbJ (N:=T) (fun k F S=>Fr.get F 67=.i (k:Int)/\Fr.get F 66=.i (T:Int)/\Fr.get F 0=.ptr mg 0/\Fr.get F 3=.ptr H.next 0/\Fr.get F 7=.ptr G2.next 0/\Fr.get F 8=.ptr (G2.next+1) 0/\Fr.get F 9=.ptr (G2.next+1+1) 0/\Fr.get F 10=.b bl /\
    ∃s' ts,Mrg base mg aid bid oid tk mid x tok a b most s' S/\MNodI mg oid tk mid H.next G2.next (G2.next+1) (G2.next+1+1) G5.next i j t1 t2 X Y D ts H S/\ts.length=k/\(Zm4 x f D s KS).1=(Zm4 x f D s' (KS.drop k)).1/\((Zm4 x f D s KS).1.e=0->(Zm4 x f D s KS).2=ts.map (·.2)++(Zm4 x f D s' (KS.drop k)).2)) (by unfold maxLen;omega) (fun k F G h=>⟨h.1,h.2.1⟩)
    ((GStep.fr (F':=[(67,.i ((0:Nat):Int)),(66,.i (T:Int)),(0,.ptr mg 0),(3,.ptr H.next 0),(7,.ptr G2.next 0),(8,.ptr (G2.next+1) 0),(9,.ptr (G2.next+1+1) 0),(10,.b bl)]) (by simp[Fr.get,Fr.put])).trans (GStep.ZdO (G2.next+1+1) 1 115 120 1 g95 rfl)) ?_ ?_ ?_
   ·refine⟨rfl,rfl,rfl,rfl,rfl,rfl,rfl,rfl,s,[],?_,?_,rfl,rfl,fun _=>rfl⟩
    ·exact(hM.set hM5 (by omega)).ext (Zaa.Ext.alloc (Zaa.Ext.refl _))
    ·have l35:=Zaa.lt g35
     refine⟨(((ZcD.of hX5).set (.inr (by omega))).trans (ZcD.of (Zaa.Ext.alloc (Zaa.Ext.refl _)))),?_,?_,?_,?_,Zaa.Zae (H:=G5.set _ _)⟩
     ·rw[Zaa.Zag (by simp only[nx];omega),Zaa.Zah (by omega)];exact g35
     ·rw[Zaa.Zag (by simp only[nx];omega),Zaa.Zah (by omega)];exact g75
     ·rw[Zaa.Zag (by simp only[nx];omega),Zaa.Zah (by omega)];exact g85
     ·rw[Zaa.Zag (by simp only[nx];omega),Zaa.Zal l9];rfl
   ·rintro k F S hk ⟨f67,f66,f0,f3,f7,f8,f9,f10,s',ts,hMS,hN,hts,hr1,hr2⟩
    have hkK:k<KS.length:=by omega
    have g7:=hN.g7
    have g8:=hN.g8
    have g9:=hN.g9
    have lg9:=Zaa.lt g9
    unfold Ze0 at g9
    have hL:∀G,Mrg base mg aid bid oid tk mid x tok a b most s' G->Zay Tryz.prog 115 [.ptr mg 0,.b bl,.sl .no (rC (X.lists.getD k [])),.sl .no (rC (Y.lists.getD k []))] G (fun r H'=>ZcD [mg,oid,tk,mid] G H'/\Mrg base mg aid bid oid tk mid x tok a b most (Zm9 x f D s' KS[k]).1 H'/\∃l to,r=.sl to (rC l)/\((Zm9 x f D s' KS[k]).1.e=0->l=(Zm9 x f D s' KS[k]).2)):=fun G hG=>by
     rw[hKg k hkK,<- hbl]
     refine ZpG hG (by have:=b2 k;omega) (by have:=c2 k;omega) (fun c hc=>?_) (fun hlb s2 u v hs2 huv=>?_)
     ·rcases hc with hc|hc
      ·have:=b3 k c hc;exact⟨this.1,this.2.1,this.2.2.1⟩
      ·have:=c3 k c hc;exact⟨this.1,this.2.1,this.2.2.1⟩
     ·rw[hbl]at hlb
      have hn1:noC.child = -1:=rfl
      rw[<- hX,<- hY]at huv
      rcases huv with⟨hu,hv⟩|⟨hu,rfl⟩|⟨rfl,hv⟩
      ·obtain⟨a1,a2⟩:=ZnI ha h1 (hbl.trans hlb) hu
       obtain⟨a3,a4⟩:=ZnI hb h2 (hbl.trans hlb) hv
       exact hf hlb s2 _ hs2 a1 a3 (fun h=>a2 h.1)
      ·obtain⟨a1,a2⟩:=ZnI ha h1 (hbl.trans hlb) hu
       exact hf hlb s2 _ hs2 a1 (.inl hn1) (fun h=>a2 h.1)
      ·obtain⟨a3,a4⟩:=ZnI hb h2 (hbl.trans hlb) hv
       exact hf hlb s2 _ hs2 (.inl hn1) a3 (fun h=>a4 h.2)
    have hZ:=an7 f67<|an7 f66<|an7 f0<|an7 f3<|an7 f7<|an7 f8<|an7 f9<|an7 f10<|an7 g7<|an7 g8<|an7 g9<|an7 e14<|e15;refine Bz1 ?_
    refine qcp (Zoi t1 X k _ (by omega)) fun k6=>?_
    have hZ:=an7 f67<|an7 f66<|an7 f0<|an7 f3<|an7 f7<|an7 f8<|an7 f9<|an7 f10<|an7 g7<|an7 g8<|an7 g9<|an7 e14<|e15;refine Bz1 ?_
    refine qcp (Zoi t2 Y k _ (by omega)) fun k7=>?_
    have hZ:=an7 f67<|an7 f66<|an7 f0<|an7 f3<|an7 f7<|an7 f8<|an7 f9<|an7 f10<|an7 g7<|an7 g8<|an7 g9<|an7 e14<|e15;refine Bz1 ?_
    have hS2:Zaa.Ext S ((S.bump k6).bump k7):=by exact AXT
    refine Zap.use (hL _ (hMS.ext hS2)) ?_
    rintro r S2 ⟨hx6,hM6,l,to,rfl,hl⟩
    have hN6:=hN.mono ((ZcD.of hS2).trans hx6) hnn
    have g96:=hN6.g9
    have gt6:=hN6.gt
    have lg6:=Zaa.lt g96
    have lt6:=Zaa.lt gt6
    unfold Ze0 at g96
    have la1:ZaE 1 (rLt ts)=true:=ZaU (f:=fun p:Tok×List Cel=>[AV.sl p.1 (rC p.2)]) (fun _=>rfl) ts
    have la2:ZaE 1 [[AV.sl to (rC l)]]=true:=rfl
    have lm1:ts.length+1<=maxLen:=by unfold maxLen;omega
    have lm2:(ts.length+1) * 24<=140737488355328:=by omega
    obtain⟨q1,q2⟩:=Zpv hkK hr1 hr2 hl
    have hZ:=an7 f67<|an7 f66<|an7 f0<|an7 f3<|an7 f7<|an7 f8<|an7 f9<|an7 f10<|an7 g96<|an7 gt6<|an7 la1<|an7 la2<|an7 lm1<|lm2;refine Bz3 ?_
    refine⟨_,ts++[(to,l)],hM.set (hM.set hM6 (by omega)) (by omega),⟨(hN6.ext.set (.inr (by omega))).set (.inr (by omega)),?_,?_,?_,?_,?_⟩,by simp[hts],q1,fun h=>by rw[q2 h];simp⟩
    ·rw[Zaa.Zah (by omega),Zaa.Zah (by omega)];exact hN6.g3
    ·rw[Zaa.Zah (by omega),Zaa.Zah (by omega)];exact hN6.g7
    ·rw[Zaa.Zah (by omega),Zaa.Zah (by omega)];exact hN6.g8
    ·rw[Zaa.Zal (by simp only[nx];omega)]
     have hap:rLt (ts++[(to,l)])=rLt ts++[[.sl to (rC l)]]:=zaV
     unfold Ze0
     rw[hap]
    ·rw[Zaa.Zah (by omega),Zaa.Zal (by omega),zai];rfl
   ·rintro F S ⟨f67,f66,f0,f3,f7,f8,f9,f10,s',ts,hMS,hN,hts,hr1,hr2⟩
    have hKd:KS.drop T=[]:=List.drop_eq_nil_iff.2 (by omega)
    rw[hKd]at hr1 hr2
    have hr1:(Zm4 x f D s KS).1=s':=hr1
    have hr2:s'.e=0->(Zm4 x f D s KS).2=ts.map (·.2):=fun h=>(hr2 (by rw[hr1];exact h)).trans (zaI _)
    rw[hr1]at qr hsub
    have h0S:=hMS.o
    have g3:=hN.g3
    have g7:=hN.g7
    have g8:=hN.g8
    have g9:=hN.g9
    have lg9:=Zaa.lt g9
    unfold Ze0 at g9
    by_cases he2:s'.e=0
    ·have hz:∀t n,((ZbD t n).drop 2).take 12=ZbE n.all:=fun _ _=>rfl
     have hzi:∀l:List Nod,∀i,(i != -1)=false->(Zm3 l i).all.agg=noC.agg:=fun l i h=>by
      have h:i = -1:=by simpa using h
      rw[h,ZnH];rfl
     have hAt:∀{l:List Nod} {i:Int},Prw x l->At l D i->bl=false->At l (D+1) (Zoc (Zm3 l i).all (i != -1))/\(Zoc (Zm3 l i).all (i != -1) = -1->i = -1):=fun {l i} hl hi hb=>by
      by_cases h:i = -1
      ·subst h;exact⟨.inl rfl,fun _=>rfl⟩
      ·have e1:(i != -1)=true:=by simpa using h
       have e2:Zoc (Zm3 l i).all (i != -1)=(Zm3 l i).all.child:=by rw[e1];rfl
       obtain⟨hm,_,_⟩:=ZnC hi h
       have:=hl.allc _ hm
       rw[e2]
       exact⟨ZoV hl hi h (hbl.trans hb) (zbp _ (by simp)),fun h=>by omega⟩
     have hC:Zay Tryz.prog 117 [.ptr mg 0,.b bl,.i 0,.agg (ZbE X.all++[.b (i != -1)]),.agg (ZbE Y.all++[.b (j != -1)])] S (fun r H'=>ZcD [mg,oid,tk,mid] S H'/\Mrg base mg aid bid oid tk mid x tok a b most (Znj x f D s' 0 (ZnV X i) (ZnV Y j)).1 H'/\∃c,r=.agg (ZbE c)/\((Znj x f D s' 0 (ZnV X i) (ZnV Y j)).1.e=0->c=(Znj x f D s' 0 (ZnV X i) (ZnV Y j)).2)):=by
      have:=Zos (key:=0) (f:=f) (d:=D) (c1:=X.all) (c2:=Y.all) (b1:=i != -1) (b2:=j != -1) hMS he2 (fun hlb=>?_) b4 c4 (by rw[<- hX];exact hzi a i) (by rw[<- hY];exact hzi b j)
      ·rw[hbl,Zp7,Zp7]at this;exact this
      ·rw[hbl]at hlb
       obtain⟨a1,a2⟩:=hAt ha h1 hlb
       obtain⟨a3,a4⟩:=hAt hb h2 hlb
       rw[hX]at a1 a2
       rw[hY]at a3 a4
       exact hf hlb s' _ he2 a1 a3 (fun h=>h3 ⟨a2 h.1,a4 h.2⟩)
     have z1:∀c,(ZbE c++[AV.sc (Value.bool false)]).length=13:=fun _=>rfl
     have z2:∀c,(ZbE c++[AV.sc (Value.bool false)]).take 12=ZbE c:=fun _=>rfl
     have z3:∀c,(ZbE c++[AV.sc (Value.bool false)]).drop 13=[]:=fun _=>rfl
     have hZ:=an7 f67<|an7 f66<|an7 f0<|an7 f3<|an7 f7<|an7 f8<|an7 f9<|an7 f10<|an7 h0S<|an7 g3<|an7 g7<|an7 g8<|an7 g9<|an7 he2<|an7 hz<|an7 z1<|an7 z2<|z3;refine Bz5 ?_
     refine Zap.use hC ?_
     rintro r S2 ⟨hx6,hM6,c,rfl,hc⟩
     have hN6:=hN.mono hx6 hnn
     have h06:=hM6.o
     have g96:=hN6.g9
     have g36:=hN6.g3
     have lg6:=Zaa.lt g96
     unfold Ze0 at g96
     generalize ht:Znj x f D s' 0 (ZnV X i) (ZnV Y j)=t at *
     by_cases he3:t.1.e=0
     ·obtain⟨n,hn⟩:∃n:Nod,n=⟨D,ts.map (·.2),c⟩:=⟨_,rfl⟩
      have hT3:ZnQ x most D (i,j) t (Zm4 x f D s KS).2=(if ZbF x most t.1.N n≠0 then (⟨t.1.N,t.1.P,ZbF x most t.1.N n⟩,0) else (⟨t.1.N++[n],t.1.P++[(i,j)],0⟩,(t.1.N.length:Int))):=by
       rw[hr2 he2,hn,hc he3];unfold ZnQ;exact if_neg (by simp[he3])
      rw[hT3]at qr
      have hsn:Zdb n:=by
       have hm4:∀l∈n.lists,l.length<=400:=fun l hl=>by
        rw[hn,<- hr2 he2]at hl
        exact ZoQ KS s hKm l hl
       have hl4:n.lists.length=T:=by rw[hn];simp[hts]
       have:=ZqE hm4
       exact⟨by omega,by rw[hl4]at this;omega,fun l hl=>by have:=hm4 l hl;omega⟩
      have hff:t.1.P.findIdx? (· == (i,j))=none:=by
       rw[List.findIdx?_eq_none_iff]at e ⊢
       intro q hq
       rcases hsub q hq with h|h
       ·exact e q h
       ·rw[beq_eq_false_iff_ne]
        rintro rfl
        have hdd:dimP a b (i,j)=D:=(Zpt h1 h2 h3).2
        omega
      have hlen:t.1.N.length<=200000:=by have:=hM6.ok.few;omega
      have yd:(ZbE ZcE).drop 12=[]:=rfl
      have yl:(ZbE c).length=12:=rfl
      have yt:(ZbE c).take 12=ZbE c:=rfl
      obtain⟨S3,hS3⟩:∃S3,S3=S2.set (G2.next+1+1) (.cells (.i D :: .sl (.own G5.next) (rLt ts) :: ZbE c) 115):=⟨_,rfl⟩
      have hM7:Mrg base mg aid bid oid tk mid x tok a b most t.1 S3:=by rw[hS3];exact hM.set hM6 (by omega)
      have hN7:ZcD [mg,oid,tk,mid] H S3:=by rw[hS3];exact hN6.ext.set (.inr (by omega))
      have g37:S3.get H.next=some (.cells [.i i,.i j] 140):=by rw[hS3,Zaa.Zah (by omega)];exact g36
      have h07:=hM7.o
      obtain⟨M7,hMp7,hq7⟩:=hM7.mp
      have l37:=Zaa.lt g37
      have hoid:=Zaa.lt hM.out.cell
      have htk:=Zaa.lt hM.out.row
      have hA:Zay Tryz.prog 77 [.ptr oid 0,.agg (.i D :: .sl (.own G5.next) (rLt ts) :: ZbE c)] S3 (AddQ x most t.1.N n oid tk tok S3):=by
       refine Zay.wknA (Zlq .no n hM7.out ha.k.w.may hlen hsn) rfl fun k u v hu hv=>?_
       match k with
       | 0=>simp at hu hv;subst hu hv;exact .refl _
       | 1 =>
        simp only[List.getElem?_cons_zero,List.getElem?_cons_succ,zac]at hu hv
        subst hu hv
        rw[hn]
        exact Zp6 _ _ _ _
       | k+2=>simp at hu
      by_cases ea:ZbF x most t.1.N n=0
      ·rw[if_neg (by simp[ea])]at qr
       have hs7:=ZcH (vf:=AV.i) ZsH (i,j) (t.1.N.length:Int) M7
       have hZ:=an7 f67<|an7 f66<|an7 f0<|an7 f3<|an7 f7<|an7 f8<|an7 f9<|an7 f10<|an7 h06<|an7 g96<|an7 he3<|an7 yd<|an7 yl<|yt;refine Bz5 ?_
       rw[<- hS3]
       refine Zap.use hA ?_
       rintro r S4 (⟨ne,rfl,hx4⟩|⟨_,rfl,hO,hx4⟩)
       ·exact absurd ea ne
       ·have n1:mg≠oid:=fun e=>by have:=hM7.out.cell;rw[<- e,h07]at this;simp[Zk5]at this
        have n2:mg≠tk:=fun e=>by have:=hM7.out.row;rw[<- e,h07]at this;cases this
        have n3:mid≠oid:=fun e=>by have:=hM7.out.cell;rw[<- e,hMp7]at this;cases this
        have n4:mid≠tk:=fun e=>by have:=hM7.out.row;rw[<- e,hMp7]at this;cases this
        have h08:=hx4.get _ _ n1 n2 h07
        have hMp8:=hx4.get _ _ n3 n4 hMp7
        have g38:=hx4.get _ _ (by omega) (by omega) g37
        have hZ:=an7 f67<|an7 f66<|an7 f0<|an7 f3<|an7 f7<|an7 f8<|an7 f9<|an7 f10<|an7 h08<|an7 hMp8<|an7 g38<|an7 @ZsL<|hs7;refine Bz1 ?_
        have hd:n.dim=max (Zm3 a i).dim (Zm3 b j).dim:=by rw[hn,(Zpt h1 h2 h3).2]
        exact Zaq ⟨⟨zaB hN7.next hx4.next,fun k o hk h=>by
         simp only[zal,zaE,or_false,not_or]at hk
         rw[Zaa.Zah hk.2.2.2]
         exact hx4.get _ _ hk.2.1 hk.2.2.1 (hN7.get _ _ (by simp only[zal,zaE,or_false,not_or];exact hk) h)⟩,hM7.add he3 hx4 hO hMp7 hq7 hff ea hsn hd,_,rfl,fun _=>rfl⟩
      ·rw[if_pos ea]at qr
       have d2:(ZbF x most t.1.N n != 0)=true:=by simpa using ea
       have hZ:=an7 f67<|an7 f66<|an7 f0<|an7 f3<|an7 f7<|an7 f8<|an7 f9<|an7 f10<|an7 h06<|an7 g96<|an7 he3<|an7 yd<|an7 yl<|yt;refine Bz5 ?_
       rw[<- hS3]
       refine Zap.use hA ?_
       rintro r S4 (⟨_,rfl,hx4⟩|⟨ez,rfl,hO,hx4⟩)
       ·have h08:=hx4.get _ _ h07
        have hM8:=hM7.ext hx4
        have hZ:=an7 f67<|an7 f66<|an7 f0<|an7 f3<|an7 f7<|an7 f8<|an7 f9<|an7 f10<|an7 h08<|d2;refine Bz1 ?_
        exact Zaq ⟨(hN7.trans (ZcD.of hx4)).set (.inl (by simp)),hM8.err _,0,rfl,fun h=>absurd h ea⟩
       ·exact absurd ez ea
     ·have d2:(t.1.e != 0)=true:=by simpa using he3
      have hT2:∀ls,ZnQ x most D (i,j) t ls=(t.1,0):=fun ls=>if_pos he3
      rw[hT2]at qr
      have hZ:=an7 f67<|an7 f66<|an7 f0<|an7 f3<|an7 f7<|an7 f8<|an7 f9<|an7 f10<|an7 h06<|an7 g96<|d2;refine Bz1 ?_
      exact Zaq ⟨hN6.ext.set (.inr (by omega)),hM.set hM6 (by omega),0,rfl,fun _=>rfl⟩
    ·have d1:(s'.e == 0)=false:=by simpa using he2
     have d2:(s'.e != 0)=true:=by simpa using he2
     have hT2:∀c d ls,ZnQ x most D (i,j) (Znj x f D s' 0 c d) ls=(s',0):=fun c d ls=>by rw[ZpO he2];exact if_pos he2
     rw[hT2]at qr
     have hZ:=an7 f67<|an7 f66<|an7 f0<|an7 f3<|an7 f7<|an7 f8<|an7 f9<|an7 f10<|an7 h0S<|an7 g3<|an7 g7<|an7 g8<|an7 g9<|an7 d1<|d2;refine Bz1 ?_
     exact Zaq ⟨hN.ext,hMS,0,rfl,fun _=>rfl⟩
  ·have d1:(s.e != 0)=true:=by simpa using he
   have hR:Znh x a b most f s (i,j)=(s,0):=by unfold Znh;rw[e];exact if_pos he
   rw[hR]
   refine Zak hE cf74 (zab rfl) fun Q qr qn=>?_
   have hZ:=an7 h0<|an7 hMp<|an7 @ZsL<|an7 hfd<|d1;refine Bz5 ?_
   exact Zaq ⟨.of (by exact AXT),hM.ext (by exact AXT),0,rfl,fun _=>rfl⟩
theorem Zow {base mg aid bid oid tk mid:Nat} {x:Shp} {tok:Tok} {a b:List Nod} {most:Int} (ha:Prw x a) (hb:Prw x b) (hm:most<=131072) :
  ∀(n D:Nat) (s:MSt) (p:Int×Int),D+n+1=x.sizes.length->At a D p.1->At b D p.2->¬(p.1 = -1/\p.2 = -1)->Zqa base mg aid bid oid tk mid x tok a b most (Zoy x a b most (n+1)) s p/\Zo1 a b D s (Zoy x a b most (n+1) s p).1
 | 0,D,s,(i,j),hD,h1,h2,h3=>by
  have hl:lastB x (D:Int)=true:=by unfold lastB;simp;omega
  rw[ZnK]
  exact⟨ZoK i j ha hb hm (by omega) h1 h2 h3 (fun h=>by rw[hl]at h;cases h) (fun h=>by rw[hl]at h;cases h),Zo8 ha hb h1 h2 h3 (fun h=>by rw[hl]at h;cases h)⟩
 | n+1,D,s,(i,j),hD,h1,h2,h3=>by
  have ih:=Zow (base:=base) (mg:=mg) (aid:=aid) (bid:=bid) (oid:=oid) (tk:=tk) (mid:=mid) (tok:=tok) ha hb hm n (D+1)
  rw[ZnK]
  exact⟨ZoK i j ha hb hm (by omega) h1 h2 h3 (fun _ s q _ q1 q2 q3=>(ih s q (by omega) q1 q2 q3).1) (fun _ s q _ q1 q2 q3=>(ih s q (by omega) q1 q2 q3).2),Zo8 ha hb h1 h2 h3 (fun _ s q _ q1 q2 q3=>(ih s q (by omega) q1 q2 q3).2)⟩
theorem Zay.gstep {P:Program} {f:FuncId} {args:List AV} {H H1:Zaa} {R:AV->Zaa->Prop} (hg:GStep [] H [] H1) (h:Zay P f args H1 R):Zay P f args H R :=
 ⟨h.1,fun g w vs hW hV=>by
  obtain⟨g1,_,hW1,hS⟩:=hg 0 g w ⟨#[],[]⟩ ⟨rfl,.nil,fun t=>.any _⟩ hW
  exact(h.2 g1 w vs hW1 (hV.mono hS.le)).mono fun e w' hh=>hh.imp (fun⟨v,r,H',g',h1,h2,h3,h4,h5⟩=>⟨v,r,H',g',h1,h2,h3,h4,hS.trans h5⟩) fun⟨u,H',g',h1,h2,h3,h4⟩=>⟨u,H',g',h1,h2,h3,hS.trans h4⟩⟩
def ZoF (x:Shp) (a b:List Nod) (most:Int):MSt:=if a=[]/\b=[] then ⟨[],[],0⟩ else (Zoy x a b most x.sizes.length ⟨[],[],0⟩ ((a.length:Int) - 1,(b.length:Int) - 1)).1
def Zn0 (x:Shp) (a b:List Nod) (most:Int) (H:Zaa) (r:AV) (H':Zaa):Prop :=
 Zaa.Ext H H'/\if Zlb x a=true/\Zlb x b=true/\0<=most/\most<=131072 then (if (ZoF x a b most).e≠0 then r=.tup [.sc (.pointer none),.i (ZoF x a b most).e] else ∃id,r=.tup [.ptr id 0,.i 0]/\ArA H' id x (ZoF x a b most).N/\MOk a b most (ZoF x a b most)) else r=.tup [.sc (.pointer none),.i 2]
theorem top_at {x:Shp} {l:List Nod} (h:Zlb x l=true):At l 0 ((l.length:Int) - 1):=by
 unfold Zlb at h
 by_cases e:l.length=0
 ·exact .inl (by omega)
 ·rw[if_neg e,zax]at h
  exact .inr ⟨by omega,by omega,by simpa using h.1⟩
theorem Zqb {H HD:Zaa} {aid bid oid mg mid:Nat} {x:Shp} {tok:Tok} {a b:List Nod} {most:Int} (ga:ArA H aid x a) (gb:ArA H bid x b) (ha:Prw x a) (hb:Prw x b) (ha1:Zlb x a=true) (hb1:Zlb x b=true) (hm:0<=most/\most<=131072) (hxE:Zaa.Ext H HD)
  (go:HD.get oid=some (.cells (eAr x tok (.sl .full []) most) 117)) (gm:HD.get mg=some (.cells [.ptr aid 0,.ptr bid 0,.ptr oid 0,.mp mid,.i 0] 138)) (gd:HD.get mid=some (.map (.row [.int .i64,.int .i64]) [] false)) (l1:H.next<=oid) (l2:H.next<=mg) (l3:H.next<=mid) (hne:¬(a=[]/\b=[])) :
  Zay Tryz.prog 74 [.ptr mg 0,.agg [.i ((a.length:Int) - 1),.i ((b.length:Int) - 1)]] HD (fun r G=>Zaa.Ext H G/\∃tk,Mrg H.next mg aid bid oid tk mid x tok a b most (ZoF x a b most) G):=by
 have n1:oid≠mg:=fun e=>by rw[e,gm]at go;simp[eAr]at go
 have n2:oid≠mid:=fun e=>by rw[e,gd]at go;cases go
 have lo2:=Zaa.lt go
 have lm2:=Zaa.lt gm
 have ld2:=Zaa.lt gd
 have p1:=ha.k.w.bounds.1
 obtain⟨_,_,_,ga0⟩:=ga.eAr
 obtain⟨_,_,_,gb0⟩:=gb.eAr
 have hxn:=hxE.next
 have hT:ZoF x a b most=(Zoy x a b most x.sizes.length ⟨[],[],0⟩ ((a.length:Int) - 1,(b.length:Int) - 1)).1:=if_neg hne
 have hM:Mrg H.next mg aid bid oid HD.next mid x tok a b most ⟨[],[],0⟩ ((HD.set oid (.cells ((eAr x tok (.sl .full []) most).set 2 (.sl (.own HD.next) [])) 117)).alloc (.tok 0 115 14)):=by
  have hxF:Zaa.Ext H ((HD.set oid (.cells ((eAr x tok (.sl .full []) most).set 2 (.sl (.own HD.next) [])) 117)).alloc (.tok 0 115 14)):=(hxE.set (by omega)).alloc
  refine⟨?_,ga.ext hxF,gb.ext hxF,⟨by omega,?_,Zaa.Zae (H:=HD.set _ _)⟩,⟨[],?_,fun p=>rfl⟩,Zaa.lt ga0,Zaa.lt gb0,by omega,by omega,by omega,by omega,⟨rfl,hm.1,fun n h=>by simp at h,fun j n p h=>by simp at h⟩⟩
  ·rw[Zaa.Zag (by simp only[nx];omega),Zaa.Zah (by omega)];exact gm
  ·rw[Zaa.Zag (by simp only[nx];omega),Zaa.Zal lo2];rfl
  ·rw[Zaa.Zag (by simp only[nx];omega),Zaa.Zah (by omega)];exact gd
 refine Zay.gstep (GStep.ZdO oid 2 117 115 14 go rfl) ?_
 obtain⟨n,hn⟩:∃n,x.sizes.length=n+1:=⟨x.sizes.length - 1,by omega⟩
 rw[hT,hn]
 have hK:=(Zow (base:=H.next) (mg:=mg) (aid:=aid) (bid:=bid) (oid:=oid) (tk:=HD.next) (mid:=mid) (tok:=tok) ha hb hm.2 n 0 ⟨[],[],0⟩ ((a.length:Int) - 1,(b.length:Int) - 1) (by omega) (top_at ha1) (top_at hb1) (fun h=>hne ⟨zbl.1 (by have:=h.1;omega),zbl.1 (by have:=h.2;omega)⟩)).1
 refine(hK _ hM).mono fun r G h=>⟨⟨?_,fun i o ho=>?_⟩,HD.next,h.2.1⟩
 ·have:=h.1.next
  simp only[nx]at this
  omega
 ·have hi:=Zaa.lt ho
  refine h.1.get i o (by simp only[zal,zaE,or_false,not_or];omega) ?_
  rw[Zaa.Zag (by simp only[nx];omega),Zaa.Zah (by omega)]
  exact hxE.get _ _ ho
set_option maxHeartbeats 4000000 in
theorem Zok {H:Zaa} {aid bid:Nat} {x:Shp} {a b:List Nod} (most:Int) (ga:ArA H aid x a) (gb:ArA H bid x b) (ha:Prw x a) (hb:Prw x b):Zay Tryz.prog 32 [.ptr aid 0,.ptr bid 0,.i most] H (Zn0 x a b most H):=by
 have wa:=ha.k.w
 have wb:=hb.k.w
 obtain⟨p1,p2,p3⟩:=wa.bounds
 have hla:=wa.len
 have hlb:=wb.len
 obtain⟨_,_,m1,m2,_⟩:=Zby wa.may
 have dm:(x.measures == 0)=false:=by rw[beq_eq_false_iff_ne];omega
 have dx:decide (x=x)=true:=decide_eq_true rfl
 obtain⟨_,_,_,ga0⟩:=ga.eAr
 obtain⟨_,_,_,gb0⟩:=gb.eAr
 refine Zak hE cf32 (zab rfl) fun Q qr qn=>?_
 refine Bz0 ?_
 refine Zap.use (ZlR ga0 wa.may) ?_
 rintro r H1 ⟨hx1,t1,rfl⟩
 have hZ:=dm;refine Bz1 ?_
 refine Zap.use (ZlR (hx1.get _ _ gb0) wa.may) ?_
 rintro r H2 ⟨hx2,t2,rfl⟩
 have hx2:=hx1.trans hx2
 have hZ:=dm;refine Bz1 ?_
 refine Zap.use (ZlR (hx2.get _ _ ga0) wa.may) ?_
 rintro r H3 ⟨hx3,t3,rfl⟩
 have hx3:=hx2.trans hx3
 refine Bz0 ?_
 refine Zap.use (ZlR (hx3.get _ _ gb0) wa.may) ?_
 rintro r H4 ⟨hx4,t4,rfl⟩
 have hx4:=hx3.trans hx4
 refine Bz0 ?_
 refine qcp (Zpz t3 t4 x x _ (by omega) (fun s hs=>by have:=p3 s hs;omega)) fun k1=>?_
 have hx5:Zaa.Ext H (H4.bump k1):=by exact AXT
 generalize H4.bump k1=H5 at *
 have hZ:=dx;refine Bz1 ?_
 have hwa:=bfd (Zlb x a)
 rcases hwa with ha1|ha1
 ·have hR:∀r H',Zaa.Ext H H'->r=.tup [.sc (.pointer none),.i 2]->Zn0 x a b most H r H':=fun r H' h e=>⟨h,by rw[if_neg (by simp[ha1])];exact e⟩
  refine qcp (Znm (ga.ext hx5) wa) fun k2=>?_
  have hZ:=ha1;refine Bz1 ?_
  exact Zaq (hR _ _ (by exact AXT) rfl)
 refine qcp (Znm (ga.ext hx5) wa) fun k2=>?_
 have hx6:Zaa.Ext H (H5.bump k2):=by exact AXT
 generalize H5.bump k2=H6 at *
 have hZ:=ha1;refine Bz1 ?_
 have hwb:=bfd (Zlb x b)
 rcases hwb with hb1|hb1
 ·have hR:∀r H',Zaa.Ext H H'->r=.tup [.sc (.pointer none),.i 2]->Zn0 x a b most H r H':=fun r H' h e=>⟨h,by rw[if_neg (by simp[hb1])];exact e⟩
  refine qcp (Znm (gb.ext hx6) wb) fun k3=>?_
  have hZ:=hb1;refine Bz1 ?_
  exact Zaq (hR _ _ (by exact AXT) rfl)
 refine qcp (Znm (gb.ext hx6) wb) fun k3=>?_
 have hx7:Zaa.Ext H (H6.bump k3):=by exact AXT
 generalize H6.bump k3=H7 at *
 have hZ:=hb1;refine Bz1 ?_
 refine Zap.use (ZlR (hx7.get _ _ ga0) wa.may) ?_
 rintro r H8 ⟨hx8,t8,rfl⟩
 have hx8:=hx7.trans hx8
 refine Bz0 ?_
 by_cases hm:0<=most/\most<=131072
 ·have hN:Zay Tryz.prog 51 [.agg [.sl t8 (rII x.sizes),.i x.measures],.i most] H8 (fun r H'=>Zaa.Ext H8 H'/\∃id tok,r=.tup [.ptr id 0,.i 0]/\H8.next<=id/\H'.get id=some (.cells (eAr x tok (.sl .full []) most) 117)):=by
   refine Zay.wknA ((Zfe x most H8).mono fun r H' h=>?_) rfl fun i u v hu hv=>?_
   ·unfold NewQ at h
    rw[if_pos ⟨wa.may,hm⟩]at h
    exact h
   ·match i with
    | 0 =>
     simp only[List.getElem?_cons_zero,zac]at hu hv
     subst hu hv
     refine .agg _ _ rfl fun j p q hp hq=>?_
     have hq:([.sl .no (rII x.sizes),.i x.measures]:List AV)[j]?=some q:=hq
     match j with
     | 0=>simp at hp hq;subst hp hq;exact Zqv _ _
     | 1=>simp at hp hq;subst hp hq;exact .refl _
     | j+2=>simp at hp
    | 1=>simp at hu hv;subst hu hv;exact .refl _
    | i+2=>simp at hu
  refine Zap.use hN ?_
  rintro r H9 ⟨hx9,oid,tok,rfl,ho,go⟩
  have hx9':=hx8.trans hx9
  refine Bz0 ?_
  have l9:=hx9.next
  have hn9':=hx9'.next
  have hn8:=hx8.next
  have lo:=Zaa.lt go
  have hx10:Zaa.Ext H9 ((H9.alloc (.map (.row [.int .i64,.int .i64]) [] false)).alloc (.cells [.ptr aid 0,.ptr bid 0,.ptr oid 0,.mp H9.next,.i 0] 138)):=by exact AXT
  have gm:((H9.alloc (.map (.row [.int .i64,.int .i64]) [] false)).alloc (.cells [.ptr aid 0,.ptr bid 0,.ptr oid 0,.mp H9.next,.i 0] 138)).get (H9.next+1)=some (.cells [.ptr aid 0,.ptr bid 0,.ptr oid 0,.mp H9.next,.i 0] 138):=Zaa.Zae (H:=H9.alloc _)
  have gd:((H9.alloc (.map (.row [.int .i64,.int .i64]) [] false)).alloc (.cells [.ptr aid 0,.ptr bid 0,.ptr oid 0,.mp H9.next,.i 0] 138)).get H9.next=some (.map (.row [.int .i64,.int .i64]) [] false):=by
   rw[Zaa.Zag (by simp only[nx];omega)];exact Zaa.Zae
  have hx10':=hx9'.trans hx10
  have go1:=hx10.get _ _ go
  refine Zap.use (Ziu (ga.ext hx10') p1 (by omega)) ?_
  rintro _ HB ⟨rfl,hxB⟩
  refine Bz0 ?_
  refine Zap.use (Ziu (gb.ext (hx10'.trans hxB)) p1 (by omega)) ?_
  rintro _ HC ⟨rfl,hxC⟩
  have gp:(HC.alloc (.cells [.i ((a.length:Int) - 1),.i ((b.length:Int) - 1)] 140)).get HC.next=some (.cells [.i ((a.length:Int) - 1),.i ((b.length:Int) - 1)] 140):=Zaa.Zae
  have hxD:=(hxB.trans hxC).alloc (o:=.cells [.i ((a.length:Int) - 1),.i ((b.length:Int) - 1)] 140)
  have go2:=hxD.get _ _ go1
  have gm2:=hxD.get _ _ gm
  have gd2:=hxD.get _ _ gd
  have hxE:=hx10'.trans hxD
  have hN71:=fun hne=>Zqb ga gb ha hb ha1 hb1 hm hxE go2 gm2 gd2 (by omega) (by omega) (by omega) hne
  by_cases ea:a=[]
  ·have d1:((a.length:Int) - 1 != -1)=false:=by rw[ea];rfl
   by_cases eb:b=[]
   ·have d2:((b.length:Int) - 1 != -1)=false:=by rw[eb];rfl
    have hT:ZoF x a b most=⟨[],[],0⟩:=if_pos ⟨ea,eb⟩
    have hR:∀r H',Zaa.Ext H H'->ArA H' oid x []->r=.tup [.ptr oid 0,.i 0]->Zn0 x a b most H r H':=fun r H' h h2 e=>⟨h,by rw[if_pos ⟨ha1,hb1,hm⟩,hT,if_neg (by simp)];exact⟨oid,e,h2,⟨rfl,hm.1,fun n h=>by simp at h,fun j n p h=>by simp at h⟩⟩⟩
    have hZ:=an7 gp<|an7 d1<|an7 d2<|gm2;refine Bz1 ?_
    exact Zaq (hR _ _ hxE ⟨tok,.full,most,go2⟩ rfl)
   ·have d2:((b.length:Int) - 1 != -1)=true:=by
     have:b.length≠0:=fun h=>eb (zbl.1 h)
     simp;omega
    have hZ:=an7 gp<|an7 d1<|d2;refine Bz1 ?_
    refine Zap.use (hN71 (fun h=>eb h.2)) ?_
    rintro r G ⟨hxG,tk,hMG⟩
    have h0G:=hMG.o
    by_cases he:(ZoF x a b most).e=0
    ·have hR:∀r H',Zaa.Ext H H'->ArA H' oid x (ZoF x a b most).N->r=.tup [.ptr oid 0,.i 0]->Zn0 x a b most H r H':=fun r H' h h2 e=>⟨h,by rw[if_pos ⟨ha1,hb1,hm⟩,if_neg (by simp[he])];exact⟨oid,e,h2,hMG.ok⟩⟩
     have hZ:=an7 h0G<|he;refine Bz1 ?_
     exact Zaq (hR _ _ hxG hMG.out.ara rfl)
    ·have d5:((ZoF x a b most).e != 0)=true:=by simpa using he
     have hR:∀r H',Zaa.Ext H H'->r=.tup [.sc (.pointer none),.i (ZoF x a b most).e]->Zn0 x a b most H r H':=fun r H' h e=>⟨h,by rw[if_pos ⟨ha1,hb1,hm⟩,if_pos he];exact e⟩
     have hZ:=an7 h0G<|d5;refine Bz1 ?_
     exact Zaq (hR _ _ hxG rfl)
  ·have d1:((a.length:Int) - 1 != -1)=true:=by
    have:a.length≠0:=fun h=>ea (zbl.1 h)
    simp;omega
   have hZ:=an7 gp<|d1;refine Bz1 ?_
   refine Zap.use (hN71 (fun h=>ea h.1)) ?_
   rintro r G ⟨hxG,tk,hMG⟩
   have h0G:=hMG.o
   by_cases he:(ZoF x a b most).e=0
   ·have hR:∀r H',Zaa.Ext H H'->ArA H' oid x (ZoF x a b most).N->r=.tup [.ptr oid 0,.i 0]->Zn0 x a b most H r H':=fun r H' h h2 e=>⟨h,by rw[if_pos ⟨ha1,hb1,hm⟩,if_neg (by simp[he])];exact⟨oid,e,h2,hMG.ok⟩⟩
    have hZ:=an7 h0G<|he;refine Bz1 ?_
    exact Zaq (hR _ _ hxG hMG.out.ara rfl)
   ·have d5:((ZoF x a b most).e != 0)=true:=by simpa using he
    have hR:∀r H',Zaa.Ext H H'->r=.tup [.sc (.pointer none),.i (ZoF x a b most).e]->Zn0 x a b most H r H':=fun r H' h e=>⟨h,by rw[if_pos ⟨ha1,hb1,hm⟩,if_pos he];exact e⟩
    have hZ:=an7 h0G<|d5;refine Bz1 ?_
    exact Zaq (hR _ _ hxG rfl)
 ·have hN:Zay Tryz.prog 51 [.agg [.sl t8 (rII x.sizes),.i x.measures],.i most] H8 (fun r H'=>Zaa.Ext H8 H'/\r=.tup [.sc (.pointer none),.i 2]):=by
   refine Zay.wknA ((Zfe x most H8).mono fun r H' h=>?_) rfl fun i u v hu hv=>?_
   ·unfold NewQ at h
    rw[if_neg (fun h=>hm h.2)]at h
    exact h
   ·match i with
    | 0 =>
     simp only[List.getElem?_cons_zero,zac]at hu hv
     subst hu hv
     refine .agg _ _ rfl fun j p q hp hq=>?_
     have hq:([.sl .no (rII x.sizes),.i x.measures]:List AV)[j]?=some q:=hq
     match j with
     | 0=>simp at hp hq;subst hp hq;exact Zqv _ _
     | 1=>simp at hp hq;subst hp hq;exact .refl _
     | j+2=>simp at hp
    | 1=>simp at hu hv;subst hu hv;exact .refl _
    | i+2=>simp at hu
  refine Zap.use hN ?_
  rintro r H9 ⟨hx9,rfl⟩
  refine Bz0 ?_
  have hR:∀r H',Zaa.Ext H H'->r=.tup [.sc (.pointer none),.i 2]->Zn0 x a b most H r H':=fun r H' h e=>⟨h,by rw[if_neg (fun h=>hm h.2.2)];exact e⟩
  exact Zaq (hR _ _ (hx8.trans hx9) rfl)
end Go.Proofs.YtaapiigfmdhobaaGreat
