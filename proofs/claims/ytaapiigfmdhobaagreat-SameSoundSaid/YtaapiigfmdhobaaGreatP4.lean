/- Texts of the walk. -/
import Derived.Test.YtaapiigfmdhobaaGreatP3
import Derived.Test.YtaapiigfmdhobaaGreatMk
import Derived.Test.YtaapiigfmdhobaaGreatMi
import Derived.Test.YtaapiigfmdhobaaGreatP2
import Derived.Test.YtaapiigfmdhobaaGreatMf
namespace Go.Proofs.YtaapiigfmdhobaaGreat
set_option linter.defProp false
set_option linter.unusedSimpArgs false
set_option linter.unusedVariables false
open Go.RowKit
def fcts (x:Shp) (l:List Nod):Nat->List Int->Int->List Fct
 | 0,_,_=>[]
 | n+1,ks,a=>((Zdw l a).lists.headD []).flatMap fun c=>if lastB x (Zdw l a).dim=true then [(ks++[c.key],c.agg)] else fcts x l n (ks++[c.key]) c.child
theorem ZtN {α β:Type} {f g:α->List β}:∀(l:List α),(∀a∈l,f a=g a)->l.flatMap f=l.flatMap g
 | [],_=>rfl
 | a :: l,h=>by rw[zaU,zaU,h a zaf,ZtN l fun b hb=>h b (zad _ hb)]
theorem ZuE {n:Nod} {c:Cel} (h:c∈n.lists.headD []):c∈each n:=by
 unfold each
 cases hl:n.lists with
 | nil=>rw[hl]at h;cases h
 | cons a r=>rw[hl]at h;exact zbp _ (zbc.2 ⟨a,zaf,h⟩)
theorem ZtQ {x:Shp} {l:List Nod} (hd:Down x l) {a:Int} (h0:0<=a) (h1:a<l.length) (hb:lastB x (Zdw l a).dim=false) {c:Cel} (hc:c∈(Zdw l a).lists.headD []):0<=c.child/\c.child<a :=
 Zq8 hd h0 h1 (by unfold chs;rw[hb];exact zaq.2 ⟨c,ZuE hc,rfl⟩)
theorem ZuZ {x:Shp} {l:List Nod} (hd:Down x l):∀(n m:Nat) (ks:List Int) (a:Int),0<=a->a<l.length->a<n->a<m->fcts x l n ks a=fcts x l m ks a
 | 0,_,_,_,_,_,h,_=>by omega
 | _,0,_,_,_,_,_,h=>by omega
 | n+1,m+1,ks,a,h0,h1,h2,h3=>by
  simp only[fcts]
  refine ZtN _ fun c hc=>?_
  split
  ·rfl
  ·rename_i hb
   have:=ZtQ hd h0 h1 (by simpa using hb) hc
   exact ZuZ hd n m _ _ (by omega) (by omega) (by omega) (by omega)
def fct (x:Shp) (l:List Nod) (ks:List Int) (a:Int):List Fct:=fcts x l (a.toNat+1) ks a
def ZtS (x:Shp) (l:List Nod) (a:Int) (ks:List Int) (c:Cel):List Fct:=if lastB x (Zdw l a).dim=true then [(ks++[c.key],c.agg)] else fct x l (ks++[c.key]) c.child
theorem Zuu {x:Shp} {l:List Nod} (hd:Down x l) (ks:List Int) {a:Int} (h0:0<=a) (h1:a<l.length):fct x l ks a=((Zdw l a).lists.headD []).flatMap (ZtS x l a ks):=by
 unfold fct
 simp only[fcts]
 refine ZtN _ fun c hc=>?_
 unfold ZtS
 split
 ·rfl
 ·rename_i hb
  have:=ZtQ hd h0 h1 (by simpa using hb) hc
  exact ZuZ hd _ _ _ _ (by omega) (by omega) (by omega) (by omega)
theorem ZtT {α β:Type} {f:α->List β} {l:List α} {k:Nat} (h:k<l.length):(l.take (k+1)).flatMap f=(l.take k).flatMap f++f l[k]:=by
 rw[zam h,zbJ];simp
def fill (most:Int) (out F:List Fct):List Fct×Int:=if ((out++F).length:Int)<=most then (out++F,0) else ((out++F).take most.toNat,6)
theorem fill_app {most:Int} {out F G:List Fct} (h:(fill most out F).2=0):fill most (fill most out F).1 G=fill most out (F++G):=by
 unfold fill at h ⊢
 split at h
 ·rename_i h1
  rw[if_pos h1]
  simp only[zaM]
 ·cases h
theorem ZvL {most:Int} {out F G:List Fct} (h:(fill most out F).2≠0):fill most out (F++G)=fill most out F:=by
 unfold fill at h ⊢
 split at h
 ·exact absurd rfl h
 ·rename_i h1
  rw[if_neg h1,if_neg (by rw[<- zaM];simp only[zak]at h1 ⊢;omega),<- zaM,zbs (by omega)]
theorem fill_len {most:Int} {out F:List Fct} (h:out.length<=most.toNat):(fill most out F).1.length<=most.toNat:=by
 unfold fill
 split
 ·rename_i h1;simp only;omega
 ·simp only[zaL];omega
def Zut (x:Shp) (l:List Nod) (ks:List Int) (a:Int) (most:Nat):List Fct:=(fct x l ks a).take (most+1)
abbrev rFt (ts:List (Tok×Fct)):List (List AV):=ts.map fun p=>.sl p.1 (rI p.2.1) :: eAg p.2.2
theorem Zu9 (ts:List (Tok×Fct)):ZaE 11 (rFt ts)=true:=ZaU (f:=fun p:Tok×Fct=>AV.sl p.1 (rI p.2.1) :: eAg p.2.2) (fun _=>rfl) ts
theorem Zuj (s t:List (Tok×Fct)):rFt (s++t)=rFt s++rFt t:=zaN
theorem rFt_no (fs:List Fct):rFt (fs.map fun f=>(.no,f))=rF fs:=by simp[rFt,ZcI,Function.comp_def]
theorem wkn_same (t:Tok) (rows:List (List AV)):Wkn (.sl t rows) (.sl .no rows) :=
 .sl _ _ _ rfl (fun i r r' h h'=>by rw[h]at h';injection h' with h';rw[h']) (fun i r r' j x y h h' hx hy=>by rw[h]at h';injection h' with h';subst h';rw[hx]at hy;injection hy with hy;subst hy;exact .refl _)
theorem ZuA (t:Tok) (ts:List (Tok×Fct)):Wkn (.sl t (rFt ts)) (.sl .no (rF (ts.map (·.2)))):=by
 refine .sl _ _ _ (by simp) (fun i r r' h h'=>?_) (fun i r r' j x y h h' hx hy=>?_)
 ·simp only[zaP,zbo]at h h'
  cases hi:ts[i]? with
  | none=>rw[hi]at h;cases h
  | some p=>rw[hi]at h h';simp at h h';subst h h';rfl
 ·simp only[zaP,zbo]at h h'
  cases hi:ts[i]? with
  | none=>rw[hi]at h;cases h
  | some p =>
   rw[hi]at h h'
   simp only[Option.map_some,zac,Function.comp]at h h'
   subst h h'
   cases j with
   | zero=>simp[ZcI]at hx hy;subst hx hy;exact wkn_same _ _
   | succ j =>
    simp only[ZcI,List.getElem?_cons_succ]at hx hy
    rw[hx]at hy;injection hy with hy;subst hy;exact .refl _
set_option maxHeartbeats 8000000 in
theorem ZtE {x:Shp} {l:List Nod} (hx:x.sizes.length<=1000) (hll:l.length<=100000) (hn:∀n∈l,Zdb n) (hne:∀n∈l,n.lists≠[]) (hd:Down x l) :
  ∀(n:Nat) (t:Tok) (ks:List Int) (a:Int) (most:Nat) (H:Zaa),0<=a->a<l.length->a<(n:Int)->ks.length+n<=1000000->most<=1000000->Zay Tryz.prog 39 [.agg (Zc3 x),.sl .no (rN l),.i a,.sl t (rI ks),.i (most:Int)] H (Pure H (.sl .no (rF (Zut x l ks a most))))
 | 0,t,ks,a,most,H,h0,h1,h2,h3,h4=>by omega
 | n+1,t,ks,a,most,H,h0,h1,h2,h3,h4=>by
  obtain⟨b,rfl⟩:∃b:Nat,a=b:=⟨a.toNat,by omega⟩
  have hb:b<l.length:=by omega
  have hnod:=Zm8 hb
  have hs:=hn _ (zai hb)
  have hl0:=hne _ (zai hb)
  have hf:=Zuu hd ks h0 h1
  have hdw:=fun(h:lastB x (Zdw l b).dim=false) c hc=>ZtQ hd h0 h1 h (c:=c) hc
  unfold Zut
  rw[hf]
  rw[hnod]at hdw ⊢
  obtain⟨L,ls,hL⟩:∃L ls,l[b].lists=L :: ls:=by
   cases h:l[b].lists with
   | nil=>exact absurd h hl0
   | cons a r=>exact⟨a,r,rfl⟩
  rw[hL]at hdw ⊢
  simp only[List.headD_cons]at hdw ⊢
  have hLl:L.length<=1000000:=hs.2.2 L (by rw[hL];exact zaf)
  refine Zak hE cf39 (zaa rfl) fun Q qr qn=>?_
  have hZ:=hL;refine Bz1 ?_
  have hx0:Zaa.Ext H (H.alloc (.cells (Zc3 x) 37)):=by exact AXT
  have hs0:(H.alloc (.cells (Zc3 x) 37)).get H.next=some (.cells (Zc3 x) 37):=Zaa.Zae
  have hn0:(H.alloc (.cells (Zc3 x) 37)).next=H.next+1:=rfl
  generalize H.alloc (.cells (Zc3 x) 37)=G0 at *
  have hl0:=Zaa.lt hs0
  generalize hA:(fun k=>(L.take k).flatMap (ZtS x l b ks))=A at *
  have hA0:A 0=[]:=by rw[<- hA];rfl
  have hAn:A L.length=L.flatMap (ZtS x l b ks):=by rw[<- hA];simp
  have hA1:∀k (h:k<L.length),A (k+1)=A k++ZtS x l b ks L[k]:=fun k h=>by rw[<- hA];exact ZtT h
  have hfull:∀k,k<=L.length->most<(A k).length->(A k).take (most+1)=(L.flatMap (ZtS x l b ks)).take (most+1):=fun k hk hm=>by
   have:L.flatMap (ZtS x l b ks)=A k++(L.drop k).flatMap (ZtS x l b ks):=by rw[<- hA];simp only;rw[<- zbJ,zbW]
   rw[this,zbs (by omega)]
  rw[<- hAn]at qr qn hfull
  clear hA
  refine Zbs [1,2,3,4,5,21,22] (σ:=List (Tok×Fct)) (fun(k:Nat) s=>s.map (·.2)=(A k).take (most+1)) (fun k s=>[(11,.sl (.own G0.next) (rFt s))]) (fun k s=>[(G0.next,.tok s.length 88 11)]) [] (GStep.tok 11 88 11 rfl) (by simp only[ZaA,Zav,Fr.put,Fr.get,↓reduceIte,Nat.reduceEqDiff];rfl) (by intro k s;rfl) (by intro k s;rfl) (by rfl) (by unfold maxLen;omega) ?_ (by simp only[ZaF,ZaX,Fr.put,Fr.get,↓reduceIte,Nat.reduceEqDiff,and_self]<;>simp) ?_ ?_ ?_
  ·simp[hA0]
  ·rw[ZaP]
   exact⟨Zaa.Zae (H:=G0),by simp[Zc5]⟩
  ·(rintro k s G hk ht hG hn1;try simp only[nx]at hn1)
   have hgt:=hG.o _ (zau.2 rfl)
   simp only at hgt
   have hlt:=Zaa.lt hgt
   have hgs:G.get H.next=some (.cells (Zc3 x) 37):=by
    rw[hG.g _ (by simp only[nx];omega) (by simp;omega),Zaa.Zag (by omega)];exact hs0
   have hsl:s.length=min (most+1) (A k).length:=by rw[<- zaj (f:=fun p:Tok×Fct=>p.2),ht,zaL]
   by_cases c1:most<s.length
   ·have d1:decide ((s.length:Int) > (most:Int))=true:=by simp;omega
    have hZ:=d1;refine Bz3 ?_
    have:=hfull k (by omega) (by omega)
    refine Zc1 ?_ (hx0.trans (hG.alloc.ZdB (Zaa.Ext.refl G0).alloc (by simp)))
    rw[<- this,<- ht]
    exact ZuA _ _
   have d1:decide ((s.length:Int) > (most:Int))=false:=by simp;omega
   have hsA:s.map (·.2)=A k:=by rw[ht,zaA (by omega)]
   have hAs:(A k).length=s.length:=by rw[<- hsA];simp
   have hA1k:=hA1 k hk
   have la1:=Zu9 s
   have m1:ks.length+1<=maxLen:=by unfold maxLen;omega
   have m2:(ks.length+1) * 8<=140737488355328:=by omega
   have m3:ks.length<=maxLen:=by unfold maxLen;omega
   have m4:ks.length * 8<=140737488355328:=by omega
   have hckk:ZtS x l b ks L[k]=if lastB x l[b].dim=true then [(ks++[L[k].key],L[k].agg)] else fct x l (ks++[L[k].key]) L[k].child:=by unfold ZtS;rw[hnod]
   have la3:ZaE 1 ([]:List (List AV))=true:=rfl
   have la4:∀a:Int,ZaE 1 [[AV.i a]]=true:=fun _=>rfl
   have la5:∀tk r,ZaE 11 [AV.sl tk r :: eAg L[k].agg]=true:=fun _ _=>rfl
   have m5:s.length+1<=maxLen:=by unfold maxLen;omega
   have m6:(s.length+1) * 104<=140737488355328:=by omega
   have z1:1<=maxLen:=by decide
   have z2:0<=maxLen:=zaD _
   have hsub:(most:Int) - (s.length:Int)=((most - s.length:Nat):Int):=by omega
   have hll0:H.next<G.next:=by omega
   cases ks with
   | nil =>
    have la2:=la3
    have hrow:True:=trivial
    simp only[List.nil_append]at hckk
    have hbb:=bfd (lastB x l[b].dim)
    rcases hbb with hbb|hbb
    ·have hla:(l[b].dim == (x.sizes.length:Int) - 1)=false:=hbb
     have hch:=hdw hbb L[k] (zai hk)
     rw[hbb]at hckk
     simp only[zbM,if_false]at hckk
     rw[hckk]at hA1k
     have hZ:=an7 d1<|an7 la1<|an7 la2<|an7 la3<|an7 la4<|an7 la5<|an7 m1<|an7 m2<|an7 m3<|an7 m4<|an7 m5<|an7 m6<|an7 z1<|an7 z2<|an7 hgs<|an7 hgt<|an7 hll0<|hla;refine Bz3 ?_
     rw[hsub]
     refine qcp (ZtE hx hll hn hne hd n _ [L[k].key] L[k].child (most - s.length) _ hch.1 (by omega) (by omega) (by simp;omega) (by omega)) fun k2=>?_
     have hRl:(Zut x l [L[k].key] L[k].child (most - s.length)).length<=most - s.length+1:=by unfold Zut;rw[zaL];omega
     have hR:Zut x l [L[k].key] L[k].child (most - s.length)=(fct x l [L[k].key] L[k].child).take (most - s.length+1):=rfl
     have la6:=Znt (Zut x l [L[k].key] L[k].child (most - s.length))
     generalize Zut x l [L[k].key] L[k].child (most - s.length)=R at *
     have m7:s.length+R.length<=maxLen:=by unfold maxLen;omega
     have m8:(s.length+R.length) * 104<=140737488355328:=by omega
     have hZ:=an7 d1<|an7 la1<|an7 la2<|an7 la3<|an7 la4<|an7 la5<|an7 m1<|an7 m2<|an7 m3<|an7 m4<|an7 m5<|an7 m6<|an7 z1<|an7 z2<|an7 hgs<|an7 hgt<|an7 hll0<|an7 la6<|an7 m7<|m8;refine Bz3 ?_
     refine⟨s++R.map fun f=>(.no,f),?_,?_,?_⟩
     ·rw[hA1k,zaN,hsA,zbo,show((fun p:Tok×Fct=>p.2) ∘ fun f=>(Tok.no,f))=id from rfl,List.map_id,hR,List.take_append,zaA (l:=A k) (by omega),hAs]
      congr 2
      omega
     ·rw[show rFt (s++R.map fun f=>(Tok.no,f))=rFt s++rF R by rw[Zuj,rFt_no]]
     ·rw[show(s++R.map fun f=>(Tok.no,f)).length=s.length+R.length by simp]
      first|exact(hG.alloc.alloc.bump).put|exact(hG.alloc.alloc).put
    ·have hla:(l[b].dim == (x.sizes.length:Int) - 1)=true:=hbb
     rw[hbb]at hckk
     simp only[if_true]at hckk
     rw[hckk]at hA1k
     have hZ:=an7 d1<|an7 la1<|an7 la2<|an7 la3<|an7 la4<|an7 la5<|an7 m1<|an7 m2<|an7 m3<|an7 m4<|an7 m5<|an7 m6<|an7 z1<|an7 z2<|an7 hgs<|an7 hgt<|an7 hll0<|an7 hla<|la5;refine Bz3 ?_
     refine⟨s++[(.own (G.next+1),([L[k].key],L[k].agg))],?_,?_,?_⟩
     rotate_left
     ·rw[show rFt (s++[(.own (G.next+1),([L[k].key],L[k].agg))])=rFt s++[AV.sl (.own (G.next+1)) (rI [L[k].key]) :: eAg L[k].agg] by rw[Zuj];rfl]
      rfl
     ·rw[show(s++[(Tok.own (G.next+1),([L[k].key],L[k].agg))]).length=s.length+1 by simp]
      first|exact(hG.alloc.alloc.bump).put|exact(hG.alloc.alloc).put
     ·rw[hA1k,zaN,hsA,zaA (by simp;omega)]
      rfl
   | cons k0 ks =>
    have la2:ZaE 1 ([AV.i k0] :: rI ks)=true:=Zfq (k0 :: ks)
    simp only[List.length_cons]at m1 m2 m3 m4
    have hrow:[AV.i k0] :: (rI ks++[[AV.i L[k].key]])=rI (k0 :: ks++[L[k].key]):=by simp
    have hbb:=bfd (lastB x l[b].dim)
    rcases hbb with hbb|hbb
    ·have hla:(l[b].dim == (x.sizes.length:Int) - 1)=false:=hbb
     have hch:=hdw hbb L[k] (zai hk)
     rw[hbb]at hckk
     simp only[zbM,if_false]at hckk
     rw[hckk]at hA1k
     have hZ:=an7 d1<|an7 la1<|an7 la2<|an7 la3<|an7 la4<|an7 la5<|an7 m1<|an7 m2<|an7 m3<|an7 m4<|an7 m5<|an7 m6<|an7 z1<|an7 z2<|an7 hgs<|an7 hgt<|an7 hll0<|hla;refine Bz3 ?_
     rw[hsub,hrow]
     refine qcp (ZtE hx hll hn hne hd n _ (k0 :: ks++[L[k].key]) L[k].child (most - s.length) _ hch.1 (by omega) (by omega) (by simp at h3 ⊢;omega) (by omega)) fun k2=>?_
     have hRl:(Zut x l ((k0 :: ks)++[L[k].key]) L[k].child (most - s.length)).length<=most - s.length+1:=by unfold Zut;rw[zaL];omega
     have hR:Zut x l ((k0 :: ks)++[L[k].key]) L[k].child (most - s.length)=(fct x l ((k0 :: ks)++[L[k].key]) L[k].child).take (most - s.length+1):=rfl
     have la6:=Znt (Zut x l ((k0 :: ks)++[L[k].key]) L[k].child (most - s.length))
     generalize Zut x l ((k0 :: ks)++[L[k].key]) L[k].child (most - s.length)=R at *
     have m7:s.length+R.length<=maxLen:=by unfold maxLen;omega
     have m8:(s.length+R.length) * 104<=140737488355328:=by omega
     have hZ:=an7 d1<|an7 la1<|an7 la2<|an7 la3<|an7 la4<|an7 la5<|an7 m1<|an7 m2<|an7 m3<|an7 m4<|an7 m5<|an7 m6<|an7 z1<|an7 z2<|an7 hgs<|an7 hgt<|an7 hll0<|an7 la6<|an7 m7<|m8;refine Bz3 ?_
     refine⟨s++R.map fun f=>(.no,f),?_,?_,?_⟩
     ·rw[hA1k,zaN,hsA,zbo,show((fun p:Tok×Fct=>p.2) ∘ fun f=>(Tok.no,f))=id from rfl,List.map_id,hR,List.take_append,zaA (l:=A k) (by omega),hAs]
      congr 2
      omega
     ·rw[show rFt (s++R.map fun f=>(Tok.no,f))=rFt s++rF R by rw[Zuj,rFt_no]]
     ·rw[show(s++R.map fun f=>(Tok.no,f)).length=s.length+R.length by simp]
      first|exact(hG.alloc.alloc.bump).put|exact(hG.alloc.alloc).put
    ·have hla:(l[b].dim == (x.sizes.length:Int) - 1)=true:=hbb
     rw[hbb]at hckk
     simp only[if_true]at hckk
     rw[hckk]at hA1k
     have hZ:=an7 d1<|an7 la1<|an7 la2<|an7 la3<|an7 la4<|an7 la5<|an7 m1<|an7 m2<|an7 m3<|an7 m4<|an7 m5<|an7 m6<|an7 z1<|an7 z2<|an7 hgs<|an7 hgt<|an7 hll0<|an7 hla<|la5;refine Bz3 ?_
     rw[hrow]
     refine⟨s++[(.own (G.next+1),((k0 :: ks)++[L[k].key],L[k].agg))],?_,?_,?_⟩
     rotate_left
     ·rw[show rFt (s++[(.own (G.next+1),((k0 :: ks)++[L[k].key],L[k].agg))])=rFt s++[AV.sl (.own (G.next+1)) (rI ((k0 :: ks)++[L[k].key])) :: eAg L[k].agg] by rw[Zuj];rfl]
     ·rw[show(s++[(Tok.own (G.next+1),((k0 :: ks)++[L[k].key],L[k].agg))]).length=s.length+1 by simp]
      first|exact(hG.alloc.alloc.bump).put|exact(hG.alloc.alloc).put
     ·rw[hA1k,zaN,hsA,zaA (by simp;omega)]
      rfl
  ·(rintro s G ht hG hn1;try simp only[nx]at hn1)
   refine Bz0 ?_
   refine Zc1 ?_ (hx0.trans (hG.ZdB (Zaa.Ext.refl G0).alloc (by simp)))
   rw[<- ht]
   exact ZuA _ _
theorem ZuI:∀(ks:List Int) (tail:List AV),chunk 1 ks.length (ks.map AV.i++tail)=rI ks
 | [],_=>rfl
 | k :: ks,tail=>by
  have ih:=ZuI ks tail
  simp only[List.length_cons,chunk,zar,List.cons_append,List.take_succ_cons,List.take_zero,za8,zaZ,ih]
theorem Zuw {H:Zaa} {id cap E:Nat} {ks:List Int} {tail:List AV} (hg:H.get id=some (.cells (ks.map AV.i++tail) E)) (hl:ks.length<=1000000):Zay Tryz.prog 95 [.arr id 0 ks.length cap] H (Pure H (.sl .no (rI ks))):=by
 have hal:=Zfq ks
 have h1:ks.length<=maxLen:=by unfold maxLen;omega
 have h2:ks.length * 8<=140737488355328:=by omega
 have la3:ZaE 1 ([]:List (List AV))=true:=rfl
 have hch:=ZuI ks tail
 have hln:ks.length<=(ks.map AV.i++tail).length:=by simp
 generalize ks.map AV.i++tail=C at *
 refine Zak hE cf95 (zaa rfl) fun Q qr qn=>?_
 cases ks with
 | nil =>
  simp only[List.length_nil]at hch hln h1 h2
  have hch:chunk 1 0 C=[]:=hch
  have hZ:=an7 hg<|an7 hch<|an7 hln<|an7 h1<|an7 h2<|la3;refine Bz5 ?_
  exact ZaW (by exact AXT) rfl
 | cons k ks =>
  simp only[List.length_cons]at hch hln h1 h2
  have hal:ZaE 1 ([AV.i k] :: rI ks)=true:=hal
  have hch:chunk 1 (ks.length+1) C=[AV.i k] :: rI ks:=hch
  have hZ:=an7 hg<|an7 hch<|an7 hln<|an7 h1<|an7 h2<|an7 la3<|hal;refine Bz5 ?_
  exact ZaW (by exact AXT) rfl
def ZtH (aid:Nat) (last:Int) (kv:AV) (most:Int) (ov:AV) (err:Int):List AV:=[.ptr aid 0,.i last,kv,.i most,ov,.i err]
def ZvC (wid:Nat) (ks:List Int) (kv:AV) (G:Zaa):Prop:=(kv=.sl .full []/\ks=[])\/∃kid cap tail,kv=.arr kid 0 ks.length cap/\G.get kid=some (.cells (ks.map AV.i++tail) 3)/\wid<kid/\(ks.map AV.i++tail).length=cap
def OutV (wid:Nat) (out:List Fct) (ov:AV) (G:Zaa):Prop:=(ov=.sl .full []/\out=[])\/∃tk,ov=.sl (.own tk) (rF out)/\G.get tk=some (.tok out.length 88 11)/\wid<tk
structure Wkr (wid aid:Nat) (last most:Int) (ks:List Int) (out:List Fct) (err:Int) (G:Zaa):Prop where
 ex:∃kv ov,G.get wid=some (.cells (ZtH aid last kv most ov err) 206)/\ZvC wid ks kv G/\OutV wid out ov G
 a:aid<wid
theorem ZvC.keep {wid:Nat} {ks:List Int} {kv:AV} {G G':Zaa} (h:ZvC wid ks kv G) (hk:∀i cs E,wid<i->G.get i=some (.cells cs E)->G'.get i=some (.cells cs E)):ZvC wid ks kv G':=by
 rcases h with h|⟨kid,cap,tail,h1,h2,h3,h4⟩
 ·exact .inl h
 ·exact .inr ⟨kid,cap,tail,h1,hk _ _ _ h3 h2,h3,h4⟩
theorem OutV.keep {wid:Nat} {out:List Fct} {ov:AV} {G G':Zaa} (h:OutV wid out ov G) (hk:∀i n E sz,wid<i->G.get i=some (.tok n E sz)->G'.get i=some (.tok n E sz)):OutV wid out ov G':=by
 rcases h with h|⟨tk,h1,h2,h3⟩
 ·exact .inl h
 ·exact .inr ⟨tk,h1,hk _ _ _ _ h3 h2,h3⟩
structure Ztw (b:Nat) (H H':Zaa):Prop where
 next:H.next<=H'.next
 get:∀i o,i<b->H.get i=some o->H'.get i=some o
theorem Ztw.refl (b:Nat) (H:Zaa):Ztw b H H:=⟨zah _,fun _ _ _ h=>h⟩
theorem Ztw.trans {b:Nat} {H H' H'':Zaa} (h:Ztw b H H') (k:Ztw b H' H''):Ztw b H H'':=⟨zay h.next k.next,fun i o hi e=>k.get i o hi (h.get i o hi e)⟩
theorem Ztw.of {b:Nat} {H H':Zaa} (h:Zaa.Ext H H'):Ztw b H H':=⟨h.next,fun i o _ e=>h.get i o e⟩
theorem Ztw.set {b id:Nat} {H H':Zaa} {o:Zb3} (h:Ztw b H H') (hi:b<=id):Ztw b H (H'.set id o):=⟨h.next,fun i o hl e=>by rw[Zaa.Zah (by omega)];exact h.get i o hl e⟩
theorem Ztw.alloc {b:Nat} {H H':Zaa} {o:Zb3} (h:Ztw b H H'):Ztw b H (H'.alloc o):=h.trans (.of (Zaa.Ext.refl _).alloc)
theorem Ztw.bump {b k:Nat} {H H':Zaa} (h:Ztw b H H'):Ztw b H (H'.bump k):=h.trans (.of (Zaa.Ext.refl _).bump)
theorem Ztw.ara {b aid:Nat} {H H':Zaa} {x:Shp} {l:List Nod} (h:Ztw b H H') (ha:ArA H aid x l) (hb:aid<b):ArA H' aid x l:=by
 obtain⟨tok,nt,most,e⟩:=ha
 exact⟨tok,nt,most,h.get _ _ hb e⟩
theorem Zvf {wid:Nat} {ks:List Int} {kv:AV} {G:Zaa} (h:ZvC wid ks kv G) (hl:ks.length<=1000000):Zay Tryz.prog 95 [kv] G (Pure G (.sl .no (rI ks))):=by
 rcases h with⟨rfl,rfl⟩|⟨kid,cap,tail,rfl,h2,h3,h4⟩
 ·exact ZfI .full [] G (by simp)
 ·exact Zuw h2 hl
def FillQ (wid aid:Nat) (last most:Int) (ks:List Int) (out F:List Fct) (H:Zaa) (H':Zaa):Prop:=Ztw wid H H'/\Wkr wid aid last most ks (fill most out F).1 (fill most out F).2 H'
set_option maxHeartbeats 4000000 in
theorem Zuc {wid aid:Nat} {last most:Int} {ks:List Int} {out:List Fct} {H:Zaa} (hW:Wkr wid aid last most ks out 0 H) (hk:ks.length<=1000000) (ho:out.length<=most.toNat) (hm:most<=1000000) (a:Ag) :
  Zay Tryz.prog 169 [.ptr wid 0,.agg (eAg a)] H (fun r H'=>FillQ wid aid last most ks out [(ks,a)] H H'):=by
 obtain⟨⟨kv,ov,hg,hK,hO⟩,haw⟩:=hW
 have hwl:=Zaa.lt hg
 unfold ZtH at hg
 have hov:∃t,ov=.sl t (rF out):=by
  rcases hO with⟨rfl,rfl⟩|⟨tk,rfl,_⟩
  ·exact⟨.full,rfl⟩
  ·exact⟨_,rfl⟩
 refine Zak hEi vf169 (zaa rfl) fun Q qr qn=>?_
 by_cases c:(out.length:Int)≥most
 ·have d1:decide ((out.length:Int)≥most)=true:=by simpa using c
  have hf:fill most out [(ks,a)]=(out,6):=by
   unfold fill
   rw[if_neg (by simp;omega),zbs (by omega),zaA (by omega)]
  obtain⟨t,rfl⟩:=hov
  ((have hd:=tv;repeat' first|(first|apply Zad|apply Zac|apply Zab)<;>intro hd<;>try simp only[hd]|simp(disch:=first|assumption|omega|simp only[nx]<;>omega|fail)only[hd,qr,qn,Zub,↓YA,YY,sevalprocAttr,YZv,hg,d1,zaj])<;>try revert hd;refine ttr ?_)
  refine Zaq ⟨((Ztw.refl wid H).alloc).set (zah _),⟨⟨kv,.sl t (rF out),?_,?_,?_⟩,haw⟩⟩
  ·rw[hf,Zaa.Zal (by simp only[nx];omega)];rfl
  ·exact hK.keep fun i cs E hi e=>by have:=Zaa.lt e;rw[Zaa.Zah (by omega),Zaa.Zag (by omega)];exact e
  ·rw[hf]
   exact hO.keep fun i n E sz hi e=>by have:=Zaa.lt e;rw[Zaa.Zah (by omega),Zaa.Zag (by omega)];exact e
 ·have d1:decide ((out.length:Int)≥most)=false:=by simpa using c
  have hf:fill most out [(ks,a)]=(out++[(ks,a)],0):=by
   unfold fill
   rw[if_pos (by simp;omega)]
  have hw2:(H.alloc (.cells (eAg a) 54)).get wid=_:=(Zaa.Zag (by omega)).trans hg
  have hKc:=Zvf (hK.keep (G':=H.alloc (.cells (eAg a) 54)) fun i cs E hi e=>by rw[Zaa.Zag (by have:=Zaa.lt e;omega)];exact e) hk
  have e10:(eAg a).length=10:=rfl
  have et:(eAg a).take 10=eAg a:=rfl
  have la5:ZaE 11 [AV.sl .no (rI ks) :: eAg a]=true:=rfl
  have la6:=Znt out
  have la7:ZaE 11 ([]:List (List AV))=true:=rfl
  have m1:out.length+1<=maxLen:=by unfold maxLen;omega
  have m2:(out.length+1) * 104<=140737488355328:=by omega
  have z1:1<=maxLen:=by decide
  have hsn:rF out++[AV.sl .no (rI ks) :: eAg a]=rF (out++[(ks,a)]):=by rw[rF,rF,zaN];rfl
  rcases hO with⟨rfl,rfl⟩|⟨tk,rfl,hgt,htk⟩
  ·simp only[List.length_nil]at d1 m1 m2
   have d0:decide ((0:Int)≥most)=false:=d1
   ((have hd:=tv;repeat' first|(first|apply Zad|apply Zac|apply Zab)<;>intro hd<;>try simp only[hd]|simp(disch:=first|assumption|omega|simp only[nx]<;>omega|fail)only[hd,qr,qn,Zub,↓YA,YY,sevalprocAttr,YZv,hg,d1,d0,zaj,List.length_nil,e10,et])<;>try revert hd;refine ttr ?_)
   refine qcp (hKc) fun k1=>?_
   ((have hd:=tv;repeat' first|(first|apply Zad|apply Zac|apply Zab)<;>intro hd<;>try simp only[hd]|simp(disch:=first|assumption|omega|simp only[nx]<;>omega|fail)only[hd,qr,qn,Zub,↓YA,YY,sevalprocAttr,YZv,hg,d1,d0,zaj,e10,et,la5,la7,m1,m2,z1])<;>try revert hd;refine ttr ?_)
   refine Zaq ⟨(((Ztw.refl wid H).alloc.bump).alloc).set (zah _),⟨⟨kv,.sl (.own (H.next+1+k1)) (rF [(ks,a)]),?_,?_,?_⟩,haw⟩⟩
   ·rw[hf,Zaa.Zal (by simp only[nx];omega)];rfl
   ·exact hK.keep fun i cs E hi e=>by have:=Zaa.lt e;rw[Zaa.Zah (by omega),Zaa.Zag (by simp only[nx];omega)];simp only[Zaa.ZaB];rw[Zaa.Zag (by omega)];exact e
   ·rw[hf]
    refine .inr ⟨_,rfl,?_,by omega⟩
    rw[Zaa.Zah (by omega)]
    exact Zaa.Zat (by simp only[nx])
  ·have hlt:=Zaa.lt hgt
   have hgt2:(H.alloc (.cells (eAg a) 54)).get tk=_:=(Zaa.Zag (by omega)).trans hgt
   ((have hd:=tv;repeat' first|(first|apply Zad|apply Zac|apply Zab)<;>intro hd<;>try simp only[hd]|simp(disch:=first|assumption|omega|simp only[nx]<;>omega|fail)only[hd,qr,qn,Zub,↓YA,YY,sevalprocAttr,YZv,hg,d1,zaj,e10,et])<;>try revert hd;refine ttr ?_)
   refine qcp (hKc) fun k1=>?_
   ((have hd:=tv;repeat' first|(first|apply Zad|apply Zac|apply Zab)<;>intro hd<;>try simp only[hd]|simp(disch:=first|assumption|omega|simp only[nx]<;>omega|fail)only[hd,qr,qn,Zub,↓YA,YY,sevalprocAttr,YZv,hg,d1,zaj,e10,et,la5,la6,m1,m2,hgt2,hgt])<;>try revert hd;refine ttr ?_)
   rw[hsn]
   refine Zaq ⟨(((Ztw.refl wid H).alloc.bump).set (by omega)).set (zah _),⟨⟨kv,.sl (.own tk) (rF (out++[(ks,a)])),?_,?_,?_⟩,haw⟩⟩
   ·rw[hf,Zaa.Zal (by simp only[nx];omega)];rfl
   ·exact hK.keep fun i cs E hi e=>by
     have:=Zaa.lt e
     have hne:i≠tk:=fun h=>by rw[h,hgt]at e;cases e
     rw[Zaa.Zah (by omega),Zaa.Zah hne];simp only[Zaa.ZaB];rw[Zaa.Zag (by omega)];exact e
   ·rw[hf]
    refine .inr ⟨tk,rfl,?_,htk⟩
    rw[Zaa.Zah (by omega),Zaa.Zal (by simp only[nx];omega)]
    simp
theorem ZuR (ks:List Int):(rI ks).flatten=ks.map AV.i:=by
 induction ks with
 | nil=>rfl
 | cons a ks ih=>simp only[zar,List.flatten_cons,ih];rfl
theorem Zvv {H:Zaa} {E sz bytes:Nat} {zero:List AV} {x:AV} {K:AV->Zaa->Prop} {xs:List (List AV)} (hx:ZaL H sz x=some xs) (hne:xs≠[]) (ha:ZaE sz xs=true) (hl:∀q∈xs,q.length=sz) (hz:zero.length=sz) (h1:xs.length<=maxLen) (h2:xs.length * bytes<=140737488355328)
  (k:∀cap tail,xs.length<=cap->(xs.flatten++tail).length=cap * sz->K (.arr H.next 0 xs.length cap) (H.alloc (.cells (xs.flatten++tail) E))):Zk3 H E sz bytes zero (.sl .full []) x K:=by
 unfold Zk3
 rw[hx]
 refine⟨⟨hne,ha,h1,h2⟩,fun cap hc _=>k cap _ hc ?_⟩
 rw[zak,Zc7 hl,Zc7 (sz:=sz) (rows:=List.replicate (cap - xs.length) zero) (fun q hq=>by rw[(zbV.1 hq).2];exact hz),zcz,<- za1]
 congr 1
 omega
theorem ZvK {H:Zaa} {id cap:Nat} {ks:List Int} {tail:List AV} {x:AV} {K:AV->Zaa->Prop} (v:Int)
  (ho:H.get id=some (.cells (ks.map AV.i++tail) 3)) (hc:(ks.map AV.i++tail).length=cap) (hb:ks.length<=1000000) (hx:ZaL H 1 x=some [[.i v]])
  (k:∀id' cap' tail' H',(id'=id/\H'=H.set id (.cells ((ks++[v]).map AV.i++tail') 3))\/(id'=H.next/\H'=H.alloc (.cells ((ks++[v]).map AV.i++tail') 3))->((ks++[v]).map AV.i++tail').length=cap'->K (.arr id' 0 (ks.length+1) cap') H') :
  Zk3 H 3 1 8 [.i 0] (.arr id 0 ks.length cap) x K:=by
 have hrl:(rI ks).length=ks.length:=by simp
 have hl:∀q∈rI ks,q.length=1:=fun q hq=>by obtain⟨p,_,rfl⟩:=zaq.1 hq;rfl
 have he:∀tail',(rI ks++[[AV.i v]]).flatten++tail'=(ks++[v]).map AV.i++tail':=fun tail'=>by rw[zbH,ZuR,zaN];rfl
 have h:=Zp3 (H:=H) (E:=3) (sz:=1) (bytes:=8) (id:=id) (cap:=cap) (zero:=[.i 0]) (rows:=rI ks) (tail:=tail) (r:=[.i v]) (x:=x) (K:=K)
  (by rw[ZuR];exact ho) hl hx rfl (by rw[ZuR,zbA];exact hc) (by rw[hrl,<- hc];simp) (by unfold maxLen;omega) (by omega) rfl (fun id' cap' tail' H' h1 h2 h3 _=>by
   rw[he]at h1 h2
   rw[hrl]
   rw[zbA]at h2
   exact k id' cap' tail' H' h1 h2)
 rw[hrl]at h
 exact h
set_option maxHeartbeats 8000000 in
theorem ZvD {x:Shp} {l:List Nod} {wid aid:Nat} {last most:Int} {ks:List Int} {out:List Fct} {H:Zaa} {a:Int} {c:Cel} (hW:Wkr wid aid last most ks out 0 H) (ha:ArA H aid x l) (hk:ks.length<=999999) (ho:out.length<=most.toNat) (hm:most<=1000000)
  (hlast:((ks.length:Int) == last)=lastB x (Zdw l a).dim)
  (hP:lastB x (Zdw l a).dim=false->∀G,Wkr wid aid last most (ks++[c.key]) out 0 G->ArA G aid x l->Zay Tryz.prog 125 [.ptr wid 0,.i ((ks++[c.key]).length:Nat),.i c.child] G (fun r G'=>FillQ wid aid last most (ks++[c.key]) out (fct x l (ks++[c.key]) c.child) G G')) :
  Zay Tryz.prog 154 [.ptr wid 0,.i (ks.length:Nat),.agg (ZbE c)] H (fun r H'=>FillQ wid aid last most ks out (ZtS x l a ks c) H H'):=by
 obtain⟨⟨kv,ov,hg,hK,hO⟩,haw⟩:=hW
 have hwl:=Zaa.lt hg
 unfold ZtH at hg
 have hb:=bfd (lastB x (Zdw l a).dim)
 refine Zak hEi vf154 (zaa rfl) fun Q qr qn=>?_
 have hrow:∀G:Zaa,G.get (H.next+1)=some (.cells [[AV.sc (Value.int IntKind.i64 c.key)]].flatten 3)->ZaL G 1 (.arr (H.next+1) 0 1 1)=some [[.i c.key]]:=fun G h=>by
  simp only[ZaL,h]
  rfl
 rcases hK with⟨rfl,hks⟩|⟨kid,cap,tail,rfl,hkg,hkw0,hcap⟩
 ·((have hd:=tv;repeat' first|(first|apply Zad|apply Zac|apply Zab)<;>intro hd<;>try simp only[hd]|simp(disch:=first|assumption|omega|simp only[nx]<;>omega|fail)only[hd,qr,qn,ZtF,↓YA,YY,sevalprocAttr,YZv,hg])<;>try revert hd;refine ttr ?_)
  refine Zvv (xs:=[[.i c.key]]) (hrow _ (Zaa.Zae (H:=H.alloc _))) (by simp) rfl (by simp) rfl (by simp[maxLen]) (by simp) fun cap' tail' hc1 hcap0=>?_
  ·rw[show[[AV.i c.key]].length=ks.length+1 by rw[hks];rfl]
   have hcap':((ks++[c.key]).map AV.i++tail').length=cap':=by rw[hks];simpa using hcap0
   have hkid:(((H.alloc (.cells (ZbE c) 113)).alloc (.cells [[AV.sc (Value.int IntKind.i64 c.key)]].flatten 3)).alloc (.cells ([[AV.i c.key]].flatten++tail') 3)).get ((H.alloc (.cells (ZbE c) 113)).alloc (.cells [[AV.sc (Value.int IntKind.i64 c.key)]].flatten 3)).next=some (.cells ((ks++[c.key]).map AV.i++tail') 3):=by rw[hks];exact Zaa.Zae (H:=(H.alloc _).alloc _)
   have hk50:(((H.alloc (.cells (ZbE c) 113)).alloc (.cells [[AV.sc (Value.int IntKind.i64 c.key)]].flatten 3)).alloc (.cells ([[AV.i c.key]].flatten++tail') 3)).get H.next=some (.cells (ZbE c) 113):=by rw[Zaa.Zag (by simp only[nx];omega),Zaa.Zag (by simp only[nx];omega)];exact Zaa.Zae
   have hw0:(((H.alloc (.cells (ZbE c) 113)).alloc (.cells [[AV.sc (Value.int IntKind.i64 c.key)]].flatten 3)).alloc (.cells ([[AV.i c.key]].flatten++tail') 3)).get wid=some (.cells [.ptr aid 0,.i last,.sl .full [],.i most,ov,.i 0] 206):=by rw[Zaa.Zag (by simp only[nx];omega),Zaa.Zag (by simp only[nx];omega),Zaa.Zag (by omega)];exact hg
   have hX0:Ztw wid H (((H.alloc (.cells (ZbE c) 113)).alloc (.cells [[AV.sc (Value.int IntKind.i64 c.key)]].flatten 3)).alloc (.cells ([[AV.i c.key]].flatten++tail') 3)):=(Ztw.refl wid H).alloc.alloc.alloc
   have hO0:OutV wid out ov (((H.alloc (.cells (ZbE c) 113)).alloc (.cells [[AV.sc (Value.int IntKind.i64 c.key)]].flatten 3)).alloc (.cells ([[AV.i c.key]].flatten++tail') 3)):=hO.keep fun i n E sz hi e=>by have:=Zaa.lt e;rw[Zaa.Zag (by simp only[nx];omega),Zaa.Zag (by simp only[nx];omega),Zaa.Zag (by omega)];exact e
   have hkw:wid<((H.alloc (.cells (ZbE c) 113)).alloc (.cells [[AV.sc (Value.int IntKind.i64 c.key)]].flatten 3)).next:=by simp only[nx];omega
   generalize (((H.alloc (.cells (ZbE c) 113)).alloc (.cells [[AV.sc (Value.int IntKind.i64 c.key)]].flatten 3)).alloc (.cells ([[AV.i c.key]].flatten++tail') 3))=H' at *
   generalize ((H.alloc (.cells (ZbE c) 113)).alloc (.cells [[AV.sc (Value.int IntKind.i64 c.key)]].flatten 3)).next=kid' at *
   have hk5:H'.get H.next=some (.cells (ZbE c) 113):=hk50
   have hw':H'.get wid=some (.cells [.ptr aid 0,.i last,.sl .full [],.i most,ov,.i 0] 206):=hw0
   have hX':Ztw wid H H':=hX0
   have hO':OutV wid out ov H':=hO0
   have hlk':=Zaa.lt hkid
   have hlw':=Zaa.lt hw'
   have hl5':=Zaa.lt hk5
   rcases hb with hb|hb
   ·have hla:((ks.length:Int) == last)=false:=by rw[hlast];exact hb
    have hfc:ZtS x l a ks c=fct x l (ks++[c.key]) c.child:=by unfold ZtS;rw[hb];rfl
    rw[hfc]at qr qn
    ((have hd:=tv;repeat' first|(first|apply Zad|apply Zac|apply Zab)<;>intro hd<;>try simp only[hd]|simp(disch:=first|assumption|omega|simp only[nx]<;>omega|fail)only[hd,qr,qn,ZtF,↓YA,YY,sevalprocAttr,hw',hk5,hla,YZv])<;>try revert hd;refine ttr ?_)
    have g1w:(H'.set wid (.cells [.ptr aid 0,.i last,.arr kid' 0 (ks.length+1) cap',.i most,ov,.i 0] 206)).get wid=some (.cells [.ptr aid 0,.i last,.arr kid' 0 (ks.length+1) cap',.i most,ov,.i 0] 206):=Zaa.Zal hlw'
    have g15:(H'.set wid (.cells [.ptr aid 0,.i last,.arr kid' 0 (ks.length+1) cap',.i most,ov,.i 0] 206)).get H.next=some (.cells (ZbE c) 113):=by rw[Zaa.Zah (by omega)];exact hk5
    have hW1:Wkr wid aid last most (ks++[c.key]) out 0 (H'.set wid (.cells [.ptr aid 0,.i last,.arr kid' 0 (ks.length+1) cap',.i most,ov,.i 0] 206)):=by
     refine⟨⟨.arr kid' 0 (ks.length+1) cap',ov,g1w,.inr ⟨kid',cap',tail',by simp,?_,hkw,hcap'⟩,hO'.keep fun i n E sz hi e=>by rw[Zaa.Zah (by omega)];exact e⟩,haw⟩
     rw[Zaa.Zah (by omega)];exact hkid
    have hX1:Ztw wid H (H'.set wid (.cells [.ptr aid 0,.i last,.arr kid' 0 (ks.length+1) cap',.i most,ov,.i 0] 206)):=hX'.set (zah _)
    generalize H'.set wid (.cells [.ptr aid 0,.i last,.arr kid' 0 (ks.length+1) cap',.i most,ov,.i 0] 206)=G1 at *
    have hcall:=hP hb G1 hW1 (hX1.ara ha haw)
    rw[show((ks.length:Int)+1)=(((ks++[c.key]).length:Nat):Int) by simp]
    refine Zap.use hcall ?_
    rintro r G2 hq
    obtain⟨hx2,⟨⟨kv2,ov2,hg2,hK2,hO2⟩,_⟩⟩:=hq
    rcases hK2 with⟨_,h⟩|⟨kid2,cap2,tail2,rfl,hkg2,hkw2,hc2⟩
    ·simp at h
    have hl2:=Zaa.lt hg2
    unfold ZtH at hg2
    have hc3:1<=cap2:=by rw[<- hc2];simp;omega
    have hb0:(0:Int)<=(ks.length:Int):=by omega
    have hb3:ks.length<=cap2:=by rw[<- hc2];simp
    have hb4:cap2<=cap2:=zah _
    have hl3:¬(cap2=0):=by omega
    ((have hd:=tv;repeat' first|(first|apply Zad|apply Zac|apply Zab)<;>intro hd<;>try simp only[hd]|simp(disch:=first|assumption|omega|simp only[nx]<;>omega|fail)only[hd,qr,qn,ZtF,↓YA,YY,sevalprocAttr,hg2,Zdi,AX.ev,Fr.get,hb0,hb3,hb4,hl3,Int.toNat_natCast,Nat.sub_zero,zbu,zaD])<;>try revert hd;refine ttr ?_)
    refine Zaq ⟨(hX1.trans hx2).set (zah _),⟨⟨.arr kid2 0 ks.length cap2,ov2,Zaa.Zal hl2,.inr ⟨kid2,cap2,.i c.key :: tail2,rfl,?_,hkw2,?_⟩,hO2.keep fun i n E sz hi e=>by rw[Zaa.Zah (by omega)];exact e⟩,haw⟩⟩
    ·rw[Zaa.Zah (by omega),hkg2];simp
    ·rw[<- hc2];simp
   ·have hla:((ks.length:Int) == last)=true:=by rw[hlast];exact hb
    have hfc:ZtS x l a ks c=[(ks++[c.key],c.agg)]:=by unfold ZtS;rw[hb];rfl
    rw[hfc]at qr qn
    ((have hd:=tv;repeat' first|(first|apply Zad|apply Zac|apply Zab)<;>intro hd<;>try simp only[hd]|simp(disch:=first|assumption|omega|simp only[nx]<;>omega|fail)only[hd,qr,qn,ZtF,↓YA,YY,sevalprocAttr,hw',hk5,hla,YZv])<;>try revert hd;refine ttr ?_)
    have g1w:(H'.set wid (.cells [.ptr aid 0,.i last,.arr kid' 0 (ks.length+1) cap',.i most,ov,.i 0] 206)).get wid=some (.cells [.ptr aid 0,.i last,.arr kid' 0 (ks.length+1) cap',.i most,ov,.i 0] 206):=Zaa.Zal hlw'
    have g15:(H'.set wid (.cells [.ptr aid 0,.i last,.arr kid' 0 (ks.length+1) cap',.i most,ov,.i 0] 206)).get H.next=some (.cells (ZbE c) 113):=by rw[Zaa.Zah (by omega)];exact hk5
    have hW1:Wkr wid aid last most (ks++[c.key]) out 0 (H'.set wid (.cells [.ptr aid 0,.i last,.arr kid' 0 (ks.length+1) cap',.i most,ov,.i 0] 206)):=by
     refine⟨⟨.arr kid' 0 (ks.length+1) cap',ov,g1w,.inr ⟨kid',cap',tail',by simp,?_,hkw,hcap'⟩,hO'.keep fun i n E sz hi e=>by rw[Zaa.Zah (by omega)];exact e⟩,haw⟩
     rw[Zaa.Zah (by omega)];exact hkid
    have hX1:Ztw wid H (H'.set wid (.cells [.ptr aid 0,.i last,.arr kid' 0 (ks.length+1) cap',.i most,ov,.i 0] 206)):=hX'.set (zah _)
    generalize H'.set wid (.cells [.ptr aid 0,.i last,.arr kid' 0 (ks.length+1) cap',.i most,ov,.i 0] 206)=G1 at *
    refine Zap.use (Zuc hW1 (by simp;omega) ho hm c.agg) ?_
    rintro r G2 hq
    obtain⟨hx2,⟨⟨kv2,ov2,hg2,hK2,hO2⟩,_⟩⟩:=hq
    rcases hK2 with⟨_,h⟩|⟨kid2,cap2,tail2,rfl,hkg2,hkw2,hc2⟩
    ·simp at h
    have hl2:=Zaa.lt hg2
    unfold ZtH at hg2
    have hc3:1<=cap2:=by rw[<- hc2];simp;omega
    have hb0:(0:Int)<=(ks.length:Int):=by omega
    have hb3:ks.length<=cap2:=by rw[<- hc2];simp
    have hb4:cap2<=cap2:=zah _
    have hl3:¬(cap2=0):=by omega
    ((have hd:=tv;repeat' first|(first|apply Zad|apply Zac|apply Zab)<;>intro hd<;>try simp only[hd]|simp(disch:=first|assumption|omega|simp only[nx]<;>omega|fail)only[hd,qr,qn,ZtF,↓YA,YY,sevalprocAttr,hg2,Zdi,AX.ev,Fr.get,hb0,hb3,hb4,hl3,Int.toNat_natCast,Nat.sub_zero,zbu,zaD])<;>try revert hd;refine ttr ?_)
    refine Zaq ⟨(hX1.trans hx2).set (zah _),⟨⟨.arr kid2 0 ks.length cap2,ov2,Zaa.Zal hl2,.inr ⟨kid2,cap2,.i c.key :: tail2,rfl,?_,hkw2,?_⟩,hO2.keep fun i n E sz hi e=>by rw[Zaa.Zah (by omega)];exact e⟩,haw⟩⟩
    ·rw[Zaa.Zah (by omega),hkg2];simp
    ·rw[<- hc2];simp
 ·have hlk:=Zaa.lt hkg
  ((have hd:=tv;repeat' first|(first|apply Zad|apply Zac|apply Zab)<;>intro hd<;>try simp only[hd]|simp(disch:=first|assumption|omega|simp only[nx]<;>omega|fail)only[hd,qr,qn,ZtF,↓YA,YY,sevalprocAttr,YZv,hg])<;>try revert hd;refine ttr ?_)
  refine ZvK (ks:=ks) (tail:=tail) c.key ?_ hcap (by omega) (hrow _ (Zaa.Zae (H:=H.alloc _))) ?_
  ·rw[Zaa.Zag (by simp only[nx];omega),Zaa.Zag (by omega)];exact hkg
  ·rintro kid' cap' tail' H' hor hcap'
   have b5:((H.alloc (.cells (ZbE c) 113)).alloc (.cells [[AV.sc (Value.int IntKind.i64 c.key)]].flatten 3)).get H.next=some (.cells (ZbE c) 113):=by rw[Zaa.Zag (by simp only[nx];omega)];exact Zaa.Zae
   have bw:((H.alloc (.cells (ZbE c) 113)).alloc (.cells [[AV.sc (Value.int IntKind.i64 c.key)]].flatten 3)).get wid=some (.cells [.ptr aid 0,.i last,.arr kid 0 ks.length cap,.i most,ov,.i 0] 206):=by rw[Zaa.Zag (by simp only[nx];omega),Zaa.Zag (by omega)];exact hg
   have bX:Ztw wid H ((H.alloc (.cells (ZbE c) 113)).alloc (.cells [[AV.sc (Value.int IntKind.i64 c.key)]].flatten 3)):=(Ztw.refl wid H).alloc.alloc
   have bO:∀i n E sz,wid<i->H.get i=some (.tok n E sz)->((H.alloc (.cells (ZbE c) 113)).alloc (.cells [[AV.sc (Value.int IntKind.i64 c.key)]].flatten 3)).get i=some (.tok n E sz):=fun i n E sz hi e=>by have:=Zaa.lt e;rw[Zaa.Zag (by simp only[nx];omega),Zaa.Zag (by omega)];exact e
   have bn:((H.alloc (.cells (ZbE c) 113)).alloc (.cells [[AV.sc (Value.int IntKind.i64 c.key)]].flatten 3)).next=H.next+2:=by simp only[nx]
   have bk:((H.alloc (.cells (ZbE c) 113)).alloc (.cells [[AV.sc (Value.int IntKind.i64 c.key)]].flatten 3)).get kid=some (.cells (ks.map AV.i++tail) 3):=by rw[Zaa.Zag (by simp only[nx];omega),Zaa.Zag (by omega)];exact hkg
   generalize ((H.alloc (.cells (ZbE c) 113)).alloc (.cells [[AV.sc (Value.int IntKind.i64 c.key)]].flatten 3))=B0 at *
   obtain⟨hkid,hk50,hw0,hX0,hO0,hkw⟩:H'.get kid'=some (.cells ((ks++[c.key]).map AV.i++tail') 3)/\H'.get H.next=some (.cells (ZbE c) 113)/\H'.get wid=some (.cells [.ptr aid 0,.i last,.arr kid 0 ks.length cap,.i most,ov,.i 0] 206)/\Ztw wid H H'/\OutV wid out ov H'/\wid<kid':=by
    have bkl:=Zaa.lt bk
    rcases hor with⟨rfl,rfl⟩|⟨rfl,rfl⟩
    ·refine⟨Zaa.Zal bkl,by rw[Zaa.Zah (by omega)];exact b5,by rw[Zaa.Zah (by omega)];exact bw,bX.set (by omega),hO.keep fun i n E sz hi e=>?_,hkw0⟩
     have hne:i≠kid':=fun h=>by rw[h,hkg]at e;cases e
     rw[Zaa.Zah hne];exact bO i n E sz hi e
    ·refine⟨Zaa.Zae,by rw[Zaa.Zag (by omega)];exact b5,by rw[Zaa.Zag (by omega)];exact bw,bX.alloc,hO.keep fun i n E sz hi e=>?_,by omega⟩
     have:=Zaa.lt e
     rw[Zaa.Zag (by omega)];exact bO i n E sz hi e
   have hk5:H'.get H.next=some (.cells (ZbE c) 113):=hk50
   have hw':H'.get wid=some (.cells [.ptr aid 0,.i last,.arr kid 0 ks.length cap,.i most,ov,.i 0] 206):=hw0
   have hX':Ztw wid H H':=hX0
   have hO':OutV wid out ov H':=hO0
   have hlk':=Zaa.lt hkid
   have hlw':=Zaa.lt hw'
   have hl5':=Zaa.lt hk5
   rcases hb with hb|hb
   ·have hla:((ks.length:Int) == last)=false:=by rw[hlast];exact hb
    have hfc:ZtS x l a ks c=fct x l (ks++[c.key]) c.child:=by unfold ZtS;rw[hb];rfl
    rw[hfc]at qr qn
    ((have hd:=tv;repeat' first|(first|apply Zad|apply Zac|apply Zab)<;>intro hd<;>try simp only[hd]|simp(disch:=first|assumption|omega|simp only[nx]<;>omega|fail)only[hd,qr,qn,ZtF,↓YA,YY,sevalprocAttr,hw',hk5,hla,YZv])<;>try revert hd;refine ttr ?_)
    have g1w:(H'.set wid (.cells [.ptr aid 0,.i last,.arr kid' 0 (ks.length+1) cap',.i most,ov,.i 0] 206)).get wid=some (.cells [.ptr aid 0,.i last,.arr kid' 0 (ks.length+1) cap',.i most,ov,.i 0] 206):=Zaa.Zal hlw'
    have g15:(H'.set wid (.cells [.ptr aid 0,.i last,.arr kid' 0 (ks.length+1) cap',.i most,ov,.i 0] 206)).get H.next=some (.cells (ZbE c) 113):=by rw[Zaa.Zah (by omega)];exact hk5
    have hW1:Wkr wid aid last most (ks++[c.key]) out 0 (H'.set wid (.cells [.ptr aid 0,.i last,.arr kid' 0 (ks.length+1) cap',.i most,ov,.i 0] 206)):=by
     refine⟨⟨.arr kid' 0 (ks.length+1) cap',ov,g1w,.inr ⟨kid',cap',tail',by simp,?_,hkw,hcap'⟩,hO'.keep fun i n E sz hi e=>by rw[Zaa.Zah (by omega)];exact e⟩,haw⟩
     rw[Zaa.Zah (by omega)];exact hkid
    have hX1:Ztw wid H (H'.set wid (.cells [.ptr aid 0,.i last,.arr kid' 0 (ks.length+1) cap',.i most,ov,.i 0] 206)):=hX'.set (zah _)
    generalize H'.set wid (.cells [.ptr aid 0,.i last,.arr kid' 0 (ks.length+1) cap',.i most,ov,.i 0] 206)=G1 at *
    have hcall:=hP hb G1 hW1 (hX1.ara ha haw)
    rw[show((ks.length:Int)+1)=(((ks++[c.key]).length:Nat):Int) by simp]
    refine Zap.use hcall ?_
    rintro r G2 hq
    obtain⟨hx2,⟨⟨kv2,ov2,hg2,hK2,hO2⟩,_⟩⟩:=hq
    rcases hK2 with⟨_,h⟩|⟨kid2,cap2,tail2,rfl,hkg2,hkw2,hc2⟩
    ·simp at h
    have hl2:=Zaa.lt hg2
    unfold ZtH at hg2
    have hc3:1<=cap2:=by rw[<- hc2];simp;omega
    have hb0:(0:Int)<=(ks.length:Int):=by omega
    have hb3:ks.length<=cap2:=by rw[<- hc2];simp
    have hb4:cap2<=cap2:=zah _
    have hl3:¬(cap2=0):=by omega
    ((have hd:=tv;repeat' first|(first|apply Zad|apply Zac|apply Zab)<;>intro hd<;>try simp only[hd]|simp(disch:=first|assumption|omega|simp only[nx]<;>omega|fail)only[hd,qr,qn,ZtF,↓YA,YY,sevalprocAttr,hg2,Zdi,AX.ev,Fr.get,hb0,hb3,hb4,hl3,Int.toNat_natCast,Nat.sub_zero,zbu,zaD])<;>try revert hd;refine ttr ?_)
    refine Zaq ⟨(hX1.trans hx2).set (zah _),⟨⟨.arr kid2 0 ks.length cap2,ov2,Zaa.Zal hl2,.inr ⟨kid2,cap2,.i c.key :: tail2,rfl,?_,hkw2,?_⟩,hO2.keep fun i n E sz hi e=>by rw[Zaa.Zah (by omega)];exact e⟩,haw⟩⟩
    ·rw[Zaa.Zah (by omega),hkg2];simp
    ·rw[<- hc2];simp
   ·have hla:((ks.length:Int) == last)=true:=by rw[hlast];exact hb
    have hfc:ZtS x l a ks c=[(ks++[c.key],c.agg)]:=by unfold ZtS;rw[hb];rfl
    rw[hfc]at qr qn
    ((have hd:=tv;repeat' first|(first|apply Zad|apply Zac|apply Zab)<;>intro hd<;>try simp only[hd]|simp(disch:=first|assumption|omega|simp only[nx]<;>omega|fail)only[hd,qr,qn,ZtF,↓YA,YY,sevalprocAttr,hw',hk5,hla,YZv])<;>try revert hd;refine ttr ?_)
    have g1w:(H'.set wid (.cells [.ptr aid 0,.i last,.arr kid' 0 (ks.length+1) cap',.i most,ov,.i 0] 206)).get wid=some (.cells [.ptr aid 0,.i last,.arr kid' 0 (ks.length+1) cap',.i most,ov,.i 0] 206):=Zaa.Zal hlw'
    have g15:(H'.set wid (.cells [.ptr aid 0,.i last,.arr kid' 0 (ks.length+1) cap',.i most,ov,.i 0] 206)).get H.next=some (.cells (ZbE c) 113):=by rw[Zaa.Zah (by omega)];exact hk5
    have hW1:Wkr wid aid last most (ks++[c.key]) out 0 (H'.set wid (.cells [.ptr aid 0,.i last,.arr kid' 0 (ks.length+1) cap',.i most,ov,.i 0] 206)):=by
     refine⟨⟨.arr kid' 0 (ks.length+1) cap',ov,g1w,.inr ⟨kid',cap',tail',by simp,?_,hkw,hcap'⟩,hO'.keep fun i n E sz hi e=>by rw[Zaa.Zah (by omega)];exact e⟩,haw⟩
     rw[Zaa.Zah (by omega)];exact hkid
    have hX1:Ztw wid H (H'.set wid (.cells [.ptr aid 0,.i last,.arr kid' 0 (ks.length+1) cap',.i most,ov,.i 0] 206)):=hX'.set (zah _)
    generalize H'.set wid (.cells [.ptr aid 0,.i last,.arr kid' 0 (ks.length+1) cap',.i most,ov,.i 0] 206)=G1 at *
    refine Zap.use (Zuc hW1 (by simp;omega) ho hm c.agg) ?_
    rintro r G2 hq
    obtain⟨hx2,⟨⟨kv2,ov2,hg2,hK2,hO2⟩,_⟩⟩:=hq
    rcases hK2 with⟨_,h⟩|⟨kid2,cap2,tail2,rfl,hkg2,hkw2,hc2⟩
    ·simp at h
    have hl2:=Zaa.lt hg2
    unfold ZtH at hg2
    have hc3:1<=cap2:=by rw[<- hc2];simp;omega
    have hb0:(0:Int)<=(ks.length:Int):=by omega
    have hb3:ks.length<=cap2:=by rw[<- hc2];simp
    have hb4:cap2<=cap2:=zah _
    have hl3:¬(cap2=0):=by omega
    ((have hd:=tv;repeat' first|(first|apply Zad|apply Zac|apply Zab)<;>intro hd<;>try simp only[hd]|simp(disch:=first|assumption|omega|simp only[nx]<;>omega|fail)only[hd,qr,qn,ZtF,↓YA,YY,sevalprocAttr,hg2,Zdi,AX.ev,Fr.get,hb0,hb3,hb4,hl3,Int.toNat_natCast,Nat.sub_zero,zbu,zaD])<;>try revert hd;refine ttr ?_)
    refine Zaq ⟨(hX1.trans hx2).set (zah _),⟨⟨.arr kid2 0 ks.length cap2,ov2,Zaa.Zal hl2,.inr ⟨kid2,cap2,.i c.key :: tail2,rfl,?_,hkw2,?_⟩,hO2.keep fun i n E sz hi e=>by rw[Zaa.Zah (by omega)];exact e⟩,haw⟩⟩
    ·rw[Zaa.Zah (by omega),hkg2];simp
    ·rw[<- hc2];simp
theorem Wkr.ext {wid aid:Nat} {last most:Int} {ks:List Int} {out:List Fct} {e:Int} {G G':Zaa} (h:Wkr wid aid last most ks out e G) (hx:Zaa.Ext G G'):Wkr wid aid last most ks out e G':=by
 obtain⟨⟨kv,ov,hg,hK,hO⟩,haw⟩:=h
 exact⟨⟨kv,ov,hx.get _ _ hg,hK.keep fun i cs E _ e=>hx.get _ _ e,hO.keep fun i n E sz _ e=>hx.get _ _ e⟩,haw⟩
def WkA (most:Int) (out:List Fct) (A:Nat->List Fct) (k:Nat) (o:List Fct) (e:Int):Prop:=(k=0/\o=out/\e=0)\/(0<k/\o=(fill most out (A k)).1/\e=(fill most out (A k)).2)
theorem WkA.next {most:Int} {out o:List Fct} {A:Nat->List Fct} {k:Nat} {F:List Fct} (h:WkA most out A k o 0) (h0:A 0=[]) (hA:A (k+1)=A k++F):WkA most out A (k+1) (fill most o F).1 (fill most o F).2:=by
 refine .inr ⟨Nat.succ_pos _,?_⟩
 rcases h with⟨rfl,rfl,_⟩|⟨_,rfl,he⟩
 ·rw[hA,h0];exact⟨rfl,rfl⟩
 ·rw[fill_app he.symm,hA];exact⟨rfl,rfl⟩
theorem WkA.len {most:Int} {out o:List Fct} {A:Nat->List Fct} {k:Nat} {e:Int} (h:WkA most out A k o e) (ho:out.length<=most.toNat):o.length<=most.toNat:=by
 rcases h with⟨_,rfl,_⟩|⟨_,rfl,_⟩
 ·exact ho
 ·exact fill_len ho
theorem WkA.stop {most:Int} {out o:List Fct} {A:Nat->List Fct} {k:Nat} {e:Int} {F:List Fct} (h:WkA most out A k o e) (he:e≠0):o=(fill most out (A k++F)).1/\e=(fill most out (A k++F)).2:=by
 rcases h with⟨_,_,h⟩|⟨_,h1,h2⟩
 ·exact absurd h he
 ·rw[h2]at he
  rw[ZvL he]
  exact⟨h1,h2⟩
set_option maxHeartbeats 8000000 in
theorem Zux {x:Shp} {l:List Nod} {wid aid:Nat} {last most d0:Int} (hw:Wlk x l) (hd0:last=(x.sizes.length:Int) - 1 - d0) (hm:most<=1000000) :
  ∀(n:Nat) (ks:List Int) (out:List Fct) (a:Int) (H:Zaa),0<=a->a<l.length->a<(n:Int)->(Zdw l a).dim=d0+ks.length->ks.length+n<=999999->out.length<=most.toNat->Wkr wid aid last most ks out 0 H->ArA H aid x l ->
   Zay Tryz.prog 125 [.ptr wid 0,.i (ks.length:Nat),.i a] H (fun r H'=>FillQ wid aid last most ks out (fct x l ks a) H H')
 | 0,ks,out,a,H,h0,h1,h2,_,_,_,_,_=>by omega
 | n+1,ks,out,a,H,h0,h1,h2,h3,h4,ho,hW,ha=>by
  obtain⟨b,rfl⟩:∃b:Nat,a=b:=⟨a.toNat,by omega⟩
  have hbl:b<l.length:=by omega
  have hnod:=Zm8 hbl
  have hs:=hw.w.small _ (zai hbl)
  obtain⟨p1,p2,p3⟩:=hw.w.bounds
  have hdn:=hw.w.down
  have hf:=Zuu hdn ks h0 h1
  obtain⟨L,ls,hL⟩:∃L ls,(Zdw l b).lists=L :: ls:=by
   cases h:(Zdw l b).lists with
   | nil=>rw[hnod]at h;exact absurd h (hw.ne _ (zai hbl))
   | cons a r=>exact⟨a,r,rfl⟩
  have hLe:∀c∈L,c∈(Zdw l b).lists.headD []:=by rw[hL];exact fun c h=>h
  rw[hL,List.headD_cons]at hf
  have hLl:L.length<=1000000:=(Zq1 b hw.w.small).2.2 L (by rw[hL];exact zaf)
  have hL0:L≠[]:=hw.ne2 _ (zai hbl) L (by rw[<- hnod,hL];exact zaf)
  have hlast:((ks.length:Int) == last)=lastB x (Zdw l b).dim:=by
   unfold lastB
   rw[h3,hd0,zaT]
   simp
   omega
  obtain⟨⟨kv,ov,hg,_,_⟩,haw⟩:=id hW
  unfold ZtH at hg
  have hin:inB l (b:Int)=true:=by unfold inB;simp;omega
  refine Zak hEi vf125 (zaa rfl) fun Q qr qn=>?_
  ((have hd:=tv;repeat' first|(first|apply Zad|apply Zac|apply Zab)<;>intro hd<;>try simp only[hd]|simp(disch:=first|assumption|omega|simp only[nx]<;>omega|fail)only[hd,qr,qn,Zt2,↓YA,YY,sevalprocAttr,YZv,hg])<;>try revert hd;refine ttr ?_)
  refine Zap.use (ZfD (b:Int) ha p1 hw.w.small) ?_
  rintro r G1 ⟨hx1,t1,rfl⟩
  rw[hin]
  have e1:(ZbD t1 (Zdw l b))[1]?=some (.sl t1 ([.sl .no (rC L)] :: rL ls)):=by
   show some (AV.sl t1 (rL (Zdw l b).lists))=_
   rw[hL];rfl
  have e14:(ZbD t1 (Zdw l b)).length=14:=rfl
  ((have hd:=tv;repeat' first|(first|apply Zad|apply Zac|apply Zab)<;>intro hd<;>try simp only[hd]|simp(disch:=first|assumption|omega|simp only[nx]<;>omega|fail)only[hd,qr,qn,Zt2,↓YA,YY,sevalprocAttr,YZv,e1,e14])<;>try revert hd;refine ttr ?_)
  have hxG:Zaa.Ext H (G1.alloc (.cells (ZbD t1 (Zdw l b)) 115)):=hx1.alloc
  have haG:=ha.ext hxG
  have hWG:=hW.ext hxG
  generalize G1.alloc (.cells (ZbD t1 (Zdw l b)) 115)=G2 at *
  generalize hA:(fun k=>(L.take k).flatMap (ZtS x l b ks))=A at *
  have hA0:A 0=[]:=by rw[<- hA];rfl
  have hAn:A L.length=L.flatMap (ZtS x l b ks):=by rw[<- hA];simp
  have hA1:∀k (h:k<L.length),A (k+1)=A k++ZtS x l b ks L[k]:=fun k h=>by rw[<- hA];exact ZtT h
  have hAk:∀k,k<=L.length->∃R,fct x l ks b=A k++R:=fun k hk=>⟨(L.drop k).flatMap (ZtS x l b ks),by rw[hf,<- hA];simp only;rw[<- zbJ,zbW]⟩
  clear hA
  refine ZbJ (N:=L.length) (fun k F S=>Fr.get F 33=.i (k:Int)/\Fr.get F 32=.i (L.length:Int)/\Fr.get F 31=.sl .no (rC L)/\Fr.get F 0=.ptr wid 0/\Fr.get F 1=.i (ks.length:Int)/\Fr.get F 8=.fn 154 [.ptr wid 0] []/\Ztw wid H S/\∃o e,Wkr wid aid last most ks o e S/\WkA most out A k o e) (by unfold maxLen;omega) (fun k F G h=>⟨h.1,h.2.1⟩) (GStep.refl _ _) ⟨rfl,rfl,rfl,rfl,rfl,rfl,.of hxG,out,0,hWG,.inl ⟨rfl,rfl,rfl⟩⟩ ?_ ?_
  ·rintro k F S hk ⟨f33,f32,f31,f0,f1,f8,hxS,o,e,hWo,hWA⟩
   obtain⟨⟨kv2,ov2,hg2,_,_⟩,_⟩:=id hWo
   have hl2:=Zaa.lt hg2
   unfold ZtH at hg2
   have hg3:(S.alloc (.cells (ZbE L[k]) 113)).get wid=_:=(Zaa.Zag (by omega)).trans hg2
   by_cases he:e=0
   ·subst he
    have hW1:=hWo.ext ((Zaa.Ext.refl S).alloc (o:=.cells (ZbE L[k]) 113))
    have hxS1:Ztw wid H (S.alloc (.cells (ZbE L[k]) 113)):=hxS.alloc
    have hcall:=ZvD (a:=(b:Int)) (c:=L[k]) hW1 (hxS1.ara ha haw) (by omega) (hWA.len ho) hm hlast (fun hb G hWG haG=>by
     have hch:=ZtQ hdn h0 h1 hb (hLe _ (zai hk))
     refine Zux hw hd0 hm n (ks++[L[k].key]) o L[k].child G hch.1 (by omega) (by omega) ?_ (by simp;omega) (hWA.len ho) hWG haG
     rw[hw.dim b hbl hb _ (ZuE (hLe _ (zai hk))),h3]
     simp
     omega)
    ((have hd:=tv;repeat' first|(first|apply Zad|apply Zac|apply Zab)<;>intro hd<;>try simp only[hd]|simp(disch:=first|assumption|omega|simp only[nx]<;>omega|fail)only[hd,qr,qn,Zt2,↓YA,YY,sevalprocAttr,f33,f32,f31,f0,f1,f8,hg3,hg2,YZv])<;>try revert hd;refine ttr ?_)
    refine Zap.use hcall ?_
    rintro r G3 ⟨hx3,hW3⟩
    ((have hd:=tv;repeat' first|(first|apply Zad|apply Zac|apply Zab)<;>intro hd<;>try simp only[hd]|simp(disch:=first|assumption|omega|simp only[nx]<;>omega|fail)only[hd,qr,qn,Zt2,↓YA,YY,sevalprocAttr,f33,f32,f31,f0,f1,f8])<;>try revert hd;refine ttr ?_)
    exact⟨hxS1.trans hx3,_,_,hW3,hWA.next hA0 (hA1 k hk)⟩
   ·have d1:(e != 0)=true:=by simpa using he
    obtain⟨R,hR⟩:=hAk k (by omega)
    obtain⟨r1,r2⟩:=hWA.stop (F:=R) he
    ((have hd:=tv;repeat' first|(first|apply Zad|apply Zac|apply Zab)<;>intro hd<;>try simp only[hd]|simp(disch:=first|assumption|omega|simp only[nx]<;>omega|fail)only[hd,qr,qn,Zt2,↓YA,YY,sevalprocAttr,f33,f32,f31,f0,f1,f8,hg3,hg2,d1,YZv])<;>try revert hd;refine ttr ?_)
    refine Zaq ⟨hxS.alloc,?_⟩
    rw[hR,<- r1,<- r2]
    exact hWo.ext (Zaa.Ext.refl S).alloc
  ·rintro F S ⟨f33,f32,f31,f0,f1,f8,hxS,o,e,hWo,hWA⟩
   ((have hd:=tv;repeat' first|(first|apply Zad|apply Zac|apply Zab)<;>intro hd<;>try simp only[hd]|simp(disch:=first|assumption|omega|simp only[nx]<;>omega|fail)only[hd,qr,qn,Zt2,↓YA,YY,sevalprocAttr])<;>try revert hd;refine ttr ?_)
   refine Zaq ⟨hxS,?_⟩
   rcases hWA with⟨h,_,_⟩|⟨_,r1,r2⟩
   ·exact absurd (za3.1 h) hL0
   ·rw[hf,<- hAn,<- r1,<- r2];exact hWo
def resF (most:Int) (F:List Fct):AV:=if (fill most [] F).2=0 then .tup [.sl .no (rF (fill most [] F).1),.i 0] else .tup [.sl .no [],.i (fill most [] F).2]
def Zty (x:Shp) (l:List Nod) (most:Int):AV:=if Zlb x l=false then .tup [.sl .no [],.i 2] else if l.length=0 then .tup [.sl .no [],.i 0] else resF most (fct x l [] ((l.length:Int) - 1))
theorem ZuF {x:Shp} {l:List Nod} (h:Zlb x l=true) (hl:l.length≠0):(Zdw l ((l.length:Int) - 1)).dim=0:=by
 unfold Zlb at h
 rw[if_neg hl,zax]at h
 simpa using h.1
set_option maxHeartbeats 4000000 in
theorem ZuS {x:Shp} {l:List Nod} {aid:Nat} {most:Int} {H:Zaa} (hw:Wlk x l) (ha:ArA H aid x l) (hm:most<=1000000) (hlen:l.length<=900000):Zay Tryz.prog 82 [.ptr aid 0,.i most] H (Pure H (Zty x l most)):=by
 obtain⟨p1,p2,p3⟩:=hw.w.bounds
 obtain⟨b1,b2,b3,b4,b5⟩:=Zby hw.w.may
 obtain⟨_,_,_,g1⟩:=ha.eAr
 refine Zak hE cf82 (zaa rfl) fun Q qr qn=>?_
 refine Bz0 ?_
 refine Zap.use (ZlR g1 hw.w.may) ?_
 rintro r H1 ⟨hx1,t1,rfl⟩
 have d1:(x.measures == 0)=false:=by rw[beq_eq_false_iff_ne];omega
 have hZ:=d1;refine Bz1 ?_
 refine qcp (Znm (ha.ext hx1) hw.w) fun k1=>?_
 have w1:=bfd (Zlb x l)
 rcases w1 with w1|w1
 ·have hr:Zty x l most=.tup [.sl .no [],.i 2]:=by unfold Zty;rw[if_pos w1]
  rw[hr]at qr qn
  have hZ:=w1;refine Bz1 ?_
  exact ZaW (by exact AXT) rfl
 have hZ:=w1;refine Bz1 ?_
 have hx2:Zaa.Ext H (H1.bump k1):=hx1.bump
 generalize H1.bump k1=H2 at *
 (refine Zap.use (Zq3 (ha.ext hx2) hw.w) ?_;rintro _ H3 ⟨rfl,hx3⟩)
 have hx3:=hx2.trans hx3
 by_cases hl0:l.length=0
 ·have hr:Zty x l most=.tup [.sl .no [],.i 0]:=by unfold Zty;rw[w1,if_neg (by simp),if_pos hl0]
  rw[hr]at qr qn
  have d2:((l.length:Int) == 0)=true:=by simp[hl0]
  have hZ:=d2;refine Bz1 ?_
  exact ZaW (by exact AXT) rfl
 have d2:((l.length:Int) == 0)=false:=by rw[beq_eq_false_iff_ne];omega
 have hr:Zty x l most=resF most (fct x l [] ((l.length:Int) - 1)):=by unfold Zty;rw[w1,if_neg (by simp),if_neg hl0]
 rw[hr]at qr qn
 have hZ:=d2;refine Bz1 ?_
 obtain⟨_,_,_,g3⟩:=(ha.ext hx3).eAr
 refine Zap.use (ZlR g3 hw.w.may) ?_
 rintro r H4 ⟨hx4,t4,rfl⟩
 have hx4:=hx3.trans hx4
 refine Bz0 ?_
 have haw:aid<H4.next:=by obtain⟨_,_,_,e⟩:=ha.ext hx4;exact Zaa.lt e
 have hW0:Wkr H4.next aid ((x.sizes.length:Int) - 1) most [] [] 0 (H4.alloc (.cells [.ptr aid 0,.i ((x.sizes.length:Int) - 1),.sl .full [],.i most,.sl .full [],.i 0] 206)) :=
  ⟨⟨_,_,Zaa.Zae,.inl ⟨rfl,rfl⟩,.inl ⟨rfl,rfl⟩⟩,haw⟩
 have hx5:Zaa.Ext H (H4.alloc (.cells [.ptr aid 0,.i ((x.sizes.length:Int) - 1),.sl .full [],.i most,.sl .full [],.i 0] 206)):=hx4.alloc
 have hn4:=hx4.next
 generalize hwid:H4.next=wid at *
 generalize H4.alloc (.cells [.ptr aid 0,.i ((x.sizes.length:Int) - 1),.sl .full [],.i most,.sl .full [],.i 0] 206)=H5 at *
 refine Zap.use (Ziu (ha.ext hx5) p1 (by omega)) ?_
 rintro _ H6 ⟨rfl,hx6⟩
 refine Bz0 ?_
 have hx56:=hx5.trans hx6
 have hdim:=ZuF w1 hl0
 have hcall:=Zux (wid:=wid) (aid:=aid) (d0:=0) hw (by omega:((x.sizes.length:Int) - 1)=(x.sizes.length:Int) - 1 - 0) hm l.length [] [] ((l.length:Int) - 1) H6 (by omega) (by omega) (by omega) (by rw[hdim];simp) (by simp;omega) (by simp) (hW0.ext hx6) (ha.ext hx56)
 refine Zap.use hcall ?_
 rintro r H7 ⟨hx7,⟨kv,ov,hg,hK,hO⟩,_⟩
 have hxH:Zaa.Ext H H7:=⟨zay hx56.next hx7.next,fun i o e=>hx7.get i o (by have:=Zaa.lt e;omega) (hx56.get i o e)⟩
 unfold ZtH at hg
 generalize fct x l [] ((l.length:Int) - 1)=F at *
 unfold resF at qr qn
 by_cases he:(fill most [] F).2=0
 ·rw[if_pos he]at qr qn
  have d3:((fill most [] F).2 != 0)=false:=by simpa using he
  rw[he]at hg
  have hov:∃t,ov=.sl t (rF (fill most [] F).1):=by
   rcases hO with⟨rfl,h⟩|⟨tk,rfl,_⟩
   ·rw[h];exact⟨.full,rfl⟩
   ·exact⟨_,rfl⟩
  obtain⟨t,rfl⟩:=hov
  have hZ:=hg;refine Bz1 ?_
  exact ZaW hxH rfl
 ·rw[if_neg he]at qr qn
  have d3:((fill most [] F).2 != 0)=true:=by simpa using he
  generalize (fill most [] F).2=e at *
  have hZ:=an7 hg<|d3;refine Bz1 ?_
  exact ZaW hxH rfl
end Go.Proofs.YtaapiigfmdhobaaGreat
