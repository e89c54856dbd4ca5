/- Texts of the walk. -/
import Derived.Test.YtdfgoekdlmkdfaaGreatDoorNa
namespace Go.Proofs.YtdfgoekdlmkdfaaGreatDoor
set_option linter.defProp false
set_option maxHeartbeats 64000000
set_option linter.unusedSimpArgs false
set_option linter.unusedVariables false
open Go.RowKit Go.Lib
noncomputable def sMem (S:Tx) (c:Sn):Sn×Tx:=(ZHG (sTxt S 16 c).1 (isT (sTxt S 16 c).2) 3,(sTxt S 16 c).2)
theorem ZKh (S:Tx) (c:Sn):Lw S (sMem S) gMem c :=
 Lw.bind (f2:=fun s c=>(ZHG c (isT s) 3,s)) (g2:=fun s b=>if isT s=true then some (s,b) else none) rfl (fun h=>by unfold gMem;rw[h]) (fun a r h=>by unfold gMem;rw[h]<;>rfl) (ZHx S 16 c) fun s c=>ZJb S _ _ _ c
noncomputable def sRw (S:Tx) (nd nm:Nat) (c:Sn):Sn×Rw :=
 let t:=ZIk (sMem S) nd c []
 let v:=ZIk (sInt S) nm t.1 []
 (v.1,⟨t.2,v.2⟩)
theorem sRw_law (S:Tx) (nd nm:Nat) (c:Sn):Lw S (sRw S nd nm) (gRw nd nm) c:=by
 refine Lw.bind (f2:=fun ts c=>let v:=ZIk (sInt S) nm c [];(v.1,⟨ts,v.2⟩)) (g2:=fun ts r=>match ZHu (fun _=>gInt) nm [] r with
  | some (vs,r2)=>some (⟨ts,vs⟩,r2)
  | none=>none) rfl (fun h=>by unfold gRw;rw[h]) (fun a r h=>by unfold gRw;rw[h]<;>rfl) (ZH7 (ZKh S) nd [] c) fun ts c=>?_
 refine Lw.bind (f2:=fun vs c=>(c,⟨ts,vs⟩)) (g2:=fun vs r2=>some (⟨ts,vs⟩,r2)) rfl (fun h=>by simp only[h]) (fun a r h=>by simp only[h]) (ZH7 (ZIY S) nm [] c) fun vs c=>?_
 exact⟨fun h=>h,fun h=>h,fun _ _ h=>(by cases h),fun h _ a r e=>by
  injection e with e
  injection e with h1 h2
  exact⟨h,h1,h2⟩⟩
theorem sRw_len (S:Tx) (nd nm:Nat) (c:Sn):(sRw S nd nm c).2.terms.length=nd/\(sRw S nd nm c).2.vals.length=nm:=by
 unfold sRw
 simp[ZJZ]
noncomputable def sRws (S:Tx) (nd nm:Nat) (c:Sn):Sn×List Rw:=ZHz (fun _=>sRw S nd nm) (sNum S 300 c).2 (sNum S 300 c).1 []
theorem ZKj (S:Tx) (nd nm:Nat) (c:Sn):Lw S (sRws S nd nm) (gRws nd nm) c :=
 Lw.bind (f2:=fun n c=>ZHz (fun _=>sRw S nd nm) n c []) (g2:=fun n r=>ZHu (fun _=>gRw nd nm) n [] r) rfl (fun h=>by unfold gRws;rw[h]) (fun a r h=>by unfold gRws;rw[h]<;>rfl) (ZHp S _ c) fun n c=>ZHS n [] (fun c acc=>sRw_law S nd nm c) c
theorem sRws_len (S:Tx) (nd nm:Nat) (c:Sn):(sRws S nd nm c).2.length<=300:=by
 have h1:=ZHK S 300 c
 have h2:=ZIs (fun _=>sRw S nd nm) (sNum S 300 c).2 (sNum S 300 c).1 []
 unfold sRws
 simp only[List.length_nil]at h2
 omega
theorem ZLs (S:Tx) (nd nm:Nat) (c:Sn):∀x∈(sRws S nd nm c).2,x.terms.length=nd/\x.vals.length=nm :=
 ZIc (f:=fun _=>sRw S nd nm) (P:=fun x=>x.terms.length=nd/\x.vals.length=nm) (fun acc c _=>sRw_len S nd nm c) _ _ [] (fun t h=>by cases h)
noncomputable def sFil (S:Tx) (f:Nat) (c:Sn):Sn×Pk :=
 if f=1 then
  let t:=sNum S 3 c
  let lo:=sTxt S 16 t.1
  let hi:=sTxt S 16 lo.1
  (hi.1,⟨1,t.2,lo.2,hi.2,[],0⟩)
 else if f=2 then
  let t:=sNum S 3 c
  let l:=sRow S 200 t.1
  (l.1,⟨2,t.2,[],[],l.2,0⟩)
 else (c,⟨0,0,[],[],[],0⟩)
theorem ZJ3 {α β:Type} {S:Tx} {F:α->β} (a:α) (c:Sn):Lw S (fun c=>(c,F a)) (fun b=>some (F a,b)) c :=
 ⟨fun h=>h,fun h=>h,fun _ _ h=>(by cases h),fun h _ a r e=>by
  injection e with e
  injection e with h1 h2
  exact⟨h,h1,h2⟩⟩
theorem ZKm (S:Tx) (f:Nat) (c:Sn):Lw S (sFil S f) (gFil f) c:=by
 by_cases h1:f=1
 ·have e1:sFil S f=fun c=>(let t:=sNum S 3 c;let lo:=sTxt S 16 t.1;let hi:=sTxt S 16 lo.1;(hi.1,⟨1,t.2,lo.2,hi.2,[],0⟩)):=by funext c;unfold sFil;rw[if_pos h1]
  have e2:gFil f=fun b=>(match gNum 3 b with
   | some (t,r)=>match gTxt 16 r with
    | some (lo,r2)=>match gTxt 16 r2 with
     | some (hi,r3)=>some (⟨1,t,lo,hi,[],0⟩,r3)
     | none=>none
    | none=>none
   | none=>none):=by funext b;unfold gFil;rw[if_pos h1];rfl
  rw[e1,e2]
  refine Lw.bind (f2:=fun t c=>let lo:=sTxt S 16 c;let hi:=sTxt S 16 lo.1;(hi.1,⟨1,t,lo.2,hi.2,[],0⟩)) (g2:=fun t r=>match gTxt 16 r with
    | some (lo,r2)=>match gTxt 16 r2 with
     | some (hi,r3)=>some (⟨1,t,lo,hi,[],0⟩,r3)
     | none=>none
    | none=>none) rfl (fun h=>by simp only[h]) (fun a r h=>by simp only[h]) (ZHp S 3 c) fun t c=>?_
  refine Lw.bind (f2:=fun lo c=>let hi:=sTxt S 16 c;(hi.1,⟨1,t,lo,hi.2,[],0⟩)) (g2:=fun lo r2=>match gTxt 16 r2 with
     | some (hi,r3)=>some (⟨1,t,lo,hi,[],0⟩,r3)
     | none=>none) rfl (fun h=>by simp only[h]) (fun a r h=>by simp only[h]) (ZHx S 16 c) fun lo c=>?_
  exact Lw.bind (f2:=fun hi c=>(c,⟨1,t,lo,hi,[],0⟩)) (g2:=fun hi r3=>some (⟨1,t,lo,hi,[],0⟩,r3)) rfl (fun h=>by simp only[h]) (fun a r h=>by simp only[h]) (ZHx S 16 c) fun hi c=>ZJ3 (F:=fun hi=>(⟨1,t,lo,hi,[],0⟩:Pk)) hi c
 ·by_cases h2:f=2
  ·have e1:sFil S f=fun c=>(let t:=sNum S 3 c;let l:=sRow S 200 t.1;(l.1,⟨2,t.2,[],[],l.2,0⟩)):=by funext c;unfold sFil;rw[if_neg h1,if_pos h2]
   have e2:gFil f=fun b=>(match gNum 3 b with
    | some (t,r)=>match gRow 200 r with
     | some (l,r2)=>some (⟨2,t,[],[],l,0⟩,r2)
     | none=>none
    | none=>none):=by funext b;unfold gFil;rw[if_neg h1,if_pos h2];rfl
   rw[e1,e2]
   refine Lw.bind (f2:=fun t c=>let l:=sRow S 200 c;(l.1,⟨2,t,[],[],l.2,0⟩)) (g2:=fun t r=>match gRow 200 r with
     | some (l,r2)=>some (⟨2,t,[],[],l,0⟩,r2)
     | none=>none) rfl (fun h=>by simp only[h]) (fun a r h=>by simp only[h]) (ZHp S 3 c) fun t c=>?_
   exact Lw.bind (f2:=fun l c=>(c,⟨2,t,[],[],l,0⟩)) (g2:=fun l r2=>some (⟨2,t,[],[],l,0⟩,r2)) rfl (fun h=>by simp only[h]) (fun a r h=>by simp only[h]) (ZI9 S 200 c) fun l c=>ZJ3 (F:=fun l=>(⟨2,t,[],[],l,0⟩:Pk)) l c
  ·have e1:sFil S f=fun c=>(c,⟨0,0,[],[],[],0⟩):=by funext c;unfold sFil;rw[if_neg h1,if_neg h2]
   have e2:gFil f=fun b=>some (⟨0,0,[],[],[],0⟩,b):=by funext b;unfold gFil;rw[if_neg h1,if_neg h2]
   rw[e1,e2]
   exact ZJ3 (F:=fun _=>(⟨0,0,[],[],[],0⟩:Pk)) () c
noncomputable def sPk (S:Tx) (c:Sn):Sn×Pk :=
 let f:=sNum S 2 c
 let p:=sFil S f.2 f.1
 let q:=sNum S 4 p.1
 (q.1,{ p.2 with by':=q.2 })
theorem sPk_law (S:Tx) (c:Sn):Lw S (sPk S) gPk c:=by
 refine Lw.bind (f2:=fun f c=>let p:=sFil S f c;let q:=sNum S 4 p.1;(q.1,{ p.2 with by':=q.2 })) (g2:=fun f r=>match gFil f r with
  | some (p,r2)=>(gNum 4 r2).map fun q=>({ p with by':=q.1 },q.2)
  | none=>none) rfl (fun h=>by unfold gPk;rw[h]) (fun a r h=>by unfold gPk;rw[h]<;>rfl) (ZHp S 2 c) fun f c=>?_
 refine Lw.bind (f2:=fun p c=>let q:=sNum S 4 c;(q.1,{ p with by':=q.2 })) (g2:=fun p r2=>(gNum 4 r2).map fun q=>({ p with by':=q.1 },q.2)) rfl (fun h=>by simp only[h]) (fun a r h=>by simp only[h]) (ZKm S f c) fun p c=>?_
 exact Lw.bind (f2:=fun n c=>(c,{ p with by':=n })) (g2:=fun n b=>some ({ p with by':=n },b)) rfl (fun h=>by simp only[h];rfl) (fun a r h=>by simp only[h];rfl) (ZHp S 4 c) fun n c=>ZJ3 (F:=fun n=>({ p with by':=n }:Pk)) n c
noncomputable def sPks (S:Tx) (nd:Nat) (c:Sn):Sn×List Pk:=ZIk (sPk S) nd c []
noncomputable def gPks (nd:Nat) (b:Tx):Option (List Pk×Tx):=ZHu (fun _=>gPk) nd [] b
theorem ZKd (S:Tx) (nd:Nat) (c:Sn):Lw S (sPks S nd) (gPks nd) c:=ZH7 (sPk_law S) nd [] c
def eRw (r:Rw):List AV:=[.sl .no (rS r.terms),.sl .no (rI r.vals)]
abbrev rR (l:List Rw):List (List AV):=l.map eRw
def ePk (p:Pk):List AV:=[.i (p.filt:Nat),.i (p.tier:Nat),eS p.lo,eS p.hi,.sl .no (rS p.set),.b (decide (0<p.by')),.i ((p.by' - 1:Nat):Int)]
abbrev rP (l:List Pk):List (List AV):=l.map ePk
structure Hld (D:List Nat) (G G':Zaa):Prop where
 next:G.next<=G'.next
 old:∀i o,i ∉ D->G.get i=some o->G'.get i=some o
theorem Hld.refl (D:List Nat) (G:Zaa):Hld D G G:=⟨zad _,fun _ _ _ h=>h⟩
theorem Hld.trans {D:List Nat} {G1 G2 G3:Zaa} (h:Hld D G1 G2) (k:Hld D G2 G3):Hld D G1 G3:=⟨zaM h.next k.next,fun i o hi hg=>k.old i o hi (h.old i o hi hg)⟩
theorem Hld.bump {D:List Nat} {G G':Zaa} {n:Nat} (h:Hld D G G'):Hld D G (G'.bump n):=⟨by have:=h.next;simp only[nx];omega,fun i o hi hg=>by rw[Zaa.ZaB];exact h.old i o hi hg⟩
theorem Hld.alloc {D:List Nat} {G G':Zaa} {o:Zb3} (h:Hld D G G'):Hld D G (G'.alloc o):=⟨by have:=h.next;simp only[nx];omega,fun i p hi hg=>by
 have h1:=Zaa.lt (h.old i p hi hg)
 rw[Zaa.Zag Xa];exact h.old i p hi hg⟩
theorem Hld.ZIC {D:List Nat} {G G':Zaa} {id:Nat} {o:Zb3} (h:Hld D G G') (hd:id∈D):Hld D G (G'.set id o):=⟨by have:=h.next;simp only[nx];omega,fun i p hi hg=>by
 have hne:i≠id:=fun e=>hi (by rw[e];exact hd)
 rw[Zaa.Zah hne];exact h.old i p hi hg⟩
theorem Hld.Zmf {D:List Nat} {G G':Zaa} {id:Nat} {o:Zb3} (h:Hld D G G') (hd:G.next<=id):Hld D G (G'.set id o):=⟨by have:=h.next;simp only[nx];omega,fun i p hi hg=>by
 have:=Zaa.lt hg
 rw[Zaa.Zah Xa];exact h.old i p hi hg⟩
theorem Hld.ext {D:List Nat} {E G G':Zaa} (h:Hld D G G') (hE:Zaa.Ext E G) (hD:∀i∈D,E.next<=i):Zaa.Ext E G':=⟨zaM hE.next h.next,fun i o hg=>h.old i o (fun hm=>by have:=hD i hm;have:=Zaa.lt hg;omega) (hE.get i o hg)⟩
structure ZIq (R L:List (List AV)):Prop where
 len:R.length=L.length
 rows:∀(i:Nat) r r',R[i]?=some r->L[i]?=some r'->r.length=r'.length/\∀(j:Nat) x y,r[j]?=some x->r'[j]?=some y->Wkn x y
theorem ZIq.nil:ZIq [] []:=⟨rfl,fun i r r' h=>by simp at h⟩
theorem ZIq.snoc {R L:List (List AV)} {r r':List AV} (h:ZIq R L) (hl:r.length=r'.length) (hr:∀(j:Nat) x y,r[j]?=some x->r'[j]?=some y->Wkn x y):ZIq (R++[r]) (L++[r']):=by
 refine⟨by simp[h.len],fun i a a' ha ha'=>?_⟩
 by_cases hi:i<R.length
 ·rw[List.getElem?_append_left hi]at ha
  rw[List.getElem?_append_left (by have:=h.len;omega)]at ha'
  exact h.rows i a a' ha ha'
 ·have hl2:=(List.getElem?_eq_some_iff.1 ha).1
  rw[zaa,List.length_singleton]at hl2
  obtain rfl:i=R.length:=Xa
  rw[List.getElem?_concat_length]at ha
  rw[h.len,List.getElem?_concat_length]at ha'
  injection ha with ha
  injection ha' with ha'
  subst ha ha'
  exact⟨hl,hr⟩
theorem ZIq.wkn {R L:List (List AV)} (t:Tok) (h:ZIq R L):Wkn (.sl t R) (.sl .no L):=.sl t R L h.len (fun i r r' h1 h2=>(h.rows i r r' h1 h2).1) fun i r r' j x y h1 h2 h3 h4=>(h.rows i r r' h1 h2).2 j x y h3 h4
theorem ZIq.all {R L:List (List AV)} {n:Nat} (h:ZIq R L) (hl:∀r∈L,r.length=n):ZaE n R=true:=by
 unfold ZaE
 rw[zaA]
 intro r hr
 obtain⟨i,hi,rfl⟩:=zar hr
 have hi2:i<L.length:=by have:=h.len;omega
 have:=(h.rows i R[i] L[i] (zac hi) (zac hi2)).1
 simpa [this] using hl _ (zah hi2)
theorem wkn_rw (ts:List Tx) (vs:List Int) (t1 t2:Tok):∀(j:Nat) x y,([.sl t1 (rS ts),.sl t2 (rI vs)]:List AV)[j]?=some x->(eRw ⟨ts,vs⟩)[j]?=some y->Wkn x y:=by
 intro j x y hx hy
 unfold eRw at hy
 match j with
 | 0=>simp at hx hy;subst hx hy;exact Zfm _ _
 | 1=>simp at hx hy;subst hx hy;exact Zfm _ _
 | j+2=>simp at hx
open Go.RowKit Go.Lib
def ZHt (n:Nat) (F F':Fr):Prop:=∀x,x<n->Fr.get F' x=Fr.get F x
theorem ZHt.refl (n:Nat) (F:Fr):ZHt n F F:=fun _ _=>rfl
theorem ZHt.cons {n k:Nat} {F F':Fr} {v:AV} (hk:n<=k) (h:ZHt n F F'):ZHt n F ((k,v) :: F'):=fun x hx=>by
 show(if x=k then v else Fr.get F' x)=Fr.get F x
 rw[if_neg Xa];exact h x hx
theorem mems_any {Q:AEx->Fr->Zaa->Prop} {F:Fr} {G:Zaa} {S:Tx} {c0:Sn} {n i7 i11:Nat} {R:Sn×List Tx} (hS:S.length<=1000000) (hn:n<=1000) (hk0:c0.k<=S.length) (hR:ZIk (sMem S) n c0 []=R) (hne:i7≠i11)
  (g7:G.get i7=some (.cells (eSn S c0) 109)) (g11:G.get i11=some (.cells [.sl .full ([]),.sl .full []] 53))
  (f7:Fr.get F 7=.ptr i7 0) (f11:Fr.get F 11=.ptr i11 0) (fN:Fr.get F 39=.i (n:Int)) (fi:Fr.get F 40=.i 0)
  (hQ:∀F' G' tok,ZHt 12 F F'->Hld [i7,i11] G G'->G'.get i7=some (.cells (eSn S R.1) 109)->G'.get i11=some (.cells [.sl tok (rS R.2),.sl .full []] 53)->Q .normal F' G'):AW Tryz.prog c30_2 Q F G:=by
 have qr:=trivial
 have qn:=trivial
 have lo7:=Zaa.lt g7
 have lo11:=Zaa.lt g11
 refine ZbJ (N:=n) (fun k F' G'=>Fr.get F' 40=.i (k:Int)/\Fr.get F' 39=.i (n:Int)/\ZHt 12 F F'/\∃c acc tok,acc.length=k/\ZIk (sMem S) (n - k) c acc=R/\c.k<=S.length/\ZCe G.next G' 9 1 k tok/\Hld [i7,i11] G G'/\G'.get i7=some (.cells (eSn S c) 109)/\G'.get i11=some (.cells [.sl tok (rS acc),.sl .full []] 53)) Xd (fun k F G h=>⟨h.1,h.2.1⟩) (GStep.refl _ _) ⟨fi,fN,ZHt.refl _ _,c0,[],.full,rfl,hR,hk0,.inl rfl,.refl _ _,g7,g11⟩ ?_ ?_
 ·rintro i F' G' hi ⟨fi,fN,hF,c,acc,tok,hal,hRr,hck,hT,hH,g7,g11⟩
  have f7:=(hF 7 Xa).trans f7
  have f11:=(hF 11 Xa).trans f11
  rw[show n - i=(n - (i+1))+1 by omega,ZIk]at hRr
  have hw:=ZCE (s:=i) Xa
  have htx:=fun H=>ZH1 S 16 c H hS hck Xa
  have hqk0:=(ZHx S 16 c).le hck
  have he:sMem S c=(ZHG (sTxt S 16 c).1 (isT (sTxt S 16 c).2) 3,(sTxt S 16 c).2):=rfl
  rw[he]at hRr
  generalize sTxt S 16 c=p at *
  obtain⟨c1,x⟩:=p
  simp only at hqk0 hRr htx
  have hqk:(ZHG c1 (isT x) 3).k<=S.length:=ZI5 hqk0
  have hra:=Zlh x
  have hwt:=fun H=>ZI6 S (isT x) c1 3 H
  generalize ZHG c1 (isT x) 3=c2 at *
  have hrl:(rS acc).length=i:=by simp[hal]
  have hall:ZaE 1 (rS acc)=true:=ZaU (f:=fun x:Tx=>[eS x]) (sz:=1) (fun _=>rfl) _
  have hm1:i+1<=maxLen:=ZAp Xa
  have hm2:(i+1) * 16<=140737488355328:=Xa
  have hsn:rS acc++[[eS x]]=rS (acc++[x]):=Xc
  generalize hR1:rS (acc++[x])=R1 at *
  generalize hR0:rS acc=R0 at *
  have hal2:ZaE 1 [[eS x]]=true:=rfl
  have l7:=Zaa.lt g7
  have l11:=Zaa.lt g11
  have hHn:=hH.next
  skip
  refine Bz1 (X6 fi fN f7 f11 g7 YZs) ?_
  refine qcp (htx _) fun k1=>?_
  refine Bz1 (X5 fi fN f7 f11 YZs) ?_
  refine qcp (hra _) fun k2=>?_
  refine Bz1 (X5 fi fN f7 f11 YZs) ?_
  refine Zap.gen (hwt _) (fun G5=>Zaa.Ext G' G5) (fun k=>xX) ?_
  intro G5 hx5
  have g7:=hx5.get _ _ g7
  have g11:=hx5.get _ _ g11
  have hH:Hld [i7,i11] G G5:=hH.trans ⟨hx5.next,fun i o _ h=>hx5.get i o h⟩
  have hHn:=hH.next
  have l7:=Zaa.lt g7
  have l11:=Zaa.lt g11
  rcases hT with rfl|⟨t',ht',rfl,hgt⟩
  ·refine Bz1 (X12 fi fN f7 f11 g7 g11 hrl hall hal2 hm1 hm2 (X3 hsn hw YZs)) ?_
   exact⟨(by repeat (first|exact hF|refine ZHt.cons Xa ?_)),c2,acc++[x],.own G5.next,by simp[hal],hRr,hqk,.inr ⟨_,Xa,rfl,by rw[Zaa.Zah Xa];exact Zaa.Zat (by first|rfl|(simp only[nx];done)|(simp only[nx];omega))⟩,(by repeat (first|assumption|refine Hld.Zmf ?_ Xa|refine Hld.ZIC ?_ Xc|refine Hld.alloc ?_|refine Hld.bump ?_)),rfl,by rw[hR1]⟩
  ·have hgt:=hx5.get _ _ hgt
   have lt':=Zaa.lt hgt
   have ht7:t'≠i7:=Xa
   have ht11:t'≠i11:=Xa
   refine Bz1 (X12 fi fN f7 f11 g7 g11 hgt ht7 ht11 hrl hall (X6 hal2 hm1 hm2 hsn hw YZs)) ?_
   exact⟨(by repeat (first|exact hF|refine ZHt.cons Xa ?_)),c2,acc++[x],.own t',by simp[hal],hRr,hqk,.inr ⟨_,Xa,rfl,by rw[Zaa.Zah Xa];exact Zaa.Zal Xe⟩,(by repeat (first|assumption|refine Hld.Zmf ?_ Xa|refine Hld.ZIC ?_ Xc|refine Hld.alloc ?_|refine Hld.bump ?_)),rfl,by rw[hR1]⟩
 ·rintro F' G' ⟨fi,fN,hF,c,acc,tok,hal,hRr,hck,hT,hH,g7,g11⟩
  rw[zaY,ZIk]at hRr
  subst hRr
  exact hQ _ _ tok ((by repeat (first|exact hF|refine ZHt.cons Xa ?_))) hH g7 g11
theorem ints_any {Q:AEx->Fr->Zaa->Prop} {F:Fr} {G:Zaa} {S:Tx} {c0:Sn} {n i7 i11:Nat} {tk:Tok} {ts:List Tx} {R:Sn×List Int} (hS:S.length<=1000000) (hn:n<=1000) (hk0:c0.k<=S.length) (hR:ZIk (sInt S) n c0 []=R) (hne:i7≠i11)
  (g7:G.get i7=some (.cells (eSn S c0) 109)) (g11:G.get i11=some (.cells [.sl tk (rS ts),.sl .full ([])] 53))
  (f7:Fr.get F 7=.ptr i7 0) (f11:Fr.get F 11=.ptr i11 0) (fN:Fr.get F 60=.i (n:Int)) (fi:Fr.get F 61=.i 0)
  (hQ:∀F' G' tok,ZHt 12 F F'->Hld [i7,i11] G G'->G'.get i7=some (.cells (eSn S R.1) 109)->G'.get i11=some (.cells [.sl tk (rS ts),.sl tok (rI R.2)] 53)->Q .normal F' G'):AW Tryz.prog c30_3 Q F G:=by
 have qr:=trivial
 have qn:=trivial
 have lo7:=Zaa.lt g7
 have lo11:=Zaa.lt g11
 refine ZbJ (N:=n) (fun k F' G'=>Fr.get F' 61=.i (k:Int)/\Fr.get F' 60=.i (n:Int)/\ZHt 12 F F'/\∃c acc tok,acc.length=k/\ZIk (sInt S) (n - k) c acc=R/\c.k<=S.length/\ZCe G.next G' 2 1 k tok/\Hld [i7,i11] G G'/\G'.get i7=some (.cells (eSn S c) 109)/\G'.get i11=some (.cells [.sl tk (rS ts),.sl tok (rI acc)] 53)) Xd (fun k F G h=>⟨h.1,h.2.1⟩) (GStep.refl _ _) ⟨fi,fN,ZHt.refl _ _,c0,[],.full,rfl,hR,hk0,.inl rfl,.refl _ _,g7,g11⟩ ?_ ?_
 ·rintro i F' G' hi ⟨fi,fN,hF,c,acc,tok,hal,hRr,hck,hT,hH,g7,g11⟩
  have f7:=(hF 7 Xa).trans f7
  have f11:=(hF 11 Xa).trans f11
  rw[show n - i=(n - (i+1))+1 by omega,ZIk]at hRr
  have hw:=ZCE (s:=i) Xa
  have htx:=fun H=>int_any S c H hS hck
  have hqk:=(ZIY S c).le hck
  generalize sInt S c=p at *
  obtain⟨c2,x⟩:=p
  simp only at hqk hRr htx
  have hrl:(rI acc).length=i:=by simp[hal]
  have hall:ZaE 1 (rI acc)=true:=ZaU (f:=fun x:Int=>[AV.i x]) (sz:=1) (fun _=>rfl) _
  have hm1:i+1<=maxLen:=ZAp Xa
  have hm2:(i+1) * 8<=140737488355328:=Xa
  have hsn:rI acc++[[AV.i x]]=rI (acc++[x]):=Xc
  generalize hR1:rI (acc++[x])=R1 at *
  generalize hR0:rI acc=R0 at *
  have hal2:ZaE 1 [[AV.i x]]=true:=rfl
  have l7:=Zaa.lt g7
  have l11:=Zaa.lt g11
  have hHn:=hH.next
  skip
  refine Bz1 (X6 fi fN f7 f11 g7 YZs) ?_
  refine Zap.gen (htx _) (fun G5=>Zaa.Ext G' G5) (fun k=>xX) ?_
  intro G5 hx5
  have g7:=hx5.get _ _ g7
  have g11:=hx5.get _ _ g11
  have hH:Hld [i7,i11] G G5:=hH.trans ⟨hx5.next,fun i o _ h=>hx5.get i o h⟩
  have hHn:=hH.next
  have l7:=Zaa.lt g7
  have l11:=Zaa.lt g11
  rcases hT with rfl|⟨t',ht',rfl,hgt⟩
  ·refine Bz1 (X12 fi fN f7 f11 g7 g11 hrl hall hal2 hm1 hm2 (X3 hsn hw YZs)) ?_
   exact⟨(by repeat (first|exact hF|refine ZHt.cons Xa ?_)),c2,acc++[x],.own (G5.next+1),by simp[hal],hRr,hqk,.inr ⟨_,Xa,rfl,by rw[Zaa.Zah Xa];exact Zaa.Zat (by first|rfl|(simp only[nx];done)|(simp only[nx];omega))⟩,(by repeat (first|assumption|refine Hld.Zmf ?_ Xa|refine Hld.ZIC ?_ Xc|refine Hld.alloc ?_|refine Hld.bump ?_)),rfl,by rw[hR1]⟩
  ·have hgt:=hx5.get _ _ hgt
   have lt':=Zaa.lt hgt
   have ht7:t'≠i7:=Xa
   have ht11:t'≠i11:=Xa
   refine Bz1 (X12 fi fN f7 f11 g7 g11 hgt ht7 ht11 hrl hall (X6 hal2 hm1 hm2 hsn hw YZs)) ?_
   exact⟨(by repeat (first|exact hF|refine ZHt.cons Xa ?_)),c2,acc++[x],.own t',by simp[hal],hRr,hqk,.inr ⟨_,Xa,rfl,by rw[Zaa.Zah Xa];exact Zaa.Zal Xe⟩,(by repeat (first|assumption|refine Hld.Zmf ?_ Xa|refine Hld.ZIC ?_ Xc|refine Hld.alloc ?_|refine Hld.bump ?_)),rfl,by rw[hR1]⟩
 ·rintro F' G' ⟨fi,fN,hF,c,acc,tok,hal,hRr,hck,hT,hH,g7,g11⟩
  rw[zaY,ZIk]at hRr
  subst hRr
  exact hQ _ _ tok ((by repeat (first|exact hF|refine ZHt.cons Xa ?_))) hH g7 g11
open Go.RowKit Go.Lib
def tier0 (d:Dm):List Tx:=match d.tiers with
 | []=>[]
 | t :: _=>t.terms
def ZHw:List Dm->List Tx->Bool
 | d :: ds,t :: ts=>decide (t∈tier0 d)&&ZHw ds ts
 | _,_=>true
def ZHC (s:Sc) (x:Rw):Int:=if ZHw s.dims x.terms=true then 0 else 13
theorem ZHQ:∀(ds:List Dm) (ts:List Tx) (k:Nat),ds.length=ts.length->ZHw ds ts=(ZHw (ds.take k) (ts.take k)&&ZHw (ds.drop k) (ts.drop k))
 | [],[],k,_=>by simp[ZHw]
 | [],_ :: _,_,h=>by simp at h
 | _ :: _,[],_,h=>by simp at h
 | d :: ds,t :: ts,0,_=>by simp[ZHw]
 | d :: ds,t :: ts,k+1,h=>by
  have:=ZHQ ds ts k (by simpa using h)
  simp only[List.take_succ_cons,List.drop_succ_cons,ZHw]
  rw[this,Bool.and_assoc]
theorem ZH6 {ds:List Dm} {ts:List Tx} {k:Nat} (h1:k<ds.length) (h2:k<ts.length):ZHw (ds.drop k) (ts.drop k)=(decide (ts[k]∈tier0 ds[k])&&ZHw (ds.drop (k+1)) (ts.drop (k+1))):=by
 rw[zal h1,zal h2]
 rfl
theorem ZJt {s:Sc} (he:scE s=0) {d:Dm} (hd:d∈s.dims):∃t l,d.tiers=t :: l/\tier0 d=t.terms/\Zgt none t.terms=0/\t.terms.length<=200/\d.tiers.length<=4:=by
 have h:=(ZCV he).2.1 d hd
 unfold Zdv at h
 split at h
 ·cases h
 ·split at h
  ·cases h
  ·rename_i hl
   cases e:d.tiers with
   | nil=>rw[e]at hl;simp at hl
   | cons t l =>
    rw[e]at h
    have ht:ZbO t (ZbR l)=0:=by
     unfold Zkb at h
     split at h
     ·rename_i h2;exact absurd h h2
     ·rename_i h2;simpa using h2
    refine⟨t,l,rfl,by unfold tier0;rw[e],ZCu ht,(ZBT ht).2.1,?_⟩
    rw[<- e];omega
theorem ZLP {l:List Tx} {s:Tx}:decide (atT l s<0)=!decide (s∈l):=by
 unfold atT
 by_cases h:s∈l
 ·rw[if_pos h,decide_eq_true h,zbO,decide_eq_false_iff_not];omega
 ·rw[if_neg h,decide_eq_false h];rfl
theorem ZHD (x:Rw):(eRw x).length=2/\(eRw x)[0]?=some (.sl .no (rS x.terms))/\(eRw x)[1]?=some (.sl .no (rI x.vals))/\(eRw x).take 2=eRw x:=⟨rfl,rfl,rfl,rfl⟩
theorem ZKb {l:List Rw} {k:Nat} (h:k<l.length):(rR l)[k]?=some (eRw l[k]):=by simp[h]
theorem ZIQ {l:List Tx} {k:Nat} (h:k<l.length):(rS l)[k]?=some [eS l[k]]:=by simp[h]
theorem rrow_any (s:Sc) (x:Rw) (H:Zaa) (he:scE s=0) (h1:x.terms.length=s.dims.length) (h2:x.vals.length=s.meas.length):Zay Tryz.prog 120 [.agg (eSc s),.agg (eRw x)] H (fun v G=>∃ps,Pure H (.tup [.sl .no (rI ps),.i (ZHC s x)]) v G):=by
 obtain⟨e0,e1,e2,e3⟩:=ZbB s
 obtain⟨a0,a1,a2,a3⟩:=ZHD x
 obtain⟨hl1,_,hl2,_⟩:=ZCV he
 have d1:(((s.dims.length:Nat):Int) != ((s.dims.length:Nat):Int))=false:=Xc
 have d2:(((s.meas.length:Nat):Int) != ((s.meas.length:Nat):Int))=false:=Xc
 have hx0:Zaa.Ext H H:=.refl _
 have fin:∀{ps:List Int} {tok:Tok} {G:Zaa} {e:Int},Zaa.Ext H G->e=ZHC s x->∃r2 H2,Zb6 (.tup [.sl tok (rI ps),.i e]) G r2 H2/\∃ps,Pure H (.tup [.sl .no (rI ps),.i (ZHC s x)]) r2 H2:=by
  intro ps tok G e hx he
  subst he
  have hw:Wkn (.tup [.sl tok (rI ps),.i (ZHC s x)]) (.tup [.sl .no (rI ps),.i (ZHC s x)]):=.tup _ _ rfl fun i x y hx hy=>by
   match i with
   | 0=>simp at hx hy;subst hx hy;exact Zfm _ _
   | 1=>simp at hx hy;subst hx hy;exact .refl _
   | i+2=>simp at hx
  obtain⟨r2,H2,k1,k2⟩:=Zc1 hw hx
  exact⟨r2,H2,k1,ps,k2⟩
 have fin0:∀{G:Zaa} {e:Int},Zaa.Ext H G->e=ZHC s x->∃r2 H2,Zb6 (.tup [.sl .full [],.i e]) G r2 H2/\∃ps,Pure H (.tup [.sl .no (rI ps),.i (ZHC s x)]) r2 H2:=fun hx he=>fin (ps:=[]) (tok:=.full) hx he
 have hsp:=fun k=>ZHQ s.dims x.terms k Xa
 refine fnQ cf120 fun Q qr qn=>?_
 refine Bz3 (X12 e0 e1 e2 e3 a0 a1 a2 a3 h1 h2 d1 d2) ?_
 refine ZbJ (N:=s.dims.length) (fun k F G=>Fr.get F 28=.i (k:Int)/\Fr.get F 27=.i (s.dims.length:Nat)/\Fr.get F 2=.ptr H.next 0/\Fr.get F 3=.ptr (H.next+1) 0/\ZHw (s.dims.take k) (x.terms.take k)=true/\Zaa.Ext H G/\G.get H.next=some (.cells (eSc s) 25)/\G.get (H.next+1)=some (.cells (eRw x) 53)/\∃ps tok,ps.length=k/\Fr.get F 6=.sl tok (rI ps)/\ZCe (H.next+2) G 3 1 k tok) Xd (fun k F G h=>⟨h.1,h.2.1⟩) (GStep.refl _ _) ⟨rfl,rfl,rfl,rfl,rfl,xX,by rw[Zaa.Zag Xe];exact Zaa.Zae,Zaa.Zat xN,[],.full,rfl,rfl,.inl rfl⟩ ?_ ?_
 ·rintro k F G hk ⟨f28,f27,f2,f3,hm,hx,g2,g3,ps,tok,hpl,f6,hT⟩
  have hkt:k<x.terms.length:=Xa
  have hz:(0:Int)<=(k:Int):=Xa
  have hr:=ZjQ hk
  have hrt:=ZIQ hkt
  obtain⟨t0,tl,q1,q2,q3,q4,q5⟩:=ZJt he (zah hk)
  have hspk:=hsp k
  rw[ZH6 hk hkt,q2]at hspk
  have hsp1:=ZHQ (s.dims.take (k+1)) (x.terms.take (k+1)) k Xf
  have htk:ZHw (s.dims.take (k+1)) (x.terms.take (k+1))=decide (x.terms[k]∈t0.terms):=by
   rw[hsp1,zb2,zb2,zbg Xa,hm,za3]
   rw[ZH6 Xf Xf,zbx,zbx,q2,zbf Xf]
   simp[ZHw]
  obtain⟨b0,b1,b2,b3⟩:=Za7 s.dims[k]
  rw[q1]at b2
  obtain⟨c0,c1,c2,c3,c4⟩:=Zba t0
  have hat:=fun H=>ZJ7 .no t0.terms x.terms[k] H Xa
  have hneg:=ZLP (l:=t0.terms) (s:=x.terms[k])
  have dl:((((t0 :: tl).length:Nat):Int) == 0)=false:=by simp only[beq_eq_false_iff_ne,List.length_cons];omega
  have dl2:((((tl.length+1:Nat)):Int) == 0)=false:=by simp only[beq_eq_false_iff_ne];omega
  have hw:=ZCE (s:=k) Xa
  have hrl:(rI ps).length=k:=by simp[hpl]
  have hall:ZaE 1 (rI ps)=true:=ZaU (f:=fun n:Int=>[AV.i n]) (sz:=1) (fun _=>rfl) _
  have hm1:k+1<=maxLen:=ZAp Xa
  have hm2:(k+1) * 8<=140737488355328:=Xa
  generalize hd:s.dims[k]=d at *
  generalize ht:x.terms[k]=t at *
  have hz0:(0:Int)<=0:=zbv _
  have h0:(rT (t0 :: tl))[0]?=some (eTr t0):=rfl
  have l2:=Zaa.lt g2
  have l3:=Zaa.lt g3
  generalize hat2:atT t0.terms t=ap at *
  have hsn:rI ps++[[AV.i ap]]=rI (ps++[ap]):=Xc
  generalize hR1:rI (ps++[ap])=R1 at *
  generalize hR0:rI ps=R0 at *
  have hal2:ZaE 1 [[AV.i ap]]=true:=rfl
  skip
  refine Bz3 (X12 f28 f27 f2 f3 f6 g2 g3 e0 e1 e2 e3 (X12 a0 a1 a2 a3 hz hr hrt b0 b1 b2 b3 (X9 dl dl2 c0 c1 c2 c3 c4 hz0 h0))) ?_
  refine qcp (hat _) fun k1=>?_
  by_cases hin:t∈t0.terms
  ·rw[decide_eq_true hin,zbO]at hneg
   rcases hT with rfl|⟨t',ht',rfl,hgt⟩
   ·refine Bz1 (X12 f28 f27 f2 f3 f6 hneg hrl hall hal2 hm1 hm2 (X2 hsn hw)) ?_
    exact⟨by rw[htk];exact decide_eq_true hin,xX,g2,g3,ps++[ap],_,by simp[hpl],by rw[hR1]<;>rfl,.inr ⟨_,Xe,rfl,Zaa.Zat rfl⟩⟩
   ·have lt':=Zaa.lt hgt
    refine Bz1 (X12 f28 f27 f2 f3 f6 hneg hgt hrl hall hal2 hm1 (X3 hm2 hsn hw)) ?_
    exact⟨by rw[htk];exact decide_eq_true hin,xX,g2,g3,ps++[ap],_,by simp[hpl],by rw[hR1]<;>rfl,.inr ⟨_,Xa,rfl,Zaa.Zal Xe⟩⟩
  ·rw[decide_eq_false hin]at hneg hspk
   have hneg:decide (ap<0)=true:=hneg
   have hv:(13:Int)=ZHC s x:=by unfold ZHC;rw[hspk,zb1,Bool.and_false];rfl
   refine Bz1 (X6 f28 f27 f2 f3 f6 hneg) ?_
   exact fin0 xX hv
 ·rintro F G ⟨f28,f27,f2,f3,hm,hx,g2,g3,ps,tok,hpl,f6,hT⟩
  rw[zaq,<- h1,zaq]at hm
  have hv:(0:Int)=ZHC s x:=by unfold ZHC;rw[hm];rfl
  skip
  refine Bz1 (X1 f6) ?_
  exact fin xX hv
open Go.RowKit Go.Lib
def ZHy (s:Sc) (l:List Rw):Int:=if l.all (fun x=>ZHw s.dims x.terms)=true then 0 else 13
theorem ZJx (s:Sc) (l:List Rw) (H:Zaa) (he:scE s=0) (hl:l.length<=300) (hw:∀x∈l,x.terms.length=s.dims.length/\x.vals.length=s.meas.length) (hsm:Zh1 s):Zay Tryz.prog 69 [.agg (eSc s),.sl .no (rR l)] H (Pure H (.i (ZHy s l))):=by
 obtain⟨e0,e1,e2,e3⟩:=ZbB s
 have hsc:=fun H=>ZeE s H hsm
 rw[he]at hsc
 have d0:((0:Int) != 0)=false:=rfl
 have d3:decide (((l.length:Nat):Int) > 300)=false:=by rw[decide_eq_false_iff_not];omega
 have hx0:Zaa.Ext H H:=.refl _
 refine fnQ cf69 fun Q qr qn=>?_
 refine Bz1 (X2 e0 e3) ?_
 refine qcp (hsc _) fun k1=>?_
 refine Bz3 (X2 d0 d3) ?_
 refine ZbJ (N:=l.length) (fun k F G=>Fr.get F 20=.i (k:Int)/\Fr.get F 19=.i (l.length:Nat)/\Fr.get F 18=.sl .no (rR l)/\Fr.get F 2=.ptr H.next 0/\(l.take k).all (fun x=>ZHw s.dims x.terms)=true/\Zaa.Ext H G/\G.get H.next=some (.cells (eSc s) 25)) Xd (fun k F G h=>⟨h.1,h.2.1⟩) (GStep.refl _ _) ⟨rfl,rfl,rfl,rfl,rfl,xX,by rw[Zaa.ZaB];exact Zaa.Zae⟩ ?_ ?_
 ·rintro k F G hk ⟨f20,f19,f18,f2,hal,hx,g2⟩
  have hz:(0:Int)<=(k:Int):=Xa
  have hr:=ZKb hk
  have htk:(l.take (k+1)).all (fun x=>ZHw s.dims x.terms)=ZHw s.dims l[k].terms:=by
   rw[zae hk,zbt,hal];simp
  have hlk:l.all (fun x=>ZHw s.dims x.terms)=true->ZHw s.dims l[k].terms=true:=fun h=>zaA.1 h _ (zah hk)
  obtain⟨h1,h2⟩:=hw _ (zah hk)
  generalize l[k]=x at *
  obtain⟨a0,a1,a2,a3⟩:=ZHD x
  have hrow:=fun H=>rrow_any s x H he h1 h2
  have hw1:=ZCE (s:=k) Xa
  have l2:=Zaa.lt g2
  skip
  refine Bz1 (X11 f20 f19 f18 f2 g2 hz hr e0 e3 a0 a3) ?_
  refine Zap.use (hrow _) ?_
  rintro _ _ ⟨ps,rfl,k1,rfl⟩
  by_cases hok:ZHw s.dims x.terms=true
  ·have he0:ZHC s x=0:=by unfold ZHC;rw[if_pos hok]
   refine Bz1 (X7 f20 f19 f18 f2 he0 d0 hw1) ?_
   exact⟨by rw[htk];exact hok,xX,g2⟩
  ·have he0:ZHC s x=13:=by unfold ZHC;rw[if_neg hok]
   have hv:ZHy s l=13:=by unfold ZHy;rw[if_neg fun h=>hok (hlk h)]
   have d13:((13:Int) != 0)=true:=rfl
   rw[hv]at qr qn
   refine Bz1 (X6 f20 f19 f18 f2 he0 d13) ?_
   exact ZaW xX rfl
 ·rintro F G ⟨f20,f19,f18,f2,hal,hx,g2⟩
  rw[zaq]at hal
  have hv:ZHy s l=0:=by unfold ZHy;rw[if_pos hal]
  rw[hv]at qr qn
  skip
  refine Bz0 ?_
  exact ZaW xX rfl
theorem rws_any {Q:AEx->Fr->Zaa->Prop} {F:Fr} {H G:Zaa} {S:Tx} {s:Sc} {c0:Sn} {i2 i7 b0 n:Nat} {R:Sn×List Rw} (hS:S.length<=1000000) (hn:n<=300) (hnd:s.dims.length<=1000) (hnm:s.meas.length<=1000) (hk0:c0.k<=S.length) (hR:ZHz (fun _=>sRw S s.dims.length s.meas.length) n c0 []=R)
  (hi2:H.next<=i2) (hi7:H.next<=i7) (hi27:i2≠i7) (hb2:i2<b0) (hb7:i7<b0) (hb:b0<=G.next) (hx0:Zaa.Ext H G) (hg2:G.get i2=some (.cells (eSc s) 25)) (hg7:G.get i7=some (.cells (eSn S c0) 109))
  (f2:Fr.get F 2=.ptr i2 0) (f7:Fr.get F 7=.ptr i7 0) (f8:Fr.get F 8=.i (n:Int)) (f9:Fr.get F 9=.sl .full []) (f10:Fr.get F 10=.i 0)
  (hQ:∀F' G' tok R0,Zaa.Ext H G'->ZIq R0 (rR R.2)->G'.get i2=some (.cells (eSc s) 25)->G'.get i7=some (.cells (eSn S R.1) 109)->Fr.get F' 2=.ptr i2 0->Fr.get F' 7=.ptr i7 0->Fr.get F' 9=.sl tok R0->Q .normal F' G'):AW Tryz.prog c30_1 Q F G:=by
 have qr:=trivial
 have qn:=trivial
 obtain⟨e0,e1,e2,e3⟩:=ZbB s
 refine ZBA (fun m F G=>∃i c acc tok R0,m+i=n/\acc.length=i/\ZHz (fun _=>sRw S s.dims.length s.meas.length) m c acc=R/\c.k<=S.length/\ZIq R0 (rR acc)/\Fr.get F 10=.i (i:Int)/\Fr.get F 8=.i (n:Int)/\Fr.get F 2=.ptr i2 0/\Fr.get F 7=.ptr i7 0/\Fr.get F 9=.sl tok R0/\ZCe b0 G 53 2 i tok/\b0<=G.next/\Zaa.Ext H G/\G.get i2=some (.cells (eSc s) 25)/\G.get i7=some (.cells (eSn S c) 109)) n (GStep.refl _ _) ⟨0,c0,[],.full,[],rfl,rfl,hR,hk0,ZIq.nil,f10,f8,f2,f7,f9,.inl rfl,hb,hx0,hg2,hg7⟩ ?_
 rintro m F G ⟨i,c,acc,tok,R0,hm,hal,hRr,hck,hW,f10,f8,f2,f7,f9,hT,hbn,hx,hg2,hg7⟩
 obtain⟨k,e⟩:=c
 cases m with
 | zero =>
  have d1:decide ((i:Int)<(n:Int))=false:=by rw[decide_eq_false_iff_not];omega
  rw[ZHz]at hRr
  subst hRr
  skip
  refine Bz1 (X3 f10 f8 d1) ?_
  exact hQ _ _ tok R0 hx hW hg2 hg7 (by simpa [Fr.get] using f2) (by simpa [Fr.get] using f7) (by simpa [Fr.get] using f9)
 | succ m =>
  have d1:decide ((i:Int)<(n:Int))=true:=by rw[decide_eq_true_iff];omega
  by_cases he:e=0
  ·subst he
   have dE:((0:Int) == 0)=true:=rfl
   rw[ZHz,if_pos rfl]at hRr
   have hw:=ZCE (s:=i) Xa
   have he1:sRw S s.dims.length s.meas.length ⟨k,0⟩=((ZIk (sInt S) s.meas.length (ZIk (sMem S) s.dims.length ⟨k,0⟩ []).1 []).1,⟨(ZIk (sMem S) s.dims.length ⟨k,0⟩ []).2,(ZIk (sInt S) s.meas.length (ZIk (sMem S) s.dims.length ⟨k,0⟩ []).1 []).2⟩):=rfl
   have hk1:=(ZH7 (ZKh S) s.dims.length [] ⟨k,0⟩).le hck
   rw[he1]at hRr
   generalize hA:ZIk (sMem S) s.dims.length ⟨k,0⟩ []=A at *
   obtain⟨c1,ts⟩:=A
   simp only at hRr hk1
   have hk2:=(ZH7 (ZIY S) s.meas.length [] c1).le hk1
   generalize hB:ZIk (sInt S) s.meas.length c1 []=B at *
   obtain⟨c2,vs⟩:=B
   simp only at hRr hk2
   have l2:=Zaa.lt hg2
   have l7:=Zaa.lt hg7
   have hrl:R0.length=i:=by rw[hW.len];simp[hal]
   have hall:ZaE 2 R0=true:=hW.all fun r hr=>by
    obtain⟨x,_,rfl⟩:=List.mem_map.1 hr
    rfl
   have hm1:i+1<=maxLen:=ZAp Xa
   have hm2:(i+1) * 48<=140737488355328:=Xa
   skip
   refine Bz3 (X12 f10 f8 f2 f7 hg2 hg7 d1 dE e0 e1 e2 e3) ?_
   refine mems_any (n:=s.dims.length) (i7:=i7) (i11:=G.next) hS hnd hck hA Xa (by rw[Zaa.Zag Xa];exact hg7) Zaa.Zae (by simpa [Fr.get] using f7) rfl rfl rfl ?_
   intro F1 G1 tok1 hF1 hH1 g7 g11
   have g2:=hH1.old i2 _ Xf (by rw[Zaa.Zag Xa];exact hg2)
   have q2:=(hF1 2 Xa).trans f2
   have q7:=(hF1 7 Xa).trans f7
   have q8:=(hF1 8 Xa).trans f8
   have q9:=(hF1 9 Xa).trans f9
   have q10:=(hF1 10 Xa).trans f10
   have q11:Fr.get F1 11=.ptr G.next 0:=(hF1 11 Xa).trans rfl
   refine Bz3 (X6 q2 g2 e0 e1 e2 e3) ?_
   refine ints_any (n:=s.meas.length) (i7:=i7) (i11:=G.next) hS hnm hk1 hB Xa g7 g11 (by simpa [Fr.get] using q7) (by simpa [Fr.get] using q11) rfl rfl ?_
   intro F2 G2 tok2 hF2 hH2 g7 g11
   have g2:=hH2.old i2 _ Xf g2
   have q2:=(hF2 2 Xa).trans q2
   have q7:=(hF2 7 Xa).trans q7
   have q8:=(hF2 8 Xa).trans q8
   have q9:=(hF2 9 Xa).trans q9
   have q10:=(hF2 10 Xa).trans q10
   have q11:=(hF2 11 Xa).trans q11
   have hH:=hH1.trans hH2
   have hHn:=hH.next
   have hxG:Zaa.Ext H G2:=hH.ext hx.alloc (fun j hj=>by
    have:=hx.next
    simp at hj
    omega)
   simp only[nx]at hHn
   have hW2:ZIq (R0++[[.sl tok1 (rS ts),.sl tok2 (rI vs)]]) (rR (acc++[⟨ts,vs⟩])):=by
    show ZIq _ ((acc++[(⟨ts,vs⟩:Rw)]).map eRw)
    rw[zaD]
    exact hW.snoc rfl (wkn_rw ts vs tok1 tok2)
   have hal2:ZaE 2 [[.sl tok1 (rS ts),.sl tok2 (rI vs)]]=true:=rfl
   generalize hR1:R0++[[.sl tok1 (rS ts),.sl tok2 (rI vs)]]=R1 at *
   rcases hT with rfl|⟨t',ht',rfl,hgt⟩
   ·refine Bz1 (X12 q2 q7 q8 q9 q10 q11 g11 hrl hall hal2 hm1 (X3 hm2 hR1 hw)) ?_
    exact⟨m,Xa,i+1,c2,acc++[⟨ts,vs⟩],_,R1,Xa,by simp[hal],hRr,hk2,hW2,rfl,rfl,.inr ⟨_,Xa,rfl,Zaa.Zae⟩,Xa,xX,g2,g7⟩
   ·have hgt1:=hH.old t' _ (by have:=Zaa.lt hgt;simp;omega) (by rw[Zaa.Zag (by have:=Zaa.lt hgt;omega)];exact hgt)
    have lt':=Zaa.lt hgt1
    have:=hx.next
    refine Bz1 (X12 q2 q7 q8 q9 q10 q11 g11 hgt1 hrl hall hal2 (X4 hm1 hm2 hR1 hw)) ?_
    exact⟨m,Xa,i+1,c2,acc++[⟨ts,vs⟩],_,R1,Xa,by simp[hal],hRr,hk2,hW2,rfl,rfl,.inr ⟨t',Xa,rfl,Zaa.Zal lt'⟩,Xa,xX,g2,g7⟩
  ·obtain⟨_,dE⟩:=ZHs he
   rw[ZHP _ _ _ he]at hRr
   subst hRr
   skip
   refine Bz1 (X6 f10 f8 f7 hg7 d1 dE) ?_
   exact hQ _ _ tok R0 hx hW hg2 hg7 (by simpa [Fr.get] using f2) (by simpa [Fr.get] using f7) (by simpa [Fr.get] using f9)
theorem ZHW {P:Program} {f:FuncId} {a c b:AV} {H:Zaa} {R:AV->Zaa->Prop} (hw:Wkn a b) (h:Zay P f [c,b] H R):Zay P f [c,a] H R:=h.wknA rfl fun i x y hx hy=>by
 match i with
 | 0=>simp at hx hy;subst hx hy;exact .refl _
 | 1=>simp at hx hy;subst hx hy;exact hw
 | i+2=>simp at hx
noncomputable def rowsR (s:Sc) (b:Tx):Option (List Rw):=if scE s=0 then (match gRws s.dims.length s.meas.length b with
 | some (l,[])=>if l.all (fun x=>ZHw s.dims x.terms)=true then some l else none
 | _=>none) else none
def ZJj (o:Option (List Rw)) (H:Zaa) (v:AV) (G:Zaa):Prop:=match o with
 | some l=>Pure H (.tup [.sl .no (rR l),.i 0]) v G
 | none=>∃x e,e≠0/\Pure H (.tup [.sl .no x,.i e]) v G
theorem ZH8 {o:Option (List Rw)} (ho:o=none) {e:Int} (he:e≠0) {H0 H:Zaa} (hx:Zaa.Ext H0 H):∃r2 H2,Zb6 (.tup [.sl .full [],.i e]) H r2 H2/\ZJj o H0 r2 H2:=by
 subst ho
 have hw:Wkn (.tup [.sl .full [],.i e]) (.tup [.sl .no [],.i e]):=.tup _ _ rfl fun i x y hx hy=>by
  match i with
  | 0=>simp at hx hy;subst hx hy;exact Zfm _ _
  | 1=>simp at hx hy;subst hx hy;exact .refl _
  | i+2=>simp at hx
 obtain⟨r2,H2,k1,k2⟩:=Zc1 hw hx
 exact⟨r2,H2,k1,[],e,he,k2⟩
theorem ZJ8 {o:Option (List Rw)} {l:List Rw} (ho:o=some l) {t:Tok} {R0:List (List AV)} (hW:ZIq R0 (rR l)) {H0 H:Zaa} (hx:Zaa.Ext H0 H):∃r2 H2,Zb6 (.tup [.sl t R0,.i 0]) H r2 H2/\ZJj o H0 r2 H2:=by
 subst ho
 have hw:Wkn (.tup [.sl t R0,.i 0]) (.tup [.sl .no (rR l),.i 0]):=.tup _ _ rfl fun i x y hx hy=>by
  match i with
  | 0=>simp at hx hy;subst hx hy;exact hW.wkn t
  | 1=>simp at hx hy;subst hx hy;exact .refl _
  | i+2=>simp at hx
 obtain⟨r2,H2,k1,k2⟩:=Zc1 hw hx
 exact⟨r2,H2,k1,k2⟩
theorem rws_end (s:Sc) (b:Tx):(ZKp b (sRws b s.dims.length s.meas.length ⟨0,0⟩).1=0->gRws s.dims.length s.meas.length b=some ((sRws b s.dims.length s.meas.length ⟨0,0⟩).2,[]))/\(ZKp b (sRws b s.dims.length s.meas.length ⟨0,0⟩).1≠0->∀l,gRws s.dims.length s.meas.length b≠some (l,[])):=by
 have h:=ZIW (ZKj b s.dims.length s.meas.length ⟨0,0⟩)
 constructor
 ·intro h0
  obtain⟨a,h1,h2⟩:=h.1 h0
  rw[h1,h2]
 ·intro h0 l e
  exact h0 (h.2 ⟨l,e,((ZKj b s.dims.length s.meas.length ⟨0,0⟩).yea rfl (zas _) l [] e).2.1⟩)
theorem ZHU {s:Sc} {b:Tx} (h:scE s≠0\/∀l,gRws s.dims.length s.meas.length b≠some (l,[])):rowsR s b=none:=by
 unfold rowsR
 split
 ·rename_i h0
  rcases h with h|h
  ·exact absurd h0 h
  ·split
   ·rename_i l e;exact absurd e (h l)
   ·rfl
 ·rfl
theorem ZIJ {s:Sc} {b:Tx} (h:scE s=0) {l:List Rw} (e:gRws s.dims.length s.meas.length b=some (l,[])):rowsR s b=if l.all (fun x=>ZHw s.dims x.terms)=true then some l else none:=by
 unfold rowsR
 rw[if_pos h,e]
theorem ZJI (s:Sc) (b:Tx) (H:Zaa) (hS:b.length<=1000000) (hsm:Zh1 s):Zay Tryz.prog 30 [.agg (eSc s),eS b] H (ZJj (rowsR s b) H):=by
 obtain⟨e0,e1,e2,e3⟩:=ZbB s
 have hsc:=fun H=>ZeE s H hsm
 have hx0:Zaa.Ext H H:=.refl _
 by_cases he:scE s=0
 ·rw[he]at hsc
  have d0:((0:Int) != 0)=false:=rfl
  have dE:((0:Int) == 0)=true:=rfl
  obtain⟨hl1,_,hl2,_⟩:=ZCV he
  have hnum:=fun H=>ZHL b 300 ⟨0,0⟩ H hS (zas _) Xa
  have hk1:=(ZHp b 300 ⟨0,0⟩).le (zas _)
  have hnl:=ZHK b 300 ⟨0,0⟩
  have hv:sRws b s.dims.length s.meas.length ⟨0,0⟩=ZHz (fun _=>sRw b s.dims.length s.meas.length) (sNum b 300 ⟨0,0⟩).2 (sNum b 300 ⟨0,0⟩).1 []:=rfl
  obtain⟨w1,w2⟩:=rws_end s b
  have hrl:=sRws_len b s.dims.length s.meas.length ⟨0,0⟩
  have hrw:=ZLs b s.dims.length s.meas.length ⟨0,0⟩
  rw[hv]at w1 w2 hrl hrw
  clear hv
  generalize sNum b 300 ⟨0,0⟩=p at *
  obtain⟨c1,n⟩:=p
  simp only at hk1 hnl w1 w2 hrl hrw hnum
  generalize hR:ZHz (fun _=>sRw b s.dims.length s.meas.length) n c1 []=R at *
  obtain⟨c2,l⟩:=R
  simp only at w1 w2 hrl hrw
  have hend:=ZJL b c2
  have hwr:=fun H=>ZJx s l H he hrl hrw hsm
  have hno:ZHy s l≠0->l.all (fun x=>ZHw s.dims x.terms)≠true:=fun h1 h2=>h1 (by unfold ZHy;rw[if_pos h2])
  have hyes:ZHy s l=0->l.all (fun x=>ZHw s.dims x.terms)=true:=fun h1=>by
   unfold ZHy at h1
   split at h1
   ·assumption
   ·cases h1
  generalize ZHy s l=er at *
  refine fnQ cf30 fun Q qr qn=>?_
  refine Bz1 (X3 e0 e3 YZs) ?_
  refine qcp (hsc _) fun k1=>?_
  refine Bz1 (X2 d0 YZs) ?_
  refine qcp (hnum _) fun k2=>?_
  refine Bz1 (X1 YZs) ?_
  refine rws_any (H:=H) (s:=s) (i2:=H.next) (i7:=H.next+1+k1+k2) (b0:=H.next+1+k1+k2+1) (n:=n) (R:=(c2,l)) hS hnl Xa Xa hk1 hR (zad _) Xa Xa Xa Xa Xe xX xG xG rfl rfl rfl rfl rfl ?_
  intro F G tok R0 hx hW g2 g7 f2 f7 f9
  refine Bz1 (X2 f7 g7) ?_
  refine qcp (hend _) fun k3=>?_
  by_cases h0:ZKp b c2=0
  ·rw[h0]
   rw[ZIJ he (w1 h0)]at qr qn
   refine Bz1 (X6 f2 f9 g2 dE e0 e3) ?_
   refine qcp (ZHW (hW.wkn tok) (hwr _)) fun k4=>?_
   by_cases her:er=0
   ·subst her
    rw[if_pos (hyes rfl)]at qr qn
    refine Bz1 (X2 f9 d0) ?_
    exact ZJ8 rfl hW xX
   ·obtain⟨d1,_⟩:=ZHs her
    rw[if_neg (hno her)]at qr qn
    refine Bz1 (X2 f9 d1) ?_
    exact ZH8 rfl her xX
  ·obtain⟨d1,d2⟩:=ZHs h0
   rw[ZHU (.inr (w2 h0))]at qr qn
   refine Bz1 (X4 f2 f9 d1 d2) ?_
   exact ZH8 rfl h0 xX
 ·obtain⟨d1,_⟩:=ZHs he
  rw[ZHU (.inl he)]
  refine fnQ cf30 fun Q qr qn=>?_
  refine Bz1 (X3 e0 e3 YZs) ?_
  refine qcp (hsc _) fun k1=>?_
  refine Bz1 (X2 d1 YZs) ?_
  exact ZH8 rfl he xX
end Go.Proofs.YtdfgoekdlmkdfaaGreatDoor
