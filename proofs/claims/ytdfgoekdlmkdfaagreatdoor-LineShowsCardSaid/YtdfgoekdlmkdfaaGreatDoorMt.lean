/- Texts of the walk. -/
import Derived.Test.YtdfgoekdlmkdfaaGreatDoorMs
namespace Go.Proofs.YtdfgoekdlmkdfaaGreatDoor
set_option linter.defProp false
set_option maxHeartbeats 64000000
set_option linter.unusedSimpArgs false
set_option linter.unusedVariables false
open Go.RowKit
theorem Zc7 {sz:Nat}:∀{rows:List (List AV)},(∀q∈rows,q.length=sz)->rows.flatten.length=rows.length * sz
 | [],_=>by simp
 | q :: rows,h=>by
  simp only[List.flatten_cons,zaa,List.length_cons]
  rw[Zc7 fun q hq=>h q (zav _ hq),h q (zaF ..),zaE]
  omega
theorem Zp3 {H:Zaa} {E sz bytes id cap:Nat} {zero:List AV} {rows:List (List AV)} {tail r:List AV} {x:AV} {K:AV->Zaa->Prop}
  (ho:H.get id=some (.cells (rows.flatten++tail) E)) (hl:∀q∈rows,q.length=sz) (hx:ZaL H sz x=some [r]) (hr:r.length=sz)
  (hcl:(rows.flatten++tail).length=cap * sz) (hn:rows.length<=cap) (h63:rows.length+1<=maxLen) (hby:(rows.length+1) * bytes<=140737488355328) (hz:zero.length=sz)
  (k:∀id' cap' tail' H',(id'=id/\H'=H.set id (.cells ((rows++[r]).flatten++tail') E))\/(id'=H.next/\H'=H.alloc (.cells ((rows++[r]).flatten++tail') E))->((rows++[r]).flatten++tail').length=cap' * sz->rows.length+1<=cap'->cap'<=maxLen\/cap'=cap->K (.arr id' 0 (rows.length+1) cap') H') :
  Zk3 H E sz bytes zero (.arr id 0 rows.length cap) x K:=by
 have hfl:=Zc7 hl
 unfold Zk3
 rw[hx]
 simp only[ho]
 refine⟨⟨trivial,trivial,Xc,by simp[ZaE,hr],hcl,hn,h63,hby⟩,fun h1=>?_,fun h1 c h2 h3=>?_⟩
 ·have htl:sz<=tail.length:=by
   rw[zaa,hfl]at hcl
   have:(rows.length+1) * sz<=cap * sz:=zaS _ h1
   rw[zaE]at this
   omega
  have e:splice (rows.flatten++tail) (rows.length * sz) [r].flatten=(rows++[r]).flatten++tail.drop sz:=by
   unfold splice
   rw[<- hfl,List.take_left]
   simp only[zbq,List.flatten_cons,List.flatten_nil,zaw,hr]
   rw[List.drop_length_add_append]
  rw[e]
  refine k id cap (tail.drop sz) _ (.inl ⟨rfl,rfl⟩) ?_ h1 (.inr rfl)
  rw[<- hcl]
  simp only[zbq,List.flatten_cons,List.flatten_nil,zaw,zaa,zaB,hr]
  omega
 ·have e:(rows.flatten++tail).take (rows.length * sz)++([r].flatten++(List.replicate (c - (rows.length+1)) zero).flatten)=(rows++[r]).flatten++(List.replicate (c - (rows.length+1)) zero).flatten:=by
   rw[<- hfl,List.take_left]
   simp
  have hlen1:[r].length=1:=rfl
  simp only[hlen1]at h1 h2 ⊢
  rw[e]
  refine k H.next c _ _ (.inr ⟨rfl,rfl⟩) ?_ h2 (.inl h3)
  have hrep:=Zc7 (sz:=sz) (rows:=List.replicate (c - (rows.length+1)) zero) (fun q hq=>by rw[(List.mem_replicate.1 hq).2];exact hz)
  rw[zaa,hrep,zaW]
  simp only[zbq,List.flatten_cons,List.flatten_nil,zaw,zaa,hfl,hr]
  have:c * sz=(rows.length+1) * sz+(c - (rows.length+1)) * sz:=by rw[<- zaE];congr 1;omega
  rw[this,zaE]
  omega
open Go.RowKit Go.Lib
theorem ZDE (t:Tok) (l:List Tx) (q:Tx) (H:Zaa) (hl:l.length<=100000):Zay Tryz.prog 188 [.sl t (rS l),eS q] H (Pure H (.i (atT l q))):=by
 have hx0:Zaa.Ext H H:=.refl _
 refine fnQ cf188 fun Q qr qn=>?_
 refine Bz2 ?_
 refine ZbJ (N:=l.length) (fun k F G=>Fr.get F 8=.i (k:Int)/\Fr.get F 7=.i (l.length:Int)/\Fr.get F 0=.sl t (rS l)/\Fr.get F 1=eS q/\Zaa.Ext H G/\q ∉ l.take k) Xd (fun k F G h=>⟨h.1,h.2.1⟩) (GStep.refl _ _) ⟨rfl,rfl,rfl,rfl,hx0,Xc⟩ ?_ ?_
 ·rintro k F G hk ⟨f8,f7,f0,f1,hx,hn⟩
  have hz:(0:Int)<=(k:Int):=Xa
  have hr:(rS l)[k]?=some [eS l[k]]:=by simp[hk]
  by_cases he:l[k]=q
  ·have hat:=ZDQ hk he hn
   have d:decide (q=l[k])=true:=decide_eq_true he.symm
   skip
   refine Bz1 (X7 f8 f7 f0 f1 hz hr d) ?_
   rw[hat]
   exact ZaW hx rfl
  ·have d:decide (q=l[k])=false:=decide_eq_false fun h=>he h.symm
   have hn2:q ∉ l.take (k+1):=by
    rw[zae hk,zaj,zat]
    exact fun h=>h.elim hn fun h=>he h.symm
   skip
   refine Bz1 (X7 f8 f7 f0 f1 hz hr d) ?_
   exact⟨hx,hn2⟩
 ·rintro F G ⟨f8,f7,f0,f1,hx,hn⟩
  rw[zaq]at hn
  have hat:atT l q = -1:=by unfold atT;rw[if_neg hn]
  skip
  refine Bz0 ?_
  rw[hat]
  exact ZaW hx rfl
theorem ZFO (t:Tok) (l:List Tx) (q:Tx) (H:Zaa) (hl:l.length<=100000):Zay Tryz.prog 189 [.sl t (rS l),eS q] H (Pure H (.b (decide (q∈l)))):=by
 have hs:=fun H=>ZDE t l q H hl
 have hx0:Zaa.Ext H H:=.refl _
 by_cases hq:q∈l
 ·have hat:atT l q=((l.idxOf q:Nat):Int):=by unfold atT;rw[if_pos hq]
  rw[hat]at hs
  rw[decide_eq_true hq]
  have d:decide (((l.idxOf q:Nat):Int)≥0)=true:=Xc
  refine fnQ cf189 fun Q qr qn=>?_
  refine Bz0 ?_
  refine qcp (hs _) fun k1=>?_
  refine Bz1 (X1 d) ?_
  exact ZaW hx0.bump rfl
 ·have hat:atT l q = -1:=by unfold atT;rw[if_neg hq]
  rw[hat]at hs
  rw[decide_eq_false hq]
  have d:decide ((-1:Int)≥0)=false:=Xb
  refine fnQ cf189 fun Q qr qn=>?_
  refine Bz0 ?_
  refine qcp (hs _) fun k1=>?_
  refine Bz1 (X1 d) ?_
  exact ZaW hx0.bump rfl
abbrev trC (t:Tir) (t1 t2:Tok):List AV:=[eS t.name,.sl t1 (rS t.terms),.sl t2 (rI t.up)]
structure Chg (b T:Nat) (H G:Zaa):Prop where
 n:H.next<=G.next
 old:∀i o,i<b->H.get i=some o->G.get i=some o
 cells:∀i cs E,i≠T->H.get i=some (.cells cs E)->G.get i=some (.cells cs E)
theorem Chg.refl (b T:Nat) (H:Zaa):Chg b T H H:=⟨zad _,fun _ _ _ h=>h,fun _ _ _ _ h=>h⟩
theorem Chg.bump {b T k:Nat} {H G:Zaa} (h:Chg b T H G):Chg b T H (G.bump k):=⟨by have:=h.n;simp only[nx];omega,h.old,h.cells⟩
theorem Chg.alloc {b T:Nat} {H G:Zaa} {o:Zb3} (h:Chg b T H G):Chg b T H (G.alloc o) :=
 ⟨by have:=h.n;simp only[nx];omega,fun i o' hi hg=>by have:=h.old i o' hi hg;rw[Zaa.Zag (by have:=Zaa.lt this;omega)];exact this,fun i cs E hi hg=>by have:=h.cells i cs E hi hg;rw[Zaa.Zag (by have:=Zaa.lt this;omega)];exact this⟩
theorem Chg.ZDn {b T:Nat} {H G:Zaa} {o:Zb3} (h:Chg b T H G) (hb:b<=T):Chg b T H (G.set T o) :=
 ⟨h.n,fun i o' hi hg=>by rw[Zaa.Zah Xa];exact h.old i o' hi hg,fun i cs E hi hg=>by rw[Zaa.Zah hi];exact h.cells i cs E hi hg⟩
theorem Chg.tok {b T t n n' E sz:Nat} {H G:Zaa} (h:Chg b T H G) (hb:b<=t) (hg:G.get t=some (.tok n E sz)):Chg b T H (G.set t (.tok n' E sz)) :=
 ⟨h.n,fun i o' hi hg=>by rw[Zaa.Zah Xa];exact h.old i o' hi hg,fun i cs E hi hg'=>by
  have:=h.cells i cs E hi hg'
  rw[Zaa.Zah (fun e=>by rw[e,hg]at this;cases this)];exact this⟩
def TkK (a c:Tok) (H G:Zaa):Prop:=∀i n E sz,Tok.own i≠a->Tok.own i≠c->H.get i=some (.tok n E sz)->G.get i=some (.tok n E sz)
theorem TkK.refl (a c:Tok) (H:Zaa):TkK a c H H:=fun _ _ _ _ _ _ h=>h
theorem TkK.bump {a c:Tok} {H G:Zaa} {k:Nat} (h:TkK a c H G):TkK a c H (G.bump k):=h
theorem TkK.alloc {a c:Tok} {H G:Zaa} {o:Zb3} (h:TkK a c H G):TkK a c H (G.alloc o):=fun i n E sz h1 h2 h3=>by
 have:=h i n E sz h1 h2 h3
 rw[Zaa.Zag (by have:=Zaa.lt this;omega)];exact this
theorem TkK.ZDn {a c:Tok} {H G:Zaa} {T:Nat} {cs:List AV} {E:TypeId} {o:Zb3} (h:TkK a c H G) (hg:G.get T=some (.cells cs E)):TkK a c H (G.set T o):=fun i n E' sz h1 h2 h3=>by
 have:=h i n E' sz h1 h2 h3
 rw[Zaa.Zah (fun e=>by rw[e,hg]at this;cases this)];exact this
theorem TkK.tok {a c:Tok} {H G:Zaa} {t:Nat} {o:Zb3} (h:TkK a c H G) (ht:a=.own t\/c=.own t):TkK a c H (G.set t o):=fun i n E' sz h1 h2 h3=>by
 have:=h i n E' sz h1 h2 h3
 rw[Zaa.Zah (fun e=>by subst e;rcases ht with ht|ht;exact h1 ht.symm;exact h2 ht.symm)];exact this
def MemR (b T:Nat) (rest:List AV) (to1 to2:Tok) (o:Option Tir) (H:Zaa) (r:AV) (G:Zaa):Prop:=Chg b T H G/\TkK to1 to2 H G/\match o with
 | none=>r=.b false
 | some t=>r=.b true/\∃t1 t2,G.get T=some (.cells (trC t t1 t2++rest) 42)/\ZCe b G 9 1 t.terms.length t1/\ZCe b G 3 1 t.up.length t2/\(t1=to1\/∃i,t1=.own i/\H.next<=i)
def ZC8:Zar:=ri 35 [.M 9,.u 36] 37 (rr 0 [.T 6])<|rs 38 [.M 8,.c 54 [39],.s 38,.e 38 0,.e 38 1,.m 12 41,.s 11]<|.seq (.drw [ip (im 43 0),ip (im 44 0),ip (io 45 (.nck (.t 44))),ip (io 46 (.fla 2 (.t 45))),ip (io 47 (.ld 1 false (.t 46))),ip (im 48 2),ip (im 49 12),(io 50 (.call (jf 188) [.t 48,.t 49]),[io 47 (.ld 1 false (.t 46))]),ip (io 51 (.bsl 1 [.t 50])),ip (io 52 (.app 3 1 8 (.t 47) (.t 51))),ip (io 53 (.nck (.t 43))),ip (io 54 (.fla 2 (.t 53))),ip (iz (.st 1 (.t 54) (.t 52)))])<|rr 54 [.M 11,.y 55,.M 2,.M 12,.c 189 [57,58],.z,.s 6]
theorem ZFo:Zcx=.seq (.reg [io 6 (.mv (ib false))]) (.seq (.reg [im 14 1,io 15 (.call (jf 107) [.t 14,.c (.sc (.string ⟨#[62]⟩))]),im 13 15,io 16 (.ext (.t 13) 0),io 17 (.ext (.t 13) 1),io 18 (.ext (.t 13) 2),im 7 16,im 8 17,im 9 18]) (.seq (.reg [im 20 7,io 21 (.call (jf 54) [.t 20]),im 19 21,io 22 (.ext (.t 19) 0),io 23 (.ext (.t 19) 1),im 10 22,im 11 23]) (.seq (.seq (.reg [im 24 11,io 25 (.un .not (.t 24))]) (.cond (.t 25) (.seq (.reg [io 6 (.mv (ib false))]) .ret) .skip)) (.seq (.reg [im 26 0,im 27 0,io 28 (.nck (.t 27)),io 29 (.fla 1 (.t 28)),io 30 (.ld 1 false (.t 29)),im 31 10,io 32 (.bsl 1 [.t 31]),io 33 (.app 9 1 16 (.t 30) (.t 32)),io 34 (.nck (.t 26)),io 35 (.fla 1 (.t 34)),iz (.st 1 (.t 35) (.t 33))]) ZC8)))):=rfl
theorem ZDK {Q:AEx->Fr->Zaa->Prop} {F:Fr} {H G:Zaa} {b T:Nat} {rest:List AV} {t:Tir} {t1 t2 tk to1:Tok} {q:Tx} {bg:Bool} {ups:List Tx} (hq:q.length<=5000) (hu:ups.length<=5000) (hn2:t.up.length<=5000) (hb:b<=T) (hbn:b<=H.next)
  (f0:Fr.get F 0=.ptr T 0) (f2:Fr.get F 2=.sl tk (rS ups)) (f8:Fr.get F 8=eS q) (f9:Fr.get F 9=.b bg) (hC:Chg b T H G) (hK:TkK to1 t2 H G) (h1o:t1=to1\/∃i,t1=.own i/\H.next<=i)
  (hg:G.get T=some (.cells (trC t t1 t2++rest) 42)) (hT1:ZCe b G 9 1 t.terms.length t1) (hT2:ZCe b G 3 1 t.up.length t2)
  (hQ:∀F' G' r,Fr.get F' 6=r->MemR b T rest to1 t2 (if bg=true then (match ZyG q with
    | none=>none
    | some v=>if v∈ups then some { t with up:=t.up++[atT ups v] } else none) else some t) H r G'->Q .ret F' G'):AW Tryz.prog ZC8 Q F G:=by
 have qr:=trivial
 have qn:=trivial
 have hGn:=hC.n
 cases bg with
 | false =>
  unfold ZC8
  refine Bz1 (X1 f9) ?_
  exact hQ _ _ _ rfl ⟨hC,hK,rfl,t1,t2,hg,hT1,hT2,h1o⟩
 | true =>
  obtain⟨v,bv,htv,hvl,ev⟩:=ZCx q Xa
  rw[ev]at hQ
  have lT:=Zaa.lt hg
  have hix:=fun H=>ZDE tk ups v H Xa
  have hco:=fun H=>ZFO tk ups v H Xa
  have g1:(trC t t1 t2++rest)[2]?=some (.sl t2 (rI t.up)):=rfl
  have g1':∀h:2<(trC t t1 t2++rest).length,(trC t t1 t2++rest)[2]'h=.sl t2 (rI t.up):=fun _=>rfl
  have gl:2+1<=(trC t t1 t2++rest).length:=Xc
  have hrl:(rI t.up).length=t.up.length:=Xc
  have hal:ZaE 1 (rI t.up)=true:=ZaU (f:=fun s:Int=>[AV.i s]) (sz:=1) (fun _=>rfl) _
  have hm1:t.up.length+1<=maxLen:=ZAp Xa
  have hm2:(t.up.length+1) * 8<=140737488355328:=Xa
  have hal2:ZaE 1 [[AV.i (atT ups v)]]=true:=rfl
  have hsn:rI t.up++[[AV.i (atT ups v)]]=rI (t.up++[atT ups v]):=Xc
  have hsp:∀tok,splice (trC t t1 t2++rest) 2 [.sl tok (rI (t.up++[atT ups v]))]=trC { t with up:=t.up++[atT ups v] } t1 tok++rest:=fun _=>rfl
  have hgo:=hg
  generalize hC0:trC t t1 t2++rest=C0 at *
  generalize hNN:atT ups v=nn at *
  -- both ways of the token
  rcases hT2 with rfl|⟨t',ht',rfl,hgt⟩
  ·unfold ZC8
   refine Bz1 (X2 f9 f8) ?_
   refine qcp (htv _) fun k1=>?_
   refine Bz1 (X5 f0 f2 f8 f9 hg) ?_
   refine qcp (hix _) fun k2=>?_
   cases bv with
   | false =>
    have hQ:∀F' G' r,Fr.get F' 6=r->MemR b T rest to1 .full none H r G'->Q .ret F' G':=hQ
    refine Bz1 (X12 f0 f2 f8 f9 hg g1 g1' gl hrl hal hal2 (X4 hm1 hm2 hsn hsp)) ?_
    refine hQ _ _ (.b false) ?_ ⟨(((hC.bump.bump).alloc).ZDn hb),(hK.bump.bump.alloc.ZDn (by rw[Zaa.Zag Xe];exact hgo)),rfl⟩
    rfl
   | true =>
    have hQ:∀F' G' r,Fr.get F' 6=r->MemR b T rest to1 .full (if v∈ups then some { t with up:=t.up++[nn] } else none) H r G'->Q .ret F' G':=by rw[<- hNN];exact hQ
    refine Bz1 (X12 f0 f2 f8 f9 hg g1 g1' gl hrl hal hal2 (X4 hm1 hm2 hsn hsp)) ?_
    refine qcp (hco _) fun k3=>?_
    refine Bz1 (X4 f0 f2 f8 f9) ?_
    by_cases hv:v∈ups
    ·rw[if_pos hv]at hQ
     refine hQ _ _ (.b true) ?_ ⟨(((hC.bump.bump).alloc).ZDn hb).bump,(hK.bump.bump.alloc.ZDn (by rw[Zaa.Zag Xe];exact hgo)),rfl,t1,_,?_,?_,.inr ⟨G.next+k1+k2,Xa,rfl,?_⟩,h1o⟩
     ·simp[hv,Fr.get]
     ·exact Zaa.Zal Xe
     ·rcases hT1 with rfl|⟨s',hs',rfl,hgs⟩
      ·exact .inl rfl
      ·have ls:=Zaa.lt hgs
       have ne:s'≠T:=fun e=>by rw[e,hgo]at hgs;cases hgs
       exact .inr ⟨s',hs',rfl,by rw[Zaa.ZaB,Zaa.Zah ne,Zaa.Zag Xe];exact hgs⟩
     ·rw[Zaa.ZaB,Zaa.Zah Xa]
      simp only[zaa,List.length_cons,List.length_nil]
      exact Zaa.Zat rfl
    ·rw[if_neg hv]at hQ
     refine hQ _ _ (.b false) ?_ ⟨(((hC.bump.bump).alloc).ZDn hb).bump,(hK.bump.bump.alloc.ZDn (by rw[Zaa.Zag Xe];exact hgo)),rfl⟩
     simp[hv,Fr.get]
  ·have lt':=Zaa.lt hgt
   have hneT:t'≠T:=fun e=>by rw[e,hgo]at hgt;cases hgt
   unfold ZC8
   refine Bz1 (X2 f9 f8) ?_
   refine qcp (htv _) fun k1=>?_
   refine Bz1 (X5 f0 f2 f8 f9 hg) ?_
   refine qcp (hix _) fun k2=>?_
   cases bv with
   | false =>
    have hQ:∀F' G' r,Fr.get F' 6=r->MemR b T rest to1 (.own t') none H r G'->Q .ret F' G':=hQ
    refine Bz1 (X12 f0 f2 f8 f9 hg g1 g1' gl hrl hal hal2 (X5 hm1 hm2 hsn hsp hgt)) ?_
    refine hQ _ _ (.b false) ?_ ⟨(((hC.bump.bump).tok ht' hgt).ZDn hb),((hK.bump.bump.tok (.inr rfl)).ZDn (by rw[Zaa.Zah hneT.symm];exact hgo)),rfl⟩
    rfl
   | true =>
    have hQ:∀F' G' r,Fr.get F' 6=r->MemR b T rest to1 (.own t') (if v∈ups then some { t with up:=t.up++[nn] } else none) H r G'->Q .ret F' G':=by rw[<- hNN];exact hQ
    refine Bz1 (X12 f0 f2 f8 f9 hg g1 g1' gl hrl hal hal2 (X5 hm1 hm2 hsn hsp hgt)) ?_
    refine qcp (hco _) fun k3=>?_
    refine Bz1 (X4 f0 f2 f8 f9) ?_
    by_cases hv:v∈ups
    ·rw[if_pos hv]at hQ
     refine hQ _ _ (.b true) ?_ ⟨(((hC.bump.bump).tok ht' hgt).ZDn hb).bump,((hK.bump.bump.tok (.inr rfl)).ZDn (by rw[Zaa.Zah hneT.symm];exact hgo)),rfl,t1,_,?_,?_,.inr ⟨t',ht',rfl,?_⟩,h1o⟩
     ·simp[hv,Fr.get]
     ·exact Zaa.Zal Xe
     ·rcases hT1 with rfl|⟨s',hs',rfl,hgs⟩
      ·exact .inl rfl
      ·have ls:=Zaa.lt hgs
       have ne:s'≠T:=fun e=>by rw[e,hgo]at hgs;cases hgs
       have ne2:s'≠t':=fun e=>by rw[e,hgt]at hgs;injection hgs with h;injection h with _ h;exact absurd h Xb
       exact .inr ⟨s',hs',rfl,by rw[Zaa.ZaB,Zaa.Zah ne,Zaa.Zah ne2];exact hgs⟩
     ·rw[Zaa.ZaB,Zaa.Zah hneT]
      simp only[zaa,List.length_cons,List.length_nil]
      exact Zaa.Zal Xe
    ·rw[if_neg hv]at hQ
     refine hQ _ _ (.b false) ?_ ⟨(((hC.bump.bump).tok ht' hgt).ZDn hb).bump,((hK.bump.bump.tok (.inr rfl)).ZDn (by rw[Zaa.Zah hneT.symm];exact hgo)),rfl⟩
     simp[hv,Fr.get]
theorem ZCU (t:Tir) (w:Tx) (ups:List Tx) (tk t1 t2:Tok) (b T:Nat) (rest:List AV) (H:Zaa) (hw:w.length<=5000) (hu:ups.length<=5000) (hn:t.terms.length<=5000) (hn2:t.up.length<=5000) (hb:b<=T) (hbn:b<=H.next)
  (hg:H.get T=some (.cells (trC t t1 t2++rest) 42)) (hT1:ZCe b H 9 1 t.terms.length t1) (hT2:ZCe b H 3 1 t.up.length t2) :
  Zay Tryz.prog 150 [.ptr T 0,eS w,.sl tk (rS ups)] H (MemR b T rest t1 t2 (ZBO t w ups) H):=by
 have lT:=Zaa.lt hg
 obtain⟨q,bg,hcut,hcl,c1,c2,c3⟩:=ZE6 62 w Xa
 obtain⟨u,bu,htu,hul,eu⟩:=ZCx (ZyS 62 w).1 Xa
 have hmp:ZBO t w ups=match (if bu=true then some u else none:Option Tx)with
  | none=>none
  | some s=>match (if bg=true then some q else none:Option Tx)with
   | none=>some { t with terms:=t.terms++[s] }
   | some q=>match ZyG q with
    | none=>none
    | some v=>if v∈ups then some { t with terms:=t.terms++[s],up:=t.up++[atT ups v] } else none:=by unfold ZBO;rw[eu,c3];rfl
 rw[hmp]
 generalize (ZyS 62 w).1=h at *
 have g1:(trC t t1 t2++rest)[1]?=some (.sl t1 (rS t.terms)):=rfl
 have g1':∀h:1<(trC t t1 t2++rest).length,(trC t t1 t2++rest)[1]'h=.sl t1 (rS t.terms):=fun _=>rfl
 have gl:1+1<=(trC t t1 t2++rest).length:=Xc
 have hrl:(rS t.terms).length=t.terms.length:=Xc
 have hal:ZaE 1 (rS t.terms)=true:=ZaU (f:=fun s:Tx=>[eS s]) (sz:=1) (fun _=>rfl) _
 have hm1:t.terms.length+1<=maxLen:=ZAp Xa
 have hm2:(t.terms.length+1) * 16<=140737488355328:=Xa
 have hal2:ZaE 1 [[eS u]]=true:=rfl
 have hsn:rS t.terms++[[eS u]]=rS (t.terms++[u]):=Xc
 have hsp:∀tok,splice (trC t t1 t2++rest) 1 [.sl tok (rS (t.terms++[u]))]=trC { t with terms:=t.terms++[u] } tok t2++rest:=fun _=>rfl
 have hgo:=hg
 generalize hC0:trC t t1 t2++rest=C0 at *
 cases bu with
 | false =>
  show Zay _ _ _ _ (MemR b T rest t1 t2 none H)
  refine fnQ cf150 fun Q qr qn=>?_
  refine Bz0 ?_
  refine qcp (hcut _) fun k1=>?_
  refine Bz0 ?_
  refine qcp (htu _) fun k2=>?_
  refine Bz0 ?_
  exact Zaq ⟨(Chg.refl b T H).bump.bump,(TkK.refl _ _ H).bump.bump,rfl⟩
 | true =>
  have hfin:(match (if true=true then some u else none:Option Tx)with
   | none=>none
   | some s=>match (if bg=true then some q else none:Option Tx)with
    | none=>some { t with terms:=t.terms++[s] }
    | some q=>match ZyG q with
     | none=>none
     | some v=>if v∈ups then some { t with terms:=t.terms++[s],up:=t.up++[atT ups v] } else none)=(if bg=true then (match ZyG q with
    | none=>none
    | some v=>if v∈ups then some { ({ t with terms:=t.terms++[u] }:Tir)with up:=t.up++[atT ups v] } else none) else some { t with terms:=t.terms++[u] }):=by
   cases bg<;>rfl
  rw[hfin]
  rcases hT1 with rfl|⟨t',ht',rfl,hgt⟩
  ·refine fnQ cf150 fun Q qr qn=>?_
   rw[ZFo]
   refine Bz0 ?_
   refine qcp (hcut _) fun k1=>?_
   refine Bz0 ?_
   refine qcp (htu _) fun k2=>?_
   refine Bz1 (X11 hg g1 g1' gl hrl hal hal2 hm1 hm2 hsn hsp) ?_
   refine ZDK (H:=H) (b:=b) (T:=T) (rest:=rest) (t:={ t with terms:=t.terms++[u] }) (t1:=.own (H.next+k1+k2)) (t2:=t2) (tk:=tk) (q:=q) (bg:=bg) (ups:=ups) Xa hu hn2 hb hbn rfl rfl rfl rfl (((Chg.refl b T H).bump.bump.alloc).ZDn hb) ((TkK.refl .full t2 H).bump.bump.alloc.ZDn (by rw[Zaa.Zag Xe];exact hgo)) (.inr ⟨H.next+k1+k2,rfl,Xa⟩) (Zaa.Zal Xe) (.inr ⟨H.next+k1+k2,Xa,rfl,?_⟩) ?_ ?_
   ·rw[Zaa.Zah Xa]
    simp only[zaa,List.length_cons,List.length_nil]
    exact Zaa.Zat rfl
   ·rcases hT2 with rfl|⟨s',hs',rfl,hgs⟩
    ·exact .inl rfl
    ·have ls:=Zaa.lt hgs
     have ne:s'≠T:=fun e=>by rw[e,hgo]at hgs;cases hgs
     exact .inr ⟨s',hs',rfl,by rw[Zaa.Zah ne,Zaa.Zag Xe];exact hgs⟩
   ·intro F' G' r f6 hM
    refine Bz1 (X1 f6) ?_
    exact Zaq hM
  ·have lt':=Zaa.lt hgt
   have hneT:t'≠T:=fun e=>by rw[e,hgo]at hgt;cases hgt
   refine fnQ cf150 fun Q qr qn=>?_
   rw[ZFo]
   refine Bz0 ?_
   refine qcp (hcut _) fun k1=>?_
   refine Bz0 ?_
   refine qcp (htu _) fun k2=>?_
   refine Bz1 (X12 hg g1 g1' gl hrl hal hal2 hm1 hm2 hsn hsp hgt) ?_
   refine ZDK (H:=H) (b:=b) (T:=T) (rest:=rest) (t:={ t with terms:=t.terms++[u] }) (t1:=.own t') (t2:=t2) (tk:=tk) (q:=q) (bg:=bg) (ups:=ups) Xa hu hn2 hb hbn rfl rfl rfl rfl (((Chg.refl b T H).bump.bump.tok ht' hgt).ZDn hb) (((TkK.refl (.own t') t2 H).bump.bump.tok (.inl rfl)).ZDn (by rw[Zaa.Zah hneT.symm];exact hgo)) (.inl rfl) (Zaa.Zal Xe) (.inr ⟨t',ht',rfl,?_⟩) ?_ ?_
   ·rw[Zaa.Zah hneT]
    simp only[zaa,List.length_cons,List.length_nil]
    exact Zaa.Zal Xe
   ·rcases hT2 with rfl|⟨s',hs',rfl,hgs⟩
    ·exact .inl rfl
    ·have ls:=Zaa.lt hgs
     have ne:s'≠T:=fun e=>by rw[e,hgo]at hgs;cases hgs
     have ne2:s'≠t':=fun e=>by rw[e,hgt]at hgs;injection hgs with h;injection h with _ h;exact absurd h Xb
     exact .inr ⟨s',hs',rfl,by rw[Zaa.Zah ne,Zaa.Zah ne2];exact hgs⟩
   ·intro F' G' r f6 hM
    refine Bz1 (X1 f6) ?_
    exact Zaq hM
def eqTd:EqT:=⟨eqE,fun t=>t == 42 || t == 39⟩
theorem hEd:∀t ks,eqTd t=some ks->Ziv Tryz.prog t ks:=hE
def ZHH:Zar:=rs 0 [.K 4]<|ri 6 [.M 1,.O (.bin .eql (.t 7) (.c (.sc (.string ⟨#[]⟩))))] 8 (rr 0 [.K 4])<|rs 8 [.M 1,.O (.slS (.t 9) (some (ik 1)) none),.s 5]<|.seq (rs 10 [.M 1,.O (.ixs (.t 11) (ik 0))]<|.blk 0<|rs 13 [.O (.bin .eql (.t 12) (.c (.sc (.int .u8 64)))),.s 13]<|.cond (.t 13) (rs 14 [.M 0,.M 0,.k 16,.F 0 17,.M 5,.O (.bld [.sc (.string ⟨#[]⟩),.sl .full []] [(0,(1,.t 20))]),.O (.bsv 39 2 [.t 21]),.O (.apv 39 2 40 [.sc (.string ⟨#[]⟩),.sl .full []] (.t 19) (.t 22)),.k 15,.f 0 24,.Z 1 25 23]<|rr 0 [.T 4])<|rs 26 [.O (.bin .eql (.t 12) (.c (.sc (.int .u8 43)))),.s 26]<|.cond (.t 26) (rs 27 [.M 0,.M 0,.k 29,.F 1 30,.M 5,.A 9 1 16 32 33,.k 28,.f 1 36,.Z 1 37 35]<|rr 0 [.T 4])<|.skip)<|ri 37 [.M 0,.k 38,.N 0 39,.B .eql 42 0] 43 (rr 0 [.K 4])<|rt 43 [.M 0,.k 44,.F 0 45,.M 0,.k 48,.N 0 49,.B .sub 52 1,.x 2 47 53,.s 6]<|.seq (.blk 1<|rs 55 [.M 1,.O (.ixs (.t 56) (ik 0)),.O (.bin .eql (.t 57) (.c (.sc (.int .u8 94)))),.s 55]<|.cond (.t 55) (rs 58 [.M 6,.M 6,.k 60,.F 1 61,.M 5,.O (.bld [.sc (.string ⟨#[]⟩),.sl .full [],.sl .full []] [(0,(1,.t 64))]),.O (.bsv 42 3 [.t 65]),.C 149 [.t 63,ik 0,.t 66],.k 59,.f 1 68,.Z 1 69 67]<|rr 0 [.T 4])<|rs 70 [.M 1,.O (.ixs (.t 71) (ik 0)),.O (.bin .neq (.t 72) (.c (.sc (.int .u8 46)))),.h 73,.M 6,.k 75,.N 1 76,.B .eql 79 0,.z,.s 70]<|.cond (.t 70) (rr 0 [.K 4])<|rs 82 [.M 6,.k 83,.N 1 84,.B .eql 87 1,.s 82]<|.cond (.t 82) (rr 88 [.M 6,.k 89,.F 1 90,.O (.ixa 3 (.t 92) (ik 0)),.M 5,.C 150 [.t 93,.t 94,jn],.s 4])<|.skip)<|rt 95 [.M 6,.k 96,.F 1 97,.O (.ixa 3 (.t 99) (ik 0)),.M 5,.M 6,.k 102,.F 1 103,.O (.ixa 3 (.t 105) (ik 1)),.F 1 106,.c 150 [100,101,108],.s 4]<|.ret
theorem kf1 (f:FuncId) (c:Zar) (r:List Zcq) (n:Nat) (h:cFn Tryz.prog eqTd f=some (c,r,n):=by kernel_rfl):cFn Tryz.prog eqTd f=some (c,r,n):=h
def ZIy:=kf1 103 ZHH [.tmp 4] 110
def InsR (b T:Nat) (rows:List (List AV)) (r0:List AV) (H:Zaa) (r:AV) (G:Zaa):Prop:=Chg b T H G/\TkK .full .full H G/\∃T' cap tail,r=.arr T' 0 (rows.length+1) cap/\G.get T'=some (.cells ((r0 :: rows).flatten++tail) 42)/\((r0 :: rows).flatten++tail).length=cap * 3/\rows.length+1<=cap/\(T'=T\/H.next<=T')
def InsOk:Prop:=∀(b T V:Nat) (rows:List (List AV)) (r0:List AV) (a:AV) (H:Zaa),r0.length=3->(∀r∈rows,r.length=3)->rows.length<=2500->b<=T->H.get V=some (.cells r0 42) ->
 ((rows=[]/\a=.sl .full [])\/∃tail cap,a=.arr T 0 rows.length cap/\rows≠[]/\H.get T=some (.cells (rows.flatten++tail) 42)/\(rows.flatten++tail).length=cap * 3/\rows.length<=cap/\T≠V) ->
 Zay Tryz.prog 149 [a,.i 0,.arr V 0 1 1] H (InsR b T rows r0 H)
def ZIR:Zar:=rs 0 [.D 6]<|rs 9 [.M 0,.M 1,.O (.slc 3 (.t 10) (some (.t 11)) none none)]<|rs 12 [.R 2,.s 7]<|ri 14 [.i .eql 7 0] 16 (rr 16 [.M 0,.s 6])<|rs 17 [.R 0,.s 8]<|ri 19 [.M 1,.M 8,.b .eql 20 21] 22 (rr 22 [.M 0,.M 2,.O (.apv 42 3 64 [.sc (.string ⟨#[]⟩),.sl .full [],.sl .full []] (.t 23) (.t 24)),.s 6])<|ri 25 [.M 8,.M 7,.b .add 26 27,.M 0,.O (.cap (.t 29)),.b .gtr 28 30] 31 (rs 31 [.M 0,.M 1,.O (.slc 3 (.t 32) none (some (.t 33)) none),.M 8,.M 7,.b .add 35 36,.M 1,.b .sub 37 38,.O (.apv 42 3 1152921504606847040 [.sc (.string ⟨#[]⟩),.sl .full [],.sl .full [],.any] (.t 34) (.t 39)),.s 9]<|rs 40 [.M 9,.M 1,.O (.slc 3 (.t 41) (some (.t 42)) none none),.M 2,.O (.cpy 3 (.t 43) (.t 44))]<|rt 45 [.M 9,.M 1,.M 7,.b .add 47 48,.O (.slc 3 (.t 46) (some (.t 49)) none none),.M 0,.M 1,.O (.slc 3 (.t 51) (some (.t 52)) none none),.O (.cpy 3 (.t 50) (.t 53))]<|rr 54 [.M 9,.s 6])<|rs 55 [.M 0,.M 8,.M 7,.b .add 57 58,.O (.slc 3 (.t 56) none (some (.t 59)) none),.s 0]<|ri 60 [.M 2,.M 0,.M 1,.M 7,.b .add 63 64,.O (.slc 3 (.t 62) (some (.t 65)) none none),.O (.ovl (.t 61) (.t 66)),.u 67] 68 (rt 68 [.M 0,.M 1,.M 7,.b .add 70 71,.O (.slc 3 (.t 69) (some (.t 72)) none none),.M 0,.M 1,.O (.slc 3 (.t 74) (some (.t 75)) none none),.O (.cpy 3 (.t 73) (.t 76))]<|rs 77 [.M 0,.M 1,.O (.slc 3 (.t 78) (some (.t 79)) none none),.M 2,.O (.cpy 3 (.t 80) (.t 81))]<|rr 82 [.M 0,.s 6])<|rs 83 [.M 0,.M 8,.O (.slc 3 (.t 84) (some (.t 85)) none none),.M 2,.O (.cpy 3 (.t 86) (.t 87))]<|rs 88 [.M 0,.M 1,.O (.slc 3 (.t 89) (some (.t 90)) none none),.M 7,.c 187 [91,92]]<|rr 93 [.M 0,.s 6]
def vf149:=kf1 149 ZIR [.tmp 6] 95
open Go.RowKit Go.Lib
inductive ZBQ:List (List AV)->List Tir->Prop
 | nil:ZBQ [] []
 | cons (t:Tir) (t1 t2:Tok) (rows:List (List AV)) (ts:List Tir):ZBQ rows ts->ZBQ (trC t t1 t2 :: rows) (t :: ts)
theorem ZBQ.len:∀{rows ts},ZBQ rows ts->rows.length=ts.length
 | _,_,.nil=>rfl
 | _,_,.cons _ _ _ _ _ h=>by simp[h.len]
theorem ZBQ.three:∀{rows ts},ZBQ rows ts->∀r∈rows,r.length=3
 | _,_,.nil,r,h=>by cases h
 | _,_,.cons _ _ _ _ _ h,r,hr=>by
  rcases zak.1 hr with rfl|hr
  ·rfl
  ·exact h.three r hr
def TsA (H:Zaa) (b:Nat) (a:AV) (ts:List Tir) (id:Nat):Prop:=(ts=[]/\a=.sl .full [])\/∃cap rows tail,a=.arr id 0 ts.length cap/\b<=id/\H.get id=some (.cells (rows.flatten++tail) 42)/\ZBQ rows ts/\ts≠[]/\(rows.flatten++tail).length=cap * 3/\ts.length<=cap
def HotA (H:Zaa) (b T:Nat) (tm:Tok) (a:AV) (ts:List Tir):Prop:=(ts=[]/\a=.sl .full [])\/∃cap t q t1 t2 rows tail,ts=t :: q/\a=.arr T 0 ts.length cap/\b<=T/\H.get T=some (.cells ((trC t t1 t2 :: rows).flatten++tail) 42)/\ZBQ rows q/\((trC t t1 t2 :: rows).flatten++tail).length=cap * 3/\ts.length<=cap/\ZCe b H 9 1 t.terms.length t1/\ZCe b H 3 1 t.up.length t2/\(t1=.full\/t1≠tm)
theorem HotA.cold {H:Zaa} {b T:Nat} {tm:Tok} {a:AV} {ts:List Tir} (h:HotA H b T tm a ts):TsA H b a ts T:=by
 rcases h with h|⟨cap,t,q,t1,t2,rows,tail,h1,h2,h3,h4,h5,h6,h7,_⟩
 ·exact .inl h
 ·exact .inr ⟨cap,_,tail,h2,h3,h4,by rw[h1];exact .cons _ _ _ _ _ h5,by rw[h1];simp,h6,h7⟩
inductive ZBt (H:Zaa) (b T:Nat):List (List AV)->List Dm->Prop
 | nil:ZBt H b T [] []
 | cons (d:Dm) (a:AV) (id:Nat) (rows:List (List AV)) (ds:List Dm):TsA H b a d.tiers id->id≠T->ZBt H b T rows ds->ZBt H b T ([eS d.name,a] :: rows) (d :: ds)
theorem ZBt.len {H b T}:∀{rows ds},ZBt H b T rows ds->rows.length=ds.length
 | _,_,.nil=>rfl
 | _,_,.cons _ _ _ _ _ _ _ h=>by simp[h.len]
theorem ZBt.two {H b T}:∀{rows ds},ZBt H b T rows ds->∀r∈rows,r.length=2
 | _,_,.nil,r,h=>by cases h
 | _,_,.cons _ _ _ _ _ _ _ h,r,hr=>by
  rcases zak.1 hr with rfl|hr
  ·rfl
  ·exact h.two r hr
def ZES (T:Nat) (H G:Zaa):Prop:=∀i cs,i≠T->H.get i=some (.cells cs 42)->G.get i=some (.cells cs 42)
theorem TsA.keep {H G b a ts id T} (h:TsA H b a ts id) (hk:ZES T H G) (hn:id≠T):TsA G b a ts id:=by
 rcases h with h|⟨cap,rows,tail,h1,h2,h3,h4⟩
 ·exact .inl h
 ·exact .inr ⟨cap,rows,tail,h1,h2,hk _ _ hn h3,h4⟩
theorem ZBt.keep {H G b T} (hk:ZES T H G):∀{rows ds},ZBt H b T rows ds->ZBt G b T rows ds
 | _,_,.nil=>.nil
 | _,_,.cons d a id rows ds h1 h2 h=>.cons d a id rows ds (h1.keep hk h2) h2 (h.keep hk)
theorem ZBt.other {H b T T'} (hf:∀cs,H.get T'≠some (.cells cs 42)):∀{rows ds},ZBt H b T rows ds->ZBt H b T' rows ds
 | _,_,.nil=>.nil
 | _,_,.cons d a id rows ds h1 h2 h=>by
  rcases h1 with h1|⟨cap,rows',tail,k1,k2,k3,k4⟩
  ·exact .cons d a (T'+1) rows ds (.inl h1) Xa (h.other hf)
  ·exact .cons d a id rows ds (.inr ⟨cap,rows',tail,k1,k2,k3,k4⟩) (fun e=>hf _ (by rw[<- e];exact k3)) (h.other hf)
theorem ZBt.snoc {H b T d a id} (h1:TsA H b a d.tiers id) (h2:id≠T):∀{rows ds},ZBt H b T rows ds->ZBt H b T (rows++[[eS d.name,a]]) (ds++[d])
 | _,_,.nil=>.cons d a id [] [] h1 h2 .nil
 | _,_,.cons d' a' id' rows ds k1 k2 h=>.cons d' a' id' _ _ k1 k2 (h.snoc h1 h2)
def DimA (H:Zaa) (b:Nat) (tm:Tok) (aD:AV) (dims:List Dm):Prop:=(dims=[]/\aD=.sl .full [])\/∃D cap rows tail ds d a T,dims=ds++[d]/\aD=.arr D 0 (rows.length+1) cap/\b<=D/\H.get D=some (.cells ((rows++[[eS d.name,a]]).flatten++tail) 39)/\((rows++[[eS d.name,a]]).flatten++tail).length=cap * 2/\rows.length+1<=cap/\ZBt H b T rows ds/\HotA H b T tm a d.tiers
structure SchA (H:Zaa) (b is:Nat) (s:Sc):Prop where
 bis:b<=is
 ex:∃aD tok,H.get is=some (.cells [aD,.sl tok (rS s.meas)] 25)/\ZCe b H 9 1 s.meas.length tok/\DimA H b tok aD s.dims
structure Bd (k:Nat) (s:Sc):Prop where
 dims:s.dims.length<=k
 meas:s.meas.length<=k
 tiers:∀d∈s.dims,d.tiers.length<=k
 terms:∀d∈s.dims,∀t∈d.tiers,t.terms.length<=k/\t.up.length<=k
def ZEi (b is:Nat) (o:Option Sc) (H:Zaa) (r:AV) (G:Zaa):Prop:=H.next<=G.next/\(∀i o,i<b->H.get i=some o->G.get i=some o)/\match o with
 | none=>r=.b false
 | some s=>r=.b true/\SchA G b is s
theorem ZBt.keep2 {H G b T T'} (hk:ZES T H G) (hn:H.next<=T'):∀{rows ds},ZBt H b T rows ds->ZBt G b T' rows ds
 | _,_,.nil=>.nil
 | _,_,.cons d a id rows ds h1 h2 h=>by
  rcases h1 with h1|h1
  ·exact .cons d a (T'+1) rows ds (.inl h1) Xa (h.keep2 hk hn)
  ·refine .cons d a id rows ds (TsA.keep (.inr h1) hk h2) ?_ (h.keep2 hk hn)
   obtain⟨_,_,_,_,_,h3,_⟩:=h1
   have:=Zaa.lt h3
   omega
theorem HotA.plus {H G:Zaa} {b T:Nat} {tm tm':Tok} {a:AV} {ts:List Tir} {n0:Nat} (h:HotA H b T tm a ts) (hc:∀cs,H.get T=some (.cells cs 42)->G.get T=some (.cells cs 42)) (hK:TkK tm .full H G) (htm:∀i,tm=.own i->H.get i=some (.tok n0 9 1)) (hn:tm'=tm\/∃i,tm'=.own i/\H.next<=i):HotA G b T tm' a ts:=by
 rcases h with h|⟨cap,t,q,t1,t2,rows,tail,h1,h2,h3,h4,h5,h6,h7,h8,h9,h10⟩
 ·exact .inl h
 ·refine .inr ⟨cap,t,q,t1,t2,rows,tail,h1,h2,h3,hc _ h4,h5,h6,h7,?_,?_,?_⟩
  ·rcases h8 with rfl|⟨s,hs,rfl,hg⟩
   ·exact .inl rfl
   ·exact .inr ⟨s,hs,rfl,hK s _ _ _ (h10.resolve_left Xc) Xc hg⟩
  ·rcases h9 with rfl|⟨s,hs,rfl,hg⟩
   ·exact .inl rfl
   ·refine .inr ⟨s,hs,rfl,hK s _ _ _ (fun e=>?_) Xc hg⟩
    have:=htm s e.symm
    rw[hg]at this
    injection this with this
    injection this with _ this
    exact absurd this Xb
  ·rcases h10 with h10|h10
   ·exact .inl h10
   ·rcases hn with rfl|⟨i,rfl,hi⟩
    ·exact .inr h10
    ·refine .inr fun e=>?_
     rcases h8 with rfl|⟨s,hs,rfl,hg⟩
     ·cases e
     ·injection e with e
      have:=Zaa.lt hg
      omega
theorem flat2 {rows:List (List AV)} (h:∀r∈rows,r.length=2):rows.flatten.length=rows.length * 2:=by
 induction rows with
 | nil=>rfl
 | cons r rows ih=>rw[List.flatten_cons,zaa,ih fun q hq=>h q (by simp[hq]),h r Xc,List.length_cons];omega
theorem ZE5 {H:Zaa} {E sz bytes:Nat} {zero:List AV} {x:AV} {K:AV->Zaa->Prop} {r:List AV} (hx:ZaL H sz x=some [r]) (hr:r.length=sz) (hz:zero.length=sz) (h2:bytes<=140737488355328)
  (k:∀cap tail,1<=cap->(r++tail).length=cap * sz->K (.arr H.next 0 1 cap) (H.alloc (.cells (r++tail) E))):Zk3 H E sz bytes zero (.sl .full []) x K:=by
 unfold Zk3
 rw[hx]
 refine⟨⟨Xc,by simp[ZaE,hr],by unfold maxLen;simp,by simpa using h2⟩,fun cap hc _=>?_⟩
 have e:[r].flatten=r:=Xc
 rw[e]
 refine k cap _ hc ?_
 have h1:1<=cap:=hc
 rw[zaa,hr,Zc7 (sz:=sz) (rows:=List.replicate (cap - [r].length) zero) (fun q hq=>by rw[(List.mem_replicate.1 hq).2];exact hz),zaW]
 have:cap * sz=sz+(cap - 1) * sz:=by
  have:cap=1+(cap - 1):=Xa
  conv=>lhs;rw[this,zaE,Nat.one_mul]
 rw[this];rfl
theorem ZBG (c:UInt8) (r:Tx):decide ((c :: r:Tx)=[])=false/\(⟨(c :: r).toArray⟩:ByteArray).extract 1 (r.length+1)=⟨r.toArray⟩/\(c :: r:Tx).length=r.length+1/\1<=r.length+1/\(⟨(c :: r:Tx).toArray⟩:ByteArray)[0]?=some c:=by
 have x2:=ZBP (c :: r) 1
 exact⟨rfl,x2,rfl,Xa,byte_at (l:=c :: r) (k:=0) Xc⟩
theorem ZEq {rows:List (List AV)} {x y z:AV} {tail:List AV} (h:∀r∈rows,r.length=2):splice ((rows++[[x,y]]).flatten++tail) (rows.length * 2+1) [z]=(rows++[[x,z]]).flatten++tail:=by
 have hl:=flat2 h
 have e:∀v:AV,(rows++[[x,v]]).flatten++tail=rows.flatten++(x :: v :: tail):=fun v=>by simp
 rw[e,e]
 unfold splice
 have e1:rows.flatten.drop (rows.flatten.length+1+1)=[]:=zaQ Xa
 have e2:rows.flatten.length+1+1 - rows.flatten.length=2:=Xa
 rw[<- hl,List.take_length_add_append]
 have e3:rows.flatten.length+1+[z].length=rows.flatten.length+1+1:=rfl
 rw[e3,List.drop_append,e1,e2]
 show rows.flatten++[x]++[z]++([]++tail)=_
 simp
theorem get_at {rows:List (List AV)} {x y:AV} {tail:List AV} (h:∀r∈rows,r.length=2):((rows++[[x,y]]).flatten++tail)[rows.length * 2+1]?=some y:=by
 have hl:=flat2 h
 have e:(rows++[[x,y]]).flatten++tail=rows.flatten++(x :: y :: tail):=Xc
 rw[e,List.getElem?_append_right Xa,hl]
 simp
theorem word_at (s:Sc) (c:UInt8) (r:Tx) (b is k:Nat) (H:Zaa) (hc:c=64) (hS:SchA H b is s) (hB:Bd k s) (hk:k<=2400) (hr:r.length<=5000) (hbn:b<=H.next):Zay Tryz.prog 103 [.ptr is 0,eS (c :: r)] H (ZEi b is (some { s with dims:=s.dims++[⟨r,[]⟩] }) H):=by
 obtain⟨bis,aD,tok,gs,hT,hD⟩:=hS
 have ls:=Zaa.lt gs
 obtain⟨d1,x2,y3,b1,hb⟩:=ZBG c r
 have q64:(((c.toNat:Nat):Int) == 64)=true:=ZDs hc
 have tokk:∀{G:Zaa},(∀i n E sz,H.get i=some (.tok n E sz)->G.get i=some (.tok n E sz))->ZCe b G 9 1 s.meas.length tok:=fun h=>by
  rcases hT with rfl|⟨t',ht',rfl,hgt⟩
  ·exact .inl rfl
  ·exact .inr ⟨t',ht',rfl,h _ _ _ _ hgt⟩
 have hl1:1+1<=2:=Xa
 have c1:0+1 * 2<=2:=Xa
 rcases hD with⟨hd0,rfl⟩|⟨D,cap,rows,tail,ds,d,a,T,hd,rfl,hbD,gD,hcl,hnc,hcold,hhot⟩
 ·refine Zak hEd ZIy (zax rfl) fun Q qr qn=>?_
  ((have hd:=tv;repeat' first|(first|apply Zad|apply Zac|apply Zab)<;>intro hd<;>try simp only[hd]|simp(disch:=first|assumption|omega|simp only[nx]<;>omega|fail)only[hd,qr,qn,ZHH,↓YA,YY,sevalprocAttr,d1,Zdi,x2,y3,b1,hb,gs,q64])<;>try revert hd;refine ttr ?_)
  refine ZE5 (r:=[eS r,.sl .full []]) ?_ rfl rfl Xa ?_
  ·simp only[ZaL,Zaa.Zae]
   rfl
  intro cap tail hcap htl
  simp only[nx]
  ((have hd:=tv;repeat' first|(first|apply Zad|apply Zac|apply Zab)<;>intro hd<;>try simp only[hd]|simp(disch:=first|assumption|omega|simp only[nx]<;>omega|fail)only[hd,qr,qn,ZHH,↓YA,YY,sevalprocAttr,gs])<;>try revert hd;refine ttr ?_)
  refine Zaq ⟨Xe,fun i o hi hg=>?_,rfl,⟨bis,_,tok,Zaa.Zal Xe,?_,.inr ⟨H.next+1,cap,[],tail,[],⟨r,[]⟩,.sl .full [],is,by rw[hd0],rfl,Xa,?_,htl,hcap,.nil,.inl ⟨rfl,rfl⟩⟩⟩⟩
  ·have:=Zaa.lt hg
   rw[Zaa.Zah Xa,Zaa.Zag Xe,Zaa.Zag Xa];exact hg
  ·refine tokk fun i n E sz hg=>?_
   have:=Zaa.lt hg
   rw[Zaa.Zah (fun e=>by rw[e,gs]at hg;cases hg),Zaa.Zag Xe,Zaa.Zag Xa];exact hg
  ·rw[Zaa.Zah Xa];exact Zaa.Zat rfl
 ·have hrt:=hcold.two
  have hrl:=hcold.len
  have hdl:rows.length+1<=k:=by have:=hB.dims;rw[hd]at this;simp at this;omega
  have lD:=Zaa.lt gD
  have nD:D≠is:=fun e=>by rw[e,gs]at gD;injection gD with h;injection h with _ h;exact absurd h Xb
  have hnT:∀cs,H.get is≠some (.cells cs 42):=fun cs e=>by rw[gs]at e;injection e with h;injection h with _ h;exact absurd h Xb
  have hq:∀q∈rows++[[eS d.name,a]],q.length=2:=fun q hq=>by
   rcases zaj.1 hq with hq|hq
   ·exact hrt q hq
   ·rw[zat.1 hq];rfl
  refine Zak hEd ZIy (zax rfl) fun Q qr qn=>?_
  ((have hd:=tv;repeat' first|(first|apply Zad|apply Zac|apply Zab)<;>intro hd<;>try simp only[hd]|simp(disch:=first|assumption|omega|simp only[nx]<;>omega|fail)only[hd,qr,qn,ZHH,↓YA,YY,sevalprocAttr,d1,Zdi,x2,y3,b1,hb,gs,q64])<;>try revert hd;refine ttr ?_)
  rw[show rows.length+1=(rows++[[eS d.name,a]]).length from by simp]
  refine Zp3 (rows:=rows++[[eS d.name,a]]) (tail:=tail) (r:=[eS r,.sl .full []]) (id:=D) (cap:=cap) ?_ hq ?_ rfl hcl (by simpa using hnc) (by unfold maxLen;simp;omega) Xf rfl ?_
  ·rw[Zaa.Zag Xa];exact gD
  ·simp only[ZaL,Zaa.Zae]
   rfl
  intro D' cap' tail' H' hH hcl' hcap' _
  have hH2:H.next+1<=H'.next/\H'.get D'=some (.cells ((rows++[[eS d.name,a]]++[[eS r,.sl .full []]]).flatten++tail') 39)/\b<=D'/\D'≠is/\(∀i o,i≠D->H.get i=some o->H'.get i=some o):=by
   rcases hH with⟨rfl,rfl⟩|⟨rfl,rfl⟩
   ·exact⟨Xe,Zaa.Zal Xe,hbD,nD,fun i o hi hg=>by have:=Zaa.lt hg;rw[Zaa.Zah hi,Zaa.Zag Xa];exact hg⟩
   ·exact⟨Xe,Zaa.Zat rfl,Xe,Xe,fun i o hi hg=>by have:=Zaa.lt hg;rw[Zaa.Zag Xe,Zaa.Zag Xa];exact hg⟩
  obtain⟨j1,j2,j3,j4,j5⟩:=hH2
  clear hH
  have gs':=j5 _ _ nD.symm gs
  have ls':=Zaa.lt gs'
  ((have hd:=tv;repeat' first|(first|apply Zad|apply Zac|apply Zab)<;>intro hd<;>try simp only[hd]|simp(disch:=first|assumption|omega|simp only[nx]<;>omega|fail)only[hd,qr,qn,ZHH,↓YA,YY,sevalprocAttr,gs'])<;>try revert hd;refine ttr ?_)
  have hkeep:ZES is H (H'.set is (.cells [.arr D' 0 ((rows++[[eS d.name,a]]).length+1) cap',.sl tok (rS s.meas)] 25)):=fun i cs hi hg=>by
   rw[Zaa.Zah hi]
   exact j5 i _ (fun e=>by rw[e,gD]at hg;injection hg with h;injection h with _ h;exact absurd h Xb) hg
  have hTne:T≠is\/d.tiers=[]:=by
   rcases hhot with⟨h,_⟩|⟨_,_,_,_,_,_,_,_,_,_,h,_⟩
   ·exact .inr h
   ·exact .inl fun e=>hnT _ (by rw[<- e];exact h)
  have hcold2:ZBt H b is (rows++[[eS d.name,a]]) (ds++[d]):=by
   refine ZBt.snoc (id:=if T=is then is+1 else T) ?_ (by split<;>omega) (hcold.other hnT)
   rcases hhot.cold with h|h
   ·exact .inl h
   ·rw[if_neg (fun e=>by obtain⟨_,_,_,_,_,h,_⟩:=h;exact hnT _ (by rw[<- e];exact h))]
    exact .inr h
  refine Zaq ⟨Xe,fun i o hi hg=>?_,rfl,⟨bis,_,tok,Zaa.Zal ls',?_,.inr ⟨D',cap',rows++[[eS d.name,a]],tail',ds++[d],⟨r,[]⟩,.sl .full [],is,by rw[hd],rfl,j3,?_,hcl',hcap',hcold2.keep hkeep,.inl ⟨rfl,rfl⟩⟩⟩⟩
  ·rw[Zaa.Zah Xa]
   exact j5 i o Xa hg
  ·refine tokk fun i n E sz hg=>?_
   rw[Zaa.Zah (fun e=>by rw[e,gs]at hg;cases hg)]
   exact j5 _ _ (fun e=>by rw[e,gD]at hg;cases hg) hg
  ·rw[Zaa.Zah j4];exact j2
open Go.RowKit Go.Lib
theorem Y_ovl {P:Prg} {l:List AI} {d:Option Nat} {F:Fr} {H:Zaa} {K:Fr->Zaa->Prop} {x y:AX}:Zau P (⟨none,d,.ovl x y⟩ :: l) F H K=@Zas (AOp.ev F H (.ovl x y)) ⟨fun v H'=>Zau P l (Fr.put F d v) H' K⟩:=propext zaf
theorem ev_ovl {F:Fr} {H:Zaa} {x y:AX}:AOp.ev F H (.ovl x y)=match x.ev F,y.ev F with
 | .arr i _ _ _,.arr j _ _ _=>match H.get i,H.get j with
  | some (.cells _ _),some (.cells cj _)=>if i≠j/\0<cj.length then some (.b false,H) else none
  | _,_=>none
 | _,_=>none:=rfl
theorem flat3 {rows:List (List AV)} (h:∀r∈rows,r.length=3):rows.flatten.length=rows.length * 3:=by
 induction rows with
 | nil=>rfl
 | cons r rows ih=>rw[List.flatten_cons,zaa,ih fun q hq=>h q (by simp[hq]),h r Xc,List.length_cons];omega
theorem ZBF {sz:Nat}:∀{rows:List (List AV)} (tail:List AV),(∀r∈rows,r.length=sz)->chunk sz rows.length (rows.flatten++tail)=rows
 | [],_,_=>rfl
 | r :: rows,tail,h=>by
  have hr:=h r Xc
  show(((r :: rows).flatten++tail).take sz) :: chunk sz rows.length (((r :: rows).flatten++tail).drop sz)=r :: rows
  rw[List.flatten_cons,zam,zbh hr,zbu hr,ZBF tail fun q hq=>h q (by simp[hq])]
theorem ZDz (sz:Nat):∀(n:Nat) (cs:List AV),(chunk sz (n+1) cs).take n=chunk sz n cs
 | 0,_=>rfl
 | n+1,cs=>by
  show(cs.take sz :: chunk sz (n+1) (cs.drop sz)).take (n+1)=cs.take sz :: chunk sz n (cs.drop sz)
  rw[List.take_succ_cons,ZDz sz n]
theorem ZDW (sz:Nat):∀(n:Nat) (cs:List AV),n * sz<=cs.length->ZaE sz (chunk sz n cs)=true/\(chunk sz n cs).length=n
 | 0,_,_=>⟨rfl,rfl⟩
 | n+1,cs,h=>by
  have e:(n+1) * sz=n * sz+sz:=by rw[zaE];omega
  obtain⟨h1,h2⟩:=ZDW sz n (cs.drop sz) (by rw[zaB];omega)
  refine⟨?_,by show(chunk sz n (cs.drop sz)).length+1=_;omega⟩
  show((cs.take sz).length == sz&&ZaE sz (chunk sz n (cs.drop sz)))=true
  rw[h1,zau]
  simp
  omega
theorem ZGe {H:Zaa} {E sz bytes id cap k:Nat} {zero cs:List AV} {K:AV->Zaa->Prop} (ho:H.get id=some (.cells cs E)) (hk:0<k) (hz:zero.length=sz) (h1:k<=maxLen) (h2:k * bytes<=140737488355328) (hc:cap<k)
  (kk:∀cap' tail,k<=cap'->((List.replicate k zero).flatten++tail).length=cap' * sz->K (.arr H.next 0 k cap') (H.alloc (.cells ((List.replicate k zero).flatten++tail) E))) :
  Zk3 H E sz (bytes+1152921504606846976) (zero++[.any]) (.arr id 0 0 cap) (.sc (.int .i64 (k:Int))) K:=by
 unfold Zk3
 simp only[ZaL,ho]
 rw[zbS,Int.toNat_natCast,zaX]
 refine⟨⟨trivial,trivial,trivial,Xa,by simp[hz],h1,h2,hc⟩,fun cap' h3 _=>kk cap' _ h3 ?_⟩
 rw[zaa,Zc7 (sz:=sz) (fun q hq=>by rw[(List.mem_replicate.1 hq).2];exact hz),Zc7 (sz:=sz) (fun q hq=>by rw[(List.mem_replicate.1 hq).2];exact hz),zaW,zaW,<- zaE]
 congr 1
 omega
theorem ins_ok:InsOk:=by
 intro b T V rows r0 a H h0 hr hn hb hV ha
 have lV:=Zaa.lt hV
 have hal1:ZaE 3 [r0]=true:=by simp[ZaE,h0]
 have hc1:chunk 3 1 r0=[r0]:=by
  show[r0.take 3]=[r0]
  rw[zay Xa]
 have hc1':chunk 3 1 (r0.drop 0)=[r0]:=hc1
 have hl1:0+1 * 3<=r0.length:=Xa
 have hl2:3<=r0.length:=Xa
 have hro:∀{G:Zaa},G.get V=some (.cells r0 42)->ZaL G 3 (.arr V 0 1 1)=some [r0]:=fun h=>by
  simp only[ZaL,h]
  rw[if_pos Xa]
  exact congrArg some hc1'
 have n1:(((1:Nat):Int) == 0)=false:=rfl
 have n0:((0:Int) == ((0:Nat):Int))=true:=rfl
 rcases ha with⟨rfl,rfl⟩|⟨tail,cap,rfl,hne,hT,hcl,hnc,hTV⟩
 ·refine Zak hEd vf149 (zax rfl) fun Q qr qn=>?_
  ((have hd:=tv;repeat' first|(first|apply Zad|apply Zac|apply Zab)<;>intro hd<;>try simp only[hd]|simp(disch:=first|assumption|omega|simp only[nx]<;>omega|fail)only[hd,qr,qn,ZIR,↓YA,YY,sevalprocAttr,hV,hc1,hc1',hl1,hl2,Zdi,true_or,n1,n0])<;>try revert hd;refine ttr ?_)
  refine ZE5 (r:=r0) (hro hV) h0 rfl Xa ?_
  intro cap tail hc htl
  ((have hd:=tv;repeat' first|(first|apply Zad|apply Zac|apply Zab)<;>intro hd<;>try simp only[hd]|simp(disch:=first|assumption|omega|simp only[nx]<;>omega|fail)only[hd,qr,qn,ZIR,↓YA,YY,sevalprocAttr])<;>try revert hd;refine ttr ?_)
  refine Zaq ⟨(Chg.refl b T H).alloc,(TkK.refl _ _ H).alloc,H.next,cap,tail,rfl,?_,?_,hc,.inr (zad _)⟩
  ·rw[Zaa.Zat rfl];simp
  ·simpa using htl
 ·have lT:=Zaa.lt hT
  have hfl:=flat3 hr
  have hnp:0<rows.length:=List.length_pos_iff.2 hne
  have hch:chunk 3 rows.length (rows.flatten++tail)=rows:=ZBF tail hr
  have e1:(((0:Nat):Int) == (rows.length:Int))=false:=by simp only[beq_eq_false_iff_ne];omega
  have e1':((0:Int) == (rows.length:Int))=false:=by simp only[beq_eq_false_iff_ne];omega
  have w1:=ZCE (s:=rows.length) Xa
  have c0:(cap=0)=False:=by rw[eq_iff_iff,iff_false];omega
  have z0:0<=rows.length:=zas _
  have zc:0<=cap:=zas _
  have w2:IntKind.i64.wrap ((rows.length:Int)+((1:Nat):Int))=((rows.length+1:Nat):Int):=w1
  by_cases hroom:rows.length+1<=cap
  ·have d1:decide (((rows.length+1:Nat):Int) > (cap:Int))=false:=by simp only[decide_eq_false_iff_not];omega
   refine Zak hEd vf149 (zax rfl) fun Q qr qn=>?_
   have hVT:V≠T:=fun e=>hTV e.symm
   have m2:Nat.min 1 (rows.length+1)=1:=zbg Xa
   have t1:List.take 1 [r0]=[r0]:=rfl
   have f1:([r0]:List (List AV)).flatten=r0:=Xc
   have hVT2:(V≠T)=True:=eq_true hVT
   have hlen0:0<(rows.flatten++tail).length:=Xa
   have b1:1<=rows.length+1:=Xa
   have b2:1<=cap:=Xa
   have c1:(cap=1)=False:=by rw[eq_iff_iff,iff_false];omega
   have s1:rows.length+1 - 1=rows.length:=Xa
   have g1:0+(rows.length+1) * 3<=(rows.flatten++tail).length:=Xa
   have g2:(rows.length+1) * 3<=(rows.flatten++tail).length:=Xa
   obtain⟨k1,k2⟩:=ZDW 3 (rows.length+1) (rows.flatten++tail) Xa
   have m1:Nat.min (rows.length+1) rows.length=rows.length:=Nat.min_eq_right Xa
   have g3:3+rows.length * 3<=(rows.flatten++tail).length:=Xa
   have ct:(chunk 3 (rows.length+1) (rows.flatten++tail)).take rows.length=rows:=by rw[ZDz,hch]
   have bn:(0:Int)<=((rows.length+1:Nat):Int):=Xa
   have bt:(((rows.length+1:Nat):Int)).toNat=rows.length+1:=Xa
   have hbk:b<=H.next:=Xa
   have p1:(0:Int)<=0+((1:Nat):Int):=Xa
   have p2:((0:Int)+((1:Nat):Int)).toNat=1:=rfl
   generalize hC0:rows.flatten++tail=C0 at *
   have lt3:(C0.take 3).length=3:=by rw[zau];omega
   have g4:1 * 3<=(C0.take 3++rows.flatten++C0.drop (3+rows.flatten.length)).length:=by rw[zaa,zaa,lt3];omega
   have g5:3<=(C0.take 3++rows.flatten++C0.drop (3+rows.flatten.length)).length:=Xa
   have dr:(C0.take 3++rows.flatten++C0.drop (3+rows.flatten.length)).drop r0.length=rows.flatten++C0.drop (3+rows.flatten.length):=by
    rw[zam,zbu (by rw[lt3,h0])]
   ((have hd:=tv;repeat' first|(first|apply Zad|apply Zac|apply Zab)<;>intro hd<;>try simp only[hd]|simp(disch:=first|assumption|omega|simp only[nx]<;>omega|fail)only[hd,qr,qn,ZIR,↓YA,YY,sevalprocAttr,hV,hT,hc1,hc1',hl1,hl2,Zdi,e1,e1',w1,w2,c0,z0,zc,hnc,d1,n1,Nat.sub_zero,hroom,Y_ovl,ev_ovl,hTV,hlen0,b1,b2,c1,s1,g1,g2,g3,k1,k2,m1,ct,zaL,bn,bt,p1,p2,hVT2,m2,t1,f1,hal1,g4,g5,dr])<;>try revert hd;refine ttr ?_)
   refine Zaq ⟨((Chg.refl b T H).ZDn hb).ZDn hb,((TkK.refl _ _ H).ZDn hT).ZDn (Zaa.Zal lT),T,cap,C0.drop (3+rows.flatten.length),rfl,?_,?_,hroom,.inl rfl⟩
   ·rw[Zaa.Zal (by simp only[nx];exact lT),List.flatten_cons,zam]
   ·rw[List.flatten_cons,zam,zaa,zaa,zaB]
    omega
  ·have d1:decide (((rows.length+1:Nat):Int) > (cap:Int))=true:=by simp only[decide_eq_true_eq];omega
   refine Zak hEd vf149 (zax rfl) fun Q qr qn=>?_
   ((have hd:=tv;repeat' first|(first|apply Zad|apply Zac|apply Zab)<;>intro hd<;>try simp only[hd]|simp(disch:=first|assumption|omega|simp only[nx]<;>omega|fail)only[hd,qr,qn,ZIR,↓YA,YY,sevalprocAttr,hV,hT,hc1,hc1',hl1,hl2,Zdi,e1,e1',w1,w2,c0,z0,zc,hnc,d1,n1,Nat.sub_zero])<;>try revert hd;refine ttr ?_)
   rw[Int.sub_zero]
   refine ZGe (bytes:=64) (zero:=[.sc (.string ⟨#[]⟩),.sl .full [],.sl .full []]) hT Xa rfl Xd Xa Xa ?_
   intro cap' tl hcap' hlen'
   have zl:((List.replicate (rows.length+1) ([.sc (.string ⟨#[]⟩),.sl .full [],.sl .full []]:List AV)).flatten++tl).length=cap' * 3:=hlen'
   generalize (List.replicate (rows.length+1) ([.sc (.string ⟨#[]⟩),.sl .full [],.sl .full []]:List AV)).flatten++tl=Z at *
   have c0':(cap'=0)=False:=by rw[eq_iff_iff,iff_false];omega
   have c1':(cap'=1)=False:=by rw[eq_iff_iff,iff_false];omega
   have z1:0<=rows.length+1:=zas _
   have b1:1<=rows.length+1:=Xa
   have s1:rows.length+1 - 1=rows.length:=Xa
   have m2:Nat.min 1 (rows.length+1)=1:=zbg Xa
   have m3:Nat.min rows.length rows.length=rows.length:=Nat.min_self _
   have t1:List.take 1 [r0]=[r0]:=rfl
   have f1:([r0]:List (List AV)).flatten=r0:=Xc
   have t2:rows.take rows.length=rows:=zaq
   have p1:(0:Int)<=0+((1:Nat):Int):=Xa
   have p2:((0:Int)+((1:Nat):Int)).toNat=1:=rfl
   have g1:0+1 * 3<=Z.length:=Xa
   have g1':3<=Z.length:=Xa
   have r1:0+rows.length * 3<=(rows.flatten++tail).length:=Xa
   have r2:rows.length * 3<=(rows.flatten++tail).length:=Xa
   have hal2:ZaE 3 rows=true:=by
    have:=(ZDW 3 rows.length (rows.flatten++tail) Xa).1
    rwa [hch]at this
   have g6:3+rows.length * 3<=(r0++Z.drop r0.length).length:=by rw[zaa,zaB];omega
   have t3:(r0++Z.drop r0.length).take 3=r0:=zbh h0
   ((have hd:=tv;repeat' first|(first|apply Zad|apply Zac|apply Zab)<;>intro hd<;>try simp only[hd]|simp(disch:=first|assumption|omega|simp only[nx]<;>omega|fail)only[hd,qr,qn,ZIR,↓YA,YY,sevalprocAttr,hV,hT,hc1,hc1',hl1,hl2,Zdi,c0',c1',z1,zc,b1,s1,m2,m3,t1,f1,t2,p1,p2,g1,g1',r1,r2,hal1,hal2,hch,hcap',hnc,c0,z0,w1,w2,Nat.sub_zero,zaL,g6,t3])<;>try revert hd;refine ttr ?_)
   refine Zaq ⟨(Chg.refl b T H).alloc,(TkK.refl _ _ H).alloc,H.next,cap',(r0++Z.drop r0.length).drop (3+rows.flatten.length),rfl,?_,?_,hcap',.inr (zad _)⟩
   ·rw[Zaa.Zat rfl,List.flatten_cons]
   ·rw[List.flatten_cons,zaa,zaa,zaB,zaa,zaB]
    omega
end Go.Proofs.YtdfgoekdlmkdfaaGreatDoor
