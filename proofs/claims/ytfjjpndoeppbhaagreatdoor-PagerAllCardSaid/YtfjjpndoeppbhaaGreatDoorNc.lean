/- Texts of the walk. -/
import Derived.Test.YtfjjpndoeppbhaaGreatDoorNb
namespace Go.Proofs.YtfjjpndoeppbhaaGreatDoor
set_option linter.defProp false
set_option maxHeartbeats 64000000
set_option linter.unusedSimpArgs false
set_option linter.unusedVariables false
open Go.RowKit Go.Lib
theorem ZMx {r:Rt} (hr:r.ok=true):(slP r).length=128/\(slP r).take 7=86 :: beB 6 r.gen.toNat/\(slP r).drop 122=beB 6 r.gen.toNat/\r.gen.toNat<=1099511627776/\1<=r.gen.toNat:=by
 obtain⟨b1,b2,_⟩:=okR hr
 obtain⟨g,p,m,c,n,t,e,hg,Z,hZ,hpd,hpl,_,_,_,_,_,hs⟩:=ZPM hr
 have hB6:(beB 6 g).length=6:=ZB7 6 g
 have hgen:r.gen.toNat=g:=by rw[e];rfl
 have hcl:(clC (ZMD 118 (slB r))).length=122:=by rw[ZMN,hpl]
 rw[hgen]
 refine⟨by rw[hs,zac,hcl,hB6],?_,by rw[hs];exact zbi hcl,hg,Xa⟩
 rw[hs]
 unfold clC
 rw[hpd,zan,zan]
 exact za1 (by rw[List.length_cons,hB6])
theorem ZQu (n:Nat):(beB 6 n).getD 5 0=UInt8.ofNat n:=by
 have h:=ZB7 6 n
 simp[beB]
theorem beB_inj {a b:Nat} (h:beB 6 a=beB 6 b) (ha:a<281474976710656) (hb:b<281474976710656):a=b:=by
 have h1:=ZM9 6 a
 have h2:=ZM9 6 b
 rw[h,h2]at h1
 rw[zaF Xa,zaF Xa]at h1
 exact h1.symm
theorem ZR1 {O:Tx} (h:O.length=128):O.getD 127 0=(O.drop 122).getD 5 0:=by
 rw[zai,zai,zbd]
def ZME (O:Tx) (gen:Nat):Prop:=O.length=128/\(O.getD 127 0).toNat≠(gen+1) % 256/\(O.take 7=86 :: beB 6 (gen+1)\/beV (O.drop 122)<max gen 1)
theorem ZNn {O:Tx} {gen:Nat} (hg:gen<=1099511627776) (h:ZME O gen) {r:Rt} (hs:slT O=some r):r.gen<(gen:Int):=by
 obtain⟨hr,rfl⟩:=ZMB.1 hs
 obtain⟨f1,f2,f3,f4,f5⟩:=ZMx hr
 obtain⟨h1,h2,h3⟩:=h
 rw[ZR1 f1,f3,ZQu,UInt8.toNat_ofNat']at h2
 rcases h3 with h3|h3
 ·rw[f2]at h3
  injection h3 with _ h3
  have:=beB_inj h3 Xa Xa
  rw[this]at h2
  exact absurd rfl h2
 ·rw[f3,ZM9,zaF Xa]at h3
  omega
theorem ZR8 {O:Tx} {gen:Nat} (h:ZME O gen) {r:Rt} (hr:r.ok=true) (hg:r.gen.toNat=gen+1) {m:Nat} (hm:m<128):ZME ((slP r).take m++O.drop m) gen:=by
 obtain⟨f1,f2,f3,f4,f5⟩:=ZMx hr
 obtain⟨h1,h2,h3⟩:=h
 rw[hg]at f2 f3
 have ht:((slP r).take m).length=m:=by rw[zaj];omega
 refine⟨by rw[zac,ht,zaq];omega,?_,?_⟩
 ·rw[zai,zaE (by rw[ht];omega),ht,zbd,show m+(127 - m)=127 by omega,<- zai]
  exact h2
 ·by_cases h7:7<=m
  ·left
   rw[zbp (by rw[ht];exact h7),List.take_take,zaP h7,f2]
  ·rcases h3 with h3|h3
   ·left
    have hta:=zcl (l:=slP r) (i:=m) (j:=7 - m)
    rw[show m+(7 - m)=7 by omega,f2]at hta
    rw[hta,List.take_append,ht,zav (by rw[ht];omega)]
    congr 1
    rw[<- zcA,h3,<- f2,zcA]
   ·right
    rw[List.drop_append,ht,zbg (by rw[ht];omega),List.nil_append,za5,show m+(122 - m)=122 by omega]
    exact h3
theorem slot_rec {r:Rt} (hr:r.ok=true):ZME (slP r) (r.gen.toNat+1):=by
 obtain⟨f1,f2,f3,f4,f5⟩:=ZMx hr
 refine⟨f1,?_,.inr ?_⟩
 ·rw[ZR1 f1,f3,ZQu,UInt8.toNat_ofNat']
  omega
 ·rw[f3,ZM9,zaF Xa]
  omega
def zeS:Tx:=List.replicate 128 0
theorem ZMU:ZME zeS 0/\ZME zeS 1:=by
 refine⟨⟨rfl,Xb,.inr Xb⟩,⟨rfl,Xb,.inr Xb⟩⟩
theorem sta_rec {r:Rt} (hr:r.ok=true):staP (r.gen % 2) (slP r)=some r:=by
 unfold staP
 rw[ZMB.2 ⟨hr,rfl⟩,Option.bind_some,if_pos rfl]
theorem ZSf {i:Int} {s:Tx} {r:Rt} (h:staP i s=some r):slT s=some r:=by
 unfold staP at h
 cases hs:slT s with
 | none=>rw[hs]at h;cases h
 | some r2 =>
  rw[hs,Option.bind_some]at h
  split at h
  ·exact h
  ·cases h
theorem ZPU {r:Rt} (hr:r.ok=true) {sh:Nat->Tx} (h1:sh (r.gen.toNat % 2)=slP r) (h2:∀r2,slT (sh ((r.gen.toNat+1) % 2))=some r2->r2.gen<r.gen):choP (sh 0) (sh 1)=some r:=by
 obtain⟨b1,b2,_⟩:=okR hr
 have hs:=sta_rec hr
 unfold choP
 rcases Nat.mod_two_eq_zero_or_one r.gen.toNat with e|e
 ·have e0:r.gen % 2=0:=Xa
  rw[e]at h1
  rw[show(r.gen.toNat+1) % 2=1 by omega]at h2
  rw[h1,<- e0,hs]
  cases h:staP 1 (sh 1)with
  | none=>rfl
  | some y =>
   simp only
   rw[if_neg]
   have:=h2 y (ZSf h)
   omega
 ·have e0:r.gen % 2=1:=Xa
  rw[e]at h1
  rw[show(r.gen.toNat+1) % 2=0 by omega]at h2
  rw[h1]
  rw[e0]at hs
  rw[hs]
  cases h:staP 0 (sh 0)with
  | none=>rfl
  | some x =>
   simp only
   rw[if_pos (h2 x (ZSf h))]
theorem ZOM {sh:Nat->Tx} (h0:slT (sh 0)=none) (h1:slT (sh 1)=none):choP (sh 0) (sh 1)=none:=by
 unfold choP staP
 rw[h0,h1]
 rfl
theorem ZMo {O:Tx} {gen:Nat} (hg:gen<=1) (h:ZME O gen):slT O=none:=by
 cases e:slT O with
 | none=>rfl
 | some r =>
  have:=ZNn Xa h e
  have:=(okR (ZMB.1 e).1).1
  omega
theorem ZMn {keep:List Int} {torn:Int} {m:Nat} {j:Nat}:∀(ps:List (Nat×Tx)) (sec:List Tx) (i:Nat),(∀q∈ps,q.1≠j)->(ZM6 sec keep torn m i ps).getD j []=sec.getD j []
 | [],_,_,_=>rfl
 | p :: ps,sec,i,h=>by
  have hp:=h p zak
  have hs:∀x,(sec.set p.1 x).getD j []=sec.getD j []:=fun x=>by
   rw[zai,zbF hp,<- zai]
  unfold ZM6
  split
  ·rw[ZMn ps _ _ fun q hq=>h q (zar _ hq),hs]
  ·split
   ·rw[ZMn ps _ _ fun q hq=>h q (zar _ hq),hs]
   ·exact ZMn ps _ _ fun q hq=>h q (zar _ hq)
theorem ZMr {keep:List Int} {torn:Int} {m:Nat}:∀(ps:List (Nat×Tx)) (sec:List Tx) (i:Nat),(ZM6 sec keep torn m i ps).length=sec.length
 | [],_,_=>rfl
 | p :: ps,sec,i=>by
  unfold ZM6
  rw[ZMr]
  split
  ·simp
  ·split<;>simp
theorem layP_one {keep:List Int} {torn:Int} {m:Nat} {k:Nat} {s:Tx} {sec:List Tx} (hk:k<sec.length) (hs:s.length=128) (hl:(sec.getD k []).length=128) (hm:m<=128):(ZM6 sec keep torn m 0 [(k,s)]).getD k []=s\/(ZM6 sec keep torn m 0 [(k,s)]).getD k []=sec.getD k []\/∃j,j<128/\(ZM6 sec keep torn m 0 [(k,s)]).getD k []=s.take j++(sec.getD k []).drop j:=by
 have hset:∀x,(sec.set k x).getD k []=x:=fun x=>by
  rw[zai,List.getElem?_set_self hk];rfl
 unfold ZM6 ZM6
 split
 ·exact .inl (hset _)
 ·split
  ·by_cases h:m=128
   ·left
    rw[hset,h,zbg (by simp only;omega),zaI]
    exact zav (by simp only;omega)
   ·exact .inr (.inr ⟨m,Xa,hset _⟩)
  ·exact .inr (.inl rfl)
open Go.RowKit Go.Lib
def pcP (s:Tx) (i:Nat):Tx:=(s.drop (246 * i)).take 246
theorem str_of {pg:Nat->Option Tx} {first a n:Nat} {S:Tx} (h:∀i,246 * i<S.length->pg (first+i)=some (pcP S i)) (hn:a+n<=S.length):∀(m i:Nat),a / 246<=i->(m=0->a+n<=max a (246 * i))->(0<m->i+m=(a+n - 1) / 246+1/\246 * i<a+n)->ZQs pg first S.length a n m i=some ((S.drop (max a (246 * i))).take (a+n - max a (246 * i)))
 | 0,i,h0,h1,h2=>by
  have:=h1 rfl
  rw[ZQs,show a+n - max a (246 * i)=0 by omega,List.take_zero]
 | m+1,i,h0,h1,h2=>by
  obtain⟨h3,h4⟩:=h2 Xa
  have hs:=h i Xa
  have hl:(pcP S i).length=min 246 (S.length - 246 * i):=by unfold pcP;rw[zaj,zaq]
  have ih:=str_of h hn m (i+1) Xa (fun e=>by omega) (fun e=>by omega)
  rw[ZNI hs,if_pos hl,ih,Option.map_some]
  congr 1
  have e1:max a (246 * (i+1))=246 * (i+1):=Xa
  rw[e1]
  obtain⟨k,hk⟩:∃k,k=max a (246 * i):=⟨_,rfl⟩
  obtain⟨e,he⟩:∃e,e=min (246 * (i+1)) (a+n):=⟨_,rfl⟩
  rw[<- hk]
  have c1:((pcP S i).take (a+n - 246 * i)).drop (a - 246 * i)=(S.drop k).take (e - k):=by
   unfold pcP
   rw[List.take_take,zcA,za5,show 246 * i+(a - 246 * i)=k by omega]
   congr 1
   omega
  have c2:(S.drop (246 * (i+1))).take (a+n - 246 * (i+1))=((S.drop k).drop (e - k)).take (a+n - e):=by
   rw[za5]
   by_cases hh:246 * (i+1)<=a+n
   ·rw[show k+(e - k)=246 * (i+1) by omega,show e=246 * (i+1) by omega]
   ·rw[show a+n - 246 * (i+1)=0 by omega,show a+n - e=0 by omega,List.take_zero,List.take_zero]
  rw[c1,c2,<- zcl,show e - k+(a+n - e)=a+n - k by omega]
theorem ZSd {pg:Nat->Option Tx} {first a n:Nat} {S:Tx} (h:∀i,246 * i<S.length->pg (first+i)=some (pcP S i)) (hn:a+n<=S.length):ZM5 pg first S.length a n=some ((S.drop a).take n):=by
 unfold ZM5 ZOF
 by_cases h0:n=0
 ·rw[if_pos h0,h0,ZQs,List.take_zero]
 ·rw[if_neg h0,str_of h hn _ _ (zad _) (fun e=>by omega) (fun e=>by omega),show max a (246 * (a / 246))=a by omega,show a+n - a=n by omega]
structure Sto (p:Pg) (sh:Nat->Tx) (np:Nat) (c n:Tx):Prop where
 cat:p.root.cat=c.length
 nod:p.root.nodes=n.length
 c:∀i,246 * i<c.length->p.page sh np i=some (pcP c i)
 n:∀i,246 * i<n.length->p.page sh np ((ZLU p.root.cat).toNat+i)=some (pcP n i)
section
variable {p:Pg} {sh:Nat->Tx} {np:Nat} {c n:Tx}
theorem Sto.catP (h:Sto p sh np c n):catP p sh np=some c:=by
 unfold _root_.Go.Proofs.YtfjjpndoeppbhaaGreatDoor.catP
 rw[h.cat,Int.toNat_natCast,ZSd (fun i hi=>by rw[zax];exact h.c i hi) Xa,zby,zaz]
theorem Sto.bytP (h:Sto p sh np c n) {a k:Nat} (hk:a+k<=n.length):bytP p sh np a k=some ((n.drop a).take k):=by
 unfold _root_.Go.Proofs.YtfjjpndoeppbhaaGreatDoor.bytP
 rw[h.nod,Int.toNat_natCast,ZSd h.n hk]
theorem Sto.chkP (h:Sto p sh np c n) (hl:(p.list.length:Int)=ZLU p.root.cat+ZLU p.root.nodes):chkP p sh np=true:=by
 unfold _root_.Go.Proofs.YtfjjpndoeppbhaaGreatDoor.chkP
 rw[za6]
 intro i hi
 have hi:=zbb.1 hi
 by_cases hc:246 * i<c.length
 ·rw[h.c i hc];rfl
 ·have h1:=h.cat
  have h2:=h.nod
  have hci:(ZLU p.root.cat).toNat<=i:=by rw[h1];unfold ZLU;split<;>omega
  have:=h.n (i - (ZLU p.root.cat).toNat) (by
   rw[h2]at hl
   have:0<=ZLU p.root.cat:=by rw[h1];unfold ZLU;split<;>omega
   unfold ZLU at hl
   rw[h1]at hl hci
   unfold ZLU at hci
   rw[h1]
   unfold ZLU
   split at hl<;>split at hl<;>split at hci<;>split<;>omega)
  rw[show(ZLU p.root.cat).toNat+(i - (ZLU p.root.cat).toNat)=i by omega]at this
  rw[this]
  rfl
end
def nxtP (own:List Int) (i:Nat):Int:=if i+1<own.length then own.getD (i+1) 0 else -1
theorem ZQl (own:List Int):∀(m i:Nat) (l:List Int) (j:Nat),j<m->(ZPB own m i l)[j]?=some (chP (nxtP own (i+j)) ((l.drop (122 * j)).take 122))
 | 0,_,_,_,h=>by omega
 | m+1,i,l,0,_=>rfl
 | m+1,i,l,j+1,h=>by
  rw[ZPB,List.getElem?_cons_succ,ZQl own m (i+1) _ j Xa,za5,show i+1+j=i+(j+1) by omega,show 122+122 * j=122 * (j+1) by omega]
theorem ZQm:∀(l:List Tx) (i j:Nat) (s:Tx),l[j]?=some s->(ZNx i l)[j]?=some (pgP 77 (i+j) s)
 | [],_,_,_,h=>by simp at h
 | x :: l,i,0,s,h=>by
  simp only[List.getElem?_cons_zero,zaa]at h
  rw[h]
  rfl
 | x :: l,i,j+1,s,h=>by
  rw[ZNx,List.getElem?_cons_succ,ZQm l (i+1) j s (by simpa using h),show i+1+j=i+(j+1) by omega]
theorem ZOI (k:UInt8):∀(m f:Nat) (s:Tx) (j:Nat),s.length<=m->246 * j<s.length->(ZNE k f m s)[j]?=some (pgP k (f+j) (pcP s j))
 | 0,_,_,_,h,h2=>by omega
 | m+1,f,s,j,h,h2=>by
  have hs:s≠[]:=fun e=>by rw[e]at h2;simp at h2
  unfold ZNE
  rw[if_neg hs]
  cases j with
  | zero=>rfl
  | succ j =>
   rw[List.getElem?_cons_succ,ZOI k m (f+1) _ j (by rw[zaq];omega) (by rw[zaq];omega),show f+1+j=f+(j+1) by omega]
   unfold pcP
   rw[za5,show 246+246 * j=246 * (j+1) by omega]
theorem fol_of {rd:Int->Nat->Option Tx} {own list:List Int} {pages:Int} (hp:pages=list.length) (ho:(own.length:Int)=ZL3 list.length) (h1:∀x∈own,0<=x/\x<=2046) (h2:∀x∈list,0<=x/\x<=2046) (hr:∀i (hi:i<own.length),rd own[i] i=some (chP (nxtP own i) ((list.drop (122 * i)).take 122))):∀(m i:Nat) (a:Int),i+m=own.length->(0<m->own[i]?=some a)->ZMw rd pages m i a (own.take i) (list.take (122 * i))=some (own,list)
 | 0,i,a,hi,_=>by
  have hll:list.length<=122 * own.length:=by
   unfold ZL3 at ho
   split at ho<;>omega
  rw[ZMw,show i=own.length by omega,zaz,zav hll]
 | m+1,i,a,hi,ha=>by
  have hil:i<own.length:=Xa
  have ha:=ha Xa
  rw[zab hil]at ha
  injection ha with ha
  have hrd:=hr i hil
  rw[ha]at hrd
  have hnx : -1<=nxtP own i/\nxtP own i<=2046/\(m=0 ↔ nxtP own i<0):=by
   unfold nxtP
   by_cases hh:i+1<own.length
   ·rw[if_pos hh,zai,zab hh,Option.getD_some]
    have:=h1 _ (zau hh)
    omega
   ·rw[if_neg hh]
    omega
  have hpt:((list.drop (122 * i)).take 122).length<=122:=by rw[zaj];omega
  have hct:=chT_put hpt ⟨hnx.1,hnx.2.1⟩ (fun x hx=>h2 x (zaW (zaB hx)))
  rw[ZN2 hrd hct,if_pos]
  ·have ih:=fol_of hp ho h1 h2 hr m (i+1) (nxtP own i) Xa (fun hm=>by
    unfold nxtP
    rw[if_pos Xa,zai,zab (show i+1<own.length by omega),Option.getD_some])
   rw[zas hil,ha,show 122 * (i+1)=122 * i+122 by omega,zcl]at ih
   exact ih
  ·refine⟨?_,hnx.2.2⟩
   have hll:122 * i<=list.length:=by
    unfold ZL3 at ho
    split at ho<;>omega
   rw[zaj,zaq,zaj]
   omega
theorem ZP7 {sh:Nat->Tx} {np:Nat} {x:Int} {k:UInt8} {ix:Nat} {s:Tx} (h:ZMX sh np x=some (pgP k ix s)) (hk:ZBu k=true) (hi:ix<16777216) (hs:s.length<=246):isP sh np x k ix=some s:=by
 unfold isP
 rw[h,Option.bind_some,pgI_put hk hi hs]
open Classical in
theorem ZQV {r:Rt} {own list:List Int} {sh:Nat->Tx} {np:Nat} {c n:Tx} (hnp:np<=2047) (hr:r.ok=true) (hch:choP (sh 0) (sh 1)=some r) (hc:r.cat=c.length) (hn:r.nodes=n.length) (hpg:r.pages=list.length) (ho:(own.length:Int)=ZL3 list.length) (hhd:own.head?=some r.map) (hin:∀x∈own++list,0<=x/\x<(np:Int)) (hnd:(own++list).Nodup)
  (hm:∀k (hk:k<own.length),ZMX sh np own[k]=(ZM2 own list)[k]?) (hd:∀k (hk:k<list.length),ZMX sh np list[k]=(ZMF c n)[k]?):opeP sh np=some ⟨r,own,list⟩/\Sto ⟨r,own,list⟩ sh np c n:=by
 obtain⟨b1,b2,b3,b4,b5,b6,b7,b8,b9,b10,b11,b12⟩:=okR hr
 have h1:∀x∈own,0<=x/\x<=2046:=fun x hx=>by have:=hin x (zaJ _ hx);omega
 have h2:∀x∈list,0<=x/\x<=2046:=fun x hx=>by have:=hin x (zaR _ hx);omega
 have hrd:∀i (hi:i<own.length),isP sh np own[i] 77 i=some (chP (nxtP own i) ((list.drop (122 * i)).take 122)):=fun i hi=>by
  have e:=hm i hi
  unfold ZM2 at e
  rw[ZQm _ 0 i _ (ZQl own own.length 0 list i hi),zax]at e
  have hcl:ZL3 list.length<=list.length:=by unfold ZL3;split<;>omega
  exact ZP7 e rfl Xa (by rw[ZOY,zaj];omega)
 have hcm:(ZL3 r.pages).toNat=own.length:=by rw[hpg,<- ho,Int.toNat_natCast]
 have hfol:ZMw (fun a i=>isP sh np a 77 i) r.pages (ZL3 r.pages).toNat 0 r.map [] []=some (own,list):=by
  rw[hcm]
  have:=fol_of (rd:=fun a i=>isP sh np a 77 i) hpg ho h1 h2 hrd own.length 0 r.map Xa (fun _=>by rw[<- hhd,List.head?_eq_getElem?])
  simpa using this
 refine⟨?_,hc,hn,fun i hi=>?_,fun i hi=>?_⟩
 ·unfold opeP
  rw[hch]
  simp only
  rw[hfol]
  simp only
  rw[if_pos ⟨hnd,hin⟩]
 ·have hci:(i:Int)<ZLU r.cat:=by rw[hc];unfold ZLU;rw[if_neg Xa];omega
  have hcn:0<=ZLU r.nodes:=by rw[hn];unfold ZLU;split<;>omega
  have hil:i<list.length:=Xa
  unfold Pg.page
  simp only
  rw[if_neg Xa,zai,zab hil,Option.getD_some]
  refine ZP7 ((hd i hil).trans ?_) rfl Xa (by unfold pcP;rw[zaj];omega)
  unfold ZMF
  rw[zaC (by have:=ZN4 67 c.length 0 c (zad _);rw[<- hc]at this;omega),ZOI 67 c.length 0 c i (zad _) hi,zax]
 ·have hcc:0<=ZLU r.cat:=by rw[hc];unfold ZLU;split<;>omega
  have hni:(i:Int)<ZLU r.nodes:=by rw[hn];unfold ZLU;rw[if_neg Xa];omega
  have hsc:=ZN4 67 c.length 0 c (zad _)
  rw[<- hc]at hsc
  have hil:(ZLU r.cat).toNat+i<list.length:=Xa
  unfold Pg.page
  simp only
  rw[if_pos Xa,zai,zab hil,Option.getD_some,show(ZLU r.cat).toNat+i - (ZLU r.cat).toNat=i by omega]
  refine ZP7 ((hd _ hil).trans ?_) rfl Xa (by unfold pcP;rw[zaj];omega)
  unfold ZMF
  rw[zaE Xa,show(ZLU r.cat).toNat+i - (ZNE 67 0 c.length c).length=i by omega,ZOI 78 n.length 0 n i (zad _) hi,zax]
open Go.RowKit Go.Lib
theorem ZQz {sec:List Tx} {j:Nat}:∀(puts:List (Nat×Tx)),(∀q∈puts,q.1≠j)->ZNk sec puts j=sec.getD j []:=by
 intro puts
 unfold ZNk
 generalize sec.getD j []=s
 induction puts generalizing s with
 | nil=>intro _;rfl
 | cons q ps ih =>
  intro h
  rw[List.foldl_cons,if_neg (h q zak)]
  exact ih s fun x hx=>h x (zar _ hx)
theorem ZQw {sec:List Tx} {j:Nat} {t:Tx}:∀(puts:List (Nat×Tx)),(∀q∈puts,q.1=j->q.2=t)->(∃q∈puts,q.1=j)->ZNk sec puts j=t:=by
 intro puts
 unfold ZNk
 generalize sec.getD j []=s
 induction puts generalizing s with
 | nil=>rintro _ ⟨q,hq,_⟩;cases hq
 | cons q ps ih =>
  intro h hm
  rw[List.foldl_cons]
  by_cases hp:∃q∈ps,q.1=j
  ·exact ih _ (fun x hx=>h x (zar _ hx)) hp
  ·have hq:q.1=j:=by
    obtain⟨x,hx,e⟩:=hm
    rcases zay.1 hx with rfl|hx
    ·exact e
    ·exact absurd ⟨x,hx,e⟩ hp
   rw[if_pos hq,h q zak hq]
   clear ih h hm hq
   induction ps generalizing t with
   | nil=>rfl
   | cons y ps ih2 =>
    rw[List.foldl_cons,if_neg fun e=>hp ⟨y,zak,e⟩]
    exact ih2 fun⟨x,hx,e⟩=>hp ⟨x,zar _ hx,e⟩
def ZN1 (L:List (Int×Tx)):List (Nat×Tx):=L.map fun q=>(q.1.toNat,q.2)
theorem ZSk {a b:List Int} {x y:List Tx} (h:a.length=x.length):ZL7 (a++b) (x++y)=ZL7 a x++ZL7 b y:=by
 unfold ZL7
 rw[List.zip_append h,zbZ]
theorem ZOD {places:List Int} {pages:List Tx} (h:pages.length=places.length) {q:Int×Tx} (hq:q∈ZL7 places pages):∃(k:Nat) (h1:k<places.length) (h2:k<pages.length),q=(2+2 * places[k],pages[k].take 128)\/q=(2+2 * places[k]+1,pages[k].drop 128):=by
 unfold ZL7 at hq
 obtain⟨⟨a,s⟩,hz,hq⟩:=List.mem_flatMap.1 hq
 obtain⟨k,hk,e⟩:=zaK hz
 rw[List.getElem_zip]at e
 rw[List.length_zip]at hk
 simp only[zaf]at e
 obtain⟨rfl,rfl⟩:=e
 refine⟨k,Xa,Xa,?_⟩
 simpa using hq
theorem ZSj {places:List Int} {pages:List Tx} {sec:List Tx} (h:pages.length=places.length) (h0:∀x∈places,0<=x) (hn:places.Nodup) (k:Nat) (hk:k<places.length):ZNk sec (ZN1 (ZL7 places pages)) (2+2 * places[k].toNat)=(pages[k]'Xa).take 128/\ZNk sec (ZN1 (ZL7 places pages)) (3+2 * places[k].toNat)=(pages[k]'Xa).drop 128:=by
 obtain⟨g1,g2⟩:=ZPD places pages Xa k Xa
 have hk0:=h0 _ (zau hk)
 have inj:∀(k2:Nat) (h2:k2<places.length),places[k2]=places[k]->k2=k:=fun k2 h2 e=>by
  have hpw:=List.pairwise_iff_getElem.1 hn
  rcases Nat.lt_trichotomy k2 k with h|h|h
  ·exact absurd e (hpw k2 k h2 hk h)
  ·exact h
  ·exact absurd e.symm (hpw k k2 hk h2 h)
 constructor
 ·refine ZQw _ ?_ ⟨_,List.mem_map_of_mem (zaN g1),by simp only;omega⟩
  intro q hq e
  obtain⟨q',hq',rfl⟩:=zaH.1 hq
  obtain⟨k2,h1,h2,e2⟩:=ZOD h hq'
  have hk2:=h0 _ (zau h1)
  rcases e2 with rfl|rfl
  ·simp only at e ⊢
   have:=inj k2 h1 Xa
   subst this
   rfl
  ·simp only at e
   omega
 ·refine ZQw _ ?_ ⟨_,List.mem_map_of_mem (zaN g2),by simp only;omega⟩
  intro q hq e
  obtain⟨q',hq',rfl⟩:=zaH.1 hq
  obtain⟨k2,h1,h2,e2⟩:=ZOD h hq'
  have hk2:=h0 _ (zau h1)
  rcases e2 with rfl|rfl
  ·simp only at e
   omega
  ·simp only at e ⊢
   have:=inj k2 h1 Xa
   subst this
   rfl
theorem ZRQ (d:Dv) (h:d.off=false):(d.stp.2=true/\d.stp.1.off=false/\d.stp.1.sec=d.sec/\d.stp.1.puts=d.puts)\/(d.stp.2=false/\d.stp.1.off=true/\d.stp.1.sec=d.sec/\d.stp.1.puts=d.puts):=by
 unfold Dv.stp
 split
 ·exact .inr ⟨rfl,rfl,rfl,rfl⟩
 ·exact .inl ⟨rfl,h,rfl,rfl⟩
theorem ZRH (d:Dv) (h:d.off=false) {i:Int} {s:Tx} (hi:0<=i/\i<d.sec.length) (hs:s.length=128):((d.wrt i s).2=0/\(d.wrt i s).1.off=false/\(d.wrt i s).1.sec=d.sec/\(d.wrt i s).1.puts=d.puts++[(i.toNat,s)])\/((d.wrt i s).2=8/\(d.wrt i s).1.off=true/\(d.wrt i s).1.sec=d.sec/\(d.wrt i s).1.puts=d.puts):=by
 have hr:d.rdy i=0:=by unfold Dv.rdy;rw[if_neg (by simp[h]),if_neg Xa]
 unfold Dv.wrt
 rw[if_neg (by simp[hr]),if_neg (by simp[hs])]
 rcases ZRQ d h with⟨a,b,c,e⟩|⟨a,b,c,e⟩
 ·rw[if_pos a];exact .inl ⟨rfl,b,c,rfl⟩
 ·rw[if_neg (by simp[a])];exact .inr ⟨rfl,b,c,e⟩
theorem ZOG:∀(L:List (Int×Tx)) (d:Dv),d.off=false->(∀q∈L,(0<=q.1/\q.1<d.sec.length)/\q.2.length=128)->((d.ZL4 L).2=0/\(d.ZL4 L).1.off=false/\(d.ZL4 L).1.sec=d.sec/\(d.ZL4 L).1.puts=d.puts++ZN1 L)\/((d.ZL4 L).2=8/\(d.ZL4 L).1.off=true/\(d.ZL4 L).1.sec=d.sec/\∃k,(d.ZL4 L).1.puts=d.puts++ZN1 (L.take k))
 | [],d,h,_=>.inl ⟨rfl,h,rfl,by simp[ZN1,Dv.ZL4]⟩
 | q :: L,d,h,hq=>by
  obtain⟨h1,h2⟩:=hq q zak
  unfold Dv.ZL4
  rcases ZRH d h h1 h2 with⟨a,b,c,e⟩|⟨a,b,c,e⟩
  ·rw[if_pos a]
   rcases ZOG L (d.wrt q.1 q.2).1 b (fun x hx=>by rw[c];exact hq x (zar _ hx))with⟨a2,b2,c2,e2⟩|⟨a2,b2,c2,k,e2⟩
   ·exact .inl ⟨a2,b2,by rw[c2,c],by rw[e2,e,zan];rfl⟩
   ·exact .inr ⟨a2,b2,by rw[c2,c],k+1,by rw[e2,e,zan];rfl⟩
  ·rw[if_neg (by rw[a];decide)]
   exact .inr ⟨a,b,c,0,by rw[e];simp[ZN1]⟩
theorem ZSt (d:Dv) (h:d.off=false):(d.syn.2=0/\d.syn.1.off=false/\d.syn.1.sec=d.all/\d.syn.1.puts=[])\/(d.syn.2=8/\d.syn.1.off=true/\d.syn.1.sec=d.sec/\d.syn.1.puts=d.puts):=by
 unfold Dv.syn
 rw[if_neg (by simp[h])]
 rcases ZRQ d h with⟨a,b,c,e⟩|⟨a,b,c,e⟩
 ·rw[if_pos a];exact .inl ⟨rfl,b,rfl,rfl⟩
 ·rw[if_neg (by simp[a])];exact .inr ⟨rfl,b,c,e⟩
theorem ZQe (d:Dv) {j:Nat} (hj:j<d.sec.length):d.all.getD j []=d.sho j:=by
 unfold Dv.all
 rw[zai,zaO,List.getElem?_range hj]
 rfl
inductive LayO (sec:List Tx) (W:List (Nat×Tx)) (k:Nat) (s:Tx):Dv×Int->Prop
 | early (d:Dv) (m:Nat):d.off=true->d.sec=sec->d.puts=W.take m->LayO sec W k s (d,8)
 | late (d:Dv):d.off=true->d.sec.length=sec.length->(∀j,j<sec.length->d.sec.getD j []=ZNk sec W j)->(d.puts=[]\/d.puts=[(k,s)])->LayO sec W k s (d,8)
 | done (d:Dv):d.off=false->d.sec.length=sec.length->(∀j,j<sec.length->d.sec.getD j []=if j=k then s else ZNk sec W j)->d.puts=[]->LayO sec W k s (d,0)
theorem lay_out {d:Dv} {r:Rt} {own list:List Int} {data maps:List Tx} (hon:d.off=false) (hp:d.puts=[]) (hr:r.ok=true) (hn:16<=d.sec.length) (hl:data.length=list.length) (hq:∀q∈ZL7 list data++ZL7 own maps,(0<=q.1/\q.1<d.sec.length)/\q.2.length=128):LayO d.sec (ZN1 (ZL7 list data++ZL7 own maps)) (r.gen.toNat % 2) (slP r) (ZMT d r own list data maps):=by
 obtain⟨b1,b2,_⟩:=okR hr
 obtain⟨f1,_⟩:=ZMx hr
 have hapn:∀x y,ZN1 (x++y)=ZN1 x++ZN1 y:=fun x y=>by unfold ZN1;rw[zb1]
 unfold ZMT
 rcases ZOG (ZL7 list data) d hon (fun q h=>hq q (zaJ _ h))with⟨a,b,c,e⟩|⟨a,b,c,k,e⟩
 rotate_left
 ·have ne:(d.ZL4 (ZL7 list data)).2≠0:=by rw[a];decide
  rw[ZLX ne,ZLX ne,ZLX ne,ZLX ne]
  rw[show d.ZL4 (ZL7 list data)=((d.ZL4 (ZL7 list data)).1,8) by rw[<- a]]
  refine .early _ (min k (ZL7 list data).length) b c ?_
  rw[e,hp,List.nil_append,hapn]
  unfold ZN1
  rw[zbp (by rw[zam];omega),<- zcE]
  congr 1
  by_cases h:k<=(ZL7 list data).length
  ·rw[zaP h]
  ·rw[zbC Xa,zaz,zav Xa]
 rw[hp,List.nil_append]at e
 rw[ZMb a]
 generalize hd1:(d.ZL4 (ZL7 list data)).1=d1 at *
 rcases ZOG (ZL7 own maps) d1 b (fun q h=>by rw[c];exact hq q (zaR _ h))with⟨a2,b2,c2,e2⟩|⟨a2,b2,c2,k,e2⟩
 rotate_left
 ·have ne:(d1.ZL4 (ZL7 own maps)).2≠0:=by rw[a2];decide
  rw[ZLX ne,ZLX ne,ZLX ne]
  rw[show d1.ZL4 (ZL7 own maps)=((d1.ZL4 (ZL7 own maps)).1,8) by rw[<- a2]]
  refine .early _ ((ZL7 list data).length+k) b2 (by rw[c2,c]) ?_
  rw[e2,e,hapn]
  have hln:(ZN1 (ZL7 list data)).length=(ZL7 list data).length:=by unfold ZN1;rw[zam]
  rw[List.take_append,zav (l:=ZN1 (ZL7 list data)) (by rw[hln];omega),hln,show(ZL7 list data).length+k - (ZL7 list data).length=k by omega]
  unfold ZN1
  rw[zcE]
 rw[ZMb a2]
 rw[e,<- hapn]at e2
 rw[c]at c2
 generalize hd2:(d1.ZL4 (ZL7 own maps)).1=d2 at *
 clear hd1 e a2 a hp
 have hs2:∀j,d2.sho j=ZNk d.sec (ZN1 (ZL7 list data++ZL7 own maps)) j:=fun j=>by unfold Dv.sho;rw[c2,e2]
 rcases ZSt d2 b2 with⟨a3,b3,c3,e3⟩|⟨a3,b3,c3,e3⟩
 rotate_left
 ·have ne:(d2.syn).2≠0:=by rw[a3];decide
  rw[ZLX ne,ZLX ne]
  rw[show d2.syn=(d2.syn.1,8) by rw[<- a3]]
  refine .early _ (ZN1 (ZL7 list data++ZL7 own maps)).length b3 (by rw[c3,c2]) ?_
  rw[e3,e2,zaz]
 rw[ZMb a3]
 have hl3:d2.syn.1.sec.length=d.sec.length:=by rw[c3,ZOE,c2]
 have hs3:∀j,j<d.sec.length->d2.syn.1.sec.getD j []=ZNk d.sec (ZN1 (ZL7 list data++ZL7 own maps)) j:=fun j hj=>by
  rw[c3,ZQe _ (by rw[c2];exact hj),hs2]
 generalize d2.syn.1=d3 at *
 clear hs2 c3 a3 e2 c2 hd2
 have hgm:r.gen % 2=((r.gen.toNat % 2:Nat):Int):=Xa
 rcases ZRH d3 b3 (i:=r.gen % 2) (s:=slP r) (by rw[hl3];omega) f1 with⟨a4,b4,c4,e4⟩|⟨a4,b4,c4,e4⟩
 rotate_left
 ·have ne:(d3.wrt (r.gen % 2) (slP r)).2≠0:=by rw[a4];decide
  rw[ZLX ne]
  rw[show d3.wrt (r.gen % 2) (slP r)=((d3.wrt (r.gen % 2) (slP r)).1,8) by rw[<- a4]]
  exact .late _ b4 (by rw[c4,hl3]) (fun j hj=>by rw[c4];exact hs3 j hj) (.inl (by rw[e4,e3]))
 rw[ZMb a4]
 rw[e3,List.nil_append,show(r.gen % 2).toNat=r.gen.toNat % 2 by omega]at e4
 generalize (d3.wrt (r.gen % 2) (slP r)).1=d4 at *
 rcases ZSt d4 b4 with⟨a5,b5,c5,e5⟩|⟨a5,b5,c5,e5⟩
 ·rw[show d4.syn=(d4.syn.1,0) by rw[<- a5]]
  refine .done _ b5 (by rw[c5,ZOE,c4,hl3]) (fun j hj=>?_) e5
  rw[c5,ZQe _ (by rw[c4,hl3];exact hj)]
  unfold Dv.sho
  rw[e4,c4]
  unfold ZNk
  rw[List.foldl_cons,List.foldl_nil]
  simp only
  by_cases h:j=r.gen.toNat % 2
  ·rw[if_pos h.symm,if_pos h]
  ·rw[if_neg (zbn h),if_neg h]
   exact hs3 j hj
 ·rw[show d4.syn=(d4.syn.1,8) by rw[<- a5]]
  exact .late _ b5 (by rw[c5,c4,hl3]) (fun j hj=>by rw[c5,c4];exact hs3 j hj) (.inr (by rw[e5,e4]))
open Go.RowKit Go.Lib
def ZRL (sh sh':Nat->Tx) (u:List Int):Prop:=∀x∈u,sh (2+2 * x.toNat)=sh' (2+2 * x.toNat)/\sh (3+2 * x.toNat)=sh' (3+2 * x.toNat)
theorem raw_same {sh sh':Nat->Tx} {u:List Int} {np:Nat} (h:ZRL sh sh' u) {x:Int} (hx:x∈u):ZMX sh np x=ZMX sh' np x:=by
 unfold ZMX
 split
 ·obtain⟨a,b⟩:=h x hx
  rw[a,b]
 ·rfl
theorem ZOJ {sh sh':Nat->Tx} {u:List Int} {np:Nat} (h:ZRL sh sh' u) {x:Int} (hx:x∈u) (k:UInt8) (ix:Nat):isP sh np x k ix=isP sh' np x k ix:=by
 unfold isP
 rw[raw_same h hx]
theorem ZQh {rd rd':Int->Nat->Option Tx} {pages:Int} {o l:List Int}:∀(m i:Nat) (a:Int) (own list:List Int),ZMw rd pages m i a own list=some (o,l)->(∀x∈o,∀ix,rd x ix=rd' x ix)->ZMw rd' pages m i a own list=some (o,l)
 | 0,_,_,_,_,h,_=>h
 | m+1,i,a,own,list,h,hr=>by
  have h0:=h
  unfold ZMw at h
  cases e1:rd a i with
  | none=>rw[e1]at h;cases h
  | some s =>
  rw[e1,Option.bind_some]at h
  cases e2:chT s with
  | none=>rw[e2]at h;cases h
  | some x =>
  rw[e2,Option.bind_some]at h
  split at h
  ·rename_i hc
   have hm:=(ZN5 rd pages m (i+1) x.1 _ _ o l h).1
   have ha:a∈o:=hm.subset (zaR _ zak)
   have ih:=ZQh m (i+1) x.1 _ _ h hr
   unfold ZMw
   rw[<- hr a ha i,e1,Option.bind_some,e2,Option.bind_some,if_pos hc]
   exact ih
  ·cases h
theorem ZPj {sh:Nat->Tx} {np:Nat} {p:Pg} {r:Rt} (h:opeP sh np=some p) (hc:choP (sh 0) (sh 1)=some r):p.root=r/\ZMw (fun a i=>isP sh np a 77 i) r.pages (ZL3 r.pages).toNat 0 r.map [] []=some (p.own,p.list)/\p.used.Nodup/\∀x∈p.used,0<=x/\x<(np:Int):=by
 unfold opeP at h
 rw[hc]at h
 simp only at h
 split at h
 ·rename_i own list e
  split at h
  ·rename_i hi
   injection h with h
   subst h
   exact⟨rfl,e,hi.1,hi.2⟩
  ·cases h
 ·cases h
open Classical in
theorem ope_same {sh sh':Nat->Tx} {np:Nat} {p:Pg} {r:Rt} (h:opeP sh np=some p) (hc:choP (sh 0) (sh 1)=some r) (hc':choP (sh' 0) (sh' 1)=some r) (hs:ZRL sh sh' p.used):opeP sh' np=some p:=by
 obtain⟨h1,h2,h3,h4⟩:=ZPj h hc
 have h5:=ZQh (rd':=fun a i=>isP sh' np a 77 i) _ _ _ _ _ h2 fun x hx ix=>ZOJ hs (zaJ _ hx) 77 ix
 unfold opeP
 rw[hc']
 simp only
 rw[h5]
 simp only
 rw[if_pos ⟨h3,h4⟩,<- h1]
theorem ZPs {sh sh':Nat->Tx} {np:Nat} {p:Pg} (hs:ZRL sh sh' p.used) {i:Nat} (hi:i<p.list.length):p.page sh np i=p.page sh' np i:=by
 have hm:p.list.getD i 0∈p.used:=by
  rw[zai,zab hi]
  exact zaR _ (zau hi)
 unfold Pg.page
 rw[ZOJ hs hm,ZOJ hs hm]
structure Good (d:Dv) (p:Pg) (gen:Nat) (c n:Tx) (top:Int):Prop where
 ok:d.Ok
 on:d.off=false
 pu:d.puts=[]
 op:opeP d.sho (ofP d.sec.length)=some p
 sl:ZME (d.sho ((gen+1) % 2)) gen
 g:p.root.gen=gen
 t:p.root.top=top
 z:gen=0->c=[]/\n=[]/\ZME (d.sho 0) 1
 v:0<gen->d.sho (gen % 2)=slP p.root/\Sto p d.sho (ofP d.sec.length) c n
theorem Good.pg {d:Dv} {p:Pg} {gen:Nat} {c n:Tx} {top:Int} (h:Good d p gen c n top):ZOt p:=ope_ok h.op
theorem Good.nil {d:Dv} {p:Pg} {gen:Nat} {c n:Tx} {top:Int} (h:Good d p gen c n top) (h0:gen=0):p=.nil/\choP (d.sho 0) (d.sho 1)=none:=by
 subst h0
 exact⟨h.pg.z h.g,ZOM (ZMo Xa (h.z rfl).2.2) (ZMo Xa h.sl)⟩
theorem Good.cho {d:Dv} {p:Pg} {gen:Nat} {c n:Tx} {top:Int} (h:Good d p gen c n top) (h0:0<gen):choP (d.sho 0) (d.sho 1)=some p.root:=by
 have hg:=h.g
 have hgb:=h.pg.g0.2
 refine ZPU (h.pg.r Xa) ?_ ?_
 ·rw[show p.root.gen.toNat=gen by omega]
  exact(h.v h0).1
 ·intro r2 e
  rw[show p.root.gen.toNat=gen by omega]at e
  have:=ZNn Xa h.sl e
  omega
theorem Good.inP {d:Dv} {p:Pg} {gen:Nat} {c n:Tx} {top:Int} (h:Good d p gen c n top):p.used.Nodup/\∀x∈p.used,0<=x/\x<(ofP d.sec.length:Int):=by
 by_cases h0:gen=0
 ·rw[(h.nil h0).1]
  exact⟨zb7,fun x hx=>by cases hx⟩
 ·have:=ZPj h.op (h.cho Xa)
  exact this.2.2
theorem Good.stay {d d':Dv} {p:Pg} {gen:Nat} {c n:Tx} {top:Int} (h:Good d p gen c n top) (ok:d'.Ok) (on:d'.off=false) (pu:d'.puts=[]) (hl:d'.sec.length=d.sec.length) (hs:ZRL d.sho d'.sho p.used) (h1:d'.sho (gen % 2)=d.sho (gen % 2)) (h2:ZME (d'.sho ((gen+1) % 2)) gen):Good d' p gen c n top:=by
 by_cases h0:gen=0
 ·subst h0
  obtain⟨e1,e2⟩:=h.nil rfl
  obtain⟨z1,z2,z3⟩:=h.z rfl
  have z4:ZME (d'.sho 0) 1:=by
   have:d'.sho 0=d.sho 0:=h1
   rw[this]
   exact z3
  have hc:choP (d'.sho 0) (d'.sho 1)=none:=ZOM (ZMo Xa z4) (ZMo Xa h2)
  refine⟨ok,on,pu,?_,h2,h.g,h.t,fun _=>⟨z1,z2,z4⟩,fun h=>absurd h Xa⟩
  rw[e1]
  exact ZP6 hc
 ·have hp:0<gen:=Xa
  obtain⟨v1,v2⟩:=h.v hp
  have hg:=h.g
  have hc:=h.cho hp
  have hgb:=h.pg.g0.2
  have hc':choP (d'.sho 0) (d'.sho 1)=some p.root:=by
   refine ZPU (h.pg.r Xa) ?_ ?_
   ·rw[show p.root.gen.toNat=gen by omega,h1]
    exact v1
   ·intro r2 e
    rw[show p.root.gen.toNat=gen by omega]at e
    have:=ZNn Xa h2 e
    omega
  have hl2:=h.pg.l
  obtain⟨b1,b2,b3,b4,b5⟩:=h.pg.cat
  refine⟨ok,on,pu,?_,h2,h.g,h.t,fun h=>absurd h h0,fun _=>⟨by rw[h1];exact v1,v2.cat,v2.nod,fun i hi=>?_,fun i hi=>?_⟩⟩
  ·rw[hl]
   exact ope_same h.op hc hc' hs
  ·have hil:i<p.list.length:=by
    have e1:=v2.cat
    have:(i:Int)<ZLU p.root.cat:=by rw[e1];unfold ZLU;rw[if_neg Xa];omega
    have:0<=ZLU p.root.nodes:=by unfold ZLU;split<;>omega
    omega
   rw[hl,<- ZPs hs hil]
   exact v2.c i hi
  ·have hil:(ZLU p.root.cat).toNat+i<p.list.length:=by
    have e1:=v2.nod
    have:(i:Int)<ZLU p.root.nodes:=by rw[e1];unfold ZLU;rw[if_neg Xa];omega
    have:0<=ZLU p.root.cat:=by unfold ZLU;split<;>omega
    omega
   rw[hl,<- ZPs hs hil]
   exact v2.n i hi
theorem ZMI {d:Dv} (h:d.puts=[]) (j:Nat):d.sho j=d.sec.getD j []:=by
 unfold Dv.sho
 rw[h]
 rfl
theorem wr_else {places:List Int} {pages:List Tx} {u:List Int} (hl:pages.length=places.length) (h0:∀x∈places,0<=x) (hu:∀x∈u,0<=x/\x ∉ places):∀q∈ZN1 (ZL7 places pages),2<=q.1/\∀x∈u,q.1≠2+2 * x.toNat/\q.1≠3+2 * x.toNat:=by
 intro q hq
 obtain⟨q',hq',rfl⟩:=zaH.1 hq
 obtain⟨k,h1,h2,e⟩:=ZOD hl hq'
 have hk:=h0 _ (zau h1)
 have hne:∀x∈u,x≠places[k]:=fun x hx e=>(hu x hx).2 (e ▸ zau h1)
 rcases e with rfl|rfl
 ·refine⟨by simp only;omega,fun x hx=>?_⟩
  have:=hne x hx
  have:=(hu x hx).1
  simp only
  omega
 ·refine⟨by simp only;omega,fun x hx=>?_⟩
  have:=hne x hx
  have:=(hu x hx).1
  simp only
  omega
structure NewV (d:Dv) (p:Pg) (gen:Nat) (r:Rt) (own list:List Int) (c n:Tx):Prop where
 ok:r.ok=true
 g:r.gen.toNat=gen+1
 cat:r.cat=c.length
 nod:r.nodes=n.length
 pg:r.pages=list.length
 ol:(own.length:Int)=ZL3 list.length
 hd:own.head?=some r.map
 lin:∀x∈own++list,0<=x/\x<(ofP d.sec.length:Int)/\x ∉ p.used
 nd:(own++list).Nodup
def wrV (own list:List Int) (c n:Tx):List (Nat×Tx):=ZN1 (ZL7 (list++own) (ZMF c n++ZM2 own list))
section
variable {d:Dv} {p:Pg} {gen:Nat} {c n c' n':Tx} {top:Int} {r:Rt} {own list:List Int}
theorem NewV.len (v:NewV d p gen r own list c' n'):(ZMF c' n'++ZM2 own list).length=(list++own).length/\(ZMF c' n').length=list.length:=by
 have h1:=ZRt c' n'
 have h2:=ZRU own list
 have hp:=(okR v.ok).2.2.2.2.2.2.2.2.1
 have h3:=v.pg
 rw[v.cat,v.nod]at hp
 have:(ZMF c' n').length=list.length:=Xa
 exact⟨by rw[zac,zac,h2,this],this⟩
theorem NewV.else (h:Good d p gen c n top) (v:NewV d p gen r own list c' n'):∀q∈wrV own list c' n',2<=q.1/\∀x∈p.used,q.1≠2+2 * x.toNat/\q.1≠3+2 * x.toNat:=by
 refine wr_else v.len.1 (fun x hx=>(v.lin x ?_).1) fun x hx=>⟨(h.inP.2 x hx).1,fun hm=>(v.lin x ?_).2.2 hx⟩
 ·exact(zaw.1 hx).elim (zaR _) (zaJ _)
 ·exact(zaw.1 hm).elim (zaR _) (zaJ _)
theorem Good.old (h:Good d p gen c n top) (v:NewV d p gen r own list c' n') {d':Dv} (ok:d'.Ok) (on:d'.off=false) (pu:d'.puts=[]) (hl:d'.sec.length=d.sec.length) (hs:∀j,j<d.sec.length->(∀q∈wrV own list c' n',q.1≠j)->j≠(gen+1) % 2->d'.sho j=d.sho j) (h2:ZME (d'.sho ((gen+1) % 2)) gen):Good d' p gen c n top:=by
 have he:=v.else h
 obtain⟨n1,n2⟩:=h.ok.n
 refine h.stay ok on pu hl (fun x hx=>?_) ?_ h2
 ·obtain⟨i1,i2⟩:=h.inP.2 x hx
  obtain⟨b1,b2⟩:=ZO6 n1 n2 (n:=x.toNat) Xa
  refine⟨(hs _ Xa (fun q hq=>((he q hq).2 x hx).1) Xa).symm,(hs _ Xa (fun q hq=>((he q hq).2 x hx).2) Xa).symm⟩
 ·exact hs _ Xa (fun q hq=>by have:=(he q hq).1;omega) Xa
theorem Good.new (h:Good d p gen c n top) (v:NewV d p gen r own list c' n') {d':Dv} (ok:d'.Ok) (on:d'.off=false) (pu:d'.puts=[]) (hl:d'.sec.length=d.sec.length) (hs:∀j,j<d.sec.length->d'.sho j=if j=(gen+1) % 2 then slP r else ZNk d.sec (wrV own list c' n') j):Good d' ⟨r,own,list⟩ (gen+1) c' n' r.top:=by
 have he:=v.else h
 obtain⟨n1,n2⟩:=h.ok.n
 obtain⟨b1,b2⟩:=ZQH n1 n2
 have hslot:d'.sho ((gen+1) % 2)=slP r:=by rw[hs _ Xa,if_pos rfl]
 have hoth:d'.sho (gen % 2)=d.sho (gen % 2):=by
  rw[hs _ Xa,if_neg Xa,ZQz _ (fun q hq=>by have:=(he q hq).1;omega),ZMI h.pu]
 have hothS:ZME (d'.sho ((gen+1+1) % 2)) (gen+1):=by
  rw[show(gen+1+1) % 2=gen % 2 by omega,hoth]
  by_cases h0:gen=0
  ·subst h0
   exact(h.z rfl).2.2
  ·have hg:=h.g
   have:=slot_rec (h.pg.r Xa)
   rw[show p.root.gen.toNat+1=gen+1 by omega]at this
   rw[(h.v Xa).1]
   exact this
 have hgr:=(okR v.ok).1
 have hgb:=(okR v.ok).2.1
 have hvg:=v.g
 have hc:choP (d'.sho 0) (d'.sho 1)=some r:=by
  refine ZPU v.ok (by rw[hvg];exact hslot) fun r2 e=>?_
  rw[hvg]at e
  have:=ZNn Xa hothS e
  omega
 have hpl:∀x∈list++own,0<=x/\x<(ofP d.sec.length:Int):=fun x hx=>by
  have:=v.lin x ((zaw.1 hx).elim (zaR _) (zaJ _))
  exact⟨this.1,this.2.1⟩
 have hnd:(list++own).Nodup:=(zbE.nodup_iff).1 v.nd
 have hraw:∀(k:Nat) (hk:k<(list++own).length),ZMX d'.sho (ofP d.sec.length) (list++own)[k]=(ZMF c' n'++ZM2 own list)[k]?:=fun k hk=>by
  obtain⟨i1,i2⟩:=hpl _ (zau hk)
  obtain⟨g1,g2⟩:=ZSj (sec:=d.sec) v.len.1 (fun x hx=>(hpl x hx).1) hnd k hk
  obtain⟨o1,o2⟩:=ZO6 n1 n2 (n:=((list++own)[k]).toNat) Xa
  unfold ZMX
  rw[if_pos ⟨i1,i2⟩,hs _ Xa,hs _ Xa,if_neg Xa,if_neg Xa]
  unfold wrV
  rw[g1,g2,zaS,zab (by rw[v.len.1];exact hk)]
 obtain⟨q1,q2⟩:=ZQV (np:=ofP d.sec.length) b2 v.ok hc v.cat v.nod v.pg v.ol v.hd (fun x hx=>⟨(v.lin x hx).1,(v.lin x hx).2.1⟩) v.nd (fun k hk=>by
  have:=hraw (list.length+k) (by rw[zac];omega)
  rw[List.getElem_append_right Xa,zaE (by rw[v.len.2];omega),v.len.2]at this
  simpa using this) (fun k hk=>by
  have:=hraw k (by rw[zac];omega)
  rw[List.getElem_append_left hk,zaC (by rw[v.len.2];exact hk)]at this
  exact this)
 refine⟨ok,on,pu,by rw[hl];exact q1,hothS,by simp only;omega,rfl,fun h=>absurd h Xa,fun _=>⟨hslot,by rw[hl];exact q2⟩⟩
end
open Go.RowKit Go.Lib
theorem ZQa:∀(L:List (Int×Tx)) {d:Dv},d.Ok->(d.ZL4 L).1.Ok
 | [],_,h=>h
 | q :: L,d,h=>by
  unfold Dv.ZL4
  split
  ·exact ZQa L (h.wrt _ _)
  ·exact h.wrt _ _
theorem ZNs {x:Dv×Int} {f:Dv->Dv×Int} (h:x.1.Ok) (hf:∀d:Dv,d.Ok->(f d).1.Ok):(ZL6 x f).1.Ok:=by
 unfold ZL6
 split
 ·exact hf _ h
 ·exact h
theorem lay_ok {d:Dv} (h:d.Ok) (r:Rt) (own list:List Int) (data maps:List Tx):(ZMT d r own list data maps).1.Ok:=by
 unfold ZMT
 exact ZNs (ZNs (ZNs (ZNs (ZQa _ h) fun d hd=>ZQa _ hd) fun d hd=>hd.syn) fun d hd=>hd.wrt _ _) fun d hd=>hd.syn
structure Half (d:Dv) (gen:Nat) (c n:Tx) (top:Int) (A B:Tx) (N:Int):Prop where
 off:d.off=true
 pu:d.puts.length<=10000
 cut:∀keep torn b,(∃p,Good (d.cut keep torn b).bot p gen c n top)\/∃p,Good (d.cut keep torn b).bot p (gen+1) A B N
section
variable {d:Dv} {p:Pg} {gen:Nat} {c n A B:Tx} {top N:Int} {r:Rt} {own list:List Int}
theorem ZMJ (d:Dv) (keep:List Int) (torn b:Int) (j:Nat):(d.cut keep torn b).bot.sho j=(ZM6 d.sec keep torn (ZOS b) 0 d.puts).getD j []:=by
 rw[ZMI rfl]
 rfl
theorem Good.cut (h:Good d p gen c n top) (keep:List Int) (torn b:Int):Good (d.cut keep torn b).bot p gen c n top:=by
 have hs:∀j,(d.cut keep torn b).bot.sho j=d.sho j:=fun j=>by
  rw[ZMJ,h.pu,ZMI h.pu]
  rfl
 refine h.stay (h.ok.cut keep torn b).bot rfl rfl (ZMr _ _ _) (fun x _=>⟨(hs _).symm,(hs _).symm⟩) (hs _) ?_
 rw[hs]
 exact h.sl
theorem Good.ZMg (h:Good d p gen c n top) (k:Int) (hk:k<=9223372036854775807):Good (d.set k).1 p gen c n top:=by
 have hok:=h.ok.set k hk
 have h1:(d.set k).1.sec=d.sec/\(d.set k).1.puts=d.puts/\(d.set k).1.off=d.off:=by
  unfold Dv.set
  split
  ·exact⟨rfl,rfl,rfl⟩
  ·split
   ·exact⟨rfl,rfl,rfl⟩
   ·exact⟨rfl,rfl,rfl⟩
 have hs:∀j,(d.set k).1.sho j=d.sho j:=fun j=>by unfold Dv.sho;rw[h1.1,h1.2.1]
 refine h.stay hok (by rw[h1.2.2];exact h.on) (by rw[h1.2.1];exact h.pu) (by rw[h1.1]) (fun x _=>⟨(hs _).symm,(hs _).symm⟩) (hs _) ?_
 rw[hs]
 exact h.sl
theorem Good.wr_in (v:NewV d p gen r own list A B) (h:Good d p gen c n top):∀q∈ZL7 list (ZMF A B)++ZL7 own (ZM2 own list),(0<=q.1/\q.1<d.sec.length)/\q.2.length=128:=by
 obtain⟨n1,n2⟩:=h.ok.n
 intro q hq
 rw[<- ZSk v.len.2.symm]at hq
 obtain⟨k,h1,h2,e⟩:=ZOD v.len.1 hq
 have hm:(list++own)[k]∈own++list:=(zaw.1 (zau h1)).elim (zaR _) (zaJ _)
 obtain⟨i1,i2,_⟩:=v.lin _ hm
 obtain⟨o1,o2⟩:=ZO6 n1 n2 (n:=((list++own)[k]).toNat) Xa
 have h256:((ZMF A B++ZM2 own list)[k]).length=256:=by
  rcases zaw.1 (zau h2)with hx|hx
  ·exact ZRE _ _ _ hx
  ·exact ZSr _ _ _ hx
 rcases e with rfl|rfl
 ·exact⟨⟨by simp only;omega,by simp only;omega⟩,by simp only[zaj];omega⟩
 ·exact⟨⟨by simp only;omega,by simp only;omega⟩,by simp only[zaq];omega⟩
theorem ZRp (h:Good d p gen c n top) (v:NewV d p gen r own list A B):((ZMT d r own list (ZMF A B) (ZM2 own list)).2=0/\Good (ZMT d r own list (ZMF A B) (ZM2 own list)).1 ⟨r,own,list⟩ (gen+1) A B r.top)\/((ZMT d r own list (ZMF A B) (ZM2 own list)).2=8/\Half (ZMT d r own list (ZMF A B) (ZM2 own list)).1 gen c n top A B r.top):=by
 obtain⟨n1,n2⟩:=h.ok.n
 have hlo:=lay_out h.on h.pu v.ok n1 v.len.2 (h.wr_in v)
 have hok:=lay_ok h.ok r own list (ZMF A B) (ZM2 own list)
 have hW:ZN1 (ZL7 list (ZMF A B)++ZL7 own (ZM2 own list))=wrV own list A B:=by unfold wrV;rw[ZSk v.len.2.symm]
 rw[hW,v.g]at hlo
 have he:=v.else h
 have hlen:(wrV own list A B).length<=9000:=by
  obtain⟨b1,b2⟩:=ZQH n1 n2
  unfold wrV ZN1
  rw[zam,ZNW _ _ (by rw[v.len.1];exact zad _),v.len.1]
  have h1:=(okR v.ok).2.2.2.2.2.2.2.2.2.1
  have h2:=v.pg
  have h3:=v.ol
  have h4:ZL3 list.length<=list.length:=by unfold ZL3;split<;>omega
  rw[zac]
  omega
 generalize ZMT d r own list (ZMF A B) (ZM2 own list)=y at *
 obtain⟨f1,_⟩:=ZMx v.ok
 -- a slot and other pages: the old version,by what the sectors have
 have old:∀{d':Dv},d'.Ok->d'.off=false->d'.puts=[]->d'.sec.length=d.sec.length->(∀j,j<d.sec.length->(∀q∈wrV own list A B,q.1≠j)->j≠(gen+1) % 2->d'.sho j=d.sec.getD j [])->ZME (d'.sho ((gen+1) % 2)) gen->Good d' p gen c n top:=fun k1 k2 k3 k4 k5 k6=>h.old v k1 k2 k3 k4 (fun j hj hq hn=>by rw[k5 j hj hq hn,ZMI h.pu]) k6
 have hsl:=h.sl
 rw[ZMI h.pu]at hsl
 cases hlo with
 | early d' m h1 h2 h3 =>
  refine .inr ⟨rfl,h1,by rw[h3,zaj];omega,fun keep torn b=>.inl ⟨p,?_⟩⟩
  have hq:∀j,(∀q∈wrV own list A B,q.1≠j)->∀q∈d'.puts,q.1≠j:=fun j hj q hq=>hj q (zaB (by rw[<- h3];exact hq))
  refine old (hok.cut keep torn b).bot rfl rfl ((ZMr _ _ _).trans (by rw[h2])) (fun j hj hqj hn=>?_) ?_
  ·rw[ZMJ,ZMn _ _ _ (hq j hqj),h2]
  ·rw[ZMJ,ZMn _ _ _ (hq _ (fun q hq=>by have:=(he q hq).1;omega)),h2]
   exact hsl
 | late d' h1 h2 h3 h4 =>
  have hsn:∀j,j<d.sec.length->(∀q∈wrV own list A B,q.1≠j)->d'.sec.getD j []=d.sec.getD j []:=fun j hj hq=>by rw[h3 j hj,ZQz _ hq]
  have hss:d'.sec.getD ((gen+1) % 2) []=d.sec.getD ((gen+1) % 2) []:=hsn _ Xa (fun q hq=>by have:=(he q hq).1;omega)
  rcases h4 with h4|h4
  ·refine .inr ⟨rfl,h1,by rw[h4];simp,fun keep torn b=>.inl ⟨p,?_⟩⟩
   refine old (hok.cut keep torn b).bot rfl rfl ((ZMr _ _ _).trans h2) (fun j hj hqj hn=>?_) ?_
   ·rw[ZMJ,h4]
    exact hsn j hj hqj
   ·rw[ZMJ,h4]
    show ZME (d'.sec.getD _ []) gen
    rw[hss]
    exact hsl
  ·refine .inr ⟨rfl,h1,by rw[h4];simp,fun keep torn b=>?_⟩
   have hel:∀j,j≠(gen+1) % 2->(d'.cut keep torn b).bot.sho j=d'.sec.getD j []:=fun j hj=>by
    rw[ZMJ,h4,ZMn _ _ _ (fun q hq=>by rw[zbr.1 hq];exact zbn hj)]
   have hone:=layP_one (keep:=keep) (torn:=torn) (m:=ZOS b) (k:=(gen+1) % 2) (s:=slP r) (sec:=d'.sec) (by rw[h2];omega) f1 (by rw[hss];exact hsl.1) (ZOH b)
   have hsh:(d'.cut keep torn b).bot.sho ((gen+1) % 2)=(ZM6 d'.sec keep torn (ZOS b) 0 [((gen+1) % 2,slP r)]).getD ((gen+1) % 2) []:=by rw[ZMJ,h4]
   rw[<- hsh,hss]at hone
   have back:ZME ((d'.cut keep torn b).bot.sho ((gen+1) % 2)) gen->Good (d'.cut keep torn b).bot p gen c n top:=fun hS=>by
    refine old (hok.cut keep torn b).bot rfl rfl ((ZMr _ _ _).trans h2) (fun j hj hqj hn=>?_) hS
    rw[hel j hn]
    exact hsn j hj hqj
   rcases hone with e|e|⟨m,hm,e⟩
   ·refine .inr ⟨_,h.new v (hok.cut keep torn b).bot rfl rfl ((ZMr _ _ _).trans h2) fun j hj=>?_⟩
    by_cases hjs:j=(gen+1) % 2
    ·rw[if_pos hjs,hjs];exact e
    ·rw[if_neg hjs,hel j hjs];exact h3 j hj
   ·exact .inl ⟨p,back (by rw[e];exact hsl)⟩
   ·exact .inl ⟨p,back (by rw[e];exact ZR8 hsl v.ok v.g hm)⟩
 | done d' h1 h2 h3 h4 =>
  exact .inl ⟨rfl,h.new v hok h1 h4 h2 fun j hj=>by rw[ZMI h4];exact h3 j hj⟩
theorem Good.room (h:Good d p gen c n top):∃ws,RmI ws p.used (ofP d.sec.length):=by
 obtain⟨h1,h2⟩:=h.inP
 have hw:=(ZOw (ofP d.sec.length)).use p.used (ZOx _ _ h2 (by rw[List.nil_append];exact h1))
 rw[List.nil_append]at hw
 exact⟨_,hw⟩
theorem Good.newV (h:Good d p gen c n top) (hr:ZOX d p A B N=0):NewV d p gen (ZOk d p A B N) (ZMf d p A B N).own (ZMf d p A B N).list A B:=by
 obtain⟨n1,n2⟩:=h.ok.n
 obtain⟨b1,b2⟩:=ZQH n1 n2
 obtain⟨ws,hw⟩:=h.room
 have f:=ZPo rfl b2 hw hr
 obtain⟨c1,c2,c3,c4,c5⟩:=ZRr hr rfl b2
 obtain⟨r1,r2,r3⟩:=ZNt hr
 obtain⟨l1,l2,l3⟩:=ZNK (N:=(ZMh A.length B.length).toNat) hw Xa
 have hus:(ZMf d p A B N).own++(ZMf d p A B N).list=lowP p.used (ofP d.sec.length) (ZMh A.length B.length).toNat:=f.us
 have hg:=h.g
 have hol:=f.ol
 have hsl:=f.sl
 rw[<- hsl]at hol
 exact⟨f.ok,by show(p.root.gen+1).toNat=gen+1;omega,rfl,rfl,hsl.symm,hol,f.hd,by rw[hus];exact l2,by rw[hus];exact l3⟩
theorem pub_law (h:Good d p gen c n top) (A B:Tx) (N:Int) (its:Its):(∃p' its',ZNd d p false its A B N=⟨0,(ZNd d p false its A B N).d,p',false,its'⟩/\Good (ZNd d p false its A B N).d p' (gen+1) A B N)\/(∃p' br its',ZNd d p false its A B N=⟨8,(ZNd d p false its A B N).d,p',br,its'⟩/\Half (ZNd d p false its A B N).d gen c n top A B N)\/∃e,e≠0/\e≠8/\ZNd d p false its A B N=⟨e,d,p,false,its⟩:=by
 have hr8:ZMu p false d≠8:=by
  unfold ZMu
  rw[if_neg (by simp[h.on])]
  split<;>decide
 have hx:ZNd d p false its A B N=if ZOX d p A B N≠0 then ⟨ZOX d p A B N,d,p,false,its⟩ else if (ZNv d p A B N).2=0 then ⟨0,(ZNv d p A B N).1,ZMf d p A B N,false,[]⟩ else ⟨(ZNv d p A B N).2,(ZNv d p A B N).1,p,true,its⟩:=by unfold ZNd;rw[if_neg hr8]
 by_cases hr:ZOX d p A B N=0
 ·rw[if_neg (by simpa using hr)]at hx
  have hl:=ZRp h (h.newV hr)
  have hpb:ZNv d p A B N=ZMT d (ZOk d p A B N) (ZMf d p A B N).own (ZMf d p A B N).list (ZMF A B) (ZM2 (ZMf d p A B N).own (ZMf d p A B N).list):=rfl
  have htop:(ZOk d p A B N).top=N:=rfl
  rw[<- hpb,htop]at hl
  rcases hl with⟨e,hG⟩|⟨e,hG⟩
  ·rw[if_pos e]at hx
   rw[hx]
   exact .inl ⟨_,_,rfl,hG⟩
  ·rw[if_neg (by rw[e];decide),e]at hx
   rw[hx]
   exact .inr (.inl ⟨_,_,_,rfl,hG⟩)
 ·rw[if_pos hr]at hx
  refine .inr (.inr ⟨_,hr,?_,hx⟩)
  unfold ZOX
  split
  ·decide
  ·split
   ·decide
   ·split<;>decide
end
theorem ZOK {n:Nat} (h1:16<=n) (h2:n<=4096):Good (ZN6 n) .nil 0 [] [] 0:=by
 have hz:∀j,j<n->(ZN6 n).sho j=zeS:=fun j hj=>by
  rw[ZMI rfl]
  show(List.replicate n ZO9).getD j []=zeS
  rw[zai,zcb,if_pos hj]
  rfl
 have e0:=hz 0 Xa
 have e1:=hz 1 Xa
 refine⟨ZSD h1 h2,rfl,rfl,ZP6 (ZOM ?_ ?_),by rw[show(0+1) % 2=1 from rfl,e1];exact ZMU.1,rfl,rfl,fun _=>⟨rfl,rfl,by rw[e0];exact ZMU.2⟩,fun h=>absurd h Xa⟩
 ·rw[e0];exact ZMo Xa ZMU.1
 ·rw[e1];exact ZMo Xa ZMU.1
open Go.RowKit Go.Lib
def Fu0 (d:Dv):Prop:=d.off=false/\d.ZMg=0
theorem Fu0.stp {d:Dv} (h:Fu0 d):Fu0 d.stp.1:=by
 unfold Dv.stp
 rw[if_neg (by rw[h.2];decide)]
 exact⟨h.1,by simp only;rw[h.2]⟩
theorem Fu0.wrt {d:Dv} (h:Fu0 d) (i:Int) (s:Tx):Fu0 (d.wrt i s).1:=by
 unfold Dv.wrt
 split
 ·exact h
 ·split
  ·exact h
  ·split
   ·exact h.stp
   ·exact h.stp
theorem Fu0.ZL4:∀(L:List (Int×Tx)) {d:Dv},Fu0 d->Fu0 (d.ZL4 L).1
 | [],_,h=>h
 | q :: L,d,h=>by
  unfold Dv.ZL4
  split
  ·exact Fu0.ZL4 L (h.wrt _ _)
  ·exact h.wrt _ _
theorem Fu0.syn {d:Dv} (h:Fu0 d):Fu0 d.syn.1:=by
 unfold Dv.syn
 split
 ·exact h
 ·split
  ·exact h.stp
  ·exact h.stp
theorem Fu0.ZL6 {x:Dv×Int} {f:Dv->Dv×Int} (h:Fu0 x.1) (hf:∀d:Dv,Fu0 d->Fu0 (f d).1):Fu0 (ZL6 x f).1:=by
 unfold _root_.Go.Proofs.YtfjjpndoeppbhaaGreatDoor.ZL6
 split
 ·exact hf _ h
 ·exact h
theorem Fu0.lay {d:Dv} (h:Fu0 d) (r:Rt) (own list:List Int) (data maps:List Tx):Fu0 (ZMT d r own list data maps).1:=by
 unfold ZMT
 exact((((h.ZL4 _).ZL6 fun d hd=>hd.ZL4 _).ZL6 fun d hd=>hd.syn).ZL6 fun d hd=>hd.wrt _ _).ZL6 fun d hd=>hd.syn
theorem pub_on {d:Dv} {p:Pg} {gen:Nat} {c n:Tx} {top:Int} (h:Good d p gen c n top) (hf:d.ZMg=0) {A B:Tx} {N:Int} (hr:ZOX d p A B N=0) (its:Its):ZNd d p false its A B N=⟨0,(ZNd d p false its A B N).d,ZMf d p A B N,false,[]⟩/\Good (ZNd d p false its A B N).d (ZMf d p A B N) (gen+1) A B N/\(ZNd d p false its A B N).d.ZMg=0:=by
 have hr8:ZMu p false d≠8:=by
  unfold ZMu
  rw[if_neg (by simp[h.on])]
  split<;>decide
 have hx:ZNd d p false its A B N=if ZOX d p A B N≠0 then ⟨ZOX d p A B N,d,p,false,its⟩ else if (ZNv d p A B N).2=0 then ⟨0,(ZNv d p A B N).1,ZMf d p A B N,false,[]⟩ else ⟨(ZNv d p A B N).2,(ZNv d p A B N).1,p,true,its⟩:=by unfold ZNd;rw[if_neg hr8]
 rw[if_neg (by simpa using hr)]at hx
 have hl:=ZRp h (h.newV hr)
 have hpb:ZNv d p A B N=ZMT d (ZOk d p A B N) (ZMf d p A B N).own (ZMf d p A B N).list (ZMF A B) (ZM2 (ZMf d p A B N).own (ZMf d p A B N).list):=rfl
 have hfu:Fu0 (ZNv d p A B N).1:=by rw[hpb];exact Fu0.lay ⟨h.on,hf⟩ _ _ _ _ _
 have htop:(ZOk d p A B N).top=N:=rfl
 rw[<- hpb,htop]at hl
 rcases hl with⟨e,hG⟩|⟨e,hG⟩
 ·rw[if_pos e]at hx
  rw[hx]
  exact⟨rfl,hG,hfu.2⟩
 ·have:=hG.off
  rw[hfu.1]at this
  cases this
section
variable {D:Nat} {d:Dv} {p:Pg} {gen:Nat} {c n:Tx} {top:Int} {H G:Zaa}
theorem Good.reads (h:Good d p gen c n top) (h0:0<gen):ZMu p false d=0/\catE p false d (ofP d.sec.length)=isV (some c)/\bytE p false d (ofP d.sec.length) 0 p.root.nodes=isV (some n)/\chkE p false d (ofP d.sec.length)=0:=by
 have hg:=h.g
 have hr:ZMu p false d=0:=by
  unfold ZMu
  rw[if_neg (by simp[h.on]),if_pos Xa]
 obtain⟨v1,v2⟩:=h.v h0
 obtain⟨b1,b2,b3,b4,b5⟩:=h.pg.cat
 have hl:=h.pg.l
 refine⟨hr,?_,?_,?_⟩
 ·unfold catE
  rw[if_neg (by simp[hr]),v2.catP]
 ·unfold bytE
  rw[if_neg (by simp[hr]),if_neg Xa]
  have e:=v2.nod
  rw[v2.bytP (a:=(0:Int).toNat) (k:=p.root.nodes.toNat) Xa]
  congr 2
  rw[e]
  simp
 ·unfold chkE
  rw[if_neg (by simp[hr]),if_pos (v2.chkP Xa)]
def VerR (D:Nat) (d:Dv) (p:Pg) (c n:Tx) (H:Zaa) (r:AV) (G:Zaa):Prop:=r=.tup [eS c,eS n,.agg (eRt p.root),.b true]/\DvX D d G/\KD AKs H G
theorem rkA (cs:List AV):kdO (.cells cs 41) ∉ AKs:=by show 41+3 ∉ AKs;decide
def vs3:Zar:=rr 37 [.M 8,.M 10,.M 6,.c 21 [40],.i .eql 9 0,.y 43,.i .eql 11 0,.z,.y 47,.M 6,.c 31 [49],.B .eql 50 0,.z,.m 2 38,.m 3 39,.Z 6 4 41,.s 5]
def vs2:Zar:=rs 33 [.M 6,.c 73 [34],.s 33,.e 33 0,.e 33 1,.m 10 36,.s 11]<|vs3
def vs1:Zar:=rs 28 [.M 6,.c 45 [29],.s 28,.e 28 0,.e 28 1,.m 8 31,.s 9]<|vs2
set_option maxRecDepth 100000 in
theorem ZQI:Zvh=.seq (.reg [io 2 (.mv (.c (.sc (.string ⟨#[]⟩)))),io 3 (.mv (.c (.sc (.string ⟨#[]⟩)))),io 4 (.box 41 (.c za2)),io 5 (.mv (ib false))]) (.seq (.reg [im 13 0,io 14 (.call (jf 11) [.t 13]),im 12 14,io 15 (.ext (.t 12) 0),io 16 (.ext (.t 12) 1),im 6 15,im 7 16]) (.seq (.seq (.reg [im 17 7,io 18 (.bin .neq (.t 17) (ik 0)),im 19 18,ih 19 20 (.mv (.t 6)),ih 19 21 (.eqn 0 false (.t 20) (.c (.sc (.pointer none)))),io 22 (.pick (.t 19) (ib true) (.t 21))]) (.cond (.t 22) (.seq (.reg [io 23 (.bld zl7 []),io 2 (.mv (.c (.sc (.string ⟨#[]⟩)))),io 3 (.mv (.c (.sc (.string ⟨#[]⟩)))),iz (.st 6 (.t 4) (.t 23)),io 5 (.mv (ib false))]) .ret) .skip)) (.seq (.seq (.reg [im 24 6,io 25 (.call (jf 20) [.t 24]),io 26 (.un .not (.t 25))]) (.cond (.t 26) (.seq (.reg [io 27 (.bld zl7 []),io 2 (.mv (.c (.sc (.string ⟨#[]⟩)))),io 3 (.mv (.c (.sc (.string ⟨#[]⟩)))),iz (.st 6 (.t 4) (.t 27)),io 5 (.mv (ib true))]) .ret) .skip)) vs1))):=rfl
theorem ZR9 (p:Pg) (sh:Nat->Tx) (np:Nat):ZMe p sh np []:=fun e he=>by cases he
section
variable {P R C M X:Nat} {its:Its} {fet:Int} {F:Fr} {Q:AEx->Fr->Zaa->Prop}
theorem ZRs (h:Good d p gen c n top) (h0:0<gen) (qr:ZNG Q [.tmp 2,.tmp 3,.cell 6 true 4,.tmp 5] (VerR D d p c n H)) (f4:Fr.get F 4=.ptr X 0) (f6:Fr.get F 6=.ptr P 0) (f8:Fr.get F 8=eS c) (f9:Fr.get F 9=.i 0) (f10:Fr.get F 10=eS n) (f11:Fr.get F 11=.i 0) (gX:G.get X=some (.cells [.i 0,.i 0,.i 0,.i 0,.i 0,.i 0] 41)) (hX:H.next<=X) (hd:DvX D d G) (hp:PgB D P R C M p false its fet (ofP d.sec.length) G) (hc:ZMe p d.sho (ofP d.sec.length) its) (kd:KD AKs H G):AW Tryz.prog vs3 Q F G:=by
 have qn:=trivial
 have hpu:d.puts.length<=1000000:=by rw[h.pu];simp
 obtain⟨r1,r2,r3,r4⟩:=h.reads h0
 have hr:=ZMK hp
 unfold eRt at hr
 have hk:=fun k=>ZQ1 rfl hpu (hd.ext (Zaa.Ext.bump (k:=k) (Zaa.Ext.refl G))) (hp.ext (Zaa.Ext.bump (k:=k) (Zaa.Ext.refl G))) h.pg hc
 rw[r4]at hk
 have n1:((0:Int) == 0)=true:=rfl
 have fin:∀{k:Nat} {K:Zaa},PgE D P R C M d p false (ofP d.sec.length) (.i 0) (G.bump k) (.i 0) K->K.get X=some (.cells [.i 0,.i 0,.i 0,.i 0,.i 0,.i 0] 41)/\∃r2 H2,Zb6 (.tup [eS c,eS n,.agg (eRt p.root),.b true]) (K.set X (.cells (eRt p.root) 41)) r2 H2/\VerR D d p c n H r2 H2:=by
  rintro k K ⟨its4,fet4,_,_,w⟩
  have gX:=w.k.g _ _ (rkA _) ((Zaa.ZaB (k:=k)).trans gX)
  exact⟨gX,Zaq ⟨rfl,w.d.keep (KD.set (KD.refl [41+3] _) gX (by simp[kdO])) Xb,((kd.bump k).trans w.k).setN hX⟩⟩
 unfold eRt at fin
 unfold vs3
 refine Bz1 (X6 f4 f6 f8 f9 f10 f11) ?_
 refine qcp (hr) fun k2=>?_
 refine Bz1 (X7 n1 f4 f6 f8 f9 f10 f11) ?_
 refine Zap.use (hk k2) ?_
 refine fun u K w=>?_
 have hu:u=.i 0:=w.elim fun _ w=>w.elim fun _ w=>w.2.1
 subst hu
 have w2:=fin w
 have gX2:=w2.1
 have lX2:=Zaa.lt gX2
 have w3:=w2.2
 refine Bz1 (X8 n1 gX2 f4 f6 f8 f9 f10 f11) ?_
 exact w3
theorem ZSM (h:Good d p gen c n top) (h0:0<gen) (qr:ZNG Q [.tmp 2,.tmp 3,.cell 6 true 4,.tmp 5] (VerR D d p c n H)) (f4:Fr.get F 4=.ptr X 0) (f6:Fr.get F 6=.ptr P 0) (f8:Fr.get F 8=eS c) (f9:Fr.get F 9=.i 0) (gX:G.get X=some (.cells [.i 0,.i 0,.i 0,.i 0,.i 0,.i 0] 41)) (hX:H.next<=X) (hd:DvX D d G) (hp:PgB D P R C M p false its fet (ofP d.sec.length) G) (hc:ZMe p d.sho (ofP d.sec.length) its) (kd:KD AKs H G):AW Tryz.prog vs2 Q F G:=by
 have qn:=trivial
 have hpu:d.puts.length<=1000000:=by rw[h.pu];simp
 obtain⟨r1,r2,r3,r4⟩:=h.reads h0
 have hk:=ZRa rfl hpu hd hp h.pg hc
 rw[r3]at hk
 unfold isV at hk
 unfold vs2
 refine Bz1 (X1 f6) ?_
 refine Zap.use hk ?_
 refine fun u K w=>?_
 refine w.elim fun its4 w=>w.elim fun fet4 w=>?_
 obtain rfl:=w.2.1
 refine Bz0 ?_
 exact ZRs (its:=its4) (fet:=fet4) h h0 qr (by simpa [Fr.get] using f4) (by simpa [Fr.get] using f6) (by simpa [Fr.get] using f8) (by simpa [Fr.get] using f9) rfl rfl (w.2.2.k.g _ _ (rkA _) gX) hX w.2.2.d w.2.2.p w.1 (kd.trans w.2.2.k)
theorem ZR6 (h:Good d p gen c n top) (h0:0<gen) (qr:ZNG Q [.tmp 2,.tmp 3,.cell 6 true 4,.tmp 5] (VerR D d p c n H)) (f4:Fr.get F 4=.ptr X 0) (f6:Fr.get F 6=.ptr P 0) (gX:G.get X=some (.cells [.i 0,.i 0,.i 0,.i 0,.i 0,.i 0] 41)) (hX:H.next<=X) (hd:DvX D d G) (hp:PgB D P R C M p false its fet (ofP d.sec.length) G) (hc:ZMe p d.sho (ofP d.sec.length) its) (kd:KD AKs H G):AW Tryz.prog vs1 Q F G:=by
 have qn:=trivial
 have hpu:d.puts.length<=1000000:=by rw[h.pu];simp
 obtain⟨r1,r2,r3,r4⟩:=h.reads h0
 have hk:=ZQp rfl hpu hd hp h.pg hc
 rw[r2]at hk
 unfold isV at hk
 unfold vs1
 refine Bz1 (X1 f6) ?_
 refine Zap.use hk ?_
 refine fun u K w=>?_
 refine w.elim fun its4 w=>w.elim fun fet4 w=>?_
 obtain rfl:=w.2.1
 refine Bz0 ?_
 exact ZSM (its:=its4) (fet:=fet4) h h0 qr (by simpa [Fr.get] using f4) (by simpa [Fr.get] using f6) rfl rfl (w.2.2.k.g _ _ (rkA _) gX) hX w.2.2.d w.2.2.p w.1 (kd.trans w.2.2.k)
end
theorem ZOB (h:Good d p gen c n top) (hd:DvX D d H):Zay Tryz.prog 16 [.ptr D 0] H (VerR D d p c n H):=by
 have hpu:d.puts.length<=1000000:=by rw[h.pu];simp
 have hop:=fun(K:Zaa) (hK:DvX D d K)=>ZMq hK h.on hpu
 unfold OpnR at hop
 rw[h.op]at hop
 have n0:((0:Int) != 0)=false:=rfl
 have n1:((0:Int) == 0)=true:=rfl
 have hg:=h.g
 by_cases h0:gen=0
 ·obtain⟨e1,_⟩:=h.nil h0
  obtain⟨z1,z2,_⟩:=h.z h0
  subst e1 z1 z2
  have dg:decide (Pg.nil.root.gen > 0)=false:=rfl
  refine fnQ cf16 fun Q qr qn=>?_
  rw[ZQI]
  refine Bz0 ?_
  refine Zap.use (hop _ (hd.ext (by exact AXT))) ?_
  refine fun r G q=>?_
  refine q.2.2.elim fun P q3=>q3.elim fun R q3=>q3.elim fun C q3=>q3.elim fun M q3=>q3.elim fun fet q3=>?_
  have q4:=q3.2
  obtain rfl:=q3.1
  have hh:=ZMA q4
  rw[dg]at hh
  have gX:=q.2.1.g _ _ (rkA _) (Zaa.Zae (H:=H) (o:=.cells [.i 0,.i 0,.i 0,.i 0,.i 0,.i 0] 41))
  have lX:=Zaa.lt gX
  refine Bz1 (X1 n0) ?_
  refine qcp (hh) fun k1=>?_
  refine Bz1 (X1 gX) ?_
  exact Zaq ⟨rfl,(q.1.ext (Zaa.Ext.refl _).bump).keep (KD.set (KD.refl [41+3] _) ((Zaa.ZaB).trans gX) (by simp[kdO])) Xb,((KD.ext (Zaa.Ext.refl H).alloc).trans (q.2.1.bump k1)).setN (zad _)⟩
 ·obtain⟨r1,r2,r3,r4⟩:=h.reads Xa
  have dg:decide (p.root.gen > 0)=true:=decide_eq_true Xa
  refine fnQ cf16 fun Q qr qn=>?_
  rw[ZQI]
  refine Bz0 ?_
  refine Zap.use (hop _ (hd.ext (by exact AXT))) ?_
  refine fun r G q=>?_
  refine q.2.2.elim fun P q3=>q3.elim fun R q3=>q3.elim fun C q3=>q3.elim fun M q3=>q3.elim fun fet q3=>?_
  have q4:=q3.2
  obtain rfl:=q3.1
  have hh:=ZMA q4
  rw[dg]at hh
  have gX:=q.2.1.g _ _ (rkA _) (Zaa.Zae (H:=H) (o:=.cells [.i 0,.i 0,.i 0,.i 0,.i 0,.i 0] 41))
  have kd:=(KD.ext (ks:=AKs) (Zaa.Ext.refl H).alloc).trans q.2.1
  refine Bz1 (X1 n0) ?_
  refine qcp (hh) fun k1=>?_
  refine Bz0 ?_
  exact ZR6 h Xa qr rfl rfl ((Zaa.ZaB).trans gX) (zad _) (q.1.ext (Zaa.Ext.refl _).bump) (q4.ext (Zaa.Ext.refl _).bump) (ZR9 _ _ _) (kd.bump k1)
end
end Go.Proofs.YtfjjpndoeppbhaaGreatDoor
