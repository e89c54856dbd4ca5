/- Texts of the walk, joined: Ej Eh. -/
import Derived.Test.YtaapiigfmdhobaaGreatMz
import Derived.Test.YtaapiigfmdhobaaGreatMx
namespace Go.Proofs.YtaapiigfmdhobaaGreat
set_option linter.unusedSimpArgs false
set_option linter.unusedVariables false
open Go.RowKit
theorem ZgT {x:Shp} {L:List (List (List Int))}:∀{w:List (Int×Int)} {d:Nat},(∀k (h:k<w.length),ZfF x L (d+k) w[k])→WayF x L d w
 | [],_,_=>trivial
 | q :: w,d,h=>⟨h 0 (by simp),ZgT fun k hk=>by
   have:=h (k+1) (by simpa using hk)
   rw[show d+1+k=d+(k+1) by omega]
   exact this⟩
theorem ZhT {R:Cel→Int×List Nat→Prop} (hR:∀z g,R z g→z.key=g.1):∀{l:List Cel} {m:List (Int×List Nat)},ZeK R l m→l.map Cel.key=m.map (·.1)
 | _,_,.nil=>rfl
 | _,_,.cons h t=>by rw[List.map_cons,List.map_cons,hR _ _ h,ZhT hR t]
theorem srch_of {x:Shp} {L:List (List (List Int))} {facts:List Fct} {c:DSt} (hF:ZbI x L facts) (hc:ZdW x L facts c):Srch c.N:=fun n hn=>by
 obtain⟨i,hi,rfl⟩:=List.getElem_of_mem hn
 obtain⟨d,hd,n1,n2,n3,n4⟩:=hc.nod i hi
 have e:c.N.getD i ZdH=c.N[i]:=by rw[List.getD_eq_getElem?_getD,List.getElem?_eq_getElem hi];rfl
 rw[e]at n4
 have hgl:(ZaC x L facts d (c.P.getD i [])).length=(L.getD d []).length:=by unfold ZaC;simp
 have hll:=n4.length
 obtain⟨t1,t2,t3⟩:=hF.tier d hd
 have hL:(L.getD d []).length=L[d].length:=by rw[List.getD_eq_getElem?_getD,List.getElem?_eq_getElem hd];rfl
 refine⟨by omega,fun l hl=>?_⟩
 obtain⟨k,hk,rfl⟩:=List.getElem_of_mem hl
 have h4:=ZgZ n4 k hk (by omega)
 have hgg:(ZaC x L facts d (c.P.getD i []))[k]'(by omega)=grs (Zdm L facts d k) (Zch x d k) (c.P.getD i []):=by simp[ZaC]
 rw[hgg]at h4
 have hlen:=h4.length
 have hg2:=Zhh (Zdm L facts d k) (Zch x d k) (c.P.getD i [])
 have hsz:=hF.size d k
 refine⟨by omega,?_⟩
 rw[ZhT (fun z g h=>h.1) h4]
 exact List.pairwise_map.2 (Ze9 _ _ _)
structure ZjH (S:Sc) (facts:List Fct):Prop where
 e:Zet S 131072 facts=0
 l:Ze6 S 131072 facts=(Zcn S facts).N
 doc:ZdW (Za3 S) (Zan S) facts (Zcn S facts)
 fok:ZbI (Za3 S) (Zan S) facts
 may:ZbS (Za3 S)=true
 sm:∀n∈(Zcn S facts).N,Zdb n
 len:(Zcn S facts).N.length≤131072
theorem Zju {S:Sc} {facts:List Fct} (hs:scE S=0) (hr:Zd7 (Za3 S) none facts=0) (ha:∀f∈facts,Zho f.2) (hw:ZlW facts) (h5:S.dims.length≤5) (h12:facts.length≤12):ZjH S facts:=by
 have hm:∀f∈facts,Zbw (Za3 S).measures f.2=true:=fun f hf=>(Zcp (Zcu hr f hf)).2.2
 obtain⟨h1,h2⟩:=ZlB hs hr (by omega) (hw.wag hm)
 have hlen:=Zml h1
 have hLl:(Zan S).length=S.dims.length:=by unfold Zan;rw[List.length_map]
 have hp:(2:Nat) ^ facts.length≤2 ^ 12:=Nat.pow_le_pow_right (by decide) h12
 have hle:(Zcn S facts).N.length≤131072:=by
  have h3:(Zan S).length * 2 ^ facts.length≤5 * 2 ^ 12:=Nat.mul_le_mul (by omega) hp
  have h4:(5:Nat) * 2 ^ 12≤131072:=by decide
  omega
 have hz:wantB S 131072 facts=0:=by unfold wantB;rw[if_neg (by simp[hs]),if_neg (by simp[hr]),if_neg (by decide)]
 obtain⟨q1,q2,q3⟩:=(ZkG (S:=S) (most:=131072) (facts:=facts) (by omega) ha hz).2.2 h2 (by omega)
 have hard:=(ZlU q1 ha).1
 rw[q2]at hard
 exact⟨q1,q2,h1,ZdS hs hr (by omega) ha,ZiG hs,hard.sm,hle⟩
theorem Zmb {S:Sc} {facts:List Fct} (hB:ZjH S facts) (hs:scE S=0) (hw:ZlW facts) (hm:∀f∈facts,WAg 1 f.2) {w:List (Int×Int)} (hl:w.length=S.dims.length) (hv:ZgI (Za3 S) (Zan S) w) :
  ((List.range facts.length).filter (Za9 (Zan S) facts 0 w)=[]→ZcT (Zcn S facts).N w=(ag0,10)) ∧
  ((List.range facts.length).filter (Za9 (Zan S) facts 0 w)≠[]→∃b,ZdJ facts ag0 ((List.range facts.length).filter (Za9 (Zan S) facts 0 w))=some b∧ZcT (Zcn S facts).N w=(b,0)):=by
 have hs1:=(Zb7 hs).1
 have hLl:(Zan S).length=S.dims.length:=by unfold Zan;rw[List.length_map]
 by_cases hne:facts=[]
 ·have hd:Zcn S facts=⟨[],[],false⟩:=by unfold Zcn;rw[if_pos hne]
  have hp:(List.range facts.length).filter (Za9 (Zan S) facts 0 w)=[]:=by rw[hne];rfl
  rw[hp,hd]
  exact⟨fun _=>rfl,fun h=>absurd rfl h⟩
 ·obtain⟨t1,t2,t3⟩:=ZmL hs hne
  have hw0:w≠[]:=fun h=>by rw[h]at hl;simp at hl;omega
  have hWF:WayF (Za3 S) (Zan S) 0 w:=ZgT fun k hk=>by rw[Nat.zero_add];exact hv k hk
  obtain⟨a1,a2⟩:=Zie hB.fok hB.doc w ((Zcn S facts).N.length - 1) 0 0 ZcE hw0 (by omega) (by omega) t2 hWF
  rw[t3]at a1 a2
  have hcast:(((Zcn S facts).N.length - 1:Nat):Int)=((Zcn S facts).N.length:Int) - 1:=by omega
  rw[hcast]at a1 a2
  have hP:ZcT (Zcn S facts).N w=((ZbP (Zcn S facts).N (((Zcn S facts).N.length:Int) - 1) 0 0 ZcE w).1,(ZbP (Zcn S facts).N (((Zcn S facts).N.length:Int) - 1) 0 0 ZcE w).2.2):=by unfold ZcT;rw[if_neg (by omega)]
  rw[hP]
  refine⟨fun h=>by rw[(a1 h).1,(a1 h).2],fun h=>?_⟩
  obtain⟨b,hb,_⟩:=Zfy hm ((List.range facts.length).filter (Za9 (Zan S) facts 0 w)) ag0 0 wag0 (by have:=List.length_filter_le (Za9 (Zan S) facts 0 w) (List.range facts.length);rw[List.length_range]at this;have:=hw.1;omega) (fun i hi=>by simpa using (List.mem_filter.1 hi).1)
  obtain⟨c1,c2⟩:=a2 h
  rw[hb]at c1
  exact⟨b,hb,by rw[c1,c2];rfl⟩
end Go.Proofs.YtaapiigfmdhobaaGreat
