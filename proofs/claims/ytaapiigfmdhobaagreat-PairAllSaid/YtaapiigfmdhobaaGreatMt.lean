/- Texts of the walk, joined: Wj Oa Od Oe. -/
import Derived.Test.YtaapiigfmdhobaaGreatMi
import Derived.Test.YtaapiigfmdhobaaGreatMo
import Derived.Test.YtaapiigfmdhobaaGreatMp
import Derived.Test.YtaapiigfmdhobaaGreatMj
import Derived.Test.YtaapiigfmdhobaaGreatMk
namespace Go.Proofs.YtaapiigfmdhobaaGreat
set_option linter.unusedSimpArgs false
set_option linter.unusedVariables false
open Go.RowKit
structure CelIn (c:Cel):Prop where
 key:In64 c.key
 child:In64 c.child
 agg:Zho c.agg
def NodIn (n:Nod):Prop:=(∀l∈n.lists,∀c∈l,CelIn c)/\CelIn n.all
section
variable {w:World} {F:Nat->Prop}
theorem Zg7 {n:Int} (h:(Lit.int .i64 n).wf=true):In64 n:=by
 simp only[Lit.wf,zaB,decide_eq_true_eq]at h
 exact h
theorem Zgi {s:Sh} {α:Type} {f:α->List AV} {p:α->Prop} (he:∀cs x,s.Is w F cs x->∃a,s.enc x=f a/\p a) {cs:List Value} {x:(Sh.slice s).D} (h:(Sh.slice s).Is w F cs x):∃l:List α,l.length<=maxLen/\(Sh.slice s).enc x=[.sl .no (l.map f)]/\∀a∈l,p a:=by
 obtain⟨A,c,css,rfl,h1,h2,h3,h4,h5⟩:=h
 have:∀(y:List s.D),(∀z∈y,∃a,s.enc z=f a/\p a)->∃m:List α,m.length=y.length/\y.map s.enc=m.map f/\∀a∈m,p a:=by
  intro y
  induction y with
  | nil=>intro _;exact⟨[],rfl,rfl,by simp⟩
  | cons z y ih =>
   intro hz
   obtain⟨a,ha,hp⟩:=hz z zah
   obtain⟨m,hm,e,hq⟩:=ih fun u hu=>hz u (zae _ hu)
   exact⟨a :: m,by simp[hm],by simp[ha,e],fun b hb=>by
    rcases zal.1 hb with rfl|hb
    ·exact hp
    ·exact hq b hb⟩
 obtain⟨m,hm,e,hq⟩:=this x fun y hy=>by
  obtain⟨i,hi,rfl⟩:=zaA hy
  have hi2:i<css.length:=by rw[h3];exact hi
  exact he css[i] _ (h5 i _ _ (zab hi2) (zab hi))
 refine⟨m,by rw[hm];exact zaQ h1 h2,?_,hq⟩
 show[AV.sl .no (List.map s.enc x)]=_
 rw[e]
theorem Zje {cs:List Value} {x:Zio.D} (h:Zio.Is w F cs x):In64 x.1/\In64 x.2.1/\In64 x.2.2.1:=by
 obtain⟨_,_,_,⟨_,h1⟩,_,_,_,⟨_,h2⟩,_,_,_,⟨_,h3⟩,_⟩:=h
 exact⟨Zg7 h1,Zg7 h2,Zg7 h3⟩
theorem enc_agI {cs:List Value} {x:agSh.D} (h:agSh.Is w F cs x):∃a:Ag,agSh.enc x=eAg a/\Zho a:=by
 obtain⟨n,ps,u⟩:=x
 obtain⟨c1,c2,_,⟨_,hn⟩,c3,c4,_,⟨css,_,hcl,hl,_,hel⟩,_⟩:=h
 match ps,hl,hel with
 | [(s0,l0,h0,_),(s1,l1,h1,_),(s2,l2,h2,_)],_,hel =>
  have hg:∀i,i<3->∃r,css[i]?=some r:=fun i hi=>⟨css[i]'(by omega),zab _⟩
  obtain⟨r0,e0⟩:=hg 0 (by omega)
  obtain⟨r1,e1⟩:=hg 1 (by omega)
  obtain⟨r2,e2⟩:=hg 2 (by omega)
  obtain⟨a0,a1,a2⟩:=Zje (hel 0 _ _ e0 rfl)
  obtain⟨b0,b1,b2⟩:=Zje (hel 1 _ _ e1 rfl)
  obtain⟨d0,d1,d2⟩:=Zje (hel 2 _ _ e2 rfl)
  exact⟨⟨n,s0,l0,h0,s1,l1,h1,s2,l2,h2⟩,rfl,⟨Zg7 hn,a0,b0,d0⟩⟩
end
section
variable {W:World}
end
def FewFQ (most:Nat) (l:List Fct) (H:Zaa) (r:AV) (H':Zaa):Prop:=HX [] H H'/\∃b,r=.b b/\(b=true->l.length<=most)
set_option maxHeartbeats 1000000 in
theorem Zfs (t:Tok) (l:List Fct) (most:Nat) (H:Zaa) (hm:most<=1000):Zay Tryz.prog 28 [.sl t (rF l),.i (most:Int)] H (FewFQ most l H):=by
 refine Zak hE cf28 (zac rfl) fun Q qr qn=>?_
 ((have hd:=tv;repeat' first|(first|apply Zad|apply Zac|apply Zab)<;>intro hd<;>try simp only[hd]|simp(disch:=first|assumption|omega|simp only[nx]<;>omega|fail)only[hd,qr,qn,Zl6,↓YA,YY,sevalprocAttr])<;>try revert hd;refine ttr ?_)
 refine Zcw [0,1] (σ:=Nat×Nat) (fun s=>s.1<=l.length/\s.1<=most+1/\s.2<=s.1 * 1000) (fun s=>l.length - s.1) (fun s=>[(5,.i (s.2:Int)),(6,.i (s.1:Int))]) (fun s=>[]) (0,0) (GStep.refl _ _) (by simp only[ZaA,Zav,Fr.put,Fr.get,↓reduceIte,Nat.reduceEqDiff];rfl) ?_ (by simp only[ZaF,ZaX,Fr.put,Fr.get,↓reduceIte,Nat.reduceEqDiff,and_self]<;>simp) (by simp only[ZaJ]) ?_
 ·exact⟨by simp,by simp,by simp⟩
 ·(rintro⟨i,n⟩ G ⟨h1,h2,h3⟩ hG hn;try simp only[nx]at hn)
  simp only at h1 h2 h3
  by_cases c1:i<l.length
  ·have d1:decide ((i:Int)<(l.length:Int))=true:=by simp;omega
   by_cases c2:i<=most
   ·have d2:decide ((i:Int)<=(most:Int))=true:=by simp;omega
    have e0:(ZcI l[i])[0]?=some (.sl .no (rI l[i].1)):=rfl
    have h0:(0:Int)<=(i:Int):=by omega
    have e1:(ZcI l[i]).length=11:=rfl
    have hmin:(if (1000:Int)<(l[i].1.length:Int) then (1000:Int) else (l[i].1.length:Int))=((min l[i].1.length 1000:Nat):Int):=by split<;>omega
    ((have hd:=tv;repeat' first|(first|apply Zad|apply Zac|apply Zab)<;>intro hd<;>try simp only[hd]|simp(disch:=first|assumption|omega|simp only[nx]<;>omega|fail)only[hd,qr,qn,Zl6,↓YA,YY,sevalprocAttr,d1,d2,e0,e1,zaa,h0,c1,hmin])<;>try revert hd;refine ttr ?_)
    refine⟨(i+1,n+min l[i].1.length 1000),⟨by simp only;omega,by simp only;omega,by simp only;omega⟩,by simp only;omega,⟨AV_i (by push_cast;rfl),AV_i (by push_cast;rfl)⟩,by exact HXT⟩
   ·have d2:decide ((i:Int)<=(most:Int))=false:=by simp;omega
    ((have hd:=tv;repeat' first|(first|apply Zad|apply Zac|apply Zab)<;>intro hd<;>try simp only[hd]|simp(disch:=first|assumption|omega|simp only[nx]<;>omega|fail)only[hd,qr,qn,Zl6,↓YA,YY,sevalprocAttr,d1,d2,zaa])<;>try revert hd;refine ttr ?_)
    ·exact Zaq ⟨hG,_,rfl,fun e=>by simp at hd;omega⟩
    ·exact Zaq ⟨hG,_,rfl,fun e=>by cases e⟩
  ·have d1:decide ((i:Int)<(l.length:Int))=false:=by simp;omega
   ((have hd:=tv;repeat' first|(first|apply Zad|apply Zac|apply Zab)<;>intro hd<;>try simp only[hd]|simp(disch:=first|assumption|omega|simp only[nx]<;>omega|fail)only[hd,qr,qn,Zl6,↓YA,YY,sevalprocAttr,d1,zaa])<;>try revert hd;refine ttr ?_)
   ·exact Zaq ⟨hG,_,rfl,fun e=>by simp at hd;omega⟩
   ·exact Zaq ⟨hG,_,rfl,fun e=>by cases e⟩
def FewT (t:Tr):Prop:=t.terms.length<=220/\t.up.length<=220
def FewTQ (t:Tr) (H:Zaa) (r:AV) (H':Zaa):Prop:=HX [] H H'/\∃b,r=.b b/\(b=true->FewT t)
set_option maxHeartbeats 1000000 in
theorem Zi5 (t:Tr) (H:Zaa):Zay Tryz.prog 111 [.agg (eTr t)] H (FewTQ t H):=by
 obtain⟨f0,f1,f2,f3,f4⟩:=Zba t
 have hmin:(if (5000:Int)<(t.name.length:Int) then (5000:Int) else (t.name.length:Int))=((min t.name.length 5000:Nat):Int):=by split<;>omega
 have hmin:∀q:List UInt8,(if (5000:Int)<(q.length:Int) then (5000:Int) else (q.length:Int))=((min q.length 5000:Nat):Int):=fun q=>by split<;>omega
 have g1:(H.alloc (.cells (eTr t) 107)).get H.next=some (.cells (eTr t) 107):=Zaa.Zae
 have l1:H.next<(H.alloc (.cells (eTr t) 107)).next:=by simp
 have hx0:HX [] H (H.alloc (.cells (eTr t) 107)):=(HX.ini (by simp[Zc5])).alloc
 refine Zak hE cf111 (zac rfl) fun Q qr qn=>?_
 ((have hd:=tv;repeat' first|(first|apply Zad|apply Zac|apply Zab)<;>intro hd<;>try simp only[hd]|simp(disch:=first|assumption|omega|simp only[nx]<;>omega|fail)only[hd,qr,qn,Zfr,↓YA,YY,sevalprocAttr,f0,f1,f4,hmin])<;>try revert hd;refine ttr ?_)
 generalize H.alloc (.cells (eTr t) 107)=G0 at *
 refine Zcw [1] (σ:=Nat×Nat) (fun s=>s.1<=t.terms.length/\s.1<=221/\s.2<=(s.1+1) * 5000) (fun s=>t.terms.length - s.1) (fun s=>[(3,.i (s.2:Int)),(4,.i (s.1:Int))]) (fun s=>[]) (0,min t.name.length 5000) (GStep.refl _ _) (by simp only[ZaA,Zav,Fr.put,Fr.get,↓reduceIte,Nat.reduceEqDiff];rfl) ?_ (by simp only[ZaF,ZaX,Fr.put,Fr.get,↓reduceIte,Nat.reduceEqDiff,and_self]<;>simp) (by simp only[ZaJ]) ?_
 ·exact⟨by simp,by simp,by simp only;omega⟩
 ·(rintro⟨i,n⟩ G ⟨h1,h2,h3⟩ hG hn;try simp only[nx]at hn)
  simp only at h1 h2 h3
  have hc1:=(hG.g _ l1 (by simp)).trans g1
  have lc1:=Zaa.lt hc1
  by_cases c1:i<t.terms.length
  ·have d1:decide ((i:Int)<(t.terms.length:Int))=true:=by simp;omega
   by_cases c2:i<=220
   ·have d2:decide ((i:Int)<=220)=true:=by simp;omega
    have h0:(0:Int)<=(i:Int):=by omega
    have hr:(rS t.terms)[i]?=some [eS t.terms[i]]:=by simp[c1]
    have hw1:IntKind.i64.wrap ((n:Int)+((min t.terms[i].length 5000:Nat):Int))=((n+min t.terms[i].length 5000:Nat):Int):=by rw[Zaw (by omega) (by omega)];omega
    have hw2:IntKind.i64.wrap ((i:Int)+1)=((i+1:Nat):Int):=by rw[Zaw (by omega) (by omega)];omega
    ((have hd:=tv;repeat' first|(first|apply Zad|apply Zac|apply Zab)<;>intro hd<;>try simp only[hd]|simp(disch:=first|assumption|omega|simp only[nx]<;>omega|fail)only[hd,qr,qn,Zfr,↓YA,YY,sevalprocAttr,d1,d2,f0,f2,hc1,h0,c1,hr,hmin,hw1,hw2,zaa])<;>try revert hd;refine ttr ?_)
    exact⟨(i+1,n+min t.terms[i].length 5000),⟨by simp only;omega,by simp only;omega,by simp only;omega⟩,by simp only;omega,⟨rfl,rfl⟩,hG⟩
   ·have d2:decide ((i:Int)<=220)=false:=by simp;omega
    have d3:decide ((t.terms.length:Int)<=220)=false:=by simp;omega
    ((have hd:=tv;repeat' first|(first|apply Zad|apply Zac|apply Zab)<;>intro hd<;>try simp only[hd]|simp(disch:=first|assumption|omega|simp only[nx]<;>omega|fail)only[hd,qr,qn,Zfr,↓YA,YY,sevalprocAttr,d1,d2,d3,hc1,f2,f3,zaa])<;>try revert hd;refine ttr ?_)
    exact Zaq ⟨hx0.quiet hG,_,rfl,fun e=>by cases e⟩
  ·have d1:decide ((i:Int)<(t.terms.length:Int))=false:=by simp;omega
   by_cases c3:t.terms.length<=220/\t.up.length<=220
   ·have d3:decide ((t.terms.length:Int)<=220)=true:=by simp;omega
    have d4:decide ((t.up.length:Int)<=220)=true:=by simp;omega
    ((have hd:=tv;repeat' first|(first|apply Zad|apply Zac|apply Zab)<;>intro hd<;>try simp only[hd]|simp(disch:=first|assumption|omega|simp only[nx]<;>omega|fail)only[hd,qr,qn,Zfr,↓YA,YY,sevalprocAttr,d1,d3,d4,hc1,f2,f3,zaa])<;>try revert hd;refine ttr ?_)
    exact Zaq ⟨hx0.quiet hG,_,rfl,fun _=>c3⟩
   ·by_cases c4:t.terms.length<=220
    ·have d3:decide ((t.terms.length:Int)<=220)=true:=by simp;omega
     have d4:decide ((t.up.length:Int)<=220)=false:=by simp;omega
     ((have hd:=tv;repeat' first|(first|apply Zad|apply Zac|apply Zab)<;>intro hd<;>try simp only[hd]|simp(disch:=first|assumption|omega|simp only[nx]<;>omega|fail)only[hd,qr,qn,Zfr,↓YA,YY,sevalprocAttr,d1,d3,d4,hc1,f2,f3,zaa])<;>try revert hd;refine ttr ?_)
     exact Zaq ⟨hx0.quiet hG,_,rfl,fun e=>by cases e⟩
    ·have d3:decide ((t.terms.length:Int)<=220)=false:=by simp;omega
     ((have hd:=tv;repeat' first|(first|apply Zad|apply Zac|apply Zab)<;>intro hd<;>try simp only[hd]|simp(disch:=first|assumption|omega|simp only[nx]<;>omega|fail)only[hd,qr,qn,Zfr,↓YA,YY,sevalprocAttr,d1,d3,hc1,f2,f3,zaa])<;>try revert hd;refine ttr ?_)
     exact Zaq ⟨hx0.quiet hG,_,rfl,fun e=>by cases e⟩
def FewD (d:Dm):Prop:=d.tiers.length<=6/\∀t∈d.tiers,FewT t
def FewDQ (d:Dm) (H:Zaa) (r:AV) (H':Zaa):Prop:=HX [] H H'/\∃b,r=.b b/\(b=true->FewD d)
set_option maxHeartbeats 1000000 in
theorem Zjv (d:Dm) (H:Zaa):Zay Tryz.prog 72 [.agg (eDm d)] H (FewDQ d H):=by
 obtain⟨f0,f1,f2,f3⟩:=Za7 d
 have g1:(H.alloc (.cells (eDm d) 102)).get H.next=some (.cells (eDm d) 102):=Zaa.Zae
 have l1:H.next<(H.alloc (.cells (eDm d) 102)).next:=by simp
 have hx0:HX [] H (H.alloc (.cells (eDm d) 102)):=(HX.ini (by simp[Zc5])).alloc
 refine Zak hE cf72 (zac rfl) fun Q qr qn=>?_
 ((have hd:=tv;repeat' first|(first|apply Zad|apply Zac|apply Zab)<;>intro hd<;>try simp only[hd]|simp(disch:=first|assumption|omega|simp only[nx]<;>omega|fail)only[hd,qr,qn,ZhM,↓YA,YY,sevalprocAttr])<;>try revert hd;refine ttr ?_)
 generalize H.alloc (.cells (eDm d) 102)=G0 at *
 refine Zcw [1] (σ:=Nat) (fun s=>s<=d.tiers.length/\s<=7/\∀t∈d.tiers.take s,FewT t) (fun s=>d.tiers.length - s) (fun s=>[(3,.i (s:Int))]) (fun s=>[]) 0 (GStep.refl _ _) (by simp only[ZaA,Zav,Fr.put,Fr.get,↓reduceIte,Nat.reduceEqDiff];rfl) ?_ (by simp only[ZaF,ZaX,Fr.put,Fr.get,↓reduceIte,Nat.reduceEqDiff,and_self]<;>simp) (by simp only[ZaJ]) ?_
 ·exact⟨by simp,by simp,by simp⟩
 ·(rintro i G ⟨h1,h2,h3⟩ hG hn;try simp only[nx]at hn)
  have hc1:=(hG.g _ l1 (by simp)).trans g1
  have lc1:=Zaa.lt hc1
  by_cases c1:i<d.tiers.length
  ·have d1:decide ((i:Int)<(d.tiers.length:Int))=true:=by simp;omega
   by_cases c2:i<=6
   ·have d2:decide ((i:Int)<=6)=true:=by simp;omega
    have h0:(0:Int)<=(i:Int):=by omega
    have hr:=Zdh c1
    obtain⟨t0,t1,t2,t3,t4⟩:=Zba d.tiers[i]
    have hw2:IntKind.i64.wrap ((i:Int)+1)=((i+1:Nat):Int):=by rw[Zaw (by omega) (by omega)];omega
    ((have hd:=tv;repeat' first|(first|apply Zad|apply Zac|apply Zab)<;>intro hd<;>try simp only[hd]|simp(disch:=first|assumption|omega|simp only[nx]<;>omega|fail)only[hd,qr,qn,ZhM,↓YA,YY,sevalprocAttr,d1,d2,f2,hc1,h0,c1,hr,t0,t4,hw2,zaa])<;>try revert hd;refine ttr ?_)
    refine Zap.use (Zi5 d.tiers[i] _) ?_
    rintro r G2 ⟨hx2,b,rfl,hb⟩
    cases b with
    | false =>
     ((have hd:=tv;repeat' first|(first|apply Zad|apply Zac|apply Zab)<;>intro hd<;>try simp only[hd]|simp(disch:=first|assumption|omega|simp only[nx]<;>omega|fail)only[hd,qr,qn,ZhM,↓YA,YY,sevalprocAttr])<;>try revert hd;refine ttr ?_)
     exact Zaq ⟨(hx0.quiet hG).quiet hx2,_,rfl,fun e=>by cases e⟩
    | true =>
     ((have hd:=tv;repeat' first|(first|apply Zad|apply Zac|apply Zab)<;>intro hd<;>try simp only[hd]|simp(disch:=first|assumption|omega|simp only[nx]<;>omega|fail)only[hd,qr,qn,ZhM,↓YA,YY,sevalprocAttr,hw2])<;>try revert hd;refine ttr ?_)
     refine⟨i+1,⟨by omega,by omega,fun t ht=>?_⟩,by omega,rfl,hG.quiet hx2⟩
     rw[zaq c1]at ht
     rcases zaz.1 ht with ht|ht
     ·exact h3 t ht
     ·rw[zas.1 ht];exact hb rfl
   ·have d2:decide ((i:Int)<=6)=false:=by simp;omega
    have d3:decide ((d.tiers.length:Int)<=6)=false:=by simp;omega
    ((have hd:=tv;repeat' first|(first|apply Zad|apply Zac|apply Zab)<;>intro hd<;>try simp only[hd]|simp(disch:=first|assumption|omega|simp only[nx]<;>omega|fail)only[hd,qr,qn,ZhM,↓YA,YY,sevalprocAttr,d1,d2,d3,hc1,f2,zaa])<;>try revert hd;refine ttr ?_)
    exact Zaq ⟨hx0.quiet hG,_,rfl,fun e=>by cases e⟩
  ·have d1:decide ((i:Int)<(d.tiers.length:Int))=false:=by simp;omega
   by_cases c3:d.tiers.length<=6
   ·have d3:decide ((d.tiers.length:Int)<=6)=true:=by simp;omega
    ((have hd:=tv;repeat' first|(first|apply Zad|apply Zac|apply Zab)<;>intro hd<;>try simp only[hd]|simp(disch:=first|assumption|omega|simp only[nx]<;>omega|fail)only[hd,qr,qn,ZhM,↓YA,YY,sevalprocAttr,d1,d3,hc1,f1,f2,zaa])<;>try revert hd;refine ttr ?_)
    exact Zaq ⟨hx0.quiet hG,_,rfl,fun _=>⟨c3,by rw[zaL (by omega)]at h3;exact h3⟩⟩
   ·have d3:decide ((d.tiers.length:Int)<=6)=false:=by simp;omega
    ((have hd:=tv;repeat' first|(first|apply Zad|apply Zac|apply Zab)<;>intro hd<;>try simp only[hd]|simp(disch:=first|assumption|omega|simp only[nx]<;>omega|fail)only[hd,qr,qn,ZhM,↓YA,YY,sevalprocAttr,d1,d3,hc1,f2,zaa])<;>try revert hd;refine ttr ?_)
    exact Zaq ⟨hx0.quiet hG,_,rfl,fun e=>by cases e⟩
def FewS (S:Sc):Prop:=S.dims.length<=20/\∀d∈S.dims,FewD d
def FewSQ (S:Sc) (H:Zaa) (r:AV) (H':Zaa):Prop:=HX [] H H'/\∃b,r=.b b/\(b=true->FewS S)
set_option maxHeartbeats 2000000 in
theorem ZiT (S:Sc) (H:Zaa):Zay Tryz.prog 27 [.agg (eSc S)] H (FewSQ S H):=by
 obtain⟨f0,f1,f2,f3⟩:=ZbB S
 have g1:(H.alloc (.cells (eSc S) 25)).get H.next=some (.cells (eSc S) 25):=Zaa.Zae
 have l1:H.next<(H.alloc (.cells (eSc S) 25)).next:=by simp
 have hx0:HX [] H (H.alloc (.cells (eSc S) 25)):=(HX.ini (by simp[Zc5])).alloc
 refine Zak hE cf27 (zac rfl) fun Q qr qn=>?_
 ((have hd:=tv;repeat' first|(first|apply Zad|apply Zac|apply Zab)<;>intro hd<;>try simp only[hd]|simp(disch:=first|assumption|omega|simp only[nx]<;>omega|fail)only[hd,qr,qn,Zdp,↓YA,YY,sevalprocAttr])<;>try revert hd;refine ttr ?_)
 generalize H.alloc (.cells (eSc S) 25)=G0 at *
 refine Zcw [1] (σ:=Nat×Nat) (fun s=>s.1<=S.dims.length/\s.1<=21/\s.2<=s.1 * 1320/\∀d∈S.dims.take s.1,FewD d) (fun s=>S.dims.length - s.1) (fun s=>[(3,.i (s.2:Int)),(4,.i (s.1:Int))]) (fun s=>[]) (0,0) (GStep.refl _ _) (by simp only[ZaA,Zav,Fr.put,Fr.get,↓reduceIte,Nat.reduceEqDiff];rfl) ?_ (by simp only[ZaF,ZaX,Fr.put,Fr.get,↓reduceIte,Nat.reduceEqDiff,and_self]<;>simp) (by simp only[ZaJ]) ?_
 ·exact⟨by simp,by simp,by simp,by simp⟩
 ·(rintro⟨i,n⟩ G ⟨h1,h2,h3,h4⟩ hG hn;try simp only[nx]at hn)
  simp only at h1 h2 h3 h4
  have hc1:=(hG.g _ l1 (by simp)).trans g1
  have lc1:=Zaa.lt hc1
  by_cases c1:i<S.dims.length
  ·have d1:decide ((i:Int)<(S.dims.length:Int))=true:=by simp;omega
   by_cases c2:i<=20
   ·have d2:decide ((i:Int)<=20)=true:=by simp;omega
    have h0:(0:Int)<=(i:Int):=by omega
    have hr:=ZjQ c1
    obtain⟨q0,q1,q2,q3⟩:=Za7 S.dims[i]
    ((have hd:=tv;repeat' first|(first|apply Zad|apply Zac|apply Zab)<;>intro hd<;>try simp only[hd]|simp(disch:=first|assumption|omega|simp only[nx]<;>omega|fail)only[hd,qr,qn,Zdp,↓YA,YY,sevalprocAttr,d1,d2,f1,hc1,h0,c1,hr,q0,q3,zaa])<;>try revert hd;refine ttr ?_)
    refine Zap.use (Zjv S.dims[i] _) ?_
    rintro r G2 ⟨hx2,b,rfl,hb⟩
    cases b with
    | false =>
     ((have hd:=tv;repeat' first|(first|apply Zad|apply Zac|apply Zab)<;>intro hd<;>try simp only[hd]|simp(disch:=first|assumption|omega|simp only[nx]<;>omega|fail)only[hd,qr,qn,Zdp,↓YA,YY,sevalprocAttr])<;>try revert hd;refine ttr ?_)
     exact Zaq ⟨(hx0.quiet hG).quiet hx2,_,rfl,fun e=>by cases e⟩
    | true =>
     have hb:=hb rfl
     have hc2:=(hx2.g _ lc1 (by simp)).trans hc1
     have lc2:=Zaa.lt hc2
     have hn2:=hx2.n
     generalize hdd:S.dims[i]=d at *
     obtain⟨w1,w2⟩:=hb
     ((have hd:=tv;repeat' first|(first|apply Zad|apply Zac|apply Zab)<;>intro hd<;>try simp only[hd]|simp(disch:=first|assumption|omega|simp only[nx]<;>omega|fail)only[hd,qr,qn,Zdp,↓YA,YY,sevalprocAttr,hc2,f1,c1,hr,q0,q2,h0,zaa])<;>try revert hd;refine ttr ?_)
     refine Zbs [1,4,32,33] (σ:=Nat) (fun(k:Nat) s=>s<=n+k * 220) (fun k s=>[(3,.i (s:Int))]) (fun k s=>[]) n (GStep.refl _ _) (by simp only[ZaA,Zav,Fr.put,Fr.get,↓reduceIte,Nat.reduceEqDiff];rfl) (by intro k s;rfl) (by intro k s;rfl) (by rfl) (by unfold maxLen;omega) ?_ (by simp only[ZaF,ZaX,Fr.put,Fr.get,↓reduceIte,Nat.reduceEqDiff,and_self]<;>simp) (by simp only[ZaJ]) ?_ ?_
     ·simp
     ·(rintro k m G3 hk hm hG3 hn3;try simp only[nx]at hn3)
      have hrt:=Zdh hk
      obtain⟨t0,t1,t2,t3,t4⟩:=Zba d.tiers[k]
      have ht:=(w2 _ (zam hk)).1
      have td:(eTr d.tiers[k]).drop 3=[]:=rfl
      generalize d.tiers[k]=t at *
      have hw1:IntKind.i64.wrap ((m:Int)+(t.terms.length:Int))=((m+t.terms.length:Nat):Int):=by rw[Zaw (by omega) (by omega)];omega
      ((have hd:=tv;repeat' first|(first|apply Zad|apply Zac|apply Zab)<;>intro hd<;>try simp only[hd]|simp(disch:=first|assumption|omega|simp only[nx]<;>omega|fail)only[hd,qr,qn,Zdp,↓YA,YY,sevalprocAttr,hrt,t0,t2,t4,td,hw1,zaw,zaa])<;>try revert hd;refine ttr ?_)
      exact⟨m+t.terms.length,by omega,rfl,hG3.alloc⟩
     ·(rintro m G3 hm hG3 hn3;try simp only[nx]at hn3)
      have hw2:IntKind.i64.wrap ((i:Int)+1)=((i+1:Nat):Int):=by rw[Zaw (by omega) (by omega)];omega
      ((have hd:=tv;repeat' first|(first|apply Zad|apply Zac|apply Zab)<;>intro hd<;>try simp only[hd]|simp(disch:=first|assumption|omega|simp only[nx]<;>omega|fail)only[hd,qr,qn,Zdp,↓YA,YY,sevalprocAttr,hw2])<;>try revert hd;refine ttr ?_)
      refine⟨(i+1,m),⟨by simp only;omega,by simp only;omega,by simp only;omega,fun e he=>?_⟩,by simp only;omega,⟨rfl,rfl⟩,(hG.quiet hx2).quiet hG3⟩
      rw[zaq c1]at he
      rcases zaz.1 he with he|he
      ·exact h4 e he
      ·rw[zas.1 he,hdd];exact⟨w1,w2⟩
   ·have d2:decide ((i:Int)<=20)=false:=by simp;omega
    have hfew:S.dims.length<=20->FewS S:=fun h=>by omega
    ((have hd:=tv;repeat' first|(first|apply Zad|apply Zac|apply Zab)<;>intro hd<;>try simp only[hd]|simp(disch:=first|assumption|omega|simp only[nx]<;>omega|fail)only[hd,qr,qn,Zdp,↓YA,YY,sevalprocAttr,d1,d2,hc1,f1,zaa])<;>try revert hd;refine ttr ?_)
    refine Zcw [1,3] (σ:=Nat×Nat) (fun s=>s.1<=S.meas.length/\s.1<=6/\s.2<=s.1 * 1000) (fun s=>S.meas.length - s.1) (fun s=>[(7,.i (s.2:Int)),(8,.i (s.1:Int))]) (fun s=>[]) (0,0) (GStep.refl _ _) (by simp only[ZaA,Zav,Fr.put,Fr.get,↓reduceIte,Nat.reduceEqDiff];rfl) ?_ (by simp only[ZaF,ZaX,Fr.put,Fr.get,↓reduceIte,Nat.reduceEqDiff,and_self]<;>simp) (by simp only[ZaJ]) ?_
    ·exact⟨by simp,by simp,by simp⟩
    ·(rintro⟨j,m⟩ G2 ⟨k1,k2,k3⟩ hG2 hn2;try simp only[nx]at hn2)
     simp only at k1 k2 k3
     have hc2:=(hG2.g _ lc1 (by simp)).trans hc1
     have lc2:=Zaa.lt hc2
     have hxx:=(hx0.quiet hG).quiet hG2
     by_cases e1:j<S.meas.length
     ·have g1:decide ((j:Int)<(S.meas.length:Int))=true:=by simp;omega
      by_cases e2:j<=5
      ·have g2:decide ((j:Int)<=5)=true:=by simp;omega
       have h0:(0:Int)<=(j:Int):=by omega
       have hr:(rS S.meas)[j]?=some [eS S.meas[j]]:=by simp[e1]
       have hmin:(if (1000:Int)<(S.meas[j].length:Int) then (1000:Int) else (S.meas[j].length:Int))=((min S.meas[j].length 1000:Nat):Int):=by split<;>omega
       have hw1:IntKind.i64.wrap ((m:Int)+((min S.meas[j].length 1000:Nat):Int))=((m+min S.meas[j].length 1000:Nat):Int):=by rw[Zaw (by omega) (by omega)];omega
       have hw2:IntKind.i64.wrap ((j:Int)+1)=((j+1:Nat):Int):=by rw[Zaw (by omega) (by omega)];omega
       ((have hd:=tv;repeat' first|(first|apply Zad|apply Zac|apply Zab)<;>intro hd<;>try simp only[hd]|simp(disch:=first|assumption|omega|simp only[nx]<;>omega|fail)only[hd,qr,qn,Zdp,↓YA,YY,sevalprocAttr,g1,g2,f2,hc2,h0,e1,hr,hmin,hw1,hw2,zaa])<;>try revert hd;refine ttr ?_)
       exact⟨(j+1,m+min S.meas[j].length 1000),⟨by simp only;omega,by simp only;omega,by simp only;omega⟩,by simp only;omega,⟨rfl,rfl⟩,hG2⟩
      ·have g2:decide ((j:Int)<=5)=false:=by simp;omega
       have g4:decide ((S.meas.length:Int)<=5)=false:=by simp;omega
       by_cases c5:S.dims.length<=20
       ·have d5:decide ((S.dims.length:Int)<=20)=true:=by simp;omega
        ((have hd:=tv;repeat' first|(first|apply Zad|apply Zac|apply Zab)<;>intro hd<;>try simp only[hd]|simp(disch:=first|assumption|omega|simp only[nx]<;>omega|fail)only[hd,qr,qn,Zdp,↓YA,YY,sevalprocAttr,g1,g2,g4,d5,hc2,f1,f2,zaa])<;>try revert hd;refine ttr ?_)
        exact Zaq ⟨hxx,_,rfl,fun e=>by cases e⟩
       ·have d5:decide ((S.dims.length:Int)<=20)=false:=by simp;omega
        ((have hd:=tv;repeat' first|(first|apply Zad|apply Zac|apply Zab)<;>intro hd<;>try simp only[hd]|simp(disch:=first|assumption|omega|simp only[nx]<;>omega|fail)only[hd,qr,qn,Zdp,↓YA,YY,sevalprocAttr,g1,g2,d5,hc2,f1,f2,zaa])<;>try revert hd;refine ttr ?_)
        exact Zaq ⟨hxx,_,rfl,fun e=>by cases e⟩
     ·have g1:decide ((j:Int)<(S.meas.length:Int))=false:=by simp;omega
      by_cases c5:S.dims.length<=20
      ·have d5:decide ((S.dims.length:Int)<=20)=true:=by simp;omega
       ((have hd:=tv;repeat' first|(first|apply Zad|apply Zac|apply Zab)<;>intro hd<;>try simp only[hd]|simp(disch:=first|assumption|omega|simp only[nx]<;>omega|fail)only[hd,qr,qn,Zdp,↓YA,YY,sevalprocAttr,g1,d5,hc2,f1,f2,zaa])<;>try revert hd;refine ttr ?_)
       all_goals exact Zaq ⟨hxx,_,rfl,fun _=>hfew c5⟩
      ·have d5:decide ((S.dims.length:Int)<=20)=false:=by simp;omega
       ((have hd:=tv;repeat' first|(first|apply Zad|apply Zac|apply Zab)<;>intro hd<;>try simp only[hd]|simp(disch:=first|assumption|omega|simp only[nx]<;>omega|fail)only[hd,qr,qn,Zdp,↓YA,YY,sevalprocAttr,g1,d5,hc2,f1,f2,zaa])<;>try revert hd;refine ttr ?_)
       exact Zaq ⟨hxx,_,rfl,fun e=>by cases e⟩
  ·have d1:decide ((i:Int)<(S.dims.length:Int))=false:=by simp;omega
   have hfew:S.dims.length<=20->FewS S:=fun h=>⟨h,by rw[zaL (by omega)]at h4;exact h4⟩
   ((have hd:=tv;repeat' first|(first|apply Zad|apply Zac|apply Zab)<;>intro hd<;>try simp only[hd]|simp(disch:=first|assumption|omega|simp only[nx]<;>omega|fail)only[hd,qr,qn,Zdp,↓YA,YY,sevalprocAttr,d1,hc1,f1,zaa])<;>try revert hd;refine ttr ?_)
   refine Zcw [1,3] (σ:=Nat×Nat) (fun s=>s.1<=S.meas.length/\s.1<=6/\s.2<=s.1 * 1000) (fun s=>S.meas.length - s.1) (fun s=>[(7,.i (s.2:Int)),(8,.i (s.1:Int))]) (fun s=>[]) (0,0) (GStep.refl _ _) (by simp only[ZaA,Zav,Fr.put,Fr.get,↓reduceIte,Nat.reduceEqDiff];rfl) ?_ (by simp only[ZaF,ZaX,Fr.put,Fr.get,↓reduceIte,Nat.reduceEqDiff,and_self]<;>simp) (by simp only[ZaJ]) ?_
   ·exact⟨by simp,by simp,by simp⟩
   ·(rintro⟨j,m⟩ G2 ⟨k1,k2,k3⟩ hG2 hn2;try simp only[nx]at hn2)
    simp only at k1 k2 k3
    have hc2:=(hG2.g _ lc1 (by simp)).trans hc1
    have lc2:=Zaa.lt hc2
    have hxx:=(hx0.quiet hG).quiet hG2
    by_cases e1:j<S.meas.length
    ·have g1:decide ((j:Int)<(S.meas.length:Int))=true:=by simp;omega
     by_cases e2:j<=5
     ·have g2:decide ((j:Int)<=5)=true:=by simp;omega
      have h0:(0:Int)<=(j:Int):=by omega
      have hr:(rS S.meas)[j]?=some [eS S.meas[j]]:=by simp[e1]
      have hmin:(if (1000:Int)<(S.meas[j].length:Int) then (1000:Int) else (S.meas[j].length:Int))=((min S.meas[j].length 1000:Nat):Int):=by split<;>omega
      have hw1:IntKind.i64.wrap ((m:Int)+((min S.meas[j].length 1000:Nat):Int))=((m+min S.meas[j].length 1000:Nat):Int):=by rw[Zaw (by omega) (by omega)];omega
      have hw2:IntKind.i64.wrap ((j:Int)+1)=((j+1:Nat):Int):=by rw[Zaw (by omega) (by omega)];omega
      ((have hd:=tv;repeat' first|(first|apply Zad|apply Zac|apply Zab)<;>intro hd<;>try simp only[hd]|simp(disch:=first|assumption|omega|simp only[nx]<;>omega|fail)only[hd,qr,qn,Zdp,↓YA,YY,sevalprocAttr,g1,g2,f2,hc2,h0,e1,hr,hmin,hw1,hw2,zaa])<;>try revert hd;refine ttr ?_)
      exact⟨(j+1,m+min S.meas[j].length 1000),⟨by simp only;omega,by simp only;omega,by simp only;omega⟩,by simp only;omega,⟨rfl,rfl⟩,hG2⟩
     ·have g2:decide ((j:Int)<=5)=false:=by simp;omega
      have g4:decide ((S.meas.length:Int)<=5)=false:=by simp;omega
      by_cases c5:S.dims.length<=20
      ·have d5:decide ((S.dims.length:Int)<=20)=true:=by simp;omega
       ((have hd:=tv;repeat' first|(first|apply Zad|apply Zac|apply Zab)<;>intro hd<;>try simp only[hd]|simp(disch:=first|assumption|omega|simp only[nx]<;>omega|fail)only[hd,qr,qn,Zdp,↓YA,YY,sevalprocAttr,g1,g2,g4,d5,hc2,f1,f2,zaa])<;>try revert hd;refine ttr ?_)
       exact Zaq ⟨hxx,_,rfl,fun e=>by cases e⟩
      ·have d5:decide ((S.dims.length:Int)<=20)=false:=by simp;omega
       ((have hd:=tv;repeat' first|(first|apply Zad|apply Zac|apply Zab)<;>intro hd<;>try simp only[hd]|simp(disch:=first|assumption|omega|simp only[nx]<;>omega|fail)only[hd,qr,qn,Zdp,↓YA,YY,sevalprocAttr,g1,g2,d5,hc2,f1,f2,zaa])<;>try revert hd;refine ttr ?_)
       exact Zaq ⟨hxx,_,rfl,fun e=>by cases e⟩
    ·have g1:decide ((j:Int)<(S.meas.length:Int))=false:=by simp;omega
     by_cases c5:S.dims.length<=20
     ·have d5:decide ((S.dims.length:Int)<=20)=true:=by simp;omega
      ((have hd:=tv;repeat' first|(first|apply Zad|apply Zac|apply Zab)<;>intro hd<;>try simp only[hd]|simp(disch:=first|assumption|omega|simp only[nx]<;>omega|fail)only[hd,qr,qn,Zdp,↓YA,YY,sevalprocAttr,g1,d5,hc2,f1,f2,zaa])<;>try revert hd;refine ttr ?_)
      all_goals exact Zaq ⟨hxx,_,rfl,fun _=>hfew c5⟩
     ·have d5:decide ((S.dims.length:Int)<=20)=false:=by simp;omega
      ((have hd:=tv;repeat' first|(first|apply Zad|apply Zac|apply Zab)<;>intro hd<;>try simp only[hd]|simp(disch:=first|assumption|omega|simp only[nx]<;>omega|fail)only[hd,qr,qn,Zdp,↓YA,YY,sevalprocAttr,g1,d5,hc2,f1,f2,zaa])<;>try revert hd;refine ttr ?_)
      exact Zaq ⟨hxx,_,rfl,fun e=>by cases e⟩
theorem ZlU {S:Sc} {most:Int} {facts:List Fct} (h:Zet S most facts=0) (ha:∀f∈facts,Zho f.2):Ard (Za3 S) (Ze6 S most facts)/\∀j,j+1<(Ze6 S most facts).length->Led (Za3 S).sizes.length (Ze6 S most facts) j:=by
 unfold Zet at h
 split at h
 ·rename_i h1;exact absurd h h1
 rename_i h1
 split at h
 ·rename_i h2;exact absurd h h2
 rename_i h2
 split at h
 ·omega
 rename_i h3
 split at h
 ·omega
 rename_i h4
 have h4:newE (Za3 S) most=0:=zaW.1 h4
 have hm:ZbS (Za3 S)=true/\0<=most/\most<=131072:=by
  unfold newE at h4
  split at h4
  ·assumption
  ·omega
 split at h
 ·rename_i h5
  have e:Ze6 S most facts=[]:=by unfold Ze6;rw[if_pos h5]
  rw[e]
  exact⟨ard_of (most:=most) hm.1 (by simp) (by simp) (fun i hi=>by simp at hi),fun j hj=>by simp at hj⟩
 ·rename_i h5
  have e:Ze6 S most facts=(Zfa S most facts).N:=by unfold Ze6;rw[if_neg h5]
  rw[e]
  have hF:=ZdS (zaW.1 h1) (zaW.1 h2) (by omega) ha
  have hG:Grown (Za3 S) most (Zfa S most facts).N:=Zfj hF _ (zaf _) _ _ ⟨fun i hi=>by simp at hi,fun n hn=>by simp at hn⟩
  have hlen:(Zfa S most facts).N.length<=131072:=by
   refine zaC fun hc=>?_
   have:=(add_zero' (hG.1 131072 (by omega))).2.2
   rw[zbd]at this
   omega
  refine⟨ard_of hm.1 hG.2 (by omega) hG.1,fun j hj=>?_⟩
  have hLl:(Zan S).length=(Za3 S).sizes.length:=hF.len
  have hL1:1<=(Zan S).length:=by have:=(Zby hm.1).1;omega
  have hst:=Zhy (x:=Za3 S) (L:=Zan S) (facts:=facts) (most:=most) ((Zan S).length - 1) (by omega) ⟨[],[],0⟩ (List.range facts.length)
  rw[show(Zan S).length - 1+1=(Zan S).length by omega]at hst
  obtain⟨_,_,h6⟩:=hst h
  have hjl:j<(Zfa S most facts).N.length:=by omega
  rcases h6 j (zaG _) hjl with h7|h7
  ·have h8:=ZhY (x:=Za3 S) (L:=Zan S) (facts:=facts) (most:=most) ((Zan S).length - 1) ⟨[],[],0⟩ (List.range facts.length) rfl
   rw[show(Zan S).length - 1+1=(Zan S).length by omega]at h8
   have h8:=h8 h
   rw[← h7]at h8
   have:(j:Int)+1=((Zfa S most facts).N.length:Int):=h8
   omega
  ·rw[← hLl];exact h7
def Zik:Sh:=.pair (.slice Zd9) (.pair agSh .unit)
def Zqf:Sh:=.pair .str (.pair (.slice .str) (.pair (.slice Zd9) .unit))
def Zo7:Sh:=.pair .str (.pair (.slice Zqf) .unit)
def ZqP:Sh:=.pair (.slice Zo7) (.pair (.slice .str) .unit)
theorem Zid:(Sh.slice .str).Fits Tryz.prog (.inl 23):=⟨9,Tryz.underlying23,by kernel_rfl,by decide,Tryz.underlying9⟩
theorem fits_fct:Zik.Fits Tryz.prog (.inl 88) :=
 ⟨_,_,Tryz.underlying88,by kernel_rfl,rfl,by kernel_rfl,Zis,_,_,rfl,rfl,by kernel_rfl,fits_ag,rfl⟩
theorem fits_fcts:(Sh.slice Zik).Fits Tryz.prog (.inl 26):=⟨88,Tryz.underlying26,by kernel_rfl,by decide,fits_fct⟩
theorem fits_tr:Zqf.Fits Tryz.prog (.inl 107) :=
 ⟨_,_,Tryz.underlying107,by kernel_rfl,rfl,by kernel_rfl,Tryz.underlying9,_,_,rfl,rfl,by kernel_rfl,Zid,_,_,rfl,rfl,by kernel_rfl,Zis,rfl⟩
theorem fits_trs:(Sh.slice Zqf).Fits Tryz.prog (.inl 100):=⟨107,Tryz.underlying100,by kernel_rfl,by decide,fits_tr⟩
theorem fits_dm:Zo7.Fits Tryz.prog (.inl 102) :=
 ⟨_,_,Tryz.underlying102,by kernel_rfl,rfl,by kernel_rfl,Tryz.underlying9,_,_,rfl,rfl,by kernel_rfl,fits_trs,rfl⟩
theorem fits_dms:(Sh.slice Zo7).Fits Tryz.prog (.inl 22):=⟨102,Tryz.underlying22,by kernel_rfl,by decide,fits_dm⟩
theorem fits_sc:ZqP.Fits Tryz.prog (.inl 25) :=
 ⟨_,_,Tryz.underlying25,by kernel_rfl,rfl,by kernel_rfl,fits_dms,_,_,rfl,rfl,by kernel_rfl,Zid,rfl⟩
theorem eS_of (s:ByteArray):eS s.data.toList=.sc (.string s):=by cases s;rfl
def FctIn (f:Fct):Prop:=Zho f.2
section
variable {w:World} {F:Nat->Prop}
theorem Ziq {cs:List Value} {x:(Sh.slice Zd9).D} (h:(Sh.slice Zd9).Is w F cs x):∃l:List Int,(Sh.slice Zd9).enc x=[.sl .no (rI l)]:=by
 obtain⟨l,_,e,_⟩:=Zgi (s:=Zd9) (f:=fun n=>[AV.i n]) (p:=fun _=>True) (fun cs x hx=>⟨x,rfl,trivial⟩) h
 exact⟨l,e⟩
theorem enc_fct {cs:List Value} {x:Zik.D} (h:Zik.Is w F cs x):∃f:Fct,Zik.enc x=ZcI f/\FctIn f:=by
 obtain⟨ks,g,u⟩:=x
 obtain⟨_,_,_,hk,_,_,_,hg,_⟩:=h
 obtain⟨l,el⟩:=Ziq hk
 obtain⟨a,ea,ia⟩:=enc_agI hg
 refine⟨(l,a),?_,ia⟩
 show(Sh.slice Zd9).enc ks++(agSh.enc g++[])=_
 rw[el,ea];rfl
theorem ZjA (y:(Sh.slice .str).D):∃l:List Tx,(Sh.slice .str).enc y=[.sl .no (rS l)]:=by
 refine⟨(show List ByteArray from y).map fun s=>s.data.toList,?_⟩
 show[AV.sl .no ((show List ByteArray from y).map fun s=>[.sc (.string s)])]=_
 congr 2
 rw[rS,zbA]
 refine List.map_congr_left fun s _=>?_
 show _=[eS s.data.toList]
 rw[eS_of]
theorem enc_tr {cs:List Value} {x:Zqf.D} (h:Zqf.Is w F cs x):∃t:Tr,Zqf.enc x=eTr t:=by
 obtain⟨n,ts,us,u⟩:=x
 obtain⟨_,_,_,_,_,_,_,_,_,_,_,hu,_⟩:=h
 obtain⟨l,el⟩:=Ziq hu
 obtain⟨m,em⟩:=ZjA ts
 refine⟨⟨(show ByteArray from n).data.toList,m,l⟩,?_⟩
 show[AV.sc (.string n)]++((Sh.slice .str).enc ts++((Sh.slice Zd9).enc us++[]))=_
 rw[el,em]
 exact congrArg (fun a=>[a,AV.sl .no (rS m),AV.sl .no (rI l)]) (eS_of (show ByteArray from n)).symm
theorem enc_dm {cs:List Value} {x:Zo7.D} (h:Zo7.Is w F cs x):∃d:Dm,Zo7.enc x=eDm d:=by
 obtain⟨n,ts,u⟩:=x
 obtain⟨_,_,_,_,_,_,_,ht,_⟩:=h
 obtain⟨l,_,el⟩:=Zhx (f:=eTr) (fun cs x hx=>enc_tr hx) ht
 refine⟨⟨(show ByteArray from n).data.toList,l⟩,?_⟩
 show[AV.sc (.string n)]++((Sh.slice Zqf).enc ts++[])=_
 rw[el]
 exact congrArg (fun a=>[a,AV.sl .no (l.map eTr)]) (eS_of (show ByteArray from n)).symm
theorem enc_sc {cs:List Value} {x:ZqP.D} (h:ZqP.Is w F cs x):∃s:Sc,ZqP.enc x=eSc s:=by
 obtain⟨ds,ms,u⟩:=x
 obtain⟨_,_,_,hd,_⟩:=h
 obtain⟨l,_,el⟩:=Zhx (f:=eDm) (fun cs x hx=>enc_dm hx) hd
 obtain⟨m,em⟩:=ZjA ms
 refine⟨⟨l,m⟩,?_⟩
 show(Sh.slice Zo7).enc ds++((Sh.slice .str).enc ms++[])=_
 rw[el,em];rfl
end
section
variable {W:World}
theorem arg_fcts {v:Value} {y:(Sh.slice Zik).D} (h:(Sh.slice Zik).Is W (·<W.heap.size) [v] y):∃l:List Fct,VR (Gh.ro (Zjd W)) W (.sl .no (rF l)) v/\∀f∈l,FctIn f:=by
 obtain⟨l,_,e,hi⟩:=Zgi (f:=ZcI) (p:=FctIn) (fun cs x hx=>enc_fct hx) h
 exact⟨l,arg_one (by simp[Zik,agSh,Zio,Zd9,Sh.pos,Sh.size]) h e,hi⟩
end
end Go.Proofs.YtaapiigfmdhobaaGreat
