/- Texts of the walk, joined: A5 A6 A7. -/
import Derived.Test.YtjflognbeehccaaGreatDoorMk
import Derived.Test.YtjflognbeehccaaGreatDoorMd
import Derived.Test.YtjflognbeehccaaGreatDoorMl
namespace Go.Proofs.YtjflognbeehccaaGreatDoor
set_option linter.unusedSimpArgs false
set_option linter.unusedVariables false
open Go.RowKit
theorem stable_n {d:Nat} {op:AOp} {F:Fr} {H:Zaa}:AI.stable ⟨none,some d,op⟩ F H=(op.ev F H=some (Fr.get F d,H)):=by
 simp[AI.stable,AI.want]
theorem stable_g {s d:Nat} {t:Bool} {op:AOp} {F:Fr} {H:Zaa}:AI.stable ⟨some (s,t),some d,op⟩ F H=@GdK (Fr.get F s) t ⟨op.ev F H=some (Fr.get F d,H)⟩ ⟨fun _ _=>True⟩:=by
 simp only[AI.stable,AI.want,GdK]
 cases Fr.get F s with
 | sc v =>
  cases v with
  | bool c=>cases c<;>cases t<;>simp
  | _=>rfl
 | _=>rfl
theorem ZiY {F:Fr} {H:Zaa}:(∀r∈([]:List AI),r.stable F H)=True:=by simp
theorem ZhH {F:Fr} {H:Zaa} {a:AI} {l:List AI}:(∀r∈a :: l,r.stable F H)=(a.stable F H∧∀r∈l,r.stable F H):=by simp
theorem ba_size {l:List UInt8}:(ByteArray.mk l.toArray).size=l.length:=by simp[ByteArray.size]
theorem YE:(∀{l:List UInt8},(ByteArray.mk l.toArray).size=l.length)∧(∀{α β:Type} {f:α→β} {l:List α} {i:Nat},(l.map f)[i]?=(l[i]?).map f)∧(∀{α:Type} {l:List α} {i:Nat} (h:i<l.length),l[i]?=some l[i]) ∧
  (∀{n:Nat},(0≤(n:Int))=True)∧(∀{H:Zaa} {i:Nat} {o o':Zb3},i=H.next→(H.alloc o).set i o'=H.alloc o') ∧
  (∀{d op F H},AI.stable ⟨none,some d,op⟩ F H=(op.ev F H=some (Fr.get F d,H)))∧(∀{s d t op F H},AI.stable ⟨some (s,t),some d,op⟩ F H=@GdK (Fr.get F s) t ⟨op.ev F H=some (Fr.get F d,H)⟩ ⟨fun _ _=>True⟩) ∧
  (∀{F:Fr} {H:Zaa},(∀r∈([]:List AI),r.stable F H)=True)∧(∀{F:Fr} {H:Zaa} {a:AI} {l:List AI},(∀r∈a :: l,r.stable F H)=(a.stable F H∧∀r∈l,r.stable F H)) :=
 ⟨ba_size,List.getElem?_map,List.getElem?_eq_getElem,by simp,ZaM,stable_n,stable_g,ZiY,ZhH⟩
theorem HX.quiet {O:List (Nat×Zb3)} {H G G1:Zaa} (h:HX O H G) (k:HX [] G G1):HX O H G1 :=
 ⟨Nat.le_trans h.n k.n,fun p hp=>(k.g _ (Zaa.lt (h.o p hp)) (by simp)).trans (h.o p hp),fun j hj hne=>(k.g _ (Nat.lt_of_lt_of_le hj h.n) (by simp)).trans (h.g j hj hne)⟩
abbrev Tx:=List UInt8
abbrev eS (l:List UInt8):AV:=.sc (.string ⟨l.toArray⟩)
abbrev rS (l:List Tx):List (List AV):=l.map fun s=>[eS s]
abbrev rI (l:List Int):List (List AV):=l.map fun n=>[AV.i n]
structure Tir where
 name:Tx
 terms:List Tx
 up:List Int
structure Dm where
 name:Tx
 tiers:List Tir
structure Sc where
 dims:List Dm
 meas:List Tx
def eTr (t:Tir):List AV:=[eS t.name,.sl .no (rS t.terms),.sl .no (rI t.up)]
abbrev rT (l:List Tir):List (List AV):=l.map eTr
def eDm (d:Dm):List AV:=[eS d.name,.sl .no (rT d.tiers)]
abbrev rD (l:List Dm):List (List AV):=l.map eDm
def eSc (s:Sc):List AV:=[.sl .no (rD s.dims),.sl .no (rS s.meas)]
theorem Zba (t:Tir):(eTr t).length=3∧(eTr t)[0]?=some (eS t.name)∧(eTr t)[1]?=some (.sl .no (rS t.terms))∧(eTr t)[2]?=some (.sl .no (rI t.up))∧(eTr t).take 3=eTr t:=⟨rfl,rfl,rfl,rfl,rfl⟩
theorem Za7 (d:Dm):(eDm d).length=2∧(eDm d)[0]?=some (eS d.name)∧(eDm d)[1]?=some (.sl .no (rT d.tiers))∧(eDm d).take 2=eDm d:=⟨rfl,rfl,rfl,rfl⟩
theorem Zdh {l:List Tir} {k:Nat} (h:k<l.length):(rT l)[k]?=some (eTr l[k]):=by simp[h]
theorem ZjQ {l:List Dm} {k:Nat} (h:k<l.length):(rD l)[k]?=some (eDm l[k]):=by simp[h]
theorem ZbB (s:Sc):(eSc s).length=2∧(eSc s)[0]?=some (.sl .no (rD s.dims))∧(eSc s)[1]?=some (.sl .no (rS s.meas))∧(eSc s).take 2=eSc s:=⟨rfl,rfl,rfl,rfl⟩
def FewT (t:Tir):Prop:=t.terms.length≤220∧t.up.length≤220
def FewTQ (t:Tir) (H:Zaa) (r:AV) (H':Zaa):Prop:=HX [] H H'∧∃b,r=.b b∧(b=true→FewT t)
set_option maxHeartbeats 1000000 in
theorem Zi5 (t:Tir) (H:Zaa):Zay Tryz.prog 112 [.agg (eTr t)] H (FewTQ t H):=by
 obtain⟨f0,f1,f2,f3,f4⟩:=Zba t
 have hmin:(if (5000:Int)<(t.name.length:Int) then (5000:Int) else (t.name.length:Int))=((min t.name.length 5000:Nat):Int):=by split<;>omega
 have hmin:∀q:List UInt8,(if (5000:Int)<(q.length:Int) then (5000:Int) else (q.length:Int))=((min q.length 5000:Nat):Int):=fun q=>by split<;>omega
 have g1:(H.alloc (.cells (eTr t) 118)).get H.next=some (.cells (eTr t) 118):=Zaa.Zae
 have l1:H.next<(H.alloc (.cells (eTr t) 118)).next:=by simp
 have hx0:HX [] H (H.alloc (.cells (eTr t) 118)):=(HX.ini (by simp[Zc5])).alloc
 refine Zak hE cf112 (Nat.le_of_ble_eq_true rfl) fun Q hQr hQn=>?_
 ((have hd:=trivial;repeat' (first|((first|apply Zad|apply Zac|apply Zab)<;>intro hd<;>(try simp only[hd]))|simp(disch:=first|assumption|omega|(simp only[nx]<;>omega)|fail)only [hd,hQr,hQn,Zpf,↓YA,YB,YC,YE,YF,YZ,sevalprocAttr,f0,f1,f4,hmin]))<;>(try (have hd_:True:=hd;clear hd_ hd)))
 generalize H.alloc (.cells (eTr t) 118)=G0 at *
 refine Zcw [1] (σ:=Nat×Nat) (fun s=>s.1≤t.terms.length∧s.1≤221∧s.2≤(s.1+1) * 5000) (fun s=>t.terms.length - s.1) (fun s=>[(3,.i (s.2:Int)),(4,.i (s.1:Int))]) (fun s=>[]) (0,min t.name.length 5000) (GStep.refl _ _) (by simp only[ZaA,Zav,Fr.put,Fr.get,↓reduceIte,Nat.reduceEqDiff];rfl) ?_ (by simp only[ZaF,ZaX,Fr.put,Fr.get,↓reduceIte,Nat.reduceEqDiff,and_self]<;>simp) (by simp only[ZaJ]) ?_
 ·exact⟨by simp,by simp,by simp only;omega⟩
 ·(rintro⟨i,n⟩ G ⟨h1,h2,h3⟩ hG hn;try simp only[nx]at hn)
  simp only at h1 h2 h3
  have hc1:=(hG.g _ l1 (by simp)).trans g1
  have lc1:=Zaa.lt hc1
  by_cases c1:i<t.terms.length
  ·have d1:decide ((i:Int)<(t.terms.length:Int))=true:=by simp;omega
   by_cases c2:i≤220
   ·have d2:decide ((i:Int)≤220)=true:=by simp;omega
    have h0:(0:Int)≤(i:Int):=by omega
    have hr:(rS t.terms)[i]?=some [eS t.terms[i]]:=by simp[c1]
    have hw1:IntKind.i64.wrap ((n:Int)+((min t.terms[i].length 5000:Nat):Int))=((n+min t.terms[i].length 5000:Nat):Int):=by rw[Zaw (by omega) (by omega)];omega
    have hw2:IntKind.i64.wrap ((i:Int)+1)=((i+1:Nat):Int):=by rw[Zaw (by omega) (by omega)];omega
    ((have hd:=trivial;repeat' (first|((first|apply Zad|apply Zac|apply Zab)<;>intro hd<;>(try simp only[hd]))|simp(disch:=first|assumption|omega|(simp only[nx]<;>omega)|fail)only [hd,hQr,hQn,Zpf,↓YA,YB,YC,YE,YF,YZ,sevalprocAttr,d1,d2,f0,f2,hc1,h0,c1,hr,hmin,hw1,hw2,List.length_map]))<;>(try (have hd_:True:=hd;clear hd_ hd)))
    exact⟨(i+1,n+min t.terms[i].length 5000),⟨by simp only;omega,by simp only;omega,by simp only;omega⟩,by simp only;omega,⟨rfl,rfl⟩,hG⟩
   ·have d2:decide ((i:Int)≤220)=false:=by simp;omega
    have d3:decide ((t.terms.length:Int)≤220)=false:=by simp;omega
    ((have hd:=trivial;repeat' (first|((first|apply Zad|apply Zac|apply Zab)<;>intro hd<;>(try simp only[hd]))|simp(disch:=first|assumption|omega|(simp only[nx]<;>omega)|fail)only [hd,hQr,hQn,Zpf,↓YA,YB,YC,YE,YF,YZ,sevalprocAttr,d1,d2,d3,hc1,f2,f3,List.length_map]))<;>(try (have hd_:True:=hd;clear hd_ hd)))
    exact Zaq ⟨hx0.quiet hG,_,rfl,fun e=>by cases e⟩
  ·have d1:decide ((i:Int)<(t.terms.length:Int))=false:=by simp;omega
   by_cases c3:t.terms.length≤220∧t.up.length≤220
   ·have d3:decide ((t.terms.length:Int)≤220)=true:=by simp;omega
    have d4:decide ((t.up.length:Int)≤220)=true:=by simp;omega
    ((have hd:=trivial;repeat' (first|((first|apply Zad|apply Zac|apply Zab)<;>intro hd<;>(try simp only[hd]))|simp(disch:=first|assumption|omega|(simp only[nx]<;>omega)|fail)only [hd,hQr,hQn,Zpf,↓YA,YB,YC,YE,YF,YZ,sevalprocAttr,d1,d3,d4,hc1,f2,f3,List.length_map]))<;>(try (have hd_:True:=hd;clear hd_ hd)))
    exact Zaq ⟨hx0.quiet hG,_,rfl,fun _=>c3⟩
   ·by_cases c4:t.terms.length≤220
    ·have d3:decide ((t.terms.length:Int)≤220)=true:=by simp;omega
     have d4:decide ((t.up.length:Int)≤220)=false:=by simp;omega
     ((have hd:=trivial;repeat' (first|((first|apply Zad|apply Zac|apply Zab)<;>intro hd<;>(try simp only[hd]))|simp(disch:=first|assumption|omega|(simp only[nx]<;>omega)|fail)only [hd,hQr,hQn,Zpf,↓YA,YB,YC,YE,YF,YZ,sevalprocAttr,d1,d3,d4,hc1,f2,f3,List.length_map]))<;>(try (have hd_:True:=hd;clear hd_ hd)))
     exact Zaq ⟨hx0.quiet hG,_,rfl,fun e=>by cases e⟩
    ·have d3:decide ((t.terms.length:Int)≤220)=false:=by simp;omega
     ((have hd:=trivial;repeat' (first|((first|apply Zad|apply Zac|apply Zab)<;>intro hd<;>(try simp only[hd]))|simp(disch:=first|assumption|omega|(simp only[nx]<;>omega)|fail)only [hd,hQr,hQn,Zpf,↓YA,YB,YC,YE,YF,YZ,sevalprocAttr,d1,d3,hc1,f2,f3,List.length_map]))<;>(try (have hd_:True:=hd;clear hd_ hd)))
     exact Zaq ⟨hx0.quiet hG,_,rfl,fun e=>by cases e⟩
def FewD (d:Dm):Prop:=d.tiers.length≤6∧∀t∈d.tiers,FewT t
def FewDQ (d:Dm) (H:Zaa) (r:AV) (H':Zaa):Prop:=HX [] H H'∧∃b,r=.b b∧(b=true→FewD d)
set_option maxHeartbeats 1000000 in
theorem Zjv (d:Dm) (H:Zaa):Zay Tryz.prog 52 [.agg (eDm d)] H (FewDQ d H):=by
 obtain⟨f0,f1,f2,f3⟩:=Za7 d
 have g1:(H.alloc (.cells (eDm d) 116)).get H.next=some (.cells (eDm d) 116):=Zaa.Zae
 have l1:H.next<(H.alloc (.cells (eDm d) 116)).next:=by simp
 have hx0:HX [] H (H.alloc (.cells (eDm d) 116)):=(HX.ini (by simp[Zc5])).alloc
 refine Zak hE cf52 (Nat.le_of_ble_eq_true rfl) fun Q hQr hQn=>?_
 ((have hd:=trivial;repeat' (first|((first|apply Zad|apply Zac|apply Zab)<;>intro hd<;>(try simp only[hd]))|simp(disch:=first|assumption|omega|(simp only[nx]<;>omega)|fail)only [hd,hQr,hQn,Zjp,↓YA,YB,YC,YE,YF,YZ,sevalprocAttr]))<;>(try (have hd_:True:=hd;clear hd_ hd)))
 generalize H.alloc (.cells (eDm d) 116)=G0 at *
 refine Zcw [1] (σ:=Nat) (fun s=>s≤d.tiers.length∧s≤7∧∀t∈d.tiers.take s,FewT t) (fun s=>d.tiers.length - s) (fun s=>[(3,.i (s:Int))]) (fun s=>[]) 0 (GStep.refl _ _) (by simp only[ZaA,Zav,Fr.put,Fr.get,↓reduceIte,Nat.reduceEqDiff];rfl) ?_ (by simp only[ZaF,ZaX,Fr.put,Fr.get,↓reduceIte,Nat.reduceEqDiff,and_self]<;>simp) (by simp only[ZaJ]) ?_
 ·exact⟨by simp,by simp,by simp⟩
 ·(rintro i G ⟨h1,h2,h3⟩ hG hn;try simp only[nx]at hn)
  have hc1:=(hG.g _ l1 (by simp)).trans g1
  have lc1:=Zaa.lt hc1
  by_cases c1:i<d.tiers.length
  ·have d1:decide ((i:Int)<(d.tiers.length:Int))=true:=by simp;omega
   by_cases c2:i≤6
   ·have d2:decide ((i:Int)≤6)=true:=by simp;omega
    have h0:(0:Int)≤(i:Int):=by omega
    have hr:=Zdh c1
    obtain⟨t0,t1,t2,t3,t4⟩:=Zba d.tiers[i]
    have hw2:IntKind.i64.wrap ((i:Int)+1)=((i+1:Nat):Int):=by rw[Zaw (by omega) (by omega)];omega
    ((have hd:=trivial;repeat' (first|((first|apply Zad|apply Zac|apply Zab)<;>intro hd<;>(try simp only[hd]))|simp(disch:=first|assumption|omega|(simp only[nx]<;>omega)|fail)only [hd,hQr,hQn,Zjp,↓YA,YB,YC,YE,YF,YZ,sevalprocAttr,d1,d2,f2,hc1,h0,c1,hr,t0,t4,hw2,List.length_map]))<;>(try (have hd_:True:=hd;clear hd_ hd)))
    refine Zap.use (Zi5 d.tiers[i] _) ?_
    rintro r G2 ⟨hx2,b,rfl,hb⟩
    cases b with
    | false =>
     ((have hd:=trivial;repeat' (first|((first|apply Zad|apply Zac|apply Zab)<;>intro hd<;>(try simp only[hd]))|simp(disch:=first|assumption|omega|(simp only[nx]<;>omega)|fail)only [hd,hQr,hQn,Zjp,↓YA,YB,YC,YE,YF,YZ,sevalprocAttr]))<;>(try (have hd_:True:=hd;clear hd_ hd)))
     exact Zaq ⟨(hx0.quiet hG).quiet hx2,_,rfl,fun e=>by cases e⟩
    | true =>
     ((have hd:=trivial;repeat' (first|((first|apply Zad|apply Zac|apply Zab)<;>intro hd<;>(try simp only[hd]))|simp(disch:=first|assumption|omega|(simp only[nx]<;>omega)|fail)only [hd,hQr,hQn,Zjp,↓YA,YB,YC,YE,YF,YZ,sevalprocAttr,hw2]))<;>(try (have hd_:True:=hd;clear hd_ hd)))
     refine⟨i+1,⟨by omega,by omega,fun t ht=>?_⟩,by omega,rfl,hG.quiet hx2⟩
     rw[List.take_succ_eq_append_getElem c1]at ht
     rcases List.mem_append.1 ht with ht|ht
     ·exact h3 t ht
     ·rw[List.mem_singleton.1 ht];exact hb rfl
   ·have d2:decide ((i:Int)≤6)=false:=by simp;omega
    have d3:decide ((d.tiers.length:Int)≤6)=false:=by simp;omega
    ((have hd:=trivial;repeat' (first|((first|apply Zad|apply Zac|apply Zab)<;>intro hd<;>(try simp only[hd]))|simp(disch:=first|assumption|omega|(simp only[nx]<;>omega)|fail)only [hd,hQr,hQn,Zjp,↓YA,YB,YC,YE,YF,YZ,sevalprocAttr,d1,d2,d3,hc1,f2,List.length_map]))<;>(try (have hd_:True:=hd;clear hd_ hd)))
    exact Zaq ⟨hx0.quiet hG,_,rfl,fun e=>by cases e⟩
  ·have d1:decide ((i:Int)<(d.tiers.length:Int))=false:=by simp;omega
   by_cases c3:d.tiers.length≤6
   ·have d3:decide ((d.tiers.length:Int)≤6)=true:=by simp;omega
    ((have hd:=trivial;repeat' (first|((first|apply Zad|apply Zac|apply Zab)<;>intro hd<;>(try simp only[hd]))|simp(disch:=first|assumption|omega|(simp only[nx]<;>omega)|fail)only [hd,hQr,hQn,Zjp,↓YA,YB,YC,YE,YF,YZ,sevalprocAttr,d1,d3,hc1,f1,f2,List.length_map]))<;>(try (have hd_:True:=hd;clear hd_ hd)))
    exact Zaq ⟨hx0.quiet hG,_,rfl,fun _=>⟨c3,by rw[List.take_of_length_le (by omega)]at h3;exact h3⟩⟩
   ·have d3:decide ((d.tiers.length:Int)≤6)=false:=by simp;omega
    ((have hd:=trivial;repeat' (first|((first|apply Zad|apply Zac|apply Zab)<;>intro hd<;>(try simp only[hd]))|simp(disch:=first|assumption|omega|(simp only[nx]<;>omega)|fail)only [hd,hQr,hQn,Zjp,↓YA,YB,YC,YE,YF,YZ,sevalprocAttr,d1,d3,hc1,f2,List.length_map]))<;>(try (have hd_:True:=hd;clear hd_ hd)))
    exact Zaq ⟨hx0.quiet hG,_,rfl,fun e=>by cases e⟩
def FewS (S:Sc):Prop:=S.dims.length≤20∧∀d∈S.dims,FewD d
def FewSQ (S:Sc) (H:Zaa) (r:AV) (H':Zaa):Prop:=HX [] H H'∧∃b,r=.b b∧(b=true→FewS S)
set_option maxHeartbeats 2000000 in
theorem ZiT (S:Sc) (H:Zaa):Zay Tryz.prog 15 [.agg (eSc S)] H (FewSQ S H):=by
 obtain⟨f0,f1,f2,f3⟩:=ZbB S
 have g1:(H.alloc (.cells (eSc S) 25)).get H.next=some (.cells (eSc S) 25):=Zaa.Zae
 have l1:H.next<(H.alloc (.cells (eSc S) 25)).next:=by simp
 have hx0:HX [] H (H.alloc (.cells (eSc S) 25)):=(HX.ini (by simp[Zc5])).alloc
 refine Zak hE cf15 (Nat.le_of_ble_eq_true rfl) fun Q hQr hQn=>?_
 ((have hd:=trivial;repeat' (first|((first|apply Zad|apply Zac|apply Zab)<;>intro hd<;>(try simp only[hd]))|simp(disch:=first|assumption|omega|(simp only[nx]<;>omega)|fail)only [hd,hQr,hQn,ZkW,↓YA,YB,YC,YE,YF,YZ,sevalprocAttr]))<;>(try (have hd_:True:=hd;clear hd_ hd)))
 generalize H.alloc (.cells (eSc S) 25)=G0 at *
 refine Zcw [1] (σ:=Nat×Nat) (fun s=>s.1≤S.dims.length∧s.1≤21∧s.2≤s.1 * 1320∧∀d∈S.dims.take s.1,FewD d) (fun s=>S.dims.length - s.1) (fun s=>[(3,.i (s.2:Int)),(4,.i (s.1:Int))]) (fun s=>[]) (0,0) (GStep.refl _ _) (by simp only[ZaA,Zav,Fr.put,Fr.get,↓reduceIte,Nat.reduceEqDiff];rfl) ?_ (by simp only[ZaF,ZaX,Fr.put,Fr.get,↓reduceIte,Nat.reduceEqDiff,and_self]<;>simp) (by simp only[ZaJ]) ?_
 ·exact⟨by simp,by simp,by simp,by simp⟩
 ·(rintro⟨i,n⟩ G ⟨h1,h2,h3,h4⟩ hG hn;try simp only[nx]at hn)
  simp only at h1 h2 h3 h4
  have hc1:=(hG.g _ l1 (by simp)).trans g1
  have lc1:=Zaa.lt hc1
  by_cases c1:i<S.dims.length
  ·have d1:decide ((i:Int)<(S.dims.length:Int))=true:=by simp;omega
   by_cases c2:i≤20
   ·have d2:decide ((i:Int)≤20)=true:=by simp;omega
    have h0:(0:Int)≤(i:Int):=by omega
    have hr:=ZjQ c1
    obtain⟨q0,q1,q2,q3⟩:=Za7 S.dims[i]
    ((have hd:=trivial;repeat' (first|((first|apply Zad|apply Zac|apply Zab)<;>intro hd<;>(try simp only[hd]))|simp(disch:=first|assumption|omega|(simp only[nx]<;>omega)|fail)only [hd,hQr,hQn,ZkW,↓YA,YB,YC,YE,YF,YZ,sevalprocAttr,d1,d2,f1,hc1,h0,c1,hr,q0,q3,List.length_map]))<;>(try (have hd_:True:=hd;clear hd_ hd)))
    refine Zap.use (Zjv S.dims[i] _) ?_
    rintro r G2 ⟨hx2,b,rfl,hb⟩
    cases b with
    | false =>
     ((have hd:=trivial;repeat' (first|((first|apply Zad|apply Zac|apply Zab)<;>intro hd<;>(try simp only[hd]))|simp(disch:=first|assumption|omega|(simp only[nx]<;>omega)|fail)only [hd,hQr,hQn,ZkW,↓YA,YB,YC,YE,YF,YZ,sevalprocAttr]))<;>(try (have hd_:True:=hd;clear hd_ hd)))
     exact Zaq ⟨(hx0.quiet hG).quiet hx2,_,rfl,fun e=>by cases e⟩
    | true =>
     have hb:=hb rfl
     have hc2:=(hx2.g _ lc1 (by simp)).trans hc1
     have lc2:=Zaa.lt hc2
     have hn2:=hx2.n
     generalize hdd:S.dims[i]=d at *
     obtain⟨w1,w2⟩:=hb
     ((have hd:=trivial;repeat' (first|((first|apply Zad|apply Zac|apply Zab)<;>intro hd<;>(try simp only[hd]))|simp(disch:=first|assumption|omega|(simp only[nx]<;>omega)|fail)only [hd,hQr,hQn,ZkW,↓YA,YB,YC,YE,YF,YZ,sevalprocAttr,hc2,f1,c1,hr,q0,q2,h0,List.length_map]))<;>(try (have hd_:True:=hd;clear hd_ hd)))
     refine Zbs [1,4,32,33] (σ:=Nat) (fun(k:Nat) s=>s≤n+k * 220) (fun k s=>[(3,.i (s:Int))]) (fun k s=>[]) n (GStep.refl _ _) (by simp only[ZaA,Zav,Fr.put,Fr.get,↓reduceIte,Nat.reduceEqDiff];rfl) (by intro k s;rfl) (by intro k s;rfl) (by rfl) (by unfold maxLen;omega) ?_ (by simp only[ZaF,ZaX,Fr.put,Fr.get,↓reduceIte,Nat.reduceEqDiff,and_self]<;>simp) (by simp only[ZaJ]) ?_ ?_
     ·simp
     ·(rintro k m G3 hk hm hG3 hn3;try simp only[nx]at hn3)
      have hrt:=Zdh hk
      obtain⟨t0,t1,t2,t3,t4⟩:=Zba d.tiers[k]
      have ht:=(w2 _ (List.getElem_mem hk)).1
      have td:(eTr d.tiers[k]).drop 3=[]:=rfl
      generalize d.tiers[k]=t at *
      have hw1:IntKind.i64.wrap ((m:Int)+(t.terms.length:Int))=((m+t.terms.length:Nat):Int):=by rw[Zaw (by omega) (by omega)];omega
      ((have hd:=trivial;repeat' (first|((first|apply Zad|apply Zac|apply Zab)<;>intro hd<;>(try simp only[hd]))|simp(disch:=first|assumption|omega|(simp only[nx]<;>omega)|fail)only [hd,hQr,hQn,ZkW,↓YA,YB,YC,YE,YF,YZ,sevalprocAttr,hrt,t0,t2,t4,td,hw1,List.append_nil,List.length_map]))<;>(try (have hd_:True:=hd;clear hd_ hd)))
      exact⟨m+t.terms.length,by omega,rfl,hG3.alloc⟩
     ·(rintro m G3 hm hG3 hn3;try simp only[nx]at hn3)
      have hw2:IntKind.i64.wrap ((i:Int)+1)=((i+1:Nat):Int):=by rw[Zaw (by omega) (by omega)];omega
      ((have hd:=trivial;repeat' (first|((first|apply Zad|apply Zac|apply Zab)<;>intro hd<;>(try simp only[hd]))|simp(disch:=first|assumption|omega|(simp only[nx]<;>omega)|fail)only [hd,hQr,hQn,ZkW,↓YA,YB,YC,YE,YF,YZ,sevalprocAttr,hw2]))<;>(try (have hd_:True:=hd;clear hd_ hd)))
      refine⟨(i+1,m),⟨by simp only;omega,by simp only;omega,by simp only;omega,fun e he=>?_⟩,by simp only;omega,⟨rfl,rfl⟩,(hG.quiet hx2).quiet hG3⟩
      rw[List.take_succ_eq_append_getElem c1]at he
      rcases List.mem_append.1 he with he|he
      ·exact h4 e he
      ·rw[List.mem_singleton.1 he,hdd];exact⟨w1,w2⟩
   ·have d2:decide ((i:Int)≤20)=false:=by simp;omega
    have hfew:S.dims.length≤20→FewS S:=fun h=>by omega
    ((have hd:=trivial;repeat' (first|((first|apply Zad|apply Zac|apply Zab)<;>intro hd<;>(try simp only[hd]))|simp(disch:=first|assumption|omega|(simp only[nx]<;>omega)|fail)only [hd,hQr,hQn,ZkW,↓YA,YB,YC,YE,YF,YZ,sevalprocAttr,d1,d2,hc1,f1,List.length_map]))<;>(try (have hd_:True:=hd;clear hd_ hd)))
    refine Zcw [1,3] (σ:=Nat×Nat) (fun s=>s.1≤S.meas.length∧s.1≤6∧s.2≤s.1 * 1000) (fun s=>S.meas.length - s.1) (fun s=>[(7,.i (s.2:Int)),(8,.i (s.1:Int))]) (fun s=>[]) (0,0) (GStep.refl _ _) (by simp only[ZaA,Zav,Fr.put,Fr.get,↓reduceIte,Nat.reduceEqDiff];rfl) ?_ (by simp only[ZaF,ZaX,Fr.put,Fr.get,↓reduceIte,Nat.reduceEqDiff,and_self]<;>simp) (by simp only[ZaJ]) ?_
    ·exact⟨by simp,by simp,by simp⟩
    ·(rintro⟨j,m⟩ G2 ⟨k1,k2,k3⟩ hG2 hn2;try simp only[nx]at hn2)
     simp only at k1 k2 k3
     have hc2:=(hG2.g _ lc1 (by simp)).trans hc1
     have lc2:=Zaa.lt hc2
     have hxx:=(hx0.quiet hG).quiet hG2
     by_cases e1:j<S.meas.length
     ·have g1:decide ((j:Int)<(S.meas.length:Int))=true:=by simp;omega
      by_cases e2:j≤5
      ·have g2:decide ((j:Int)≤5)=true:=by simp;omega
       have h0:(0:Int)≤(j:Int):=by omega
       have hr:(rS S.meas)[j]?=some [eS S.meas[j]]:=by simp[e1]
       have hmin:(if (1000:Int)<(S.meas[j].length:Int) then (1000:Int) else (S.meas[j].length:Int))=((min S.meas[j].length 1000:Nat):Int):=by split<;>omega
       have hw1:IntKind.i64.wrap ((m:Int)+((min S.meas[j].length 1000:Nat):Int))=((m+min S.meas[j].length 1000:Nat):Int):=by rw[Zaw (by omega) (by omega)];omega
       have hw2:IntKind.i64.wrap ((j:Int)+1)=((j+1:Nat):Int):=by rw[Zaw (by omega) (by omega)];omega
       ((have hd:=trivial;repeat' (first|((first|apply Zad|apply Zac|apply Zab)<;>intro hd<;>(try simp only[hd]))|simp(disch:=first|assumption|omega|(simp only[nx]<;>omega)|fail)only [hd,hQr,hQn,ZkW,↓YA,YB,YC,YE,YF,YZ,sevalprocAttr,g1,g2,f2,hc2,h0,e1,hr,hmin,hw1,hw2,List.length_map]))<;>(try (have hd_:True:=hd;clear hd_ hd)))
       exact⟨(j+1,m+min S.meas[j].length 1000),⟨by simp only;omega,by simp only;omega,by simp only;omega⟩,by simp only;omega,⟨rfl,rfl⟩,hG2⟩
      ·have g2:decide ((j:Int)≤5)=false:=by simp;omega
       have g4:decide ((S.meas.length:Int)≤5)=false:=by simp;omega
       by_cases c5:S.dims.length≤20
       ·have d5:decide ((S.dims.length:Int)≤20)=true:=by simp;omega
        ((have hd:=trivial;repeat' (first|((first|apply Zad|apply Zac|apply Zab)<;>intro hd<;>(try simp only[hd]))|simp(disch:=first|assumption|omega|(simp only[nx]<;>omega)|fail)only [hd,hQr,hQn,ZkW,↓YA,YB,YC,YE,YF,YZ,sevalprocAttr,g1,g2,g4,d5,hc2,f1,f2,List.length_map]))<;>(try (have hd_:True:=hd;clear hd_ hd)))
        exact Zaq ⟨hxx,_,rfl,fun e=>by cases e⟩
       ·have d5:decide ((S.dims.length:Int)≤20)=false:=by simp;omega
        ((have hd:=trivial;repeat' (first|((first|apply Zad|apply Zac|apply Zab)<;>intro hd<;>(try simp only[hd]))|simp(disch:=first|assumption|omega|(simp only[nx]<;>omega)|fail)only [hd,hQr,hQn,ZkW,↓YA,YB,YC,YE,YF,YZ,sevalprocAttr,g1,g2,d5,hc2,f1,f2,List.length_map]))<;>(try (have hd_:True:=hd;clear hd_ hd)))
        exact Zaq ⟨hxx,_,rfl,fun e=>by cases e⟩
     ·have g1:decide ((j:Int)<(S.meas.length:Int))=false:=by simp;omega
      by_cases c5:S.dims.length≤20
      ·have d5:decide ((S.dims.length:Int)≤20)=true:=by simp;omega
       ((have hd:=trivial;repeat' (first|((first|apply Zad|apply Zac|apply Zab)<;>intro hd<;>(try simp only[hd]))|simp(disch:=first|assumption|omega|(simp only[nx]<;>omega)|fail)only [hd,hQr,hQn,ZkW,↓YA,YB,YC,YE,YF,YZ,sevalprocAttr,g1,d5,hc2,f1,f2,List.length_map]))<;>(try (have hd_:True:=hd;clear hd_ hd)))
       all_goals exact Zaq ⟨hxx,_,rfl,fun _=>hfew c5⟩
      ·have d5:decide ((S.dims.length:Int)≤20)=false:=by simp;omega
       ((have hd:=trivial;repeat' (first|((first|apply Zad|apply Zac|apply Zab)<;>intro hd<;>(try simp only[hd]))|simp(disch:=first|assumption|omega|(simp only[nx]<;>omega)|fail)only [hd,hQr,hQn,ZkW,↓YA,YB,YC,YE,YF,YZ,sevalprocAttr,g1,d5,hc2,f1,f2,List.length_map]))<;>(try (have hd_:True:=hd;clear hd_ hd)))
       exact Zaq ⟨hxx,_,rfl,fun e=>by cases e⟩
  ·have d1:decide ((i:Int)<(S.dims.length:Int))=false:=by simp;omega
   have hfew:S.dims.length≤20→FewS S:=fun h=>⟨h,by rw[List.take_of_length_le (by omega)]at h4;exact h4⟩
   ((have hd:=trivial;repeat' (first|((first|apply Zad|apply Zac|apply Zab)<;>intro hd<;>(try simp only[hd]))|simp(disch:=first|assumption|omega|(simp only[nx]<;>omega)|fail)only [hd,hQr,hQn,ZkW,↓YA,YB,YC,YE,YF,YZ,sevalprocAttr,d1,hc1,f1,List.length_map]))<;>(try (have hd_:True:=hd;clear hd_ hd)))
   refine Zcw [1,3] (σ:=Nat×Nat) (fun s=>s.1≤S.meas.length∧s.1≤6∧s.2≤s.1 * 1000) (fun s=>S.meas.length - s.1) (fun s=>[(7,.i (s.2:Int)),(8,.i (s.1:Int))]) (fun s=>[]) (0,0) (GStep.refl _ _) (by simp only[ZaA,Zav,Fr.put,Fr.get,↓reduceIte,Nat.reduceEqDiff];rfl) ?_ (by simp only[ZaF,ZaX,Fr.put,Fr.get,↓reduceIte,Nat.reduceEqDiff,and_self]<;>simp) (by simp only[ZaJ]) ?_
   ·exact⟨by simp,by simp,by simp⟩
   ·(rintro⟨j,m⟩ G2 ⟨k1,k2,k3⟩ hG2 hn2;try simp only[nx]at hn2)
    simp only at k1 k2 k3
    have hc2:=(hG2.g _ lc1 (by simp)).trans hc1
    have lc2:=Zaa.lt hc2
    have hxx:=(hx0.quiet hG).quiet hG2
    by_cases e1:j<S.meas.length
    ·have g1:decide ((j:Int)<(S.meas.length:Int))=true:=by simp;omega
     by_cases e2:j≤5
     ·have g2:decide ((j:Int)≤5)=true:=by simp;omega
      have h0:(0:Int)≤(j:Int):=by omega
      have hr:(rS S.meas)[j]?=some [eS S.meas[j]]:=by simp[e1]
      have hmin:(if (1000:Int)<(S.meas[j].length:Int) then (1000:Int) else (S.meas[j].length:Int))=((min S.meas[j].length 1000:Nat):Int):=by split<;>omega
      have hw1:IntKind.i64.wrap ((m:Int)+((min S.meas[j].length 1000:Nat):Int))=((m+min S.meas[j].length 1000:Nat):Int):=by rw[Zaw (by omega) (by omega)];omega
      have hw2:IntKind.i64.wrap ((j:Int)+1)=((j+1:Nat):Int):=by rw[Zaw (by omega) (by omega)];omega
      ((have hd:=trivial;repeat' (first|((first|apply Zad|apply Zac|apply Zab)<;>intro hd<;>(try simp only[hd]))|simp(disch:=first|assumption|omega|(simp only[nx]<;>omega)|fail)only [hd,hQr,hQn,ZkW,↓YA,YB,YC,YE,YF,YZ,sevalprocAttr,g1,g2,f2,hc2,h0,e1,hr,hmin,hw1,hw2,List.length_map]))<;>(try (have hd_:True:=hd;clear hd_ hd)))
      exact⟨(j+1,m+min S.meas[j].length 1000),⟨by simp only;omega,by simp only;omega,by simp only;omega⟩,by simp only;omega,⟨rfl,rfl⟩,hG2⟩
     ·have g2:decide ((j:Int)≤5)=false:=by simp;omega
      have g4:decide ((S.meas.length:Int)≤5)=false:=by simp;omega
      by_cases c5:S.dims.length≤20
      ·have d5:decide ((S.dims.length:Int)≤20)=true:=by simp;omega
       ((have hd:=trivial;repeat' (first|((first|apply Zad|apply Zac|apply Zab)<;>intro hd<;>(try simp only[hd]))|simp(disch:=first|assumption|omega|(simp only[nx]<;>omega)|fail)only [hd,hQr,hQn,ZkW,↓YA,YB,YC,YE,YF,YZ,sevalprocAttr,g1,g2,g4,d5,hc2,f1,f2,List.length_map]))<;>(try (have hd_:True:=hd;clear hd_ hd)))
       exact Zaq ⟨hxx,_,rfl,fun e=>by cases e⟩
      ·have d5:decide ((S.dims.length:Int)≤20)=false:=by simp;omega
       ((have hd:=trivial;repeat' (first|((first|apply Zad|apply Zac|apply Zab)<;>intro hd<;>(try simp only[hd]))|simp(disch:=first|assumption|omega|(simp only[nx]<;>omega)|fail)only [hd,hQr,hQn,ZkW,↓YA,YB,YC,YE,YF,YZ,sevalprocAttr,g1,g2,d5,hc2,f1,f2,List.length_map]))<;>(try (have hd_:True:=hd;clear hd_ hd)))
       exact Zaq ⟨hxx,_,rfl,fun e=>by cases e⟩
    ·have g1:decide ((j:Int)<(S.meas.length:Int))=false:=by simp;omega
     by_cases c5:S.dims.length≤20
     ·have d5:decide ((S.dims.length:Int)≤20)=true:=by simp;omega
      ((have hd:=trivial;repeat' (first|((first|apply Zad|apply Zac|apply Zab)<;>intro hd<;>(try simp only[hd]))|simp(disch:=first|assumption|omega|(simp only[nx]<;>omega)|fail)only [hd,hQr,hQn,ZkW,↓YA,YB,YC,YE,YF,YZ,sevalprocAttr,g1,d5,hc2,f1,f2,List.length_map]))<;>(try (have hd_:True:=hd;clear hd_ hd)))
      all_goals exact Zaq ⟨hxx,_,rfl,fun _=>hfew c5⟩
     ·have d5:decide ((S.dims.length:Int)≤20)=false:=by simp;omega
      ((have hd:=trivial;repeat' (first|((first|apply Zad|apply Zac|apply Zab)<;>intro hd<;>(try simp only[hd]))|simp(disch:=first|assumption|omega|(simp only[nx]<;>omega)|fail)only [hd,hQr,hQn,ZkW,↓YA,YB,YC,YE,YF,YZ,sevalprocAttr,g1,d5,hc2,f1,f2,List.length_map]))<;>(try (have hd_:True:=hd;clear hd_ hd)))
      exact Zaq ⟨hxx,_,rfl,fun e=>by cases e⟩
abbrev NoP (p:AV) (H:Zaa):Prop:=p=.sc (.pointer none)∨∃id,p=.ptr id 0∧H.get id=some (.cells zl0 41)
theorem NoP.ext {p:AV} {H G:Zaa} (h:NoP p H) (hx:Zaa.Ext H G):NoP p G:=by
 rcases h with h|⟨id,h1,h2⟩
 ·exact .inl h
 ·exact .inr ⟨id,h1,hx.get _ _ h2⟩
theorem nThere {p:AV} (H:Zaa) (h:NoP p H):Zay Tryz.prog 88 [p] H (Pure H (.b false)):=by
 rcases h with rfl|⟨id,rfl,hg⟩
 ·refine Zak hE cf88 (Nat.le_of_ble_eq_true rfl) fun Q hQr hQn=>?_
  ((have hd:=trivial;repeat' (first|((first|apply Zad|apply Zac|apply Zab)<;>intro hd<;>(try simp only[hd]))|simp(disch:=first|assumption|omega|(simp only[nx]<;>omega)|fail)only [hd,hQr,hQn,ZdA,↓YA,YB,YC,YE,YF,YZ,sevalprocAttr]))<;>(try (have hd_:True:=hd;clear hd_ hd)))
  refine ZbC (by rfl)
 ·have hl:=Zaa.lt hg
  refine Zak hE cf88 (Nat.le_of_ble_eq_true rfl) fun Q hQr hQn=>?_
  ((have hd:=trivial;repeat' (first|((first|apply Zad|apply Zac|apply Zab)<;>intro hd<;>(try simp only[hd]))|simp(disch:=first|assumption|omega|(simp only[nx]<;>omega)|fail)only [hd,hQr,hQn,ZdA,↓YA,YB,YC,YE,YF,YZ,sevalprocAttr,hg]))<;>(try (have hd_:True:=hd;clear hd_ hd)))
  refine ZbC (by rfl)
theorem nReady {p:AV} (H:Zaa) (h:NoP p H):Zay Tryz.prog 72 [p] H (Pure H (.i 1)):=by
 refine Zak hE cf72 (Nat.le_of_ble_eq_true rfl) fun Q hQr hQn=>?_
 ((have hd:=trivial;repeat' (first|((first|apply Zad|apply Zac|apply Zab)<;>intro hd<;>(try simp only[hd]))|simp(disch:=first|assumption|omega|(simp only[nx]<;>omega)|fail)only [hd,hQr,hQn,ZhM,↓YA,YB,YC,YE,YF,YZ,sevalprocAttr]))<;>(try (have hd_:True:=hd;clear hd_ hd)))
 (refine Zap.use (nThere _ h) ?_;rintro _ _ ⟨rfl,k1,rfl⟩)
 ((have hd:=trivial;repeat' (first|((first|apply Zad|apply Zac|apply Zab)<;>intro hd<;>(try simp only[hd]))|simp(disch:=first|assumption|omega|(simp only[nx]<;>omega)|fail)only [hd,hQr,hQn,ZhM,↓YA,YB,YC,YE,YF,YZ,sevalprocAttr]))<;>(try (have hd_:True:=hd;clear hd_ hd)))
 refine Zaz (by rfl)
theorem nCatalog {p:AV} (H:Zaa) (h:NoP p H):Zay Tryz.prog 26 [p] H (Pure H (.tup [.sc (.string ⟨#[]⟩),.i 1])):=by
 refine Zak hE cf26 (Nat.le_of_ble_eq_true rfl) fun Q hQr hQn=>?_
 ((have hd:=trivial;repeat' (first|((first|apply Zad|apply Zac|apply Zab)<;>intro hd<;>(try simp only[hd]))|simp(disch:=first|assumption|omega|(simp only[nx]<;>omega)|fail)only [hd,hQr,hQn,c26_0,↓YA,YB,YC,YE,YF,YZ,sevalprocAttr]))<;>(try (have hd_:True:=hd;clear hd_ hd)))
 (refine Zap.use (nReady _ h) ?_;rintro _ _ ⟨rfl,k1,rfl⟩)
 ((have hd:=trivial;repeat' (first|((first|apply Zad|apply Zac|apply Zab)<;>intro hd<;>(try simp only[hd]))|simp(disch:=first|assumption|omega|(simp only[nx]<;>omega)|fail)only [hd,hQr,hQn,c26_0,↓YA,YB,YC,YE,YF,YZ,sevalprocAttr]))<;>(try (have hd_:True:=hd;clear hd_ hd)))
 refine Zcm (by rfl)
theorem nBytes {p:AV} (x y:AV) (H:Zaa) (h:NoP p H):Zay Tryz.prog 81 [p,x,y] H (Pure H (.tup [.sc (.string ⟨#[]⟩),.i 1])):=by
 refine Zak hE cf81 (Nat.le_of_ble_eq_true rfl) fun Q hQr hQn=>?_
 ((have hd:=trivial;repeat' (first|((first|apply Zad|apply Zac|apply Zab)<;>intro hd<;>(try simp only[hd]))|simp(disch:=first|assumption|omega|(simp only[nx]<;>omega)|fail)only [hd,hQr,hQn,c81_0,↓YA,YB,YC,YE,YF,YZ,sevalprocAttr]))<;>(try (have hd_:True:=hd;clear hd_ hd)))
 (refine Zap.use (nReady _ h) ?_;rintro _ _ ⟨rfl,k1,rfl⟩)
 ((have hd:=trivial;repeat' (first|((first|apply Zad|apply Zac|apply Zab)<;>intro hd<;>(try simp only[hd]))|simp(disch:=first|assumption|omega|(simp only[nx]<;>omega)|fail)only [hd,hQr,hQn,c81_0,↓YA,YB,YC,YE,YF,YZ,sevalprocAttr]))<;>(try (have hd_:True:=hd;clear hd_ hd)))
 refine Zcm (by rfl)
theorem nRoot {p:AV} (H:Zaa) (h:NoP p H):Zay Tryz.prog 32 [p] H (Pure H za5):=by
 refine Zak hE cf32 (Nat.le_of_ble_eq_true rfl) fun Q hQr hQn=>?_
 ((have hd:=trivial;repeat' (first|((first|apply Zad|apply Zac|apply Zab)<;>intro hd<;>(try simp only[hd]))|simp(disch:=first|assumption|omega|(simp only[nx]<;>omega)|fail)only [hd,hQr,hQn,Znk,↓YA,YB,YC,YE,YF,YZ,sevalprocAttr]))<;>(try (have hd_:True:=hd;clear hd_ hd)))
 (refine Zap.use (nThere _ (h.ext (by exact AXT))) ?_;rintro _ _ ⟨rfl,k1,rfl⟩)
 ((have hd:=trivial;repeat' (first|((first|apply Zad|apply Zac|apply Zab)<;>intro hd<;>(try simp only[hd]))|simp(disch:=first|assumption|omega|(simp only[nx]<;>omega)|fail)only [hd,hQr,hQn,Znk,↓YA,YB,YC,YE,YF,YZ,sevalprocAttr]))<;>(try (have hd_:True:=hd;clear hd_ hd)))
 refine Zcm (by rfl)
theorem nNodes {p:AV} (H:Zaa) (h:NoP p H):Zay Tryz.prog 29 [p] H (Pure H (.tup [.sc (.string ⟨#[]⟩),.i 1])):=by
 refine Zak hE cf29 (Nat.le_of_ble_eq_true rfl) fun Q hQr hQn=>?_
 ((have hd:=trivial;repeat' (first|((first|apply Zad|apply Zac|apply Zab)<;>intro hd<;>(try simp only[hd]))|simp(disch:=first|assumption|omega|(simp only[nx]<;>omega)|fail)only [hd,hQr,hQn,ZoU,↓YA,YB,YC,YE,YF,YZ,sevalprocAttr]))<;>(try (have hd_:True:=hd;clear hd_ hd)))
 (refine Zap.use (nRoot _ h) ?_;rintro _ _ ⟨rfl,k1,rfl⟩)
 ((have hd:=trivial;repeat' (first|((first|apply Zad|apply Zac|apply Zab)<;>intro hd<;>(try simp only[hd]))|simp(disch:=first|assumption|omega|(simp only[nx]<;>omega)|fail)only [hd,hQr,hQn,ZoU,↓YA,YB,YC,YE,YF,YZ,sevalprocAttr]))<;>(try (have hd_:True:=hd;clear hd_ hd)))
 (refine Zap.use (nBytes _ _ _ (h.ext (by exact AXT))) ?_;rintro _ _ ⟨rfl,k2,rfl⟩)
 ((have hd:=trivial;repeat' (first|((first|apply Zad|apply Zac|apply Zab)<;>intro hd<;>(try simp only[hd]))|simp(disch:=first|assumption|omega|(simp only[nx]<;>omega)|fail)only [hd,hQr,hQn,ZoU,↓YA,YB,YC,YE,YF,YZ,sevalprocAttr]))<;>(try (have hd_:True:=hd;clear hd_ hd)))
 refine Zcm (by rfl)
theorem nTold (H:Zaa):Zay Tryz.prog 27 [.i 1] H (Pure H (.i 1)):=by
 refine Zak hE cf27 (Nat.le_of_ble_eq_true rfl) fun Q hQr hQn=>?_
 ((have hd:=trivial;repeat' (first|((first|apply Zad|apply Zac|apply Zab)<;>intro hd<;>(try simp only[hd]))|simp(disch:=first|assumption|omega|(simp only[nx]<;>omega)|fail)only [hd,hQr,hQn,Zdp,↓YA,YB,YC,YE,YF,YZ,sevalprocAttr]))<;>(try (have hd_:True:=hd;clear hd_ hd)))
 refine Zaz (by rfl)
abbrev zaW:AV:=.agg [.sl .no [],.sl .no [],.i 0,.i 0,.i 0,.i 0,.i 0,.i 0,.i 0]
theorem Zw8 {p:AV} (H:Zaa) (h:NoP p H):Zay Tryz.prog 7 [p] H (Pure H (.tup [zaW,.i 1])):=by
 refine Zak hE cf7 (Nat.le_of_ble_eq_true rfl) fun Q hQr hQn=>?_
 ((have hd:=trivial;repeat' (first|((first|apply Zad|apply Zac|apply Zab)<;>intro hd<;>(try simp only[hd]))|simp(disch:=first|assumption|omega|(simp only[nx]<;>omega)|fail)only [hd,hQr,hQn,c7_0,↓YA,YB,YC,YE,YF,YZ,sevalprocAttr]))<;>(try (have hd_:True:=hd;clear hd_ hd)))
 (refine Zap.use (nCatalog _ (h.ext (by exact AXT))) ?_;rintro _ _ ⟨rfl,k1,rfl⟩)
 ((have hd:=trivial;repeat' (first|((first|apply Zad|apply Zac|apply Zab)<;>intro hd<;>(try simp only[hd]))|simp(disch:=first|assumption|omega|(simp only[nx]<;>omega)|fail)only [hd,hQr,hQn,c7_0,↓YA,YB,YC,YE,YF,YZ,sevalprocAttr]))<;>(try (have hd_:True:=hd;clear hd_ hd)))
 (refine Zap.use (nTold _) ?_;rintro _ _ ⟨rfl,k2,rfl⟩)
 ((have hd:=trivial;repeat' (first|((first|apply Zad|apply Zac|apply Zab)<;>intro hd<;>(try simp only[hd]))|simp(disch:=first|assumption|omega|(simp only[nx]<;>omega)|fail)only [hd,hQr,hQn,c7_0,↓YA,YB,YC,YE,YF,YZ,sevalprocAttr]))<;>(try (have hd_:True:=hd;clear hd_ hd)))
 refine Zcm (by rfl)
theorem nvCube {p:AV} (c:List AV) (H:Zaa) (h:NoP p H):Zay Tryz.prog 8 [p,.agg c] H (Pure H (.tup [.sc (.pointer none),.i 1])):=by
 refine Zak hE cf8 (Nat.le_of_ble_eq_true rfl) fun Q hQr hQn=>?_
 ((have hd:=trivial;repeat' (first|((first|apply Zad|apply Zac|apply Zab)<;>intro hd<;>(try simp only[hd]))|simp(disch:=first|assumption|omega|(simp only[nx]<;>omega)|fail)only [hd,hQr,hQn,Ztx,↓YA,YB,YC,YE,YF,YZ,sevalprocAttr]))<;>(try (have hd_:True:=hd;clear hd_ hd)))
 (refine Zap.use (nNodes _ (h.ext (by exact AXT))) ?_;rintro _ _ ⟨rfl,k1,rfl⟩)
 ((have hd:=trivial;repeat' (first|((first|apply Zad|apply Zac|apply Zab)<;>intro hd<;>(try simp only[hd]))|simp(disch:=first|assumption|omega|(simp only[nx]<;>omega)|fail)only [hd,hQr,hQn,Ztx,↓YA,YB,YC,YE,YF,YZ,sevalprocAttr]))<;>(try (have hd_:True:=hd;clear hd_ hd)))
 (refine Zap.use (nTold _) ?_;rintro _ _ ⟨rfl,k2,rfl⟩)
 ((have hd:=trivial;repeat' (first|((first|apply Zad|apply Zac|apply Zab)<;>intro hd<;>(try simp only[hd]))|simp(disch:=first|assumption|omega|(simp only[nx]<;>omega)|fail)only [hd,hQr,hQn,Ztx,↓YA,YB,YC,YE,YF,YZ,sevalprocAttr]))<;>(try (have hd_:True:=hd;clear hd_ hd)))
 refine Zcm (by rfl)
theorem nvOpen {p:AV} (H:Zaa) (h:NoP p H):Zay Tryz.prog 9 [p] H (Pure H (.tup [zaW,.sc (.pointer none),.i 1])):=by
 refine Zak hE cf9 (Nat.le_of_ble_eq_true rfl) fun Q hQr hQn=>?_
 ((have hd:=trivial;repeat' (first|((first|apply Zad|apply Zac|apply Zab)<;>intro hd<;>(try simp only[hd]))|simp(disch:=first|assumption|omega|(simp only[nx]<;>omega)|fail)only [hd,hQr,hQn,Zq4,↓YA,YB,YC,YE,YF,YZ,sevalprocAttr]))<;>(try (have hd_:True:=hd;clear hd_ hd)))
 (refine Zap.use (Zw8 _ (h.ext (by exact AXT))) ?_;rintro _ _ ⟨rfl,k1,rfl⟩)
 ((have hd:=trivial;repeat' (first|((first|apply Zad|apply Zac|apply Zab)<;>intro hd<;>(try simp only[hd]))|simp(disch:=first|assumption|omega|(simp only[nx]<;>omega)|fail)only [hd,hQr,hQn,Zq4,↓YA,YB,YC,YE,YF,YZ,sevalprocAttr]))<;>(try (have hd_:True:=hd;clear hd_ hd)))
 refine Zcm (by rfl)
abbrev catL (S:Sc) (a0 a1 a2 a3 a4 a5 a6:AV):List AV:=[.sl .no (rD S.dims),.sl .no (rS S.meas),a0,a1,a2,a3,a4,a5,a6]
def FewBQ (H:Zaa) (r:AV) (H':Zaa):Prop:=HX [] H H'∧∃b,r=.b b
theorem Zxb (S:Sc) (a0 a1 a2 a3 a4 a5 a6:AV) (H:Zaa):Zay Tryz.prog 5 [.agg (catL S a0 a1 a2 a3 a4 a5 a6)] H (FewBQ H):=by
 have hx0:HX [] H (H.alloc (.cells (catL S a0 a1 a2 a3 a4 a5 a6) 30)):=(HX.ini (by simp[Zc5])).alloc
 refine Zak hE cf5 (Nat.le_of_ble_eq_true rfl) fun Q hQr hQn=>?_
 ((have hd:=trivial;repeat' (first|((first|apply Zad|apply Zac|apply Zab)<;>intro hd<;>(try simp only[hd]))|simp(disch:=first|assumption|omega|(simp only[nx]<;>omega)|fail)only [hd,hQr,hQn,Zc0,↓YA,YB,YC,YE,YF,YZ,sevalprocAttr]))<;>(try (have hd_:True:=hd;clear hd_ hd)))
 refine Zap.use (ZiT S _) ?_
 rintro r G ⟨hG,b,rfl,_⟩
 ((have hd:=trivial;repeat' (first|((first|apply Zad|apply Zac|apply Zab)<;>intro hd<;>(try simp only[hd]))|simp(disch:=first|assumption|omega|(simp only[nx]<;>omega)|fail)only [hd,hQr,hQn,Zc0,↓YA,YB,YC,YE,YF,YZ,sevalprocAttr]))<;>(try (have hd_:True:=hd;clear hd_ hd)))
 exact Zaq ⟨hx0.quiet hG,_,rfl⟩
theorem Zw9 (H:Zaa):Zay Tryz.prog 6 [] H (Pure H (.b true)):=(awake41 H).mono fun r H' ⟨h1,h2⟩=>⟨h1,0,by rw[h2];exact Zxl.symm⟩
set_option maxHeartbeats 4000000 in
theorem Zxf (S:Sc) (a0 a1 a2 a3 a4 a5 a6:AV) (there:Bool) (H:Zaa):Zay Tryz.prog 3 [.agg (catL S a0 a1 a2 a3 a4 a5 a6),.b there] H fun r _=>r=.b true:=by
 have g1:(H.alloc (.cells (catL S a0 a1 a2 a3 a4 a5 a6) 30)).get H.next=some (.cells (catL S a0 a1 a2 a3 a4 a5 a6) 30):=Zaa.Zae
 have l1:H.next<(H.alloc (.cells (catL S a0 a1 a2 a3 a4 a5 a6) 30)).next:=by simp
 refine Zak hE cf3 (Nat.le_of_ble_eq_true rfl) fun Q hQr hQn=>?_
 ((have hd:=trivial;repeat' (first|((first|apply Zad|apply Zac|apply Zab)<;>intro hd<;>(try simp only[hd]))|simp(disch:=first|assumption|omega|(simp only[nx]<;>omega)|fail)only [hd,hQr,hQn,Zxe,↓YA,YB,YC,YE,YF,YZ,sevalprocAttr]))<;>(try (have hd_:True:=hd;clear hd_ hd)))
 generalize H.alloc (.cells (catL S a0 a1 a2 a3 a4 a5 a6) 30)=G0 at *
 refine Zap.use (Zxb S a0 a1 a2 a3 a4 a5 a6 _) ?_
 rintro r G ⟨hG,q,rfl⟩
 have hc1:=(hG.g _ l1 (by simp)).trans g1
 have lc1:=Zaa.lt hc1
 clear hG g1
 cases q with
 | false =>
  ((have hd:=trivial;repeat' (first|((first|apply Zad|apply Zac|apply Zab)<;>intro hd<;>(try simp only[hd]))|simp(disch:=first|assumption|omega|(simp only[nx]<;>omega)|fail)only [hd,hQr,hQn,Zxe,↓YA,YB,YC,YE,YF,YZ,sevalprocAttr]))<;>(try (have hd_:True:=hd;clear hd_ hd)))
  (refine Zap.use (Zw9 _) ?_;rintro _ _ ⟨rfl,k1,rfl⟩)
  ((have hd:=trivial;repeat' (first|((first|apply Zad|apply Zac|apply Zab)<;>intro hd<;>(try simp only[hd]))|simp(disch:=first|assumption|omega|(simp only[nx]<;>omega)|fail)only [hd,hQr,hQn,Zxe,↓YA,YB,YC,YE,YF,YZ,sevalprocAttr]))<;>(try (have hd_:True:=hd;clear hd_ hd)))
  exact Zaq rfl
 | true =>
  cases there with
  | false =>
   ((have hd:=trivial;repeat' (first|((first|apply Zad|apply Zac|apply Zab)<;>intro hd<;>(try simp only[hd]))|simp(disch:=first|assumption|omega|(simp only[nx]<;>omega)|fail)only [hd,hQr,hQn,Zxe,↓YA,YB,YC,YE,YF,YZ,sevalprocAttr]))<;>(try (have hd_:True:=hd;clear hd_ hd)))
   (refine Zap.use (Zw8 _ (.inl rfl)) ?_;rintro _ _ ⟨rfl,k1,rfl⟩)
   ((have hd:=trivial;repeat' (first|((first|apply Zad|apply Zac|apply Zab)<;>intro hd<;>(try simp only[hd]))|simp(disch:=first|assumption|omega|(simp only[nx]<;>omega)|fail)only [hd,hQr,hQn,Zxe,↓YA,YB,YC,YE,YF,YZ,sevalprocAttr,hc1]))<;>(try (have hd_:True:=hd;clear hd_ hd)))
   (refine Zap.use (nvCube _ _ (.inl rfl)) ?_;rintro _ _ ⟨rfl,k2,rfl⟩)
   ((have hd:=trivial;repeat' (first|((first|apply Zad|apply Zac|apply Zab)<;>intro hd<;>(try simp only[hd]))|simp(disch:=first|assumption|omega|(simp only[nx]<;>omega)|fail)only [hd,hQr,hQn,Zxe,↓YA,YB,YC,YE,YF,YZ,sevalprocAttr,hc1]))<;>(try (have hd_:True:=hd;clear hd_ hd)))
   (refine Zap.use (nvOpen _ (.inl rfl)) ?_;rintro _ _ ⟨rfl,k3,rfl⟩)
   ((have hd:=trivial;repeat' (first|((first|apply Zad|apply Zac|apply Zab)<;>intro hd<;>(try simp only[hd]))|simp(disch:=first|assumption|omega|(simp only[nx]<;>omega)|fail)only [hd,hQr,hQn,Zxe,↓YA,YB,YC,YE,YF,YZ,sevalprocAttr,hc1]))<;>(try (have hd_:True:=hd;clear hd_ hd)))
   ·(refine Zap.use (Zw9 _) ?_;rintro _ _ ⟨rfl,k4,rfl⟩)
    ((have hd:=trivial;repeat' (first|((first|apply Zad|apply Zac|apply Zab)<;>intro hd<;>(try simp only[hd]))|simp(disch:=first|assumption|omega|(simp only[nx]<;>omega)|fail)only [hd,hQr,hQn,Zxe,↓YA,YB,YC,YE,YF,YZ,sevalprocAttr]))<;>(try (have hd_:True:=hd;clear hd_ hd)))
    exact Zaq rfl
   all_goals exact absurd hd (by decide)
  | true =>
   have hN0:NoP (.ptr G.next 0) (G.alloc (.cells zl0 41)):=.inr ⟨G.next,rfl,Zaa.Zae⟩
   have hN:∀{G2},Zaa.Ext (G.alloc (.cells zl0 41)) G2→NoP (.ptr G.next 0) G2:=fun h=>hN0.ext h
   ((have hd:=trivial;repeat' (first|((first|apply Zad|apply Zac|apply Zab)<;>intro hd<;>(try simp only[hd]))|simp(disch:=first|assumption|omega|(simp only[nx]<;>omega)|fail)only [hd,hQr,hQn,Zxe,↓YA,YB,YC,YE,YF,YZ,sevalprocAttr]))<;>(try (have hd_:True:=hd;clear hd_ hd)))
   (refine Zap.use (Zw8 _ (hN (by exact AXT))) ?_;rintro _ _ ⟨rfl,k1,rfl⟩)
   ((have hd:=trivial;repeat' (first|((first|apply Zad|apply Zac|apply Zab)<;>intro hd<;>(try simp only[hd]))|simp(disch:=first|assumption|omega|(simp only[nx]<;>omega)|fail)only [hd,hQr,hQn,Zxe,↓YA,YB,YC,YE,YF,YZ,sevalprocAttr,hc1]))<;>(try (have hd_:True:=hd;clear hd_ hd)))
   (refine Zap.use (nvCube _ _ (hN (by exact AXT))) ?_;rintro _ _ ⟨rfl,k2,rfl⟩)
   ((have hd:=trivial;repeat' (first|((first|apply Zad|apply Zac|apply Zab)<;>intro hd<;>(try simp only[hd]))|simp(disch:=first|assumption|omega|(simp only[nx]<;>omega)|fail)only [hd,hQr,hQn,Zxe,↓YA,YB,YC,YE,YF,YZ,sevalprocAttr,hc1]))<;>(try (have hd_:True:=hd;clear hd_ hd)))
   (refine Zap.use (nvOpen _ (hN (by exact AXT))) ?_;rintro _ _ ⟨rfl,k3,rfl⟩)
   ((have hd:=trivial;repeat' (first|((first|apply Zad|apply Zac|apply Zab)<;>intro hd<;>(try simp only[hd]))|simp(disch:=first|assumption|omega|(simp only[nx]<;>omega)|fail)only [hd,hQr,hQn,Zxe,↓YA,YB,YC,YE,YF,YZ,sevalprocAttr,hc1]))<;>(try (have hd_:True:=hd;clear hd_ hd)))
   ·(refine Zap.use (Zw9 _) ?_;rintro _ _ ⟨rfl,k4,rfl⟩)
    ((have hd:=trivial;repeat' (first|((first|apply Zad|apply Zac|apply Zab)<;>intro hd<;>(try simp only[hd]))|simp(disch:=first|assumption|omega|(simp only[nx]<;>omega)|fail)only [hd,hQr,hQn,Zxe,↓YA,YB,YC,YE,YF,YZ,sevalprocAttr]))<;>(try (have hd_:True:=hd;clear hd_ hd)))
    exact Zaq rfl
   all_goals exact absurd hd (by decide)
def Zd9:Sh:=.int .i64
def Zqf:Sh:=.pair .str (.pair (.slice .str) (.pair (.slice Zd9) .unit))
def Zo7:Sh:=.pair .str (.pair (.slice Zqf) .unit)
def ZqP:Sh:=.pair (.slice Zo7) (.pair (.slice .str) .unit)
def Zxa:Sh:=.pair Zd9 (.pair Zd9 .unit)
def Zxc:Sh:=.pair ZqP (.pair Zd9 (.pair (.arr 3 Zxa) .unit))
theorem Zis:(Sh.slice Zd9).Fits Tryz.prog (.inl 37):=⟨3,Tryz.underlying37,by kernel_rfl,by decide,Tryz.underlying3⟩
theorem Zid:(Sh.slice .str).Fits Tryz.prog (.inl 23):=⟨9,Tryz.underlying23,by kernel_rfl,by decide,Tryz.underlying9⟩
theorem fits_tr:Zqf.Fits Tryz.prog (.inl 118) :=
 ⟨_,_,Tryz.underlying118,by kernel_rfl,rfl,by kernel_rfl,Tryz.underlying9,_,_,rfl,rfl,by kernel_rfl,Zid,_,_,rfl,rfl,by kernel_rfl,Zis,rfl⟩
theorem fits_trs:(Sh.slice Zqf).Fits Tryz.prog (.inl 114):=⟨118,Tryz.underlying114,by kernel_rfl,by decide,fits_tr⟩
theorem fits_dm:Zo7.Fits Tryz.prog (.inl 116) :=
 ⟨_,_,Tryz.underlying116,by kernel_rfl,rfl,by kernel_rfl,Tryz.underlying9,_,_,rfl,rfl,by kernel_rfl,fits_trs,rfl⟩
theorem fits_dms:(Sh.slice Zo7).Fits Tryz.prog (.inl 22):=⟨116,Tryz.underlying22,by kernel_rfl,by decide,fits_dm⟩
theorem fits_sc:ZqP.Fits Tryz.prog (.inl 25) :=
 ⟨_,_,Tryz.underlying25,by kernel_rfl,rfl,by kernel_rfl,fits_dms,_,_,rfl,rfl,by kernel_rfl,Zid,rfl⟩
theorem fits_tot:Zxa.Fits Tryz.prog (.inl 27) :=
 ⟨_,_,Tryz.underlying27,by kernel_rfl,rfl,by kernel_rfl,Tryz.underlying2,_,_,rfl,rfl,by kernel_rfl,Tryz.underlying2,rfl⟩
theorem Zxj:(Sh.arr 3 Zxa).Fits Tryz.prog (.inl 28):=⟨27,Tryz.underlying28,by kernel_rfl,by kernel_rfl,fits_tot⟩
theorem fits_cat:Zxc.Fits Tryz.prog (.inl 30) :=
 ⟨_,_,Tryz.underlying30,by kernel_rfl,rfl,by kernel_rfl,fits_sc,_,_,rfl,rfl,by kernel_rfl,Tryz.underlying3,_,_,rfl,rfl,by kernel_rfl,Zxj,rfl⟩
theorem eS_of (s:ByteArray):eS s.data.toList=.sc (.string s):=by cases s;rfl
section
variable {w:World} {F:Nat→Prop}
theorem Zhx {s:Sh} {α:Type} {f:α→List AV} (he:∀cs x,s.Is w F cs x→∃a,s.enc x=f a) {cs:List Value} {x:(Sh.slice s).D} (h:(Sh.slice s).Is w F cs x):∃l:List α,l.length≤maxLen∧(Sh.slice s).enc x=[.sl .no (l.map f)]:=by
 obtain⟨A,c,css,_,h1,h2,h3,_,h5⟩:=h
 have:∀(l:List s.D),(∀x∈l,∃a,s.enc x=f a)→∃m:List α,m.length=l.length∧l.map s.enc=m.map f:=by
  intro l
  induction l with
  | nil=>intro _;exact⟨[],rfl,rfl⟩
  | cons y l ih =>
   intro hl
   obtain⟨a,ha⟩:=hl y List.mem_cons_self
   obtain⟨m,hm,e⟩:=ih fun z hz=>hl z (List.mem_cons_of_mem _ hz)
   exact⟨a :: m,by simp[hm],by simp[ha,e]⟩
 obtain⟨m,hm,e⟩:=this x fun y hy=>by
  obtain⟨i,hi,rfl⟩:=List.getElem_of_mem hy
  have hi2:i<css.length:=by rw[h3];exact hi
  exact he css[i] _ (h5 i _ _ (List.getElem?_eq_getElem hi2) (List.getElem?_eq_getElem hi))
 refine⟨m,by rw[hm];exact Nat.le_trans h1 h2,?_⟩
 show[AV.sl .no (List.map s.enc x)]=_
 rw[e]
theorem enc_ints {cs:List Value} {x:(Sh.slice Zd9).D} (h:(Sh.slice Zd9).Is w F cs x):∃l:List Int,(Sh.slice Zd9).enc x=[.sl .no (rI l)]:=by
 obtain⟨l,_,e⟩:=Zhx (s:=Zd9) (f:=fun n=>[AV.i n]) (fun cs x hx=>⟨x,rfl⟩) h
 exact⟨l,e⟩
theorem ZjA (y:(Sh.slice .str).D):∃l:List Tx,(Sh.slice .str).enc y=[.sl .no (rS l)]:=by
 refine⟨(show List ByteArray from y).map fun s=>s.data.toList,?_⟩
 show[AV.sl .no ((show List ByteArray from y).map fun s=>[.sc (.string s)])]=_
 congr 2
 rw[rS,List.map_map]
 refine List.map_congr_left fun s _=>?_
 show _=[eS s.data.toList]
 rw[eS_of]
theorem enc_tr {cs:List Value} {x:Zqf.D} (h:Zqf.Is w F cs x):∃t:Tir,Zqf.enc x=eTr t:=by
 obtain⟨n,ts,us,u⟩:=x
 obtain⟨_,_,_,_,_,_,_,_,_,_,_,hu,_⟩:=h
 obtain⟨l,el⟩:=enc_ints hu
 obtain⟨m,em⟩:=ZjA ts
 refine⟨⟨(show ByteArray from n).data.toList,m,l⟩,?_⟩
 show[AV.sc (.string n)]++((Sh.slice .str).enc ts++((Sh.slice Zd9).enc us++[]))=_
 rw[el,em]
 exact congrArg (fun a=>[a,AV.sl .no (rS m),AV.sl .no (rI l)]) (eS_of (show ByteArray from n)).symm
theorem enc_dm {cs:List Value} {x:Zo7.D} (h:Zo7.Is w F cs x):∃d:Dm,Zo7.enc x=eDm d:=by
 obtain⟨n,ts,u⟩:=x
 obtain⟨_,_,_,_,_,_,_,ht,_⟩:=h
 obtain⟨l,_,el⟩:=Zhx (f:=eTr) (fun cs x hx=>enc_tr hx) ht
 refine⟨⟨(show ByteArray from n).data.toList,l⟩,?_⟩
 show[AV.sc (.string n)]++((Sh.slice Zqf).enc ts++[])=_
 rw[el]
 exact congrArg (fun a=>[a,AV.sl .no (l.map eTr)]) (eS_of (show ByteArray from n)).symm
theorem enc_sc {cs:List Value} {x:ZqP.D} (h:ZqP.Is w F cs x):∃s:Sc,ZqP.enc x=eSc s:=by
 obtain⟨ds,ms,u⟩:=x
 obtain⟨_,_,_,hd,_⟩:=h
 obtain⟨l,_,el⟩:=Zhx (f:=eDm) (fun cs x hx=>enc_dm hx) hd
 obtain⟨m,em⟩:=ZjA ms
 refine⟨⟨l,m⟩,?_⟩
 show(Sh.slice Zo7).enc ds++((Sh.slice .str).enc ms++[])=_
 rw[el,em];rfl
theorem enc_cat {cs:List Value} {x:Zxc.D} (h:Zxc.Is w F cs x):∃(S:Sc) (a0 a1 a2 a3 a4 a5 a6:AV),Zxc.enc x=catL S a0 a1 a2 a3 a4 a5 a6:=by
 obtain⟨s,n,ts,u⟩:=x
 obtain⟨_,_,_,hs,_,_,_,_,_,_,_,ht,_⟩:=h
 obtain⟨S,e⟩:=enc_sc hs
 obtain⟨css,_,h1,h2,_,_⟩:=ht
 have hl:List.length (show List Zxa.D from ts)=3:=by first|exact h2|exact h1|(rw[← h1];exact h2)|(rw[h2];exact h1)|(rw[← h2];exact h1)
 obtain⟨t0,t1,t2,rfl⟩:∃t0 t1 t2,(show List Zxa.D from ts)=[t0,t1,t2]:=by
  match (show List Zxa.D from ts),hl with
  | [a,b,c],_=>exact⟨a,b,c,rfl⟩
 refine⟨S,.i n,.i t0.1,.i t0.2.1,.i t1.1,.i t1.2.1,.i t2.1,.i t2.2.1,?_⟩
 show ZqP.enc s++([AV.sc (.int .i64 n)]++((Sh.arr 3 Zxa).enc [t0,t1,t2]++[]))=_
 rw[e]
 rfl
end
theorem arg_cat {W:World} {cs:Array Value} {y:Zxc.D} (h:Zxc.Is W (·<W.heap.size) cs.toList y):∃(S:Sc) (a0 a1 a2 a3 a4 a5 a6:AV),VR (Gh.ro (Zjd W)) W (.agg (catL S a0 a1 a2 a3 a4 a5 a6)) (.agg cs):=by
 obtain⟨S,a0,a1,a2,a3,a4,a5,a6,e⟩:=enc_cat h
 exact⟨S,a0,a1,a2,a3,a4,a5,a6,e ▸ arg_agg (by simp[Zxc,ZqP,Zo7,Zqf,Zxa,Zd9,Sh.pos,Sh.size]) h⟩
end Go.Proofs.YtjflognbeehccaaGreatDoor
