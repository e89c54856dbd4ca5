/- Texts of the walk, joined: L9 La Lb Lc Ld Le Lf Lg Lh. -/
import Derived.Test.YtemmgefppobboaaGreatDoorMf
import Derived.Test.YtemmgefppobboaaGreatDoorMd
import Derived.Lib.UnsafeStr
import Derived.Deep.QuietTactic
import Derived.BigQuiet
import Derived.OwnWalk
import Derived.Shelf.RegionOpenPlain
namespace Go.Proofs.YtemmgefppobboaaGreatDoor
set_option linter.unusedSimpArgs false
set_option linter.unusedVariables false
open Go.RowKit
theorem stable_n {d:Nat} {op:AOp} {F:Fr} {H:Zaa}:AI.stable ⟨none,some d,op⟩ F H=(op.ev F H=some (Fr.get F d,H)):=by
 simp[AI.stable,AI.want]
theorem stable_g {s d:Nat} {t:Bool} {op:AOp} {F:Fr} {H:Zaa}:AI.stable ⟨some (s,t),some d,op⟩ F H=@GdK (Fr.get F s) t ⟨op.ev F H=some (Fr.get F d,H)⟩ ⟨fun _ _=>True⟩:=by
 simp only[AI.stable,AI.want,GdK]
 cases Fr.get F s with
 | sc v =>
  cases v with
  | bool c=>cases c<;>cases t<;>simp
  | _=>rfl
 | _=>rfl
theorem ZiY {F:Fr} {H:Zaa}:(∀r∈([]:List AI),r.stable F H)=True:=by simp
theorem ZhH {F:Fr} {H:Zaa} {a:AI} {l:List AI}:(∀r∈a :: l,r.stable F H)=(a.stable F H∧∀r∈l,r.stable F H):=by simp
theorem ZhK (l:List UInt8):(⟨l.toArray⟩:ByteArray).toList=l:=by rw[ByteArray.toList_eq]
theorem beq_dec (a b:List UInt8):(a == b)=decide (a=b):=by rw[Bool.eq_iff_iff];simp
theorem YE:(∀{l:List UInt8},(⟨l.toArray⟩:ByteArray).toList=l)∧(∀{a b:List UInt8},(a == b)=decide (a=b))∧(∀{l:List UInt8},(⟨l.toArray⟩:ByteArray).size=l.length)∧(∀{α β:Type} {f:α→β} {l:List α} {i:Nat},(l.map f)[i]?=(l[i]?).map f)∧(∀{α:Type} {l:List α} {i:Nat} (h:i<l.length),l[i]?=some l[i]) ∧
  (∀{n:Nat},(0≤(n:Int))=True)∧(∀{H:Zaa} {i:Nat} {o o':Zb3},i=H.next→(H.alloc o).set i o'=H.alloc o') ∧
  (∀{d op F H},AI.stable ⟨none,some d,op⟩ F H=(op.ev F H=some (Fr.get F d,H)))∧(∀{s d t op F H},AI.stable ⟨some (s,t),some d,op⟩ F H=@GdK (Fr.get F s) t ⟨op.ev F H=some (Fr.get F d,H)⟩ ⟨fun _ _=>True⟩) ∧
  (∀{F:Fr} {H:Zaa},(∀r∈([]:List AI),r.stable F H)=True)∧(∀{F:Fr} {H:Zaa} {a:AI} {l:List AI},(∀r∈a :: l,r.stable F H)=(a.stable F H∧∀r∈l,r.stable F H)) :=
 ⟨ZhK _,beq_dec _ _,rfl,List.getElem?_map,List.getElem?_eq_getElem,by simp,ZaM,stable_n,stable_g,ZiY,ZhH⟩
theorem bfb (b:Bool):b=false∨b=true:=by cases b<;>simp
theorem byte_at {l:List UInt8} {k:Nat} (h:k<l.length):(⟨l.toArray⟩:ByteArray)[k]?=some l[k]:=by
 show(if h:k<l.toArray.size then some _ else none)=_
 rw[dif_pos (by simpa using h)]
 rfl
abbrev u8 (c:UInt8):AV:=.sc (.int .u8 c.toNat)
def Zy0 (c:UInt8):Bool:=(decide ((97:Int)≤c.toNat)&&decide ((c.toNat:Int)≤122)) || (decide ((48:Int)≤c.toNat)&&decide ((c.toNat:Int)≤57)) || ((c.toNat:Int) == 95)
theorem Zzf (c:UInt8):Zy0 c=ZyJ c:=by
 unfold Zy0 ZyJ
 have e1:decide ((97:Int)≤c.toNat)=decide (97≤c):=by rw[Bool.eq_iff_iff];simp only[decide_eq_true_eq,UInt8.le_iff_toNat_le];exact⟨fun h=>by have:(97:UInt8).toNat=97:=rfl;omega,fun h=>by have:(97:UInt8).toNat=97:=rfl;omega⟩
 have e2:decide ((c.toNat:Int)≤122)=decide (c≤122):=by rw[Bool.eq_iff_iff];simp only[decide_eq_true_eq,UInt8.le_iff_toNat_le];exact⟨fun h=>by have:(122:UInt8).toNat=122:=rfl;omega,fun h=>by have:(122:UInt8).toNat=122:=rfl;omega⟩
 have e3:decide ((48:Int)≤c.toNat)=decide (48≤c):=by rw[Bool.eq_iff_iff];simp only[decide_eq_true_eq,UInt8.le_iff_toNat_le];exact⟨fun h=>by have:(48:UInt8).toNat=48:=rfl;omega,fun h=>by have:(48:UInt8).toNat=48:=rfl;omega⟩
 have e4:decide ((c.toNat:Int)≤57)=decide (c≤57):=by rw[Bool.eq_iff_iff];simp only[decide_eq_true_eq,UInt8.le_iff_toNat_le];exact⟨fun h=>by have:(57:UInt8).toNat=57:=rfl;omega,fun h=>by have:(57:UInt8).toNat=57:=rfl;omega⟩
 have e5:((c.toNat:Int) == 95)=(c == 95):=by
  rw[Bool.eq_iff_iff]
  simp only[beq_iff_eq]
  exact⟨fun h=>UInt8.toNat_inj.1 (by have:(95:UInt8).toNat=95:=rfl;omega),fun h=>by rw[h];rfl⟩
 rw[e1,e2,e3,e4,e5]
set_option maxHeartbeats 1000000 in
theorem Zzw (c:UInt8) (H:Zaa):Zay Tryz.prog 41 [u8 c] H (Pure H (.b (ZyJ c))):=by
 rw[← Zzf]
 generalize hT:Zy0 c=T
 refine Zak hE cf41 (Nat.le_of_ble_eq_true rfl) fun Q hQr hQn=>?_
 ((have hd:=trivial;repeat' (first|((first|apply Zad|apply Zac|apply Zab)<;>intro hd<;>(try simp only[hd]))|simp(disch:=first|assumption|omega|(simp only[nx]<;>omega)|fail)only [hd,hQr,hQn,ZsN,↓YA,YB,YC,YE,YF,YZ,sevalprocAttr]))<;>(try (have hd_:True:=hd;clear hd_ hd)))
 all_goals (refine ZbC ?_;rw[← hT];unfold Zy0;clear hT;first|(simp_all;done)|(simp_all;omega))
theorem Zhg {α:Type} {l:List α} {p:α→Bool} {k:Nat} (h:k<l.length):(l.take (k+1)).all p=((l.take k).all p&&p l[k]):=by
 rw[List.take_succ_eq_append_getElem h,List.all_append];simp
theorem Zjc {α:Type} {l:List α} {p:α→Bool} {k:Nat} (h:k<l.length) (hp:p l[k]=false):l.all p=false:=by
 rw[List.all_eq_false]
 exact⟨l[k],List.getElem_mem h,by simp[hp]⟩
theorem Zzt {q:Tx} (h:q.all ZyJ=true):ZyB q=!decide (q=[]):=by
 unfold ZyB
 rw[h]
 cases q<;>simp
theorem Zzr {q:Tx} {k:Nat} (hk:k<q.length) (h:ZyJ q[k]=false):ZyB q=false:=by
 unfold ZyB
 rw[Zjc hk h];rfl
set_option maxHeartbeats 1000000 in
theorem ZyI (q:Tx) (H:Zaa) (hl:q.length≤1000000):Zay Tryz.prog 17 [eS q] H (Pure H (.b (ZyB q))):=by
 have hbad:∀k (hk:k<q.length),ZyJ q[k]=false→false=ZyB q:=fun k hk h=>(Zzr hk h).symm
 have hgood:q.all ZyJ=true→(!decide (q=[]))=ZyB q:=fun h=>(Zzt h).symm
 generalize hT:ZyB q=T at hbad hgood
 refine Zak hE cf17 (Nat.le_of_ble_eq_true rfl) fun Q hQr hQn=>?_
 ((have hd:=trivial;repeat' (first|((first|apply Zad|apply Zac|apply Zab)<;>intro hd<;>(try simp only[hd]))|simp(disch:=first|assumption|omega|(simp only[nx]<;>omega)|fail)only [hd,hQr,hQn,ZqR,↓YA,YB,YC,YE,YF,YZ,sevalprocAttr]))<;>(try (have hd_:True:=hd;clear hd_ hd)))
 refine Zbs [0,5] (σ:=Unit) (fun(k:Nat) s=>(q.take k).all ZyJ=true) (fun k s=>[]) (fun k s=>[]) () (GStep.refl _ _) (by simp only[ZaA,Zav,Fr.put,Fr.get,↓reduceIte,Nat.reduceEqDiff];rfl) (by intro k s;rfl) (by intro k s;rfl) (by rfl) (by unfold maxLen;omega) ?_ (by simp only[ZaF]) (by simp only[ZaJ]) ?_ ?_
 ·rfl
 ·(rintro k u G hk ht hG hn;try simp only[nx]at hn)
  have hs:=byte_at hk
  have hb:=hbad k hk
  have hsn:=Zhg (p:=ZyJ) hk
  rw[ht,Bool.true_and]at hsn
  generalize q[k]=c at *
  clear hbad hgood
  ((have hd:=trivial;repeat' (first|((first|apply Zad|apply Zac|apply Zab)<;>intro hd<;>(try simp only[hd]))|simp(disch:=first|assumption|omega|(simp only[nx]<;>omega)|fail)only [hd,hQr,hQn,ZqR,↓YA,YB,YC,YE,YF,YZ,sevalprocAttr,hs]))<;>(try (have hd_:True:=hd;clear hd_ hd)))
  (refine Zap.use (Zzw c _) ?_;rintro _ _ ⟨rfl,k1,rfl⟩)
  have hc:=bfb (ZyJ c)
  rcases hc with hc|hc
  ·((have hd:=trivial;repeat' (first|((first|apply Zad|apply Zac|apply Zab)<;>intro hd<;>(try simp only[hd]))|simp(disch:=first|assumption|omega|(simp only[nx]<;>omega)|fail)only [hd,hQr,hQn,ZqR,↓YA,YB,YC,YE,YF,YZ,sevalprocAttr,hc]))<;>(try (have hd_:True:=hd;clear hd_ hd)))
   exact ZbC (hb hc) (hG.ext.bump)
  ·((have hd:=trivial;repeat' (first|((first|apply Zad|apply Zac|apply Zab)<;>intro hd<;>(try simp only[hd]))|simp(disch:=first|assumption|omega|(simp only[nx]<;>omega)|fail)only [hd,hQr,hQn,ZqR,↓YA,YB,YC,YE,YF,YZ,sevalprocAttr,hc]))<;>(try (have hd_:True:=hd;clear hd_ hd)))
   exact⟨(),by rw[hsn,hc],by exact HXT⟩
 ·(rintro u G ht hG hn;try simp only[nx]at hn)
  rw[List.take_length]at ht
  ((have hd:=trivial;repeat' (first|((first|apply Zad|apply Zac|apply Zab)<;>intro hd<;>(try simp only[hd]))|simp(disch:=first|assumption|omega|(simp only[nx]<;>omega)|fail)only [hd,hQr,hQn,ZqR,↓YA,YB,YC,YE,YF,YZ,sevalprocAttr]))<;>(try (have hd_:True:=hd;clear hd_ hd)))
  exact ZbC (hgood ht) hG.ext
set_option maxHeartbeats 1000000 in
theorem ZyE (q:Tx) (H:Zaa) (hl:q.length≤1000000):Zay Tryz.prog 21 [eS q] H (Pure H (.b (ZyB q))):=by
 have hbad:∀k (hk:k<q.length),ZyJ q[k]=false→false=ZyB q:=fun k hk h=>(Zzr hk h).symm
 have hgood:q.all ZyJ=true→(decide ((q.length:Int) > 0))=ZyB q:=fun h=>by rw[Zzt h];cases q<;>simp<;>omega
 generalize hT:ZyB q=T at hbad hgood
 refine Zak hE cf21 (Nat.le_of_ble_eq_true rfl) fun Q hQr hQn=>?_
 ((have hd:=trivial;repeat' (first|((first|apply Zad|apply Zac|apply Zab)<;>intro hd<;>(try simp only[hd]))|simp(disch:=first|assumption|omega|(simp only[nx]<;>omega)|fail)only [hd,hQr,hQn,Zeb,↓YA,YB,YC,YE,YF,YZ,sevalprocAttr]))<;>(try (have hd_:True:=hd;clear hd_ hd)))
 refine Zcw [0] (σ:=Nat) (fun s=>s≤q.length∧(q.take s).all ZyJ=true) (fun s=>q.length - s) (fun s=>[(3,.i (s:Int))]) (fun s=>[]) 0 (GStep.refl _ _) (by simp only[ZaA,Zav,Fr.put,Fr.get,↓reduceIte,Nat.reduceEqDiff];rfl) ?_ (by simp only[ZaF,ZaX,Fr.put,Fr.get,↓reduceIte,Nat.reduceEqDiff,and_self]<;>simp) (by simp only[ZaJ]) ?_
 ·exact⟨Nat.zero_le _,rfl⟩
 ·(rintro i G ⟨h2,h3⟩ hG hn;try simp only[nx]at hn)
  by_cases c:i<q.length
  ·have d2:decide ((i:Int)<(q.length:Int))=true:=decide_eq_true (by omega)
   have hs:=byte_at c
   have hi0:(0:Int)≤(i:Int):=by omega
   have hw:IntKind.i64.wrap ((i:Int)+1)=((i+1:Nat):Int):=by rw[Zaw (by omega) (by omega)];omega
   have hb:=hbad i c
   have hsn:=Zhg (p:=ZyJ) c
   rw[h3,Bool.true_and]at hsn
   generalize q[i]=ch at *
   rw[← Zzf]at hb hsn
   clear hbad hgood
   ((have hd:=trivial;repeat' (first|((first|apply Zad|apply Zac|apply Zab)<;>intro hd<;>(try simp only[hd]))|simp(disch:=first|assumption|omega|(simp only[nx]<;>omega)|fail)only [hd,hQr,hQn,Zeb,↓YA,YB,YC,YE,YF,YZ,sevalprocAttr,d2,hs,hi0,hw]))<;>(try (have hd_:True:=hd;clear hd_ hd)))
   all_goals first
    | (refine ZbC (hb ?_) hG.ext;clear hb hsn hs hw hG;unfold Zy0;first|(simp_all;done)|grind)
    | (refine⟨i+1,⟨by omega,?_⟩,by omega,⟨rfl,trivial⟩,by exact HXT⟩;rw[hsn];clear hb hsn hs hw hG;unfold Zy0;first|(simp_all;done)|grind)
    | (refine⟨i+1,⟨by omega,?_⟩,by omega,rfl,by exact HXT⟩;rw[hsn];clear hb hsn hs hw hG;unfold Zy0;first|(simp_all;done)|grind)
  ·have d2:decide ((i:Int)<(q.length:Int))=false:=decide_eq_false (by omega)
   have hi:i=q.length:=by omega
   subst hi
   rw[List.take_length]at h3
   ((have hd:=trivial;repeat' (first|((first|apply Zad|apply Zac|apply Zab)<;>intro hd<;>(try simp only[hd]))|simp(disch:=first|assumption|omega|(simp only[nx]<;>omega)|fail)only [hd,hQr,hQn,Zeb,↓YA,YB,YC,YE,YF,YZ,sevalprocAttr,d2]))<;>(try (have hd_:True:=hd;clear hd_ hd)))
   exact ZbC (hgood h3) hG.ext
open Go.RowKit Go.Lib
abbrev rB (l:Tx):List (List AV):=l.map fun c=>[u8 c]
def BldA (base:Nat) (H:Zaa) (id:Nat) (l:Tx):Prop :=
 base≤id∧base≤H.next∧((l=[]∧H.get id=some (.cells [.sc (.pointer none),.sl .full []] 54)) ∨
  ∃t,l≠[]∧base≤t∧t≠id∧H.get id=some (.cells [.ptr id 0,.sl (.own t) (rB l)] 54)∧H.get t=some (.tok l.length 5 1))
theorem ok_cc:Zmq Tryz.prog 42:=⟨_,Tryz.func42,by kernel_rfl,by kernel_rfl⟩
theorem ok_str:Zmq Tryz.prog 19:=⟨_,Tryz.func19,by kernel_rfl,by kernel_rfl⟩
theorem x72:Builder.X72 Tryz.prog ZyU:=⟨ZzF.sizeBuilder,ZzF.liesBuilder⟩
theorem Zy5 {g:Gh} {H:Zaa} {w:World} (hW:WR g H w) {id:Nat} {a0 a1:AV} {E:TypeId} (h:H.get id=some (.cells [a0,a1] E)) {b:Nat} (hb:g.ι id=some b) :
  ∃c0 c1,w.heap[b]?=some (.cells #[c0,c1] E (0,0))∧VR g w a0 c0∧VR g w a1 c1∧a0.one=true∧a1.one=true∧∀j,¬g.RO b j:=by
 obtain⟨b',carr,a1',a2,a3,a4,a5⟩:=hW.obj id _ h
 obtain rfl:b'=b:=by rw[hb]at a1';injection a1' with e;exact e.symm
 obtain⟨c0,c1,hc⟩:∃c d,carr.toList=[c,d]:=by
  match carr.toList,a3.1 with
  | [c,d],_=>exact⟨c,d,rfl⟩
 rw[hc]at a3
 have:carr=#[c0,c1]:=by apply Array.ext';simpa using hc
 subst this
 exact⟨c0,c1,a2,a3.2 0 _ _ rfl rfl,a3.2 1 _ _ rfl rfl,a4 _ (by simp),a4 _ (by simp),a5⟩
theorem cc_fresh (id:Nat) (v:AV) (H:Zaa) (h:H.get id=some (.cells [.sc (.pointer none),v] 54)) :
  Zay Tryz.prog 42 [.ptr id 0] H fun r H'=>r=.tup []∧H'=H.set id (.cells [.ptr id 0,v] 54):=by
 refine⟨ok_cc,fun g w vs hW hV hEn=>?_⟩
 obtain⟨v0,rfl⟩:∃v0,vs=[v0]:=by
  match vs,hV.1 with
  | [v0],_=>exact⟨v0,rfl⟩
 have h0:=hV.2 0 _ _ rfl rfl
 cases h0 with
 | ptr _ _ b hb =>
 obtain⟨c0,c1,e1,e2,e3,e4,e5,e6⟩:=Zy5 hW h hb
 cases e2
 have hlt:=(Array.getElem?_eq_some_iff.1 e1).1
 refine(Any.Builder_copyCheck_fresh { Zz1 with } x72 b w (by simp[World.cell?,e1]) (by simp[World.shape?,e1];rfl) (by simp[World.frozen?,e1])).mono fun e w' ⟨he,hw⟩=>?_
 have hb2:w'.heap[b]?=some (.cells #[.pointer (some ⟨b,0,none⟩),c1] 54 (0,0)):=by
  have hg:w.heap[b]=.cells #[.pointer none,c1] 54 (0,0):=by
   rw[Array.getElem?_eq_getElem hlt]at e1;exact Option.some.inj e1
  subst hw
  simp[World.setCell,Array.getElem_modify,hlt,hg]
 obtain⟨k1,k2⟩:=ZfL (w':=w') (o':=.cells [.ptr id 0,v] 54) hW h (b:=b) hb (fun b'=>Iff.rfl) (fun b' hne=>by subst hw;exact Below.heap_setCell _ _ _ _ hne) (by subst hw;simp) (by subst hw;rfl) (by subst hw;rfl) (by subst hw;rfl) (fun j hj=>absurd hj (e6 j))
  (fun hle=>⟨b,_,hb,hb2,(VRs.nil.cons (e3.mono hle)).cons (.ptr id 0 b hb),fun x hx=>by
   rcases List.mem_cons.1 hx with rfl|hx
   ·rfl
   ·obtain rfl:=List.mem_singleton.1 hx;exact e5,e6⟩)
 exact .inl ⟨_,_,_,g,he,⟨rfl,rfl⟩,.tup _ _ rfl (fun i x u hx=>by simp at hx),k1,k2⟩
theorem cc_used (id:Nat) (v:AV) (H:Zaa) (h:H.get id=some (.cells [.ptr id 0,v] 54)) :
  Zay Tryz.prog 42 [.ptr id 0] H fun r H'=>r=.tup []∧H'=H:=by
 refine⟨ok_cc,fun g w vs hW hV hEn=>?_⟩
 obtain⟨v0,rfl⟩:∃v0,vs=[v0]:=by
  match vs,hV.1 with
  | [v0],_=>exact⟨v0,rfl⟩
 have h0:=hV.2 0 _ _ rfl rfl
 cases h0 with
 | ptr _ _ b hb =>
 obtain⟨c0,c1,e1,e2,e3,e4,e5,e6⟩:=Zy5 hW h hb
 cases e2 with
 | ptr _ _ b2 hb2 =>
 obtain rfl:b2=b:=by rw[hb]at hb2;injection hb2 with e;exact e.symm
 refine(Any.Builder_copyCheck_used { Zz1 with } x72 b2 w (by simp[World.cell?,e1])).mono fun e w' ⟨he,hw⟩=>?_
 subst hw
 exact .inl ⟨_,_,_,g,he,⟨rfl,rfl⟩,.tup _ _ rfl (fun i x u hx=>by simp at hx),hW,.refl _ _ _⟩
set_option maxHeartbeats 2000000 in
set_option maxRecDepth 100000 in
theorem ZzQ (b g cap:Nat) (p:Value) (cur:Array Value) (l:Tx) (w:World) (hbk:w.heap[b]?=some (.cells #[p,.slice (some ⟨g,0,none⟩) l.length cap] 54 (0,0))) (hg:w.heap[g]?=some (.cells cur 5 (0,0))) (h0:l≠[]) (hc:l.length≤cap) (hc2:l.length≤cur.size) (h63:l.length≤9223372036854775807)
  (hcell:∀(j:Nat) x,l[j]?=some x→w.cell? ⟨g,j,none⟩=some (.int .u8 x.toNat)):Calls Tryz.prog 19 #[.pointer (some ⟨b,0,none⟩)] w fun e w'=>e=.returned (.string ⟨l.toArray⟩)∧w'=w.drew.freeze ⟨g,0,none⟩ l.length:=by
 have hpos:=List.length_pos_iff.2 h0
 have c1:w.drew.cell? ⟨b,1,none⟩=some (.slice (some ⟨g,0,none⟩) l.length cap):=by
  have:w.drew.heap[b]?=some (.cells #[p,.slice (some ⟨g,0,none⟩) l.length cap] 54 (0,0)):=hbk
  rw[Lib.cell_of_heap this];rfl
 have hSD:=Lib.run_unsafeSliceData_row (P:=Tryz.prog) (w:=w.drew) #[52] 89 ⟨g,0,none⟩ l.length cap (by omega)
 have hUS:=Lib.run_unsafeString_row (P:=Tryz.prog) w.drew 89 3 9 5 Tryz.underlying89 (by kernel_rfl) g cur.size (by have hg':w.drew.heap[g]?=some (.cells cur 5 (0,0)):=hg;simp[World.shape?,hg']) l h0 hc2 h63 (fun j x hx=>by
  have e:(⟨g,0,none⟩:Addr).add j=⟨g,j,none⟩:=by cases j<;>simp[Addr.add]
  rw[e]
  exact hcell j x hx)
 have mixed:Tryz.prog.follows Departure.mixedOrders=true:=by kernel_rfl
 go_enter Tryz.func19,Tryz.ntmps19
 go_wp2
 go_region_o
 all_goals (go_wp2;go_ret;exact⟨rfl,rfl⟩)
def Zaa.del1 (H:Zaa) (t:Nat):Zaa:=⟨fun i=>if i=t then none else H.get i,H.next,fun i hi=>by
 split
 ·rfl
 ·exact H.wf i hi⟩
theorem Zz5 {g:Gh} {H:Zaa} {w:World} (hW:WR g H w) {t b n:Nat} {o:Zb3} (ht:H.get t=some o) (hb:Zcy g t o b) {carr:Array Value} {E:TypeId} {fz:Nat×Nat} (hcar:w.heap[b]?=some (.cells carr E fz)) :
  WR g (H.del1 t) (w.freeze ⟨b,0,none⟩ n)∧Stp g H w g (H.del1 t) (w.freeze ⟨b,0,none⟩ n):=by
 have hother:∀b',b'≠b→(w.freeze ⟨b,0,none⟩ n).heap[b']?=w.heap[b']?:=fun b' hne=>by
  unfold World.freeze
  split
  ·rfl
  ·simp only[Array.getElem?_modify]
   rw[if_neg (by omega)]
 have hsz:(w.freeze ⟨b,0,none⟩ n).heap.size=w.heap.size:=by
  unfold World.freeze
  split
  ·rfl
  ·simp
 have hsame:∃fz',(w.freeze ⟨b,0,none⟩ n).heap[b]?=some (.cells carr E fz'):=by
  unfold World.freeze
  split
  ·exact⟨fz,hcar⟩
  ·obtain⟨lo,hi⟩:=fz
   simp only[Array.getElem?_modify,hcar,if_true,Option.map_some]
   exact⟨_,rfl⟩
 obtain⟨fz',hsame⟩:=hsame
 have hcell:∀b' j,(w.freeze ⟨b,0,none⟩ n).cell? ⟨b',j,none⟩=w.cell? ⟨b',j,none⟩:=fun b' j=>by
  by_cases e:b'=b
  ·subst e
   simp only[World.cell?,hsame,hcar]
  ·exact Zcb (hother b' e) j
 have hos:(w.freeze ⟨b,0,none⟩ n).os=w.os∧(w.freeze ⟨b,0,none⟩ n).tape=w.tape∧(w.freeze ⟨b,0,none⟩ n).output=w.output:=by
  unfold World.freeze
  split<;>exact⟨rfl,rfl,rfl⟩
 have hget:∀i o',(H.del1 t).get i=some o'→i≠t∧H.get i=some o':=fun i o' h=>by
  simp only[Zaa.del1]at h
  split at h
  ·cases h
  ·rename_i e;exact⟨e,h⟩
 have hle:g.le g w (w.freeze ⟨b,0,none⟩ n):=⟨fun _ _ h=>h,fun _ _ _ _ h=>⟨_,_,_,h,.inr ⟨rfl,rfl,rfl⟩⟩,fun _ _ _ h=>h,fun _ _ h=>h,fun b' j _=>hcell b' j,fun b' e=>by
  by_cases e2:b'=b
  ·subst e2;rw[hcar]at e;cases e
  ·exact(hother b' e2).trans e,rfl⟩
 refine⟨⟨fun i o' h=>?_,fun i i' o1 o2 b' h1 h2=>hW.inj i i' o1 o2 b' (hget _ _ h1).2 (hget _ _ h2).2,hW.dom,fun i o' b' h=>by rw[hsz];exact hW.bd i o' b' (hget _ _ h).2,fun b' j h=>by rw[hsz];exact hW.ro b' j h⟩,
  ⟨hle,Nat.le_refl _,hos.1,hos.2.1,hos.2.2,by rw[hsz];exact Nat.le_refl _,fun b' _ hno=>hother b' fun e=>hno ⟨t,o,ht,by rw[e];exact hb⟩,fun b' _ ⟨i,o',h1,h2⟩=>⟨i,o',(hget _ _ h1).2,h2⟩,fun _ _ _ h=>.inl h⟩⟩
 obtain⟨h1,h2⟩:=hget _ _ h
 exact(hW.obj i o' h2).mono hle (fun b' hb'=>hother b' fun e=>h1 (hW.inj i t o' o b' h2 ht hb' (by rw[e];exact hb))) (fun _ _ _ h=>h) rfl rfl (fun _=>rfl)
theorem Zxi (base id:Nat) (l:Tx) (H:Zaa) (hB:BldA base H id l) (hne0:l≠[]) (hl:l.length≤1000000):Zay Tryz.prog 19 [.ptr id 0] H fun r G=>r=eS l∧H.next≤G.next∧∀i,i<base→G.get i=H.get i:=by
 refine⟨ok_str,fun g w vs hW hV hEn=>?_⟩
 obtain⟨v0,rfl⟩:∃v0,vs=[v0]:=by
  match vs,hV.1 with
  | [v0],_=>exact⟨v0,rfl⟩
 have h0:=hV.2 0 _ _ rfl rfl
 cases h0 with
 | ptr _ _ b hb =>
 obtain⟨hb1,hb2,⟨rfl,hg⟩|⟨t,hne,ht1,ht2,hg,htok⟩⟩:=hB
 ·exact absurd rfl hne0
 ·obtain⟨c0,c1,e1,e2,e3,e4,e5,e6⟩:=Zy5 hW hg hb
  obtain⟨cap,blk,q1,q2,q3,q4⟩:=hW.obj t _ htok
  cases e3 with
  | sl _ _ A c sz bb o f hc hm hA hsz hcell hv ht =>
  obtain⟨fr,cap',blk',r1,r2,r3⟩:=ht
  rw[q1]at r1
  obtain⟨rfl,rfl,rfl⟩:fr=l.length∧cap'=cap∧blk'=blk:=by simpa using r1.symm
  have hlen:(rB l).length=l.length:=by simp
  have hpos:=List.length_pos_iff.2 hne
  obtain⟨r4,r5⟩:=r3 hlen
  subst r4
  have r5:=r5 (by omega)
  obtain⟨carr,p1,p2,_⟩:=q4 (by omega)
  have hrn:rB l≠[]:=fun e=>hne (by simpa using e)
  have hA:=hA hrn
  rw[r5]at hA
  obtain⟨rfl,rfl⟩:blk'=bb∧0=o:=by simpa using hA
  have hone:sz=1:=by
   obtain⟨x,hx⟩:=List.exists_mem_of_ne_nil l hne
   have:=(hsz [u8 x] (List.mem_map.2 ⟨x,hx,rfl⟩)).1
   simpa using this.symm
  subst hone
  rw[r5,hlen]at e1
  have hcells:∀(j:Nat) x,l[j]?=some x→w.cell? ⟨blk',j,none⟩=some (.int .u8 x.toNat):=fun j x hx=>by
   have hr:(rB l)[j]?=some [u8 x]:=by simp[hx]
   have h1:=(hcell j [u8 x] 0 (u8 x) hr rfl).1
   have h2:=hv j [u8 x] 0 (u8 x) hr rfl
   rw[show 0+j * 1+0=j by omega]at h1
   rw[h1]
   generalize f j 0=y at h2
   cases h2
   rfl
  refine(ZzQ b blk' _ c0 carr l w e1 p1 hne (by omega) (by omega) (by omega) hcells).mono fun e w' ⟨he,hw⟩=>?_
  subst hw
  obtain⟨d1,d2⟩:=hW.drew
  obtain⟨k1,k2⟩:=Zz5 (n:=l.length) d1 htok (b:=blk') ⟨_,_,q1,by omega⟩ p1
  refine .inl ⟨_,_,H.del1 t,g,he,⟨rfl,Nat.le_refl _,fun i hi=>?_⟩,.sc _,k1,d2.trans k2⟩
  simp only[Zaa.del1]
  rw[if_neg (by omega)]
def WbQ (base id:Nat) (l:Tx) (c:UInt8) (H:Zaa) (r:AV) (G:Zaa):Prop:=r=.sc .nilIface∧H.next≤G.next∧BldA base G id (l++[c])∧∀i,i<base→G.get i=H.get i
set_option maxHeartbeats 2000000 in
theorem ZyT (base id:Nat) (l:Tx) (c:UInt8) (H:Zaa) (hB:BldA base H id l) (hl:l.length≤1000000):Zay Tryz.prog 18 [.ptr id 0,u8 c] H (WbQ base id l c H):=by
 have hlr:(rB l).length=l.length:=by simp
 have hall:ZaE 1 (rB l)=true:=ZaU (f:=fun c:UInt8=>[u8 c]) (sz:=1) (fun _=>rfl) l
 obtain⟨hb1,hb2,⟨rfl,hg⟩|⟨t,hne,ht1,ht2,hg,htok⟩⟩:=hB
 ·have hid:=Zaa.lt hg
  have hcc:=cc_fresh id (.sl .full []) H hg
  obtain⟨H1,hH1⟩:∃H1,H1=H.set id (.cells [.ptr id 0,.sl .full []] 54):=⟨_,rfl⟩
  rw[← hH1]at hcc
  have g1:H1.get id=some (.cells [.ptr id 0,.sl .full []] 54):=by rw[hH1,Zaa.Zal hid]
  have n1:H1.next=H.next:=by rw[hH1];rfl
  have f1:∀i,i<base→H1.get i=H.get i:=fun i hi=>by rw[hH1,Zaa.Zah (by omega)]
  refine Zak hE cf18 (Nat.le_of_ble_eq_true rfl) fun Q hQr hQn=>?_
  ((have hd:=trivial;repeat' (first|((first|apply Zad|apply Zac|apply Zab)<;>intro hd<;>(try simp only[hd]))|simp(disch:=first|assumption|omega|(simp only[nx]<;>omega)|fail)only [hd,hQr,hQn,Zo4,↓YA,YB,YC,YE,YF,YZ,sevalprocAttr]))<;>(try (have hd_:True:=hd;clear hd_ hd)))
  refine Zap.use hcc ?_
  rintro r H' ⟨rfl,rfl⟩
  have hc1:(ZaE 1 [[AV.sc (Value.int IntKind.u8 ↑c.toNat)]]=true∧1≤maxLen∧ZaE 1 ([]:List (List AV))=true)=True:=by
   rw[eq_iff_iff,iff_true];exact⟨rfl,by unfold maxLen;omega,rfl⟩
  have g2:(H'.alloc (.tok 1 5 1)).get id=some (.cells [.ptr id 0,.sl .full []] 54):=(Zaa.Zag (by omega)).trans g1
  ((have hd:=trivial;repeat' (first|((first|apply Zad|apply Zac|apply Zab)<;>intro hd<;>(try simp only[hd]))|simp(disch:=first|assumption|omega|(simp only[nx]<;>omega)|fail)only [hd,hQr,hQn,Zo4,↓YA,YB,YC,YE,YF,YZ,sevalprocAttr,g1,hc1,g2]))<;>(try (have hd_:True:=hd;clear hd_ hd)))
  refine Zaq ⟨rfl,by simp only[Zaa.ZaH,Zaa.Zax];omega,⟨hb1,by simp only[Zaa.ZaH,Zaa.Zax];omega,.inr ⟨H'.next,by simp,by omega,by omega,?_,?_⟩⟩,fun i hi=>?_⟩
  ·exact Zaa.Zal (by simp only[Zaa.Zax];omega)
  ·rw[Zaa.Zah (by omega)];exact Zaa.Zae
  ·rw[Zaa.Zah (by omega),Zaa.Zag (by omega)];exact f1 i hi
 ·have hid:=Zaa.lt hg
  have hit:=Zaa.lt htok
  have hcc:=cc_used id (.sl (.own t) (rB l)) H hg
  have e1:(rB l)++[[u8 c]]=rB (l++[c]):=by simp
  have hc1:(ZaE 1 [[AV.sc (Value.int IntKind.u8 ↑c.toNat)]]=true∧l.length+1≤maxLen∧l.length≤140737488355327∧ZaE 1 (rB l)=true)=True:=by
   rw[eq_iff_iff,iff_true];exact⟨rfl,by unfold maxLen;omega,by omega,hall⟩
  have g2:(H.set t (.tok (l.length+1) 5 1)).get id=some (.cells [.ptr id 0,.sl (.own t) (rB l)] 54):=(Zaa.Zah (fun e=>ht2 e.symm)).trans hg
  refine Zak hE cf18 (Nat.le_of_ble_eq_true rfl) fun Q hQr hQn=>?_
  ((have hd:=trivial;repeat' (first|((first|apply Zad|apply Zac|apply Zab)<;>intro hd<;>(try simp only[hd]))|simp(disch:=first|assumption|omega|(simp only[nx]<;>omega)|fail)only [hd,hQr,hQn,Zo4,↓YA,YB,YC,YE,YF,YZ,sevalprocAttr]))<;>(try (have hd_:True:=hd;clear hd_ hd)))
  refine Zap.use hcc ?_
  rintro r H' ⟨rfl,rfl⟩
  ((have hd:=trivial;repeat' (first|((first|apply Zad|apply Zac|apply Zab)<;>intro hd<;>(try simp only[hd]))|simp(disch:=first|assumption|omega|(simp only[nx]<;>omega)|fail)only [hd,hQr,hQn,Zo4,↓YA,YB,YC,YE,YF,YZ,sevalprocAttr,hg,htok,hc1,hlr,g2]))<;>(try (have hd_:True:=hd;clear hd_ hd)))
  refine Zaq ⟨rfl,Nat.le_refl _,⟨hb1,hb2,.inr ⟨t,by simp,ht1,ht2,?_,?_⟩⟩,fun i hi=>?_⟩
  ·rw[← e1];exact Zaa.Zal hid
  ·rw[Zaa.Zah ht2,List.length_append];exact Zaa.Zal hit
  ·rw[Zaa.Zah (by omega),Zaa.Zah (by omega)]
def hex2 (c:UInt8):Tx:=[ZyR (c / 16),ZyR (c % 16)]
def Zy7 (l:Tx):Tx:=37 :: l.flatMap hex2
theorem ZyN {l:Tx} (h:ZyB l=false):ZyH l=Zy7 l:=by unfold ZyH Zy7;rw[h];rfl
theorem ZyF {l:Tx} (h:ZyB l=true):ZyH l=l:=by unfold ZyH;rw[h];rfl
theorem Zzj (l:Tx) {k:Nat} (h:k<l.length):Zy7 (l.take (k+1))=Zy7 (l.take k)++[ZyR (l[k] / 16)]++[ZyR (l[k] % 16)]:=by
 unfold Zy7
 rw[List.take_succ_eq_append_getElem h,List.flatMap_append]
 simp[hex2]
theorem ZyP (l:Tx):(Zy7 l).length=2 * l.length+1:=by
 unfold Zy7
 rw[List.length_cons]
 congr 1
 induction l with
 | nil=>rfl
 | cons x l ih=>rw[List.flatMap_cons,List.length_append,ih];simp[hex2];omega
def digs:Tx:=[48,49,50,51,52,53,54,55,56,57,97,98,99,100,101,102]
theorem dig_at:∀n:Fin 16,digs[n.val]?=some (ZyR (UInt8.ofNat n.val)):=by decide +kernel
theorem hi_lo:∀n:Fin 256,(UInt8.ofNat n.val / 16).toNat=n.val / 16∧(UInt8.ofNat n.val % 16).toNat=n.val % 16∧UInt8.ofNat (n.val / 16)=UInt8.ofNat n.val / 16∧UInt8.ofNat (n.val % 16)=UInt8.ofNat n.val % 16:=by decide +kernel
theorem byte_hi (c:UInt8):c.toNat / 16<16∧digs[c.toNat / 16]?=some (ZyR (c / 16)):=by
 have hlt:c.toNat<256:=c.toNat_lt
 have h:=hi_lo ⟨c.toNat,hlt⟩
 simp only[UInt8.ofNat_toNat]at h
 refine⟨by omega,?_⟩
 have:=dig_at ⟨c.toNat / 16,by omega⟩
 rw[this,h.2.2.1]
theorem byte_lo (c:UInt8):c.toNat % 16<16∧digs[c.toNat % 16]?=some (ZyR (c % 16)):=by
 have hlt:c.toNat<256:=c.toNat_lt
 have h:=hi_lo ⟨c.toNat,hlt⟩
 simp only[UInt8.ofNat_toNat]at h
 refine⟨by omega,?_⟩
 have:=dig_at ⟨c.toNat % 16,by omega⟩
 rw[this,h.2.2.2]
theorem Zy6 (l:Tx) (k:Nat):(⟨l.toArray⟩:ByteArray)[k]?=l[k]?:=by
 by_cases h:k<l.length
 ·rw[byte_at h,List.getElem?_eq_getElem h]
 ·rw[List.getElem?_eq_none (by omega)]
  show(if h:k<l.toArray.size then some _ else none)=_
  rw[dif_neg (by simpa using h)]
theorem shr4 (n:Nat):((n:Int).fdiv (2 ^ min 4 IntKind.u8.bits))=((n / 16:Nat):Int):=by
 have:min 4 IntKind.u8.bits=4:=rfl
 rw[this]
 rw[Int.fdiv_eq_ediv_of_nonneg _ (by decide)]
 omega
theorem and15F:∀n:Fin 256,IntKind.u8.wrap ((BitVec.ofInt IntKind.u8.bits (n.val:Int) &&& BitVec.ofInt IntKind.u8.bits 15).toNat:Int)=((n.val % 16:Nat):Int):=by decide +kernel
theorem and15 (c:UInt8):IntKind.u8.wrap ((BitVec.ofInt IntKind.u8.bits (c.toNat:Int) &&& BitVec.ofInt IntKind.u8.bits 15).toNat:Int)=((c.toNat % 16:Nat):Int):=and15F ⟨c.toNat,c.toNat_lt⟩
theorem ext_of {base:Nat} {H G:Zaa} (hb:base=H.next) (hn:base≤G.next) (hf:∀i,i<base→G.get i=H.get i):Zaa.Ext H G:=⟨by omega,fun i o ho=>(hf i (by have:=Zaa.lt ho;omega)).trans ho⟩
set_option maxHeartbeats 4000000 in
theorem ZyQ (q:Tx) (H:Zaa) (hl:q.length≤100000):Zay Tryz.prog 7 [eS q] H (Pure H (eS (ZyH q))):=by
 have hc:=bfb (ZyB q)
 rcases hc with hc|hc
 ·rw[ZyN hc]
  have hlen:=ZyP q
  refine Zak hE cf7 (Nat.le_of_ble_eq_true rfl) fun Q hQr hQn=>?_
  ((have hd:=trivial;repeat' (first|((first|apply Zad|apply Zac|apply Zab)<;>intro hd<;>(try simp only[hd]))|simp(disch:=first|assumption|omega|(simp only[nx]<;>omega)|fail)only [hd,hQr,hQn,ZzR,↓YA,YB,YC,YE,YF,YZ,sevalprocAttr]))<;>(try (have hd_:True:=hd;clear hd_ hd)))
  (refine Zap.use (ZyI q _ (by omega)) ?_;rintro _ _ ⟨rfl,k1,rfl⟩)
  ((have hd:=trivial;repeat' (first|((first|apply Zad|apply Zac|apply Zab)<;>intro hd<;>(try simp only[hd]))|simp(disch:=first|assumption|omega|(simp only[nx]<;>omega)|fail)only [hd,hQr,hQn,ZzR,↓YA,YB,YC,YE,YF,YZ,sevalprocAttr,hc]))<;>(try (have hd_:True:=hd;clear hd_ hd)))
  have hb0:BldA H.next ((H.bump k1).alloc (.cells [.sc (.pointer none),.sl .full []] 54)) (H.next+k1) []:=⟨by omega,by simp;omega,.inl ⟨rfl,Zaa.Zae (H:=H.bump k1)⟩⟩
  have hf0:∀i,i<H.next→((H.bump k1).alloc (.cells [.sc (.pointer none),.sl .full []] 54)).get i=H.get i:=fun i hi=>by
   rw[Zaa.Zag (by simp only[nx];omega)];rfl
  refine Zap.use (ZyT H.next (H.next+k1) [] 37 _ hb0 (by simp)) ?_
  rintro r G ⟨rfl,hn1,hB1,hf1⟩
  have hf1:∀i,i<H.next→G.get i=H.get i:=fun i hi=>(hf1 i hi).trans (hf0 i hi)
  clear hf0 hb0
  generalize H.next+k1=id at *
  ((have hd:=trivial;repeat' (first|((first|apply Zad|apply Zac|apply Zab)<;>intro hd<;>(try simp only[hd]))|simp(disch:=first|assumption|omega|(simp only[nx]<;>omega)|fail)only [hd,hQr,hQn,ZzR,↓YA,YB,YC,YE,YF,YZ,sevalprocAttr]))<;>(try (have hd_:True:=hd;clear hd_ hd)))
  refine ZbJ (N:=q.length) (fun k F G=>Fr.get F 11=.i (k:Int)∧Fr.get F 10=.i (q.length:Int)∧Fr.get F 0=eS q∧Fr.get F 3=.ptr id 0∧BldA H.next G id (Zy7 (q.take k))∧∀i,i<H.next→G.get i=H.get i) (by unfold maxLen;omega) (fun k F G h=>⟨h.1,h.2.1⟩) (GStep.refl _ _) ⟨rfl,rfl,rfl,rfl,hB1,hf1⟩ ?_ ?_
  ·rintro k F G hk ⟨f11,f10,f0,f3,hB,hf⟩
   have hs:=byte_at hk
   have h0:(0:Int)≤(k:Int):=by omega
   have hsn:=Zzj q hk
   have hle:=ZyP (q.take k)
   have hlt:(q.take k).length≤q.length:=by rw[List.length_take];omega
   generalize q[k]=c at *
   obtain⟨hi1,hi2⟩:=byte_hi c
   obtain⟨lo1,lo2⟩:=byte_lo c
   have hv1:=shr4 c.toNat
   have hd1:(⟨#[48,49,50,51,52,53,54,55,56,57,97,98,99,100,101,102]⟩:ByteArray)[c.toNat / 16]?=some (ZyR (c / 16)):=(Zy6 digs _).trans hi2
   have hd2:(⟨#[48,49,50,51,52,53,54,55,56,57,97,98,99,100,101,102]⟩:ByteArray)[c.toNat % 16]?=some (ZyR (c % 16)):=(Zy6 digs _).trans lo2
   have hz1:(0:Int)≤((c.toNat / 16:Nat):Int):=by omega
   have ht1:(((c.toNat / 16:Nat):Int)).toNat=c.toNat / 16:=by omega
   ((have hd:=trivial;repeat' (first|((first|apply Zad|apply Zac|apply Zab)<;>intro hd<;>(try simp only[hd]))|simp(disch:=first|assumption|omega|(simp only[nx]<;>omega)|fail)only [hd,hQr,hQn,ZzR,↓YA,YB,YC,YE,YF,YZ,sevalprocAttr,f11,f10,f0,f3,hs,h0,hv1,hd1,hz1,ht1]))<;>(try (have hd_:True:=hd;clear hd_ hd)))
   refine Zap.use (ZyT H.next id _ (ZyR (c / 16)) _ hB (by omega)) ?_
   rintro r G2 ⟨rfl,hn2,hB2,hf2⟩
   have hv2:=and15 c
   have hz2:(0:Int)≤((c.toNat % 16:Nat):Int):=by omega
   have ht2:(((c.toNat % 16:Nat):Int)).toNat=c.toNat % 16:=by omega
   ((have hd:=trivial;repeat' (first|((first|apply Zad|apply Zac|apply Zab)<;>intro hd<;>(try simp only[hd]))|simp(disch:=first|assumption|omega|(simp only[nx]<;>omega)|fail)only [hd,hQr,hQn,ZzR,↓YA,YB,YC,YE,YF,YZ,sevalprocAttr,f11,f10,f0,f3,hs,h0,hv2,hd2,hz2,ht2]))<;>(try (have hd_:True:=hd;clear hd_ hd)))
   refine Zap.use (ZyT H.next id _ (ZyR (c % 16)) _ hB2 (by rw[List.length_append];simp only[List.length_cons,List.length_nil];omega)) ?_
   rintro r G3 ⟨rfl,hn3,hB3,hf3⟩
   rw[← hsn]at hB3
   ((have hd:=trivial;repeat' (first|((first|apply Zad|apply Zac|apply Zab)<;>intro hd<;>(try simp only[hd]))|simp(disch:=first|assumption|omega|(simp only[nx]<;>omega)|fail)only [hd,hQr,hQn,ZzR,↓YA,YB,YC,YE,YF,YZ,sevalprocAttr,f11,f10,f0,f3]))<;>(try (have hd_:True:=hd;clear hd_ hd)))
   exact⟨hB3,fun i hi=>(hf3 i hi).trans ((hf2 i hi).trans (hf i hi))⟩
  ·rintro F G ⟨f11,f10,f0,f3,hB,hf⟩
   rw[List.take_length]at hB
   have hn:=hB.2.1
   ((have hd:=trivial;repeat' (first|((first|apply Zad|apply Zac|apply Zab)<;>intro hd<;>(try simp only[hd]))|simp(disch:=first|assumption|omega|(simp only[nx]<;>omega)|fail)only [hd,hQr,hQn,ZzR,↓YA,YB,YC,YE,YF,YZ,sevalprocAttr,f11,f10,f0,f3]))<;>(try (have hd_:True:=hd;clear hd_ hd)))
   refine Zap.use (Zxi H.next id _ G hB (by simp[Zy7]) (by omega)) ?_
   rintro r G2 ⟨rfl,hn2,hf2⟩
   ((have hd:=trivial;repeat' (first|((first|apply Zad|apply Zac|apply Zab)<;>intro hd<;>(try simp only[hd]))|simp(disch:=first|assumption|omega|(simp only[nx]<;>omega)|fail)only [hd,hQr,hQn,ZzR,↓YA,YB,YC,YE,YF,YZ,sevalprocAttr]))<;>(try (have hd_:True:=hd;clear hd_ hd)))
   exact ZaW (ext_of rfl (by omega) fun i hi=>(hf2 i hi).trans (hf i hi)) rfl
 ·rw[ZyF hc]
  refine Zak hE cf7 (Nat.le_of_ble_eq_true rfl) fun Q hQr hQn=>?_
  ((have hd:=trivial;repeat' (first|((first|apply Zad|apply Zac|apply Zab)<;>intro hd<;>(try simp only[hd]))|simp(disch:=first|assumption|omega|(simp only[nx]<;>omega)|fail)only [hd,hQr,hQn,ZzR,↓YA,YB,YC,YE,YF,YZ,sevalprocAttr]))<;>(try (have hd_:True:=hd;clear hd_ hd)))
  (refine Zap.use (ZyI q _ (by omega)) ?_;rintro _ _ ⟨rfl,k1,rfl⟩)
  ((have hd:=trivial;repeat' (first|((first|apply Zad|apply Zac|apply Zab)<;>intro hd<;>(try simp only[hd]))|simp(disch:=first|assumption|omega|(simp only[nx]<;>omega)|fail)only [hd,hQr,hQn,ZzR,↓YA,YB,YC,YE,YF,YZ,sevalprocAttr,hc]))<;>(try (have hd_:True:=hd;clear hd_ hd)))
  refine Zcm (by rfl)
theorem hexF1:∀n:Fin 16,n.val<10→IntKind.u8.wrap (48+(n.val:Int))=((ZyR (UInt8.ofNat n.val)).toNat:Int):=by decide +kernel
theorem hexF2:∀n:Fin 16,¬n.val<10→IntKind.u8.wrap (IntKind.u8.wrap (97+(n.val:Int)) - 10)=((ZyR (UInt8.ofNat n.val)).toNat:Int):=by decide +kernel
theorem Zy4 (n:Nat) (hn:n<16) (H:Zaa):Zay Tryz.prog 23 [.sc (.int .u8 (n:Int))] H (Pure H (u8 (ZyR (UInt8.ofNat n)))):=by
 by_cases h:n<10
 ·have d:decide ((n:Int)<10)=true:=by simp;omega
  have hw:=hexF1 ⟨n,hn⟩ h
  simp only at hw
  refine Zak hE cf23 (Nat.le_of_ble_eq_true rfl) fun Q hQr hQn=>?_
  ((have hd:=trivial;repeat' (first|((first|apply Zad|apply Zac|apply Zab)<;>intro hd<;>(try simp only[hd]))|simp(disch:=first|assumption|omega|(simp only[nx]<;>omega)|fail)only [hd,hQr,hQn,Zga,↓YA,YB,YC,YE,YF,YZ,sevalprocAttr,d,hw]))<;>(try (have hd_:True:=hd;clear hd_ hd)))
  refine Zcm (by rfl)
 ·have d:decide ((n:Int)<10)=false:=by simp;omega
  have hw:=hexF2 ⟨n,hn⟩ h
  simp only at hw
  refine Zak hE cf23 (Nat.le_of_ble_eq_true rfl) fun Q hQr hQn=>?_
  ((have hd:=trivial;repeat' (first|((first|apply Zad|apply Zac|apply Zab)<;>intro hd<;>(try simp only[hd]))|simp(disch:=first|assumption|omega|(simp only[nx]<;>omega)|fail)only [hd,hQr,hQn,Zga,↓YA,YB,YC,YE,YF,YZ,sevalprocAttr,d,hw]))<;>(try (have hd_:True:=hd;clear hd_ hd)))
  refine Zcm (by rfl)
theorem hex_hi (c:UInt8) (H:Zaa):Zay Tryz.prog 23 [.sc (.int .u8 ((c.toNat / 16:Nat):Int))] H (Pure H (u8 (ZyR (c / 16)))):=by
 have h:=hi_lo ⟨c.toNat,c.toNat_lt⟩
 simp only[UInt8.ofNat_toNat]at h
 have:=Zy4 (c.toNat / 16) (by have:=c.toNat_lt;omega) H
 rw[h.2.2.1]at this
 exact this
theorem hex_lo (c:UInt8) (H:Zaa):Zay Tryz.prog 23 [.sc (.int .u8 ((c.toNat % 16:Nat):Int))] H (Pure H (u8 (ZyR (c % 16)))):=by
 have h:=hi_lo ⟨c.toNat,c.toNat_lt⟩
 simp only[UInt8.ofNat_toNat]at h
 have:=Zy4 (c.toNat % 16) (by omega) H
 rw[h.2.2.2]at this
 exact this
def TokA (base:Nat) (G:Zaa) (E:TypeId) (sz n:Nat) (tok:Tok):Prop:=tok=.full∨∃t,base≤t∧tok=.own t∧G.get t=some (.tok n E sz)
theorem ZyX:∀l:Tx,Zef (rB l)=some (l.map fun c=>(c.toNat:Int))
 | []=>rfl
 | c :: l=>by
  have ih:=ZyX l
  simp only[List.map_cons,Zef]at ih ⊢
  rw[ih]
  rfl
theorem Zza (l:Tx):strOf (l.map fun c=>(c.toNat:Int))=⟨l.toArray⟩:=by
 have key:∀(l:Tx) (r:ByteArray),(l.map fun c=>(c.toNat:Int)).foldl (fun r n=>r.push (UInt8.ofNat n.toNat)) r=⟨r.data++l.toArray⟩:=by
  intro l
  induction l with
  | nil=>intro r;simp
  | cons c l ih =>
   intro r
   simp only[List.map_cons,List.foldl_cons]
   rw[ih]
   congr 1
   simp[ByteArray.data_push]
 unfold strOf
 rw[key]
 simp
theorem quo16 (c:UInt8):IntKind.u8.wrap ((c.toNat:Int).tdiv 16)=((c.toNat / 16:Nat):Int):=by
 have:∀n:Fin 256,IntKind.u8.wrap ((n.val:Int).tdiv 16)=((n.val / 16:Nat):Int):=by decide +kernel
 exact this ⟨c.toNat,c.toNat_lt⟩
theorem rem16 (c:UInt8):IntKind.u8.wrap ((c.toNat:Int).tmod 16)=((c.toNat % 16:Nat):Int):=by
 have:∀n:Fin 256,IntKind.u8.wrap ((n.val:Int).tmod 16)=((n.val % 16:Nat):Int):=by decide +kernel
 exact this ⟨c.toNat,c.toNat_lt⟩
theorem AW_bl {P:Prg} {body:Zar} {id:Nat} {Q:AEx→Fr→Zaa→Prop} {F:Fr} {H:Zaa} (I:Nat→Fr→Zaa→Prop) (n:Nat) {F1:Fr} {H1:Zaa} (hg:GStep F H F1 H1) (h0:I n F1 H1) (round:∀n F H,I n F H→AW P body (LopQ I n (BlkQ id Q)) F H):AW P (.blk id (.loop body)) Q F H:=by
 rw[Y_blk]
 exact Zg1 I n hg h0 round
set_option maxHeartbeats 4000000 in
theorem ZyV (q:Tx) (H:Zaa) (hl:q.length≤100000):Zay Tryz.prog 10 [eS q] H (Pure H (eS (ZyH q))):=by
 have hc:=bfb (ZyB q)
 rcases hc with hc|hc
 ·rw[ZyN hc]
  have hlen:=ZyP q
  refine Zak hE cf10 (Nat.le_of_ble_eq_true rfl) fun Q hQr hQn=>?_
  ((have hd:=trivial;repeat' (first|((first|apply Zad|apply Zac|apply Zab)<;>intro hd<;>(try simp only[hd]))|simp(disch:=first|assumption|omega|(simp only[nx]<;>omega)|fail)only [hd,hQr,hQn,ZkB,↓YA,YB,YC,YE,YF,YZ,sevalprocAttr]))<;>(try (have hd_:True:=hd;clear hd_ hd)))
  (refine Zap.use (ZyE q _ (by omega)) ?_;rintro _ _ ⟨rfl,k1,rfl⟩)
  ((have hd:=trivial;repeat' (first|((first|apply Zad|apply Zac|apply Zab)<;>intro hd<;>(try simp only[hd]))|simp(disch:=first|assumption|omega|(simp only[nx]<;>omega)|fail)only [hd,hQr,hQn,ZkB,↓YA,YB,YC,YE,YF,YZ,sevalprocAttr,hc]))<;>(try (have hd_:True:=hd;clear hd_ hd)))
  refine AW_bl (fun n F G=>∃i tok,i≤q.length∧n=q.length - i∧Fr.get F 4=.i (i:Int)∧Fr.get F 0=eS q∧Fr.get F 3=.sl tok (rB (Zy7 (q.take i)))∧Zaa.Ext H G∧TokA H.next G 5 1 (2 * i+1) tok) q.length (GStep.refl _ _) ⟨0,.full,Nat.zero_le _,rfl,rfl,rfl,rfl,?_,.inl rfl⟩ ?_
  ·exact(Zaa.Ext.refl H).bump
  ·rintro n F G ⟨i,tok,hi,rfl,f4,f0,f3,hx,hT⟩
   by_cases h:i<q.length
   ·have d:decide ((i:Int)<(q.length:Int))=true:=by simp;omega
    have hs:=byte_at h
    have h0:(0:Int)≤(i:Int):=by omega
    have hsn:=Zzj q h
    have hle:=ZyP (q.take i)
    have hlt:(q.take i).length=i:=by rw[List.length_take];omega
    have hw:IntKind.i64.wrap ((i:Int)+1)=((i+1:Nat):Int):=by rw[Zaw (by omega) (by omega)];omega
    generalize q[i]=c at *
    have h16:((16:Int)=0)=False:=by simp
    have hq:=quo16 c
    have hr:=rem16 c
    have hrl:(rB (Zy7 (q.take i))).length=2 * i+1:=by rw[List.length_map,hle,hlt]
    have hal:ZaE 1 (rB (Zy7 (q.take i)))=true:=ZaU (f:=fun c:UInt8=>[u8 c]) (sz:=1) (fun _=>rfl) _
    have hal2:ZaE 1 [[u8 (ZyR (c / 16))],[u8 (ZyR (c % 16))]]=true:=rfl
    have hm1:2 * i+1+2≤maxLen:=by unfold maxLen;omega
    have hap:rB (Zy7 (q.take i))++[[u8 (ZyR (c / 16))],[u8 (ZyR (c % 16))]]=rB (Zy7 (q.take (i+1))):=by rw[hsn];simp
    have hm2:2 * i+1+2≤140737488355328:=by omega
    rcases hT with rfl|⟨t,ht,rfl,hgt⟩
    ·((have hd:=trivial;repeat' (first|((first|apply Zad|apply Zac|apply Zab)<;>intro hd<;>(try simp only[hd]))|simp(disch:=first|assumption|omega|(simp only[nx]<;>omega)|fail)only [hd,hQr,hQn,ZkB,↓YA,YB,YC,YE,YF,YZ,sevalprocAttr,f4,f0,f3,d,hs,h0,hw,hq,hr,h16]))<;>(try (have hd_:True:=hd;clear hd_ hd)))
     (refine Zap.use (hex_hi c _) ?_;rintro _ _ ⟨rfl,k2,rfl⟩)
     ((have hd:=trivial;repeat' (first|((first|apply Zad|apply Zac|apply Zab)<;>intro hd<;>(try simp only[hd]))|simp(disch:=first|assumption|omega|(simp only[nx]<;>omega)|fail)only [hd,hQr,hQn,ZkB,↓YA,YB,YC,YE,YF,YZ,sevalprocAttr,f4,f0,f3,d,hs,h0,hw,hq,hr,h16]))<;>(try (have hd_:True:=hd;clear hd_ hd)))
     (refine Zap.use (hex_lo c _) ?_;rintro _ _ ⟨rfl,k3,rfl⟩)
     ((have hd:=trivial;repeat' (first|((first|apply Zad|apply Zac|apply Zab)<;>intro hd<;>(try simp only[hd]))|simp(disch:=first|assumption|omega|(simp only[nx]<;>omega)|fail)only [hd,hQr,hQn,ZkB,↓YA,YB,YC,YE,YF,YZ,sevalprocAttr,f4,f0,f3,d,hs,h0,hw,hq,hr,h16,hrl,hal,hal2,hm1,hm2,hap]))<;>(try (have hd_:True:=hd;clear hd_ hd)))
     have hnx:=hx.next
     exact⟨_,by omega,i+1,_,by omega,rfl,rfl,rfl,(hx.bump.bump).alloc,.inr ⟨_,by omega,rfl,Zaa.Zae (H:=(G.bump k2).bump k3)⟩⟩
    ·((have hd:=trivial;repeat' (first|((first|apply Zad|apply Zac|apply Zab)<;>intro hd<;>(try simp only[hd]))|simp(disch:=first|assumption|omega|(simp only[nx]<;>omega)|fail)only [hd,hQr,hQn,ZkB,↓YA,YB,YC,YE,YF,YZ,sevalprocAttr,f4,f0,f3,d,hs,h0,hw,hq,hr,h16]))<;>(try (have hd_:True:=hd;clear hd_ hd)))
     (refine Zap.use (hex_hi c _) ?_;rintro _ _ ⟨rfl,k2,rfl⟩)
     ((have hd:=trivial;repeat' (first|((first|apply Zad|apply Zac|apply Zab)<;>intro hd<;>(try simp only[hd]))|simp(disch:=first|assumption|omega|(simp only[nx]<;>omega)|fail)only [hd,hQr,hQn,ZkB,↓YA,YB,YC,YE,YF,YZ,sevalprocAttr,f4,f0,f3,d,hs,h0,hw,hq,hr,h16]))<;>(try (have hd_:True:=hd;clear hd_ hd)))
     (refine Zap.use (hex_lo c _) ?_;rintro _ _ ⟨rfl,k3,rfl⟩)
     ((have hd:=trivial;repeat' (first|((first|apply Zad|apply Zac|apply Zab)<;>intro hd<;>(try simp only[hd]))|simp(disch:=first|assumption|omega|(simp only[nx]<;>omega)|fail)only [hd,hQr,hQn,ZkB,↓YA,YB,YC,YE,YF,YZ,sevalprocAttr,f4,f0,f3,d,hs,h0,hw,hq,hr,h16,hrl,hal,hal2,hm1,hm2,hap,hgt]))<;>(try (have hd_:True:=hd;clear hd_ hd)))
     exact⟨_,by omega,i+1,_,by omega,rfl,rfl,rfl,(hx.bump.bump).set ht,.inr ⟨t,ht,rfl,Zaa.Zal (Zaa.lt (H:=(G.bump k2).bump k3) hgt)⟩⟩
   ·have d:decide ((i:Int)<(q.length:Int))=false:=by simp;omega
    have hi:i=q.length:=by omega
    subst hi
    rw[List.take_length]at f3
    have hby:=ZyX (Zy7 q)
    have hso:=Zza (Zy7 q)
    generalize (Zy7 q)=z at *
    ((have hd:=trivial;repeat' (first|((first|apply Zad|apply Zac|apply Zab)<;>intro hd<;>(try simp only[hd]))|simp(disch:=first|assumption|omega|(simp only[nx]<;>omega)|fail)only [hd,hQr,hQn,ZkB,↓YA,YB,YC,YE,YF,YZ,sevalprocAttr,f4,f0,f3,d,hby,hso]))<;>(try (have hd_:True:=hd;clear hd_ hd)))
    exact Zcm rfl hx
 ·rw[ZyF hc]
  refine Zak hE cf10 (Nat.le_of_ble_eq_true rfl) fun Q hQr hQn=>?_
  ((have hd:=trivial;repeat' (first|((first|apply Zad|apply Zac|apply Zab)<;>intro hd<;>(try simp only[hd]))|simp(disch:=first|assumption|omega|(simp only[nx]<;>omega)|fail)only [hd,hQr,hQn,ZkB,↓YA,YB,YC,YE,YF,YZ,sevalprocAttr]))<;>(try (have hd_:True:=hd;clear hd_ hd)))
  (refine Zap.use (ZyE q _ (by omega)) ?_;rintro _ _ ⟨rfl,k1,rfl⟩)
  ((have hd:=trivial;repeat' (first|((first|apply Zad|apply Zac|apply Zab)<;>intro hd<;>(try simp only[hd]))|simp(disch:=first|assumption|omega|(simp only[nx]<;>omega)|fail)only [hd,hQr,hQn,ZkB,↓YA,YB,YC,YE,YF,YZ,sevalprocAttr,hc]))<;>(try (have hd_:True:=hd;clear hd_ hd)))
  refine Zcm (by rfl)
structure ZyK (l:Tx) (j:Nat) (done:Tx):Prop where
 len:done.length=j
 le:2 * j≤l.length
 eq:unhex l=(unhex (l.drop (2 * j))).map (done++·)
theorem ZyK.ini (l:Tx):ZyK l 0 []:=⟨rfl,Nat.zero_le _,by
 rw[Nat.mul_zero,List.drop_zero]
 cases unhex l<;>rfl⟩
theorem ZzI {l:Tx} {k:Nat} (h:k+1<l.length):l.drop k=l[k] :: l[k+1] :: l.drop (k+2):=by
 rw[List.drop_eq_getElem_cons (by omega),List.drop_eq_getElem_cons h]
theorem ZyK.step {l:Tx} {j:Nat} {done:Tx} (h:ZyK l j done) (hl:2 * j+1<l.length) (ha:ZyC l[2 * j]<16) (hb:ZyC l[2 * j+1]<16):ZyK l (j+1) (done++[ZyC l[2 * j] * 16+ZyC l[2 * j+1]]):=by
 refine⟨by simp[h.len],by omega,?_⟩
 rw[h.eq,ZzI hl,unhex,if_pos ⟨ha,hb⟩,show 2 * (j+1)=2 * j+2 by omega]
 cases unhex (l.drop (2 * j+2))<;>simp
theorem ZyK.bad {l:Tx} {j:Nat} {done:Tx} (h:ZyK l j done) (hl:2 * j+1<l.length) (hb:¬(ZyC l[2 * j]<16∧ZyC l[2 * j+1]<16)):unhex l=none:=by
 rw[h.eq,ZzI hl,unhex,if_neg hb]
 rfl
theorem ZyK.fin {l:Tx} {j:Nat} {done:Tx} (h:ZyK l j done) (hl:¬2 * j+1<l.length):unhex l=some done:=by
 rw[h.eq]
 have hd:(l.drop (2 * j)).length<2:=by rw[List.length_drop];omega
 match hm:l.drop (2 * j),hd with
 | [],_=>simp[unhex]
 | [_],_=>simp[unhex]
 | _ :: _ :: _,h=>simp at h;omega
end Go.Proofs.YtemmgefppobboaaGreatDoor
