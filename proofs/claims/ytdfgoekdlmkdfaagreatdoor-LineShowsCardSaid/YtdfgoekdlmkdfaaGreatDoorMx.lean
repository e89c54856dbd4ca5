/- Texts of the walk. -/
import Derived.Test.YtdfgoekdlmkdfaaGreatDoorMu
namespace Go.Proofs.YtdfgoekdlmkdfaaGreatDoor
set_option linter.defProp false
set_option maxHeartbeats 64000000
set_option linter.unusedSimpArgs false
set_option linter.unusedVariables false
open Go.RowKit Go.Lib
theorem ZLg:∀(j n m:Nat),beB j n=beB j m->n % 256 ^ j=m % 256 ^ j
 | 0,n,m,_=>by simp[Nat.mod_one]
 | j+1,n,m,h=>by
  rw[beB,beB]at h
  injection h with h1 h2
  have ih:=ZLg j n m h2
  have h1:(n / 256 ^ j) % 256=(m / 256 ^ j) % 256:=by
   have:=congrArg UInt8.toNat h1
   simpa using this
  rw[Nat.pow_succ,Nat.mod_mul,Nat.mod_mul,ih,h1]
theorem ZLN {n m:Nat} {r q:Tx} (hn:n<18446744073709551616) (hm:m<18446744073709551616) (h:ZA2 n++r=ZA2 m++q):ZA5 n=ZA5 m:=by
 obtain⟨a1,a2⟩:=ZIg hn
 obtain⟨b1,b2⟩:=ZIg hm
 unfold ZA2 at h
 rw[List.cons_append,List.cons_append]at h
 injection h with h1 h2
 have h1:=congrArg UInt8.toNat h1
 rw[a1,b1]at h1
 have sn:=ZA7 n
 have sm:=ZA7 m
 generalize n / 256 ^ (ZA5 n - 1)=x at *
 generalize m / 256 ^ (ZA5 m - 1)=y at *
 rcases Nat.lt_trichotomy (ZA5 n) (ZA5 m)with hl|hl|hl
 ·have:=a2 Xa
  have l:=(ZDh ⟨ZA5 n+1,Xa⟩ ⟨ZA5 m,Xa⟩ Xc Xf).1
  simp only at l
  omega
 ·exact hl
 ·have:=b2 Xa
  have l:=(ZDh ⟨ZA5 m+1,Xa⟩ ⟨ZA5 n,Xa⟩ Xc Xf).1
  simp only at l
  omega
theorem putB_inj {n m:Nat} {r q:Tx} (hn:n<18446744073709551616) (hm:m<18446744073709551616) (h:ZA2 n++r=ZA2 m++q):n=m/\r=q:=by
 have hs:=ZLN hn hm h
 obtain⟨h1,h2⟩:=List.append_inj h (by rw[ZA3,ZA3,hs])
 refine⟨?_,h2⟩
 have a1:=(ZIg hn).1
 have b1:=(ZIg hm).1
 unfold ZA2 at h1
 injection h1 with h3 h4
 have h3:=congrArg UInt8.toNat h3
 rw[a1,b1,hs]at h3
 rw[hs]at h4
 have h5:=ZLg _ _ _ h4
 have h6:n / 256 ^ (ZA5 m - 1)=m / 256 ^ (ZA5 m - 1):=Xa
 have e1:=zbX n (256 ^ (ZA5 m - 1))
 have e2:=zbX m (256 ^ (ZA5 m - 1))
 rw[h6,h5]at e1
 omega
def IsNum (b:Tx) (p:Nat×Tx):Prop:=p.1<18446744073709551616/\b=ZA2 p.1++p.2
open Classical in
noncomputable def gAny (b:Tx):Option (Nat×Tx):=if h:∃p,IsNum b p then some (Classical.choose h) else none
theorem ZKQ {n:Nat} {r:Tx} (hn:n<18446744073709551616):gAny (ZA2 n++r)=some (n,r):=by
 have h:∃p,IsNum (ZA2 n++r) p:=⟨(n,r),hn,rfl⟩
 unfold gAny
 rw[dif_pos h]
 obtain⟨h1,h2⟩:=zbA h
 obtain⟨h3,h4⟩:=putB_inj hn h1 h2
 congr 1
 exact Prod.ext h3.symm h4.symm
theorem ZHX {b:Tx} {n:Nat} {r:Tx} (h:gAny b=some (n,r)):n<18446744073709551616/\b=ZA2 n++r:=by
 unfold gAny at h
 split at h
 ·rename_i hh
  injection h with h
  have:=zbA hh
  rw[h]at this
  exact this
 ·cases h
noncomputable def gNum (most:Nat) (b:Tx):Option (Nat×Tx):=match gAny b with
 | some (n,r)=>if n<=most then some (n,r) else none
 | none=>none
theorem ZHr {most:Nat} {b:Tx} {n:Nat} {r:Tx} (h:gNum most b=some (n,r)):n<=most/\n<18446744073709551616/\b=ZA2 n++r:=by
 unfold gNum at h
 split at h
 ·rename_i n' r' e
  split at h
  ·rename_i hl
   injection h with h
   injection h with h1 h2
   subst h1 h2
   exact⟨hl,ZHX e⟩
  ·cases h
 ·cases h
noncomputable def gTxt (most:Nat) (b:Tx):Option (Tx×Tx):=match gNum most b with
 | some (n,r)=>if n<=r.length then some (r.take n,r.drop n) else none
 | none=>none
theorem ZH4 {most:Nat} {b:Tx} {s r:Tx} (h:gTxt most b=some (s,r)):s.length<=most/\b=ZA4 s++r:=by
 unfold gTxt at h
 split at h
 ·rename_i n r' e
  obtain⟨h1,h2,h3⟩:=ZHr e
  split at h
  ·rename_i hl
   injection h with h
   injection h with ha hb
   subst ha hb
   have hlen:(r'.take n).length=n:=by rw[zau];omega
   refine⟨Xa,?_⟩
   rw[h3,ZA4,hlen,zam,zaV]
  ·cases h
 ·cases h
def ZHu {α:Type} (f:List α->Tx->Option (α×Tx)):Nat->List α->Tx->Option (List α×Tx)
 | 0,acc,b=>some (acc,b)
 | n+1,acc,b=>match f acc b with
  | some (a,r)=>ZHu f n (acc++[a]) r
  | none=>none
open Go.RowKit Go.Lib
noncomputable def gTrm (acc:List Tx) (b:Tx):Option (Tx×Tx):=match gNum (ZGI [] acc).length b with
 | some (k,r)=>match gTxt 16 r with
  | some (s,r2)=>if isT ((ZGI [] acc).take k++s)=true/\ZGI [] acc<(ZGI [] acc).take k++s/\ZB1 (ZGI [] acc) ((ZGI [] acc).take k++s)=k then some ((ZGI [] acc).take k++s,r2) else none
  | none=>none
 | none=>none
theorem gTrm_is {acc:List Tx} {b t r:Tx} (h:gTrm acc b=some (t,r)):isT t=true/\ZGI [] acc<t/\b=ZA2 (ZB1 (ZGI [] acc) t)++(ZA4 (t.drop (ZB1 (ZGI [] acc) t))++r):=by
 unfold gTrm at h
 split at h
 ·rename_i k r1 e1
  obtain⟨h1,_,h2⟩:=ZHr e1
  split at h
  ·rename_i s r2 e2
   obtain⟨h3,h4⟩:=ZH4 e2
   split at h
   ·rename_i hc
    obtain⟨c1,c2,c3⟩:=hc
    injection h with h
    injection h with ha hb
    subst hb
    rw[ha]at c1 c2 c3
    refine⟨c1,c2,?_⟩
    rw[c3,h2,h4,<- ha,zbu (by rw[zau];omega)]
   ·cases h
  ·cases h
 ·cases h
noncomputable def gRow (most:Nat) (b:Tx):Option (List Tx×Tx):=match gNum most b with
 | some (n,r)=>ZHu gTrm n [] r
 | none=>none
theorem ZJr:∀(l:List Tx) (w:Option Tx) (t:Tx),Zgt w l=0->isT t=true->ZGI (w.getD []) l<t->Zgt w (l++[t])=0
 | [],w,t,_,h1,h2=>by
  rw[List.nil_append,Zhp,if_neg (by simp[h1]),if_neg]
  ·rfl
  ·cases w with
   | none=>simp[geT]
   | some q =>
    have h2:q<t:=h2
    simpa [geT] using h2
 | s :: r,w,t,h,h1,h2=>by
  rw[Zhp]at h
  rw[List.cons_append,Zhp]
  split at h
  ·cases h
  ·rename_i k1
   split at h
   ·cases h
   ·rename_i k2
    rw[if_neg k1,if_neg k2]
    exact ZJr r (some s) t h h1 h2
theorem ZKR {acc:List Tx} {t:Tx} (h:Zgt none acc=0) (h1:isT t=true) (h2:ZGI [] acc<t):Zgt none (acc++[t])=0:=ZJr acc none t h h1 h2
theorem ZKU:∀(n:Nat) (acc:List Tx) (b:Tx) (l:List Tx) (r:Tx),ZHu gTrm n acc b=some (l,r)->Zgt none acc=0->∃l',l=acc++l'/\l'.length=n/\Zgt none l=0/\b=ZBl (ZGI [] acc) l'++r
 | 0,acc,b,l,r,h,h0=>by
  simp only[ZHu,zab,zai]at h
  obtain⟨rfl,rfl⟩:=h
  exact⟨[],Xc,rfl,h0,by simp[ZBl]⟩
 | n+1,acc,b,l,r,h,h0=>by
  rw[ZHu]at h
  split at h
  ·rename_i t r1 e1
   obtain⟨h1,h2,h3⟩:=gTrm_is e1
   have h4:Zgt none (acc++[t])=0:=ZKR h0 h1 h2
   obtain⟨l',k1,k2,k3,k4⟩:=ZKU n _ _ _ _ h h4
   refine⟨t :: l',by rw[k1];simp,by simp[k2],k3,?_⟩
   rw[h3,k4,ZEL,ZBl]
   simp[zam]
  ·cases h
theorem ZI7 {most:Nat} {b:Tx} {l:List Tx} {r:Tx} (h:gRow most b=some (l,r)):l.length<=most/\Zgt none l=0/\b=ZB5 l++r:=by
 unfold gRow at h
 split at h
 ·rename_i n r1 e1
  obtain⟨h1,_,h2⟩:=ZHr e1
  obtain⟨l',k1,k2,k3,k4⟩:=ZKU n [] r1 l r h rfl
  rw[List.nil_append]at k1
  subst k1
  refine⟨Xa,k3,?_⟩
  rw[h2,k4,ZB5,k2,zam]
  rfl
 ·cases h
noncomputable def gNumI (most:Nat) (b:Tx):Option (Int×Tx):=(gNum most b).map fun p=>((p.1:Int),p.2)
theorem gNumI_is {most:Nat} {b:Tx} {n:Int} {r:Tx} (h:gNumI most b=some (n,r)):0<=n/\n<=most/\b=ZBX n++r:=by
 unfold gNumI at h
 cases e:gNum most b with
 | none=>rw[e]at h;cases h
 | some p =>
  rw[e]at h
  injection h with h
  injection h with h1 h2
  obtain⟨k1,_,k2⟩:=ZHr e
  subst h1 h2
  exact⟨Xa,Xa,k2⟩
noncomputable def gUps (above n:Nat) (b:Tx):Option (List Int×Tx):=if above=0 then some ([],b) else ZHu (fun _=>gNumI (above - 1)) n [] b
theorem ZH3 {α:Type} {f:Tx->Option (α×Tx)} (e:α->Tx) (V:α->Prop) (hf:∀b a r,f b=some (a,r)->b=e a++r/\V a):∀(n:Nat) (acc:List α) (b:Tx) (l:List α) (r:Tx),ZHu (fun _=>f) n acc b=some (l,r)->∃l',l=acc++l'/\l'.length=n/\(∀x∈l',V x)/\b=l'.flatMap e++r
 | 0,acc,b,l,r,h=>by
  simp only[ZHu,zab,zai]at h
  exact⟨[],by simp[h.1],rfl,fun _ h=>(by cases h),by simp[h.2]⟩
 | n+1,acc,b,l,r,h=>by
  rw[ZHu]at h
  split at h
  ·rename_i a r1 e1
   obtain⟨h1,h2⟩:=hf _ _ _ e1
   obtain⟨l',k1,k2,k3,k4⟩:=ZH3 e V hf n _ _ _ _ h
   refine⟨a :: l',by rw[k1];simp,by simp[k2],fun x hx=>?_,?_⟩
   ·rcases zak.1 hx with rfl|hx
    ·exact h2
    ·exact k3 x hx
   ·rw[h1,k4,zaz,zam]
  ·cases h
noncomputable def gTir (above:Nat) (b:Tx):Option (Tir×Tx):=match gTxt 12 b with
 | some (nm,r)=>match gRow 200 r with
  | some (l,r2)=>match gUps above l.length r2 with
   | some (u,r3)=>if ZbO ⟨nm,l,u⟩ (above:Int)=0 then some (⟨nm,l,u⟩,r3) else none
   | none=>none
  | none=>none
 | none=>none
theorem ZLb {above:Nat} {b:Tx} {t:Tir} {r:Tx} (h:gTir above b=some (t,r)):ZbO t (above:Int)=0/\b=ZB0 t++r:=by
 unfold gTir at h
 split at h
 ·rename_i nm r1 e1
  obtain⟨_,h1⟩:=ZH4 e1
  split at h
  ·rename_i l r2 e2
   obtain⟨_,_,h2⟩:=ZI7 e2
   split at h
   ·rename_i u r3 e3
    have h3:r2=u.flatMap ZBX++r3:=by
     unfold gUps at e3
     split at e3
     ·injection e3 with e3
      injection e3 with e3 e4
      subst e3 e4
      rfl
     ·obtain⟨l',k1,_,_,k4⟩:=ZH3 ZBX (fun _=>True) (fun b a r h=>⟨(gNumI_is h).2.2,trivial⟩) _ _ _ _ _ e3
      rw[List.nil_append]at k1
      rw[k1];exact k4
    split at h
    ·rename_i hc
     injection h with h
     injection h with ha hb
     subst ha hb
     refine⟨hc,?_⟩
     rw[h1,h2,h3,ZB0]
     simp[zam]
    ·cases h
   ·cases h
  ·cases h
 ·cases h
def ZHF (acc:List Tir):Nat:=match acc.getLast? with
 | some t=>t.terms.length
 | none=>0
noncomputable def gDim (b:Tx):Option (Dm×Tx):=match gTxt 12 b with
 | some (nm,r)=>match gNum 4 r with
  | some (n,r2)=>match ZHu (fun acc=>gTir (ZHF acc)) n [] r2 with
   | some (l,r3)=>if Zdv ⟨nm,l.reverse⟩=0 then some (⟨nm,l.reverse⟩,r3) else none
   | none=>none
  | none=>none
 | none=>none
theorem ZLR:∀(n:Nat) (acc:List Tir) (b:Tx) (l:List Tir) (r:Tx),ZHu (fun acc=>gTir (ZHF acc)) n acc b=some (l,r)->∃l',l=acc++l'/\l'.length=n/\b=l'.flatMap ZB0++r
 | 0,acc,b,l,r,h=>by
  simp only[ZHu,zab,zai]at h
  exact⟨[],by simp[h.1],rfl,by simp[h.2]⟩
 | n+1,acc,b,l,r,h=>by
  rw[ZHu]at h
  split at h
  ·rename_i a r1 e1
   obtain⟨_,h1⟩:=ZLb e1
   obtain⟨l',k1,k2,k4⟩:=ZLR n _ _ _ _ h
   exact⟨a :: l',by rw[k1];simp,by simp[k2],by rw[h1,k4,zaz,zam]⟩
  ·cases h
theorem ZK1 {b:Tx} {d:Dm} {r:Tx} (h:gDim b=some (d,r)):Zdv d=0/\b=dmB d++r:=by
 unfold gDim at h
 split at h
 ·rename_i nm r1 e1
  obtain⟨_,h1⟩:=ZH4 e1
  split at h
  ·rename_i n r2 e2
   obtain⟨_,_,h2⟩:=ZHr e2
   split at h
   ·rename_i l r3 e3
    obtain⟨l',k1,k2,k4⟩:=ZLR _ _ _ _ _ e3
    rw[List.nil_append]at k1
    subst k1
    split at h
    ·rename_i hc
     injection h with h
     injection h with ha hb
     subst ha hb
     refine⟨hc,?_⟩
     rw[h1,h2,k4,dmB]
     simp[zam,k2]
    ·cases h
   ·cases h
  ·cases h
 ·cases h
noncomputable def gSc (b:Tx):Option (Sc×Tx):=match gNum 16 b with
 | some (n,r)=>match ZHu (fun _=>gDim) n [] r with
  | some (ds,r2)=>match gNum 3 r2 with
   | some (m,r3)=>match ZHu (fun _=>gTxt 12) m [] r3 with
    | some (ms,r4)=>if scE ⟨ds,ms⟩=0 then some (⟨ds,ms⟩,r4) else none
    | none=>none
   | none=>none
  | none=>none
 | none=>none
theorem gSc_is {b:Tx} {s:Sc} {r:Tx} (h:gSc b=some (s,r)):scE s=0/\b=scB s++r:=by
 unfold gSc at h
 split at h
 ·rename_i n r1 e1
  obtain⟨_,_,h1⟩:=ZHr e1
  split at h
  ·rename_i ds r2 e2
   obtain⟨l1,a1,a2,_,a4⟩:=ZH3 dmB (fun _=>True) (fun b a r h=>⟨(ZK1 h).2,trivial⟩) _ _ _ _ _ e2
   rw[List.nil_append]at a1
   subst a1
   split at h
   ·rename_i m r3 e3
    obtain⟨_,_,h3⟩:=ZHr e3
    split at h
    ·rename_i ms r4 e4
     obtain⟨l2,b1,b2,_,b4⟩:=ZH3 ZA4 (fun _=>True) (fun b a r h=>⟨(ZH4 h).2,trivial⟩) _ _ _ _ _ e4
     rw[List.nil_append]at b1
     subst b1
     split at h
     ·rename_i hc
      injection h with h
      injection h with ha hb
      subst ha hb
      refine⟨hc,?_⟩
      rw[h1,a4,h3,b4,scB]
      simp[zam,a2,b2]
     ·cases h
    ·cases h
   ·cases h
  ·cases h
 ·cases h
noncomputable def wholeSc (b:Tx):Option Sc:=match gSc b with
 | some (s,[])=>some s
 | _=>none
theorem ZI8 {b:Tx} {s:Sc} (h:wholeSc b=some s):scE s=0/\b=scB s:=by
 unfold wholeSc at h
 split at h
 ·rename_i s' e
  injection h with h
  subst h
  obtain⟨h1,h2⟩:=gSc_is e
  exact⟨h1,by rw[h2,zaw]⟩
 ·cases h
open Go.RowKit Go.Lib
def ZLd (n:Nat):Int:=if n % 2=0 then ((n / 2:Nat):Int) else -((n / 2:Nat):Int) - 1
theorem unfN_in {n:Nat} (h:n<18446744073709551616):InI (ZLd n):=by
 unfold ZLd InI
 split<;>omega
theorem fold_unf {n:Nat}:ZDq (ZLd n)=n:=by
 unfold ZLd ZDq
 split<;>split<;>omega
noncomputable def gInt (b:Tx):Option (Int×Tx):=(gAny b).map fun p=>(ZLd p.1,p.2)
theorem ZKW {b:Tx} {n:Int} {r:Tx} (h:gInt b=some (n,r)):InI n/\b=ZCF n++r:=by
 unfold gInt at h
 cases e:gAny b with
 | none=>rw[e]at h;cases h
 | some p =>
  rw[e]at h
  injection h with h
  injection h with h1 h2
  obtain⟨k1,k2⟩:=ZHX e
  subst h1 h2
  exact⟨unfN_in k1,by rw[ZCF,fold_unf];exact k2⟩
noncomputable def gMem (b:Tx):Option (Tx×Tx):=match gTxt 16 b with
 | some (s,r)=>if isT s=true then some (s,r) else none
 | none=>none
theorem gMem_is {b s r:Tx} (h:gMem b=some (s,r)):b=ZA4 s++r/\isT s=true:=by
 unfold gMem at h
 split at h
 ·rename_i s' r' e
  split at h
  ·rename_i hc
   injection h with h
   injection h with h1 h2
   subst h1 h2
   exact⟨(ZH4 e).2,hc⟩
  ·cases h
 ·cases h
structure Rw where
 terms:List Tx
 vals:List Int
def rwB (r:Rw):Tx:=r.terms.flatMap ZA4++r.vals.flatMap ZCF
noncomputable def gRw (nd nm:Nat) (b:Tx):Option (Rw×Tx):=match ZHu (fun _=>gMem) nd [] b with
 | some (ts,r)=>match ZHu (fun _=>gInt) nm [] r with
  | some (vs,r2)=>some (⟨ts,vs⟩,r2)
  | none=>none
 | none=>none
structure RwOk (nd nm:Nat) (r:Rw):Prop where
 ts:r.terms.length=nd
 vs:r.vals.length=nm
 mem:∀t∈r.terms,isT t=true
 int:∀v∈r.vals,InI v
theorem gRw_is {nd nm:Nat} {b:Tx} {x:Rw} {r:Tx} (h:gRw nd nm b=some (x,r)):b=rwB x++r/\RwOk nd nm x:=by
 unfold gRw at h
 split at h
 ·rename_i ts r1 e1
  obtain⟨l1,a1,a2,a3,a4⟩:=ZH3 ZA4 (fun t=>isT t=true) (fun b a r h=>gMem_is h) _ _ _ _ _ e1
  rw[List.nil_append]at a1
  subst a1
  split at h
  ·rename_i vs r2 e2
   obtain⟨l2,b1,b2,b3,b4⟩:=ZH3 ZCF InI (fun b a r h=>⟨(ZKW h).2,(ZKW h).1⟩) _ _ _ _ _ e2
   rw[List.nil_append]at b1
   subst b1
   injection h with h
   injection h with h1 h2
   subst h1 h2
   exact⟨by rw[a4,b4,rwB,zam],a2,b2,a3,b3⟩
  ·cases h
 ·cases h
noncomputable def gRws (nd nm:Nat) (b:Tx):Option (List Rw×Tx):=match gNum 300 b with
 | some (n,r)=>ZHu (fun _=>gRw nd nm) n [] r
 | none=>none
theorem ZKN {nd nm:Nat} {b:Tx} {l:List Rw} {r:Tx} (h:gRws nd nm b=some (l,r)):l.length<=300/\b=ZA2 l.length++l.flatMap rwB++r/\∀x∈l,RwOk nd nm x:=by
 unfold gRws at h
 split at h
 ·rename_i n r1 e1
  obtain⟨k1,_,k2⟩:=ZHr e1
  obtain⟨l1,a1,a2,a3,a4⟩:=ZH3 rwB (RwOk nd nm) (fun b a r h=>gRw_is h) _ _ _ _ _ h
  rw[List.nil_append]at a1
  subst a1
  exact⟨Xa,by rw[k2,a4,a2,zam],a3⟩
 ·cases h
structure Pk where
 filt:Nat
 tier:Nat
 lo:Tx
 hi:Tx
 set:List Tx
 by':Nat
def pkB (p:Pk):Tx:=ZA2 p.filt++((if p.filt=1 then ZA2 p.tier++ZA4 p.lo++ZA4 p.hi else if p.filt=2 then ZA2 p.tier++ZB5 p.set else [])++ZA2 p.by')
noncomputable def gFil (f:Nat) (b:Tx):Option (Pk×Tx):=if f=1 then (match gNum 3 b with
  | some (t,r)=>match gTxt 16 r with
   | some (lo,r2)=>match gTxt 16 r2 with
    | some (hi,r3)=>some (⟨1,t,lo,hi,[],0⟩,r3)
    | none=>none
   | none=>none
  | none=>none)
 else if f=2 then (match gNum 3 b with
  | some (t,r)=>match gRow 200 r with
   | some (l,r2)=>some (⟨2,t,[],[],l,0⟩,r2)
   | none=>none
  | none=>none)
 else some (⟨0,0,[],[],[],0⟩,b)
noncomputable def gPk (b:Tx):Option (Pk×Tx):=match gNum 2 b with
 | some (f,r)=>match gFil f r with
  | some (p,r2)=>(gNum 4 r2).map fun q=>({ p with by':=q.1 },q.2)
  | none=>none
 | none=>none
structure ZIZ (p:Pk):Prop where
 f:p.filt<=2
 t:p.tier<=3
 lo:p.lo.length<=16
 hi:p.hi.length<=16
 set:Zgt none p.set=0
 len:p.set.length<=200
 b:p.by'<=4
 z0:p.filt=0->p.tier=0/\p.lo=[]/\p.hi=[]/\p.set=[]
 z1:p.filt=1->p.set=[]
 z2:p.filt=2->p.lo=[]/\p.hi=[]
theorem gPk_is {b:Tx} {p:Pk} {r:Tx} (h:gPk b=some (p,r)):b=pkB p++r/\ZIZ p:=by
 unfold gPk at h
 split at h
 ·rename_i f r1 e1
  obtain⟨k1,_,k2⟩:=ZHr e1
  split at h
  ·rename_i p0 r2 e2
   cases e3:gNum 4 r2 with
   | none=>rw[e3]at h;cases h
   | some q =>
    rw[e3]at h
    obtain⟨n,r3⟩:=q
    obtain⟨k3,_,k4⟩:=ZHr e3
    injection h with h
    injection h with h1 h2
    subst h1 h2
    unfold gFil at e2
    split at e2
    ·rename_i hf
     subst hf
     split at e2
     ·rename_i t q1 f1
      obtain⟨t1,_,t2⟩:=ZHr f1
      split at e2
      ·rename_i lo q2 f2
       obtain⟨u1,u2⟩:=ZH4 f2
       split at e2
       ·rename_i hi q3 f3
        obtain⟨v1,v2⟩:=ZH4 f3
        injection e2 with e2
        injection e2 with e2 e4
        subst e2 e4
        exact⟨by rw[k2,t2,u2,v2,k4];simp[pkB,zam],(show(1:Nat)<=2 by decide),t1,u1,v1,rfl,Xc,k3,fun h=>by simp at h,fun _=>rfl,fun h=>by simp at h⟩
       ·cases e2
      ·cases e2
     ·cases e2
    ·split at e2
     ·rename_i hf
      subst hf
      split at e2
      ·rename_i t q1 f1
       obtain⟨t1,_,t2⟩:=ZHr f1
       split at e2
       ·rename_i l q2 f2
        obtain⟨u1,u2,u3⟩:=ZI7 f2
        injection e2 with e2
        injection e2 with e2 e4
        subst e2 e4
        exact⟨by rw[k2,t2,u3,k4];simp[pkB,zam],(show(2:Nat)<=2 by decide),t1,Xc,Xc,u2,u1,k3,fun h=>by simp at h,fun h=>by simp at h,fun _=>⟨rfl,rfl⟩⟩
       ·cases e2
      ·cases e2
     ·have hf:f=0:=Xa
      subst hf
      injection e2 with e2
      injection e2 with e2 e4
      subst e2 e4
      exact⟨by rw[k2,k4];simp[pkB],(show(0:Nat)<=2 by decide),Xc,Xc,Xc,rfl,Xc,k3,fun _=>⟨rfl,rfl,rfl,rfl⟩,fun _=>rfl,fun _=>⟨rfl,rfl⟩⟩
  ·cases h
 ·cases h
open Go.RowKit Go.Lib
theorem join_cons (c:UInt8) (p:Tx):∀ps:List Tx,Lib.join (p :: ps) [c]=p++ps.flatMap fun w=>c :: w
 | []=>by simp[Lib.join]
 | q :: ps=>by
  have ih:=join_cons c q ps
  rw[zaz,List.cons_append,<- ih]
  rfl
theorem ZIa {c:UInt8} {l:List Tx} (hne:l≠[]) (h:∀w∈l,c ∉ w):ZyA c (Lib.join l [c])=l:=by
 cases l with
 | nil=>exact absurd rfl hne
 | cons p ps=>rw[join_cons];exact ZDB h
theorem ZIt {x:UInt8} (hx:ZyJ x=false/\x≠37) (s:Tx):x ∉ ZyH s:=fun h=>ZFl (ZCN s _ h) hx rfl
theorem word_ne (s:Tx):ZyH s≠[]:=fun h=>by
 have:=ZzS s
 rw[h]at this
 cases this
theorem ZKe:∀l:List Tx,tsB (l.map ZyH)=some l
 | []=>rfl
 | s :: l=>by rw[zao,tsB,ZzS,ZKe l];rfl
theorem ZIn (l:List Tx):ZBm (ZAc l)=some l:=by
 cases l with
 | nil=>rfl
 | cons s l =>
  have hne:ZAc (s :: l)≠[]:=by
   unfold ZAc
   rw[zao,join_cons]
   intro h
   exact word_ne s (List.append_eq_nil_iff.1 h).1
  unfold ZBm
  rw[if_neg hne]
  unfold ZAc
  rw[ZIa Xc (fun w hw=>?_)]
  ·exact ZKe _
  ·obtain⟨x,_,rfl⟩:=List.mem_map.1 hw
   exact ZIt Xb x
theorem ZIe {x:UInt8} (hx:ZyJ x=false/\x≠37) (h44:x≠44) (l:List Tx):x ∉ ZAc l:=fun h=>by
 exact ZGz hx h44 (ZIn l) h
theorem ZJ2 {n:Int} (h:InI n):numOf (itoa n)=some n:=by
 unfold numOf
 rw[ZDu h]
 simp
theorem ZK5:∀{l:List Int},(∀n∈l,InI n)->numsOf (l.map itoa)=some l
 | [],_=>rfl
 | n :: l,h=>by
  rw[zao,numsOf,ZJ2 (h n Xc),ZK5 fun m hm=>h m (by simp[hm])]
  rfl
def rwW (r:Rw):Tx:=ZAc r.terms++61 :: Lib.join (r.vals.map itoa) [44]
theorem itoa_ne (n:Int) (h:InI n):itoa n≠[]:=fun e=>by
 have:=ZDu h
 rw[e]at this
 simp[parseIntB]at this
theorem row_back {nd nm:Nat} {r:Rw} (h:RwOk nd nm r) (hm:1<=nm):rowP (rwW r)=some (rwB r):=by
 unfold rwW rowP
 rw[ZGf _ (ZIe Xb Xb _)]
 simp only
 rw[ZIn]
 have hv:r.vals≠[]:=fun e=>by have:=h.vs;rw[e]at this;simp at this;omega
 have hne:Lib.join (r.vals.map itoa) [44]≠[]:=by
  cases hc:r.vals with
  | nil=>exact absurd hc hv
  | cons n l =>
   rw[zao,join_cons]
   intro e
   exact itoa_ne n (h.int n (by rw[hc];simp)) (List.append_eq_nil_iff.1 e).1
 simp only
 rw[if_neg hne,ZIa (by simpa using hv) (fun w hw=>?_),ZK5 h.int]
 ·rfl
 ·obtain⟨x,hx,rfl⟩:=List.mem_map.1 hw
  intro hm
  have:=ZFN x _ hm
  revert this
  decide
def pkW (p:Pk):Tx:=(if p.filt=1 then itoa p.tier++126 :: (ZyH p.lo++126 :: ZyH p.hi) else if p.filt=2 then itoa p.tier++61 :: ZAc p.set else [42])++(if p.by'=0 then [] else 47 :: itoa ((p.by' - 1:Nat):Int))
theorem ZKf:∀n:Fin 10,itoa (n.val:Int)=[UInt8.ofNat (48+n.val)]:=by decide +kernel
theorem ZJ6:∀n:Fin 10,ZBU [UInt8.ofNat (48+n.val)]=some n.val:=by decide +kernel
theorem ZLi {p:Pk} (h:ZIZ p):ZCY (pkW p)=some (pkB p):=by
 have hb:=h.b
 have ht:=h.t
 have hd:=ZKf ⟨p.tier,Xa⟩
 have hdb:=ZJ6 ⟨p.tier,Xa⟩
 simp only at hd hdb
 have h47:∀n:Fin 10,(47:UInt8) ∉ [UInt8.ofNat (48+n.val)]:=Xb
 have hdn:=h47 ⟨p.tier,Xa⟩
 simp only at hdn
 have key:∀(w b:Tx),(47:UInt8) ∉ w->ZFr w=some b->ZCY (w++(if p.by'=0 then [] else 47 :: itoa ((p.by' - 1:Nat):Int)))=some (b++ZA2 p.by'):=by
  intro w b hn hf
  unfold ZCY
  by_cases h0:p.by'=0
  ·rw[if_pos h0,zaw,ZCw 47 w hn]
   simp only
   rw[hf,h0]
  ·rw[if_neg h0,ZGf _ hn]
   simp only
   rw[hf]
   simp only
   rw[ZKf ⟨p.by' - 1,Xa⟩,ZJ6 ⟨p.by' - 1,Xa⟩]
   simp only[Option.map_some]
   rw[show p.by' - 1+1=p.by' by omega]
 unfold pkW pkB
 by_cases h1:p.filt=1
 ·rw[if_pos h1,if_pos h1]
  rw[key _ (ZA2 1++ZA2 p.tier++ZA4 p.lo++ZA4 p.hi)]
  ·rw[h1];simp[zam]
  ·rw[hd]
   simp only[zaj,zak,not_or]
   exact⟨⟨fun e=>hdn (by rw[e];simp),Xc⟩,Xb,ZIt Xb _,Xb,ZIt Xb _⟩
  ·rw[hd,List.singleton_append]
   unfold ZFr
   rw[if_neg Xc]
   simp only
   rw[hdb]
   simp only
   rw[if_neg Xb,ZGf _ (ZIt Xb _)]
   simp only[Option.getD_some,ZzS,Option.isSome_some,and_self,if_true]
 ·rw[if_neg h1,if_neg h1]
  by_cases h2:p.filt=2
  ·rw[if_pos h2,if_pos h2]
   rw[key _ (ZA2 2++ZA2 p.tier++ZB5 p.set)]
   ·rw[h2];simp[zam]
   ·rw[hd]
    simp only[zaj,zak,not_or]
    exact⟨⟨fun e=>hdn (by rw[e];simp),Xc⟩,Xb,ZIe Xb Xb _⟩
   ·rw[hd,List.singleton_append]
    unfold ZFr
    rw[if_neg Xc]
    simp only
    rw[hdb]
    simp only
    rw[if_pos trivial,ZIn]
    simp only
    rw[if_pos h.set]
  ·rw[if_neg h2,if_neg h2]
   have h0:p.filt=0:=by have:=h.f;omega
   rw[key _ (ZA2 0) Xb rfl,h0]
   simp
theorem ZJn {nd nm:Nat} (hm:1<=nm):∀{l:List Rw},(∀x∈l,RwOk nd nm x)->ZCj (l.map rwW)=some (l.flatMap rwB)
 | [],_=>rfl
 | x :: l,h=>by
  rw[zao,ZCj,row_back (h x Xc) hm,ZJn hm fun y hy=>h y (by simp[hy])]
  rfl
theorem ZIT:∀{l:List Pk},(∀x∈l,ZIZ x)->ZBI (l.map pkW)=some (l.flatMap pkB)
 | [],_=>rfl
 | x :: l,h=>by
  rw[zao,ZBI,ZLi (h x Xc),ZIT fun y hy=>h y (by simp[hy])]
  rfl
open Go.RowKit Go.Lib
def beV (l:Tx):Nat:=l.foldl (fun n c=>n * 256+c.toNat) 0
theorem beV_snoc (l:Tx) (c:UInt8):beV (l++[c])=beV l * 256+c.toNat:=by simp[beV]
theorem ZIV:∀(l:Tx) (a:Nat),l.foldl (fun n c=>n * 256+c.toNat) a=a * 256 ^ l.length+beV l
 | [],a=>by simp[beV]
 | c :: l,a=>by
  have h1:=ZIV l (a * 256+c.toNat)
  have h2:=ZIV l (0 * 256+c.toNat)
  unfold beV
  rw[List.foldl_cons,List.foldl_cons,h1,h2,List.length_cons,Nat.pow_succ]
  simp only[zbn,zaK,zaE]
  have:a * 256 * 256 ^ l.length=a * (256 ^ l.length * 256):=by rw[zb4,zba 256]
  omega
theorem ZI2 (c:UInt8) (l:Tx):beV (c :: l)=c.toNat * 256 ^ l.length+beV l:=by
 have:=ZIV l (0 * 256+c.toNat)
 simp only[zbn,zaK]at this
 rw[<- this]
 simp[beV]
theorem ZJf:∀l:Tx,beV l<256 ^ l.length
 | []=>by simp[beV]
 | c :: l=>by
  have ih:=ZJf l
  have hc:=c.toNat_lt
  rw[ZI2,List.length_cons,Nat.pow_succ]
  have:c.toNat * 256 ^ l.length<=255 * 256 ^ l.length:=zaS _ Xa
  omega
theorem beB_of:∀(l:Tx) (q:Nat),beB l.length (q * 256 ^ l.length+beV l)=l
 | [],_=>rfl
 | c :: l,q=>by
  have ih:=beB_of l (q * 256+c.toNat)
  have hl:=ZJf l
  have hp:0<256 ^ l.length:=Nat.pow_pos Xb
  have e:q * 256 ^ (l.length+1)+beV (c :: l)=(q * 256+c.toNat) * 256 ^ l.length+beV l:=by
   rw[ZI2,Nat.pow_succ,zaE,zb4,zba 256 (256 ^ l.length)]
   omega
  rw[List.length_cons,e,beB,ih,zbT,Nat.add_mul_div_right _ _ hp,zbm hl,zaK]
  congr 1
  apply UInt8.toNat_inj.1
  simp
theorem beV_be:∀(j n:Nat),beV (beB j n)=n % 256 ^ j
 | 0,n=>by simp[beB,beV,Nat.mod_one]
 | j+1,n=>by
  rw[beB,ZI2,beV_be j n,ZB7,Nat.pow_succ,Nat.mod_mul]
  have:(UInt8.ofNat (n / 256 ^ j)).toNat=n / 256 ^ j % 256:=Xc
  rw[this,zba]
  omega
structure HdN (c:UInt8) (z h:Nat):Prop where
 z1:1<=z
 z9:z<=9
 c:c.toNat=ZBa z+h
 h:(z<9->h<2 ^ (8 - z))/\(z=9->h=0)
theorem ledN9:∀z:Fin 10,1<=z.val->(z.val<9->ZBa z.val+2 ^ (8 - z.val)=ZBa (z.val+1)):=by decide +kernel
theorem put_hd {n:Nat} (hn:n<18446744073709551616):∃c,ZA2 n=c :: beB (ZA5 n - 1) n/\HdN c (ZA5 n) (n / 256 ^ (ZA5 n - 1)):=by
 obtain⟨h1,h9⟩:=ZA7 n
 exact⟨_,rfl,h1,h9,(ZIg hn).1,ZD2 h1 h9 ZC3 hn⟩
theorem HdN.uniq {c:UInt8} {z h z' h':Nat} (a:HdN c z h) (b:HdN c z' h'):z=z'/\h=h':=by
 obtain⟨a1,a9,ac,ah⟩:=a
 obtain⟨b1,b9,bc,bh⟩:=b
 have key:∀{z h z' h':Nat},1<=z->z<=9->z'<=9->c.toNat=ZBa z+h->c.toNat=ZBa z'+h'->(z<9->h<2 ^ (8 - z))->¬z<z':=by
  intro z h z' h' k1 k9 k9' e e' kh hl
  have l1:=(ledN9 ⟨z,Xa⟩ k1) (by simp only;omega)
  simp only at l1
  have l2:=(ZDh ⟨z+1,Xa⟩ ⟨z',Xa⟩ Xc (by simp only;omega)).1
  simp only at l2
  have:=kh Xa
  omega
 have h1:=key a1 a9 b9 ac bc ah.1
 have h2:=key b1 b9 a9 bc ac bh.1
 have:z=z':=Xa
 subst this
 exact⟨rfl,Xa⟩
theorem ZKO {z h:Nat} {l:Tx} (h1:1<=z) (h9:z<=9) (hh:(z<9->h<2 ^ (8 - z))/\(z=9->h=0)) (hl:l.length=z - 1):h * 256 ^ (z - 1)+beV l<18446744073709551616:=by
 have hv:=ZJf l
 rw[hl]at hv
 have hp:2 ^ (8 - z)<=256:=by
  have:(2:Nat) ^ (8 - z)<=2 ^ 8:=zbb Xb Xa
  simpa using this
 by_cases hz:z=9
 ·rw[hh.2 hz,hz]
  rw[hz]at hv
  simp at hv ⊢
  omega
 ·have h2:=hh.1 Xa
  obtain rfl|rfl|rfl|rfl|rfl|rfl|rfl|rfl|rfl:=nine h1 h9
  all_goals simp at hv h2 ⊢
  all_goals omega
theorem ZI3 {c:UInt8} {r:Tx} {z h:Nat} (hd:HdN c z h):gAny (c :: r)=if z - 1<=r.length then (if ZA5 (h * 256 ^ (z - 1)+beV (r.take (z - 1)))=z then some (h * 256 ^ (z - 1)+beV (r.take (z - 1)),r.drop (z - 1)) else none) else none:=by
 have z1:=hd.z1
 have none_of:(∀n q,n<18446744073709551616->c :: r≠ZA2 n++q)->gAny (c :: r)=none:=by
  intro hno
  cases e:gAny (c :: r)with
  | none=>rfl
  | some p =>
   obtain⟨n,q⟩:=p
   obtain⟨k1,k2⟩:=ZHX e
   exact absurd k2 (hno n q k1)
 by_cases hl:z - 1<=r.length
 ·rw[if_pos hl]
  have hlen:(r.take (z - 1)).length=z - 1:=by rw[zau];omega
  have hlt:=ZKO z1 hd.z9 hd.h hlen
  have hb:=beB_of (r.take (z - 1)) h
  have hv:=ZJf (r.take (z - 1))
  rw[hlen]at hb hv
  have hp:0<256 ^ (z - 1):=Nat.pow_pos Xb
  have hq:(h * 256 ^ (z - 1)+beV (r.take (z - 1))) / 256 ^ (z - 1)=h:=by
   rw[zbT,Nat.add_mul_div_right _ _ hp,zbm hv,zaK]
  by_cases hs:ZA5 (h * 256 ^ (z - 1)+beV (r.take (z - 1)))=z
  ·rw[if_pos hs]
   have e:c :: r=ZA2 (h * 256 ^ (z - 1)+beV (r.take (z - 1)))++r.drop (z - 1):=by
    unfold ZA2
    rw[hs,hq,hb,List.cons_append,zaV]
    congr 1
    apply UInt8.toNat_inj.1
    rw[<- hd.c]
    simp
   rw[e]
   exact ZKQ hlt
  ·rw[if_neg hs]
   refine none_of fun n q hn e=>hs ?_
   obtain⟨c',p1,p2⟩:=put_hd hn
   rw[p1,List.cons_append]at e
   injection e with e1 e2
   subst e1
   obtain⟨u1,u2⟩:=hd.uniq p2
   have h3:r.take (z - 1)=beB (z - 1) n:=by
    rw[e2,u1,zbh (by rw[ZB7])]
   have h4:h * 256 ^ (z - 1)+beV (r.take (z - 1))=n:=by
    rw[h3,beV_be,u2,u1,zba]
    exact zbX n _
   rw[h4];exact u1.symm
 ·rw[if_neg hl]
  refine none_of fun n q hn e=>hl ?_
  obtain⟨c',p1,p2⟩:=put_hd hn
  rw[p1,List.cons_append]at e
  injection e with e1 e2
  subst e1
  obtain⟨u1,u2⟩:=hd.uniq p2
  rw[e2,zaa,ZB7,u1]
  omega
theorem any_nil:gAny []=none:=by
 cases e:gAny []with
 | none=>rfl
 | some p =>
  obtain⟨n,q⟩:=p
  obtain⟨_,k2⟩:=ZHX e
  have:=congrArg List.length k2
  rw[zaa,ZA3]at this
  have:=(ZA7 n).1
  simp at *
  omega
def ZHA (c:UInt8):Nat:=if c.toNat<128 then 0 else if c.toNat<192 then 1 else if c.toNat<224 then 2 else if c.toNat<240 then 3 else if c.toNat<248 then 4 else if c.toNat<252 then 5 else if c.toNat<254 then 6 else if c.toNat<255 then 7 else 8
theorem ZIv (c:UInt8):ZHA c<=8:=by
 unfold ZHA
 repeat' split
 all_goals omega
theorem hd_of (c:UInt8):HdN c (ZHA c+1) (c.toNat - ZBa (ZHA c+1)):=by
 have hc:=c.toNat_lt
 refine⟨Xa,by have:=ZIv c;omega,?_,?_⟩
 ·unfold ZHA ZBa
  repeat' split
  all_goals simp
  all_goals omega
 ·unfold ZHA ZBa
  constructor
  ·repeat' split
   all_goals simp
   all_goals omega
  ·repeat' split
   all_goals simp
   all_goals omega
open Go.RowKit Go.Lib
theorem ones_bit:∀c:Fin 256,∀k:Fin 9,k.val<=ZHA (UInt8.ofNat c.val)->(IntKind.u8.wrap ((BitVec.ofInt IntKind.u8.bits (((c.val * 2 ^ k.val % 256:Nat)):Int) &&& BitVec.ofInt IntKind.u8.bits 128).toNat:Int)=0 ↔ k.val=ZHA (UInt8.ofNat c.val)):=by decide +kernel
theorem shl_bit (m:Nat):IntKind.u8.wrap ((((m % 256:Nat)):Int) * 2 ^ min 1 8)=((m * 2 % 256:Nat):Int):=by
 rw[IntKind.wrap_u8]
 simp
 omega
theorem ZKG (c:UInt8) (H:Zaa):Zay Tryz.prog 167 [u8 c] H (Pure H (.i (ZHA c:Nat))):=by
 have hc:=c.toNat_lt
 have hle:=ZIv c
 have bit:∀k,k<=ZHA c->(IntKind.u8.wrap ((BitVec.ofInt IntKind.u8.bits (((c.toNat * 2 ^ k % 256:Nat)):Int) &&& BitVec.ofInt IntKind.u8.bits 128).toNat:Int)=0 ↔ k=ZHA c):=by
  intro k hk
  have:=ones_bit ⟨c.toNat,hc⟩ ⟨k,Xa⟩ (by simpa using hk)
  simpa using this
 refine fnQ cf167 fun Q qr qn=>?_
 refine Bz0 ?_
 refine ZBA (fun m F G=>∃k,k<=ZHA c/\m=ZHA c - k/\Fr.get F 3=.i (k:Int)/\Fr.get F 0=.sc (.int .u8 ((c.toNat * 2 ^ k % 256:Nat):Int))/\G=H) (ZHA c) (GStep.refl _ _) ⟨0,Xa,Xa,rfl,by simp[zaT hc];rfl,rfl⟩ ?_
 rintro m F G ⟨k,hk,rfl,f3,f0,rfl⟩
 have hb:=bit k hk
 have hw1:IntKind.i64.wrap ((k:Int)+1)=((k+1:Nat):Int):=by rw[Zaw Xa Xa];omega
 have hsh:IntKind.u8.wrap ((((c.toNat * 2 ^ k % 256:Nat)):Int) * 2 ^ min 1 IntKind.u8.bits)=((c.toNat * 2 ^ (k+1) % 256:Nat):Int):=by
  rw[bits8,shl_bit,Nat.pow_succ,zb4]
 by_cases h:k=ZHA c
 ·have d:(IntKind.u8.wrap ((BitVec.ofInt IntKind.u8.bits (((c.toNat * 2 ^ k % 256:Nat)):Int) &&& BitVec.ofInt IntKind.u8.bits 128).toNat:Int) != 0)=false:=by simpa using hb.2 h
  generalize c.toNat * 2 ^ k % 256=q at *
  skip
  refine Bz1 (X3 f3 f0 d) ?_
  refine Zaz (by rw[h])
 ·have d:(IntKind.u8.wrap ((BitVec.ofInt IntKind.u8.bits (((c.toNat * 2 ^ k % 256:Nat)):Int) &&& BitVec.ofInt IntKind.u8.bits 128).toNat:Int) != 0)=true:=by simpa using fun e=>h (hb.1 e)
  generalize hq:c.toNat * 2 ^ k % 256=q at *
  have z1:¬((1:Int)<0):=Xb
  have t1:(1:Int).toNat=1:=rfl
  skip
  refine Bz1 (X7 f3 f0 d hw1 hsh z1 t1) ?_
  exact⟨ZHA c - (k+1),Xa,k+1,Xa,rfl,rfl,rfl⟩
open Go.RowKit Go.Lib
def xNn (h:Nat) (l:Tx) (k:Nat):Nat:=h * 256 ^ k+beV (l.take k)
theorem ZLx (h:Nat) (l:Tx):xNn h l 0=h:=by simp[xNn,beV]
theorem ZLF {h k:Nat} {l:Tx} (hk:k<l.length):xNn h l (k+1)=xNn h l k * 256+l[k].toNat:=by
 unfold xNn
 rw[zae hk,beV_snoc,Nat.pow_succ,zaE,zb4,zaZ]
theorem pow_top {z h:Nat} (h1:1<=z) (h9:z<=9) (hh:(z<9->h<2 ^ (8 - z))/\(z=9->h=0)):(h+1) * 256 ^ (z - 1)<=18446744073709551616:=by
 by_cases hz:z=9
 ·rw[hh.2 hz,hz];simp
 ·have h2:=hh.1 Xa
  obtain rfl|rfl|rfl|rfl|rfl|rfl|rfl|rfl|rfl:=nine h1 h9
  all_goals simp at h2 ⊢
  all_goals omega
theorem xN_lt {c:UInt8} {z h k:Nat} {l:Tx} (hd:HdN c z h) (hk:k<=z - 1) (hl:k<=l.length):xNn h l k<18446744073709551616:=by
 have h1:=pow_top hd.z1 hd.z9 hd.h
 have h2:=ZJf (l.take k)
 rw[zau,zbg hl]at h2
 have h3:(h+1) * 256 ^ k<=(h+1) * 256 ^ (z - 1):=zbZ _ (zbb Xb hk)
 unfold xNn
 rw[zaE]at h3
 omega
theorem or_low (x b:Nat) (hb:b<256) (h:x * 256+b<18446744073709551616):IntKind.u64.wrap ((BitVec.ofInt IntKind.u64.bits ((x * 256:Nat):Int) ||| BitVec.ofInt IntKind.u64.bits (b:Int)).toNat:Int)=((x * 256+b:Nat):Int):=by
 have e:(BitVec.ofInt IntKind.u64.bits ((x * 256:Nat):Int) ||| BitVec.ofInt IntKind.u64.bits (b:Int)).toNat=x * 256+b:=by
  show(BitVec.ofInt 64 ((x * 256:Nat):Int) ||| BitVec.ofInt 64 (b:Int)).toNat=_
  have l1:x * 256<18446744073709551616:=zb3 (zbP _ _) h
  have l2:b<18446744073709551616:=zb3 (Nat.le_add_left _ _) h
  have m1:x * 256 % 2 ^ 64=x * 256:=zaT l1
  have m2:b % 2 ^ 64=b:=zaT l2
  rw[BitVec.ofInt_natCast,BitVec.ofInt_natCast,BitVec.toNat_or,za8,za8,m1,m2]
  have:=Nat.two_pow_add_eq_or_of_lt (b:=b) (i:=8) (by simpa using hb) x
  rw[zba x 256]
  simpa using this.symm
 rw[e,ZB9 Xa Xa]
def hdT (c:Fin 256):Bool:=decide (IntKind.u8.wrap (((BitVec.ofInt 8 (c.val:Int) &&& (BitVec.not (BitVec.ofInt 8 ((ZBa (ZHA (UInt8.ofNat c.val)+1):Nat):Int)))).toNat:Nat):Int)=((c.val - ZBa (ZHA (UInt8.ofNat c.val)+1):Nat):Int))
theorem hdT_all:∀c:Fin 256,hdT c=true:=by decide +kernel
theorem head_not (c:Fin 256):IntKind.u8.wrap ((BitVec.ofInt IntKind.u8.bits (c.val:Int) &&& ~~~ (BitVec.ofInt IntKind.u8.bits ((ZBa (ZHA (UInt8.ofNat c.val)+1):Nat):Int))).toNat:Int)=((c.val - ZBa (ZHA (UInt8.ofNat c.val)+1):Nat):Int):=of_decide_eq_true (hdT_all c)
noncomputable def eTk (s:Tx):AV:=match gAny s with
 | some (n,_)=>.tup [uN n,.i (ZA5 n:Nat),.b true]
 | none=>.tup [uN 0,.i 0,.b false]
theorem ZJJ (s:Tx) (H:Zaa) (hl:s.length<=1000000):Zay Tryz.prog 130 [eS s] H (Pure H (eTk s)):=by
 cases s with
 | nil =>
  have e:eTk []=.tup [uN 0,.i 0,.b false]:=by unfold eTk;rw[any_nil]
  have d:decide (([]:Tx)=[])=true:=rfl
  rw[e]
  refine fnQ ZKF fun Q qr qn=>?_
  refine Bz1 (X1 d) ?_
  refine Zcm (by rfl)
 | cons c r =>
  have hd:=hd_of c
  have hol:=ZIv c
  have hno:=head_not ⟨c.toNat,c.toNat_lt⟩
  simp only[UInt8.ofNat_toNat]at hno
  have hlaw:=ZI3 hd (r:=r)
  have h1:=hd.z1
  have h9:=hd.z9
  have hone:=fun H=>ZKG c H
  have hwz:IntKind.i64.wrap ((ZHA c:Nat)+1)=((ZHA c+1:Nat):Int):=by rw[Zaw Xa Xa];omega
  have d0:decide ((c :: r:Tx)=[])=false:=rfl
  have g0:(⟨(c :: r).toArray⟩:ByteArray)[0]?=some c:=by rw[Zy6];rfl
  have hfs:=fun H=>ZET (ZHA c+1) h1 h9 H
  generalize ZHA c+1=z at *
  generalize hh:c.toNat - ZBa z=h at *
  generalize ZBa z=lz at *
  by_cases hlen:z - 1<=r.length
  ·rw[if_pos hlen]at hlaw
   have d1:decide (((r.length+1:Nat):Int)<(z:Int))=false:=by simp;omega
   have hhl:h<256:=by have:=c.toNat_lt;omega
   have hcu:IntKind.u64.wrap (h:Int)=(h:Int):=ZB9 Xa Xa
   have hloop:∀{Q:AEx->Fr->Zaa->Prop} {F:Fr} {G:Zaa},Zaa.Ext H G->Fr.get F 0=eS (c :: r)->Fr.get F 5=.i (z:Int)->Fr.get F 6=uN h->Fr.get F 7=.i 1 ->
     (∀F' G',Zaa.Ext H G'->Fr.get F' 0=eS (c :: r)->Fr.get F' 5=.i (z:Int)->Fr.get F' 6=uN (xNn h r (z - 1))->Q .normal F' G')->AW Tryz.prog c130_1 Q F G:=by
    intro Q F G hx f0 f5 f6 f7 hQ
    have qr:=trivial
    have qn:=trivial
    refine ZBA (fun m F G=>∃k,m+k+1=z/\Fr.get F 7=.i ((k+1:Nat):Int)/\Fr.get F 0=eS (c :: r)/\Fr.get F 5=.i (z:Int)/\Fr.get F 6=uN (xNn h r k)/\Zaa.Ext H G) (z - 1) (GStep.refl _ _) ⟨0,Xa,f7,f0,f5,by rw[ZLx];exact f6,hx⟩ ?_
    rintro m F G ⟨k,hm,f7,f0,f5,f6,hx⟩
    cases m with
    | succ m =>
     have e1:decide (((k+1:Nat):Int)<(z:Int))=true:=by simp;omega
     have hz:(0:Int)<=((k+1:Nat):Int):=Xa
     have hw:=ZCE (s:=k+1) Xa
     have hk:k<r.length:=Xa
     have hb:=Zy6 (c :: r) (k+1)
     rw[List.getElem?_cons_succ,zac hk]at hb
     have hxs:=ZLF (h:=h) hk
     have hlt:=xN_lt hd (k:=k+1) (l:=r) Xa Xa
     have hc:=r[k].toNat_lt
     rw[hxs]at hlt
     generalize r[k]=y at *
     generalize xNn h r k=x at *
     have w1:IntKind.u64.wrap ((x:Int) * 2 ^ min 8 IntKind.u64.bits)=((x * 256:Nat):Int):=by
      rw[show((x:Int) * 2 ^ min 8 IntKind.u64.bits)=((x * 256:Nat):Int) by rw[ZEr];simp,ZB9 Xa Xa]
     have w2:IntKind.u64.wrap ((y.toNat:Nat):Int)=((y.toNat:Nat):Int):=ZB9 Xa Xa
     have w3:=or_low x y.toNat hc hlt
     have n8:¬((8:Int)<0):=Xb
     have t8:(8:Int).toNat=8:=rfl
     skip
     refine Bz1 (X12 f7 f0 f5 f6 e1 hz hw hb w1 w2 w3 (X2 n8 t8)) ?_
     exact⟨m,Xa,k+1,Xa,rfl,by rw[hxs],hx⟩
    | zero =>
     obtain rfl:z=k+1:=Xa
     have e1:decide (((k+1:Nat):Int)<((k+1:Nat):Int))=false:=Xc
     skip
     refine Bz1 (X3 f7 f5 e1) ?_
     exact hQ _ _ hx (by simpa [Fr.get] using f0) (by simpa [Fr.get] using f5) (by simpa [Fr.get] using f6)
   have hzx:xNn h r (z - 1)=h * 256 ^ (z - 1)+beV (r.take (z - 1)):=rfl
   have hlt:=xN_lt hd (k:=z - 1) (l:=r) (zad _) hlen
   have hsz:=fun H=>ZFH (xNn h r (z - 1)) H
   rw[<- hzx]at hlaw
   generalize xNn h r (z - 1)=x at *
   have hres:eTk (c :: r)=if ZA5 x=z then .tup [uN x,.i (z:Int),.b true] else .tup [uN 0,.i 0,.b false]:=by
    unfold eTk
    rw[hlaw]
    by_cases hs:ZA5 x=z
    ·rw[if_pos hs,if_pos hs];simp only;rw[hs]
    ·rw[if_neg hs,if_neg hs]
   have hx0:Zaa.Ext H H:=.refl _
   rw[hres]
   by_cases hs:ZA5 x=z
   ·have ds:(((ZA5 x:Nat):Int) != (z:Int))=false:=by rw[hs];simp
    rw[if_pos hs]
    by_cases h9z:z=9
    ·subst h9z
     obtain rfl:h=0:=hd.h.2 rfl
     have dz:(((9:Nat):Int) == 9)=true:=rfl
     have d9:decide (((r.length+1:Nat):Int)<9)=false:=d1
     have s9:(((ZA5 x:Nat):Int) != 9)=false:=ds
     refine fnQ ZKF fun Q qr qn=>?_
     refine Bz5 (X2 d0 g0) ?_
     refine qcp (hone _) fun k1=>?_
     refine Bz5 (X5 d0 g0 hwz d1 d9) ?_
     refine qcp (hfs _) fun k2=>?_
     refine Bz5 (X8 d0 g0 hwz d1 d9 dz hno hcu) ?_
     refine hloop hx0.bump.bump rfl rfl rfl rfl fun F' G' hx' f0 f5 f6=>?_
     skip
     refine Bz1 (X3 f0 f5 f6) ?_
     refine qcp (hsz _) fun k3=>?_
     refine Bz1 (X5 f0 f5 f6 ds s9) ?_
     exact ZaW hx'.bump rfl
    ·have dz:((z:Int) == 9)=false:=by simp only[beq_eq_false_iff_ne];omega
     refine fnQ ZKF fun Q qr qn=>?_
     refine Bz5 (X2 d0 g0) ?_
     refine qcp (hone _) fun k1=>?_
     refine Bz5 (X4 d0 g0 hwz d1) ?_
     refine qcp (hfs _) fun k2=>?_
     refine Bz5 (X7 d0 g0 hwz d1 dz hno hcu) ?_
     refine hloop hx0.bump.bump rfl rfl rfl rfl fun F' G' hx' f0 f5 f6=>?_
     skip
     refine Bz1 (X3 f0 f5 f6) ?_
     refine qcp (hsz _) fun k3=>?_
     refine Bz1 (X4 f0 f5 f6 ds) ?_
     exact ZaW hx'.bump rfl
   ·have ds:(((ZA5 x:Nat):Int) != (z:Int))=true:=by simp only[bne_iff_ne];omega
    rw[if_neg hs]
    by_cases h9z:z=9
    ·subst h9z
     obtain rfl:h=0:=hd.h.2 rfl
     have dz:(((9:Nat):Int) == 9)=true:=rfl
     have d9:decide (((r.length+1:Nat):Int)<9)=false:=d1
     have s9:(((ZA5 x:Nat):Int) != 9)=true:=ds
     refine fnQ ZKF fun Q qr qn=>?_
     refine Bz5 (X2 d0 g0) ?_
     refine qcp (hone _) fun k1=>?_
     refine Bz5 (X5 d0 g0 hwz d1 d9) ?_
     refine qcp (hfs _) fun k2=>?_
     refine Bz5 (X8 d0 g0 hwz d1 d9 dz hno hcu) ?_
     refine hloop hx0.bump.bump rfl rfl rfl rfl fun F' G' hx' f0 f5 f6=>?_
     skip
     refine Bz1 (X3 f0 f5 f6) ?_
     refine qcp (hsz _) fun k3=>?_
     refine Bz1 (X5 f0 f5 f6 ds s9) ?_
     exact ZaW hx'.bump rfl
    ·have dz:((z:Int) == 9)=false:=by simp only[beq_eq_false_iff_ne];omega
     refine fnQ ZKF fun Q qr qn=>?_
     refine Bz5 (X2 d0 g0) ?_
     refine qcp (hone _) fun k1=>?_
     refine Bz5 (X4 d0 g0 hwz d1) ?_
     refine qcp (hfs _) fun k2=>?_
     refine Bz5 (X7 d0 g0 hwz d1 dz hno hcu) ?_
     refine hloop hx0.bump.bump rfl rfl rfl rfl fun F' G' hx' f0 f5 f6=>?_
     skip
     refine Bz1 (X3 f0 f5 f6) ?_
     refine qcp (hsz _) fun k3=>?_
     refine Bz1 (X4 f0 f5 f6 ds) ?_
     exact ZaW hx'.bump rfl
  ·rw[if_neg hlen]at hlaw
   have d1:decide (((r.length+1:Nat):Int)<(z:Int))=true:=by simp;omega
   have e:eTk (c :: r)=.tup [uN 0,.i 0,.b false]:=by unfold eTk;rw[hlaw]
   rw[e]
   refine fnQ ZKF fun Q qr qn=>?_
   refine Bz5 (X2 d0 g0) ?_
   refine qcp (hone _) fun k1=>?_
   refine Bz5 (X2 hwz d1) ?_
   refine Zcm (by rfl)
end Go.Proofs.YtdfgoekdlmkdfaaGreatDoor
