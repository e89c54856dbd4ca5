/- Texts of the walk. -/
import Derived.Test.YtdfgoekdlmkdfaaGreatDoorMx
namespace Go.Proofs.YtdfgoekdlmkdfaaGreatDoor
set_option linter.defProp false
set_option maxHeartbeats 64000000
set_option linter.unusedSimpArgs false
set_option linter.unusedVariables false
open Go.RowKit Go.Lib
structure Sn where
 k:Nat
 e:Int
noncomputable def sNu (S:Tx) (c:Sn):Sn×Nat:=if c.e=0 then (match gAny (S.drop c.k)with
 | some (n,_)=>(⟨c.k+ZA5 n,0⟩,n)
 | none=>(⟨c.k,3⟩,0)) else (c,0)
noncomputable def sNum (S:Tx) (most:Nat) (c:Sn):Sn×Nat:=if (sNu S c).1.e=0 then (if (sNu S c).2<=most then sNu S c else (⟨(sNu S c).1.k,5⟩,0)) else ((sNu S c).1,0)
noncomputable def sInt (S:Tx) (c:Sn):Sn×Int:=if (sNu S c).1.e=0 then ((sNu S c).1,ZLd (sNu S c).2) else ((sNu S c).1,0)
def ZJB (S:Tx) (n:Nat) (c:Sn):Sn×Tx:=if c.e=0 then (if n<=S.length - c.k then (⟨c.k+n,0⟩,(S.drop c.k).take n) else (⟨c.k,3⟩,[])) else (c,[])
noncomputable def sTxt (S:Tx) (most:Nat) (c:Sn):Sn×Tx:=ZJB S (sNum S most c).2 (sNum S most c).1
def ZHG (c:Sn) (is:Bool) (e:Int):Sn:=if c.e=0/\is=false then ⟨c.k,if e=0 then 3 else e⟩ else c
structure Lw {α:Type} (S:Tx) (f:Sn->Sn×α) (g:Tx->Option (α×Tx)) (c:Sn):Prop where
 le:c.k<=S.length->(f c).1.k<=S.length
 dead:c.e≠0->(f c).1.e≠0
 nay:c.e=0->c.k<=S.length->g (S.drop c.k)=none->(f c).1.e≠0
 yea:c.e=0->c.k<=S.length->∀a r,g (S.drop c.k)=some (a,r)->(f c).1.e=0/\(f c).2=a/\S.drop (f c).1.k=r
theorem ZLK (S:Tx) (c:Sn):Lw S (sNu S) gAny c:=by
 have key:c.k<=S.length->∀n r,gAny (S.drop c.k)=some (n,r)->c.k+ZA5 n<=S.length/\S.drop (c.k+ZA5 n)=r:=by
  intro hk n r h
  have h2:=(ZHX h).2
  have hl:=congrArg List.length h2
  rw[zaa,ZA3,zaB]at hl
  exact⟨Xa,by rw[<- zbd,h2,zbu (ZA3 n)]⟩
 refine⟨fun h=>?_,fun h=>?_,fun h hk hn=>?_,fun h hk a r hs=>?_⟩
 ·unfold sNu
  split
  ·split
   ·rename_i n r e
    exact(key h n r e).1
   ·exact h
  ·exact h
 ·unfold sNu;rw[if_neg h];exact h
 ·unfold sNu;rw[if_pos h,hn];simp
 ·unfold sNu;rw[if_pos h,hs];exact⟨rfl,rfl,(key hk a r hs).2⟩
theorem ZHp (S:Tx) (most:Nat) (c:Sn):Lw S (sNum S most) (gNum most) c:=by
 have h0:=ZLK S c
 refine⟨fun h=>?_,fun h=>?_,fun h hk hn=>?_,fun h hk a r hs=>?_⟩
 ·have:=h0.le h
  unfold sNum
  split
  ·split
   ·exact this
   ·exact this
  ·exact this
 ·have:=h0.dead h
  unfold sNum;rw[if_neg this];exact this
 ·unfold sNum
  cases e:gAny (S.drop c.k)with
  | none=>rw[if_neg (h0.nay h hk e)];exact h0.nay h hk e
  | some p =>
   obtain⟨n,r⟩:=p
   obtain⟨a1,a2,a3⟩:=h0.yea h hk n r e
   rw[if_pos a1]
   unfold gNum at hn
   rw[e]at hn
   simp only at hn
   split at hn
   ·cases hn
   ·rename_i hh
    rw[a2,if_neg hh];simp
 ·obtain⟨k1,k2,k3⟩:=ZHr hs
  have e:gAny (S.drop c.k)=some (a,r):=by rw[k3];exact ZKQ k2
  obtain⟨a1,a2,a3⟩:=h0.yea h hk a r e
  unfold sNum
  rw[if_pos a1,a2,if_pos k1]
  exact⟨a1,a2,a3⟩
theorem ZHK (S:Tx) (most:Nat) (c:Sn):(sNum S most c).2<=most:=by
 unfold sNum
 split
 ·split
  ·assumption
  ·exact zas _
 ·exact zas _
theorem ZIY (S:Tx) (c:Sn):Lw S (sInt S) gInt c:=by
 have h0:=ZLK S c
 refine⟨fun h=>?_,fun h=>?_,fun h hk hn=>?_,fun h hk a r hs=>?_⟩
 ·have:=h0.le h
  unfold sInt
  split<;>exact this
 ·have:=h0.dead h
  unfold sInt;rw[if_neg this];exact this
 ·cases e:gAny (S.drop c.k)with
  | none=>unfold sInt;rw[if_neg (h0.nay h hk e)];exact h0.nay h hk e
  | some p=>unfold gInt at hn;rw[e]at hn;cases hn
 ·cases e:gAny (S.drop c.k)with
  | none=>unfold gInt at hs;rw[e]at hs;cases hs
  | some p =>
   obtain⟨n,r'⟩:=p
   unfold gInt at hs
   rw[e]at hs
   injection hs with hs
   injection hs with h1 h2
   obtain⟨a1,a2,a3⟩:=h0.yea h hk n r' e
   unfold sInt
   rw[if_pos a1]
   exact⟨a1,by rw[a2,h1],by rw[a3];exact h2⟩
theorem sNu_lt (S:Tx) (c:Sn):(sNu S c).2<18446744073709551616:=by
 unfold sNu
 split
 ·split
  ·rename_i n r e
   exact(ZHX e).1
  ·exact Nat.zero_lt_succ _
 ·exact Nat.zero_lt_succ _
theorem ZJy {S:Tx} {n:Nat} {c:Sn} (h:c.e≠0):ZJB S n c=(c,[]):=by unfold ZJB;rw[if_neg h]
theorem ZHx (S:Tx) (most:Nat) (c:Sn):Lw S (sTxt S most) (gTxt most) c:=by
 have h0:=ZHp S most c
 refine⟨fun h=>?_,fun h=>?_,fun h hk hn=>?_,fun h hk a r hs=>?_⟩
 ·have:=h0.le h
  unfold sTxt ZJB
  split
  ·split
   ·simp only;omega
   ·exact this
  ·exact this
 ·have:=h0.dead h
  unfold sTxt;rw[ZJy this];exact this
 ·have hle:=h0.le hk
  unfold sTxt
  cases e:gNum most (S.drop c.k)with
  | none=>rw[ZJy (h0.nay h hk e)];exact h0.nay h hk e
  | some p =>
   obtain⟨n,r⟩:=p
   obtain⟨a1,a2,a3⟩:=h0.yea h hk n r e
   unfold gTxt at hn
   rw[e]at hn
   simp only at hn
   split at hn
   ·cases hn
   ·rename_i hh
    rw[<- a3,zaB]at hh
    unfold ZJB
    rw[if_pos a1,a2,if_neg hh];simp
 ·have hle:=h0.le hk
  unfold gTxt at hs
  split at hs
  ·rename_i n r0 e
   obtain⟨a1,a2,a3⟩:=h0.yea h hk n r0 e
   split at hs
   ·rename_i hh
    injection hs with hs
    injection hs with h1 h2
    rw[<- a3,zaB]at hh
    unfold sTxt ZJB
    rw[if_pos a1,a2,if_pos hh,a3]
    refine⟨rfl,h1,?_⟩
    rw[<- zbd,a3];exact h2
   ·cases hs
  ·cases hs
theorem sTxt_len (S:Tx) (most:Nat) (c:Sn):(sTxt S most c).2.length<=most:=by
 have:=ZHK S most c
 unfold sTxt ZJB
 split
 ·split
  ·simp only[zau];omega
  ·simp
 ·simp
theorem ZI5 {S:Tx} {c:Sn} {is:Bool} {e:Int} (h:c.k<=S.length):(ZHG c is e).k<=S.length:=by unfold ZHG;split<;>exact h
theorem ZIO {c:Sn} {is:Bool} {e:Int} (h:c.e≠0):(ZHG c is e).e≠0:=by unfold ZHG;rw[if_neg fun x=>h x.1];exact h
theorem ZIA {c:Sn} {e:Int}:ZHG c true e=c:=by unfold ZHG;rw[if_neg Xc]
theorem ZJ5 {c:Sn} {e:Int}:(ZHG c false e).e≠0:=by
 unfold ZHG
 by_cases h:c.e=0
 ·rw[if_pos ⟨h,rfl⟩]
  show(if e=0 then (3:Int) else e)≠0
  split
  ·decide
  ·assumption
 ·rw[if_neg fun x=>h x.1];exact h
def ZHz {α:Type} (f:List α->Sn->Sn×α):Nat->Sn->List α->Sn×List α
 | 0,c,acc=>(c,acc)
 | n+1,c,acc=>if c.e=0 then ZHz f n (f acc c).1 (acc++[(f acc c).2]) else (c,acc)
def ZIk {α:Type} (f:Sn->Sn×α):Nat->Sn->List α->Sn×List α
 | 0,c,acc=>(c,acc)
 | n+1,c,acc=>ZIk f n (f c).1 (acc++[(f c).2])
theorem ZHP {α:Type} (f:List α->Sn->Sn×α) (n:Nat) {c:Sn} (acc:List α) (h:c.e≠0):ZHz f n c acc=(c,acc):=by
 cases n with
 | zero=>rfl
 | succ n=>rw[ZHz,if_neg h]
theorem ZHS {α:Type} {S:Tx} {f:List α->Sn->Sn×α} {g:List α->Tx->Option (α×Tx)}:∀(n:Nat) (acc:List α) (hf:∀c acc,Lw S (f acc) (g acc) c) (c:Sn),Lw S (fun c=>ZHz f n c acc) (ZHu g n acc) c
 | 0,acc,hf,c=>⟨fun h=>h,fun h=>h,fun _ _ h=>by simp[ZHu]at h,fun h hk a r hs=>by
   simp only[ZHu,zab,zai]at hs
   exact⟨h,hs.1,hs.2⟩⟩
 | n+1,acc,hf,c=>by
  have h0:=hf c acc
  have ih:=ZHS n (acc++[(f acc c).2]) hf (f acc c).1
  refine⟨fun h=>?_,fun h=>?_,fun h hk hn=>?_,fun h hk a r hs=>?_⟩
  ·simp only[ZHz]
   split
   ·exact ih.le (h0.le h)
   ·exact h
  ·simp only[ZHz];rw[if_neg h];exact h
  ·simp only[ZHz];rw[if_pos h]
   rw[ZHu]at hn
   split at hn
   ·rename_i x r e
    obtain⟨a1,a2,a3⟩:=h0.yea h hk x r e
    exact ih.nay a1 (h0.le hk) (by rw[a3,a2];exact hn)
   ·rename_i e
    have:=h0.nay h hk e
    rw[ZHP _ _ _ this];exact this
  ·simp only[ZHz];rw[if_pos h]
   rw[ZHu]at hs
   split at hs
   ·rename_i x r0 e
    obtain⟨a1,a2,a3⟩:=h0.yea h hk x r0 e
    exact ih.yea a1 (h0.le hk) a r (by rw[a3,a2];exact hs)
   ·cases hs
theorem ZH7 {α:Type} {S:Tx} {f:Sn->Sn×α} {g:Tx->Option (α×Tx)} (hf:∀c,Lw S f g c):∀(n:Nat) (acc:List α) (c:Sn),Lw S (fun c=>ZIk f n c acc) (ZHu (fun _=>g) n acc) c
 | 0,acc,c=>⟨fun h=>h,fun h=>h,fun _ _ h=>by simp[ZHu]at h,fun h hk a r hs=>by
   simp only[ZHu,zab,zai]at hs
   exact⟨h,hs.1,hs.2⟩⟩
 | n+1,acc,c=>by
  have h0:=hf c
  have ih:=ZH7 hf n (acc++[(f c).2]) (f c).1
  refine⟨fun h=>?_,fun h=>?_,fun h hk hn=>?_,fun h hk a r hs=>?_⟩
  ·exact ih.le (h0.le h)
  ·exact ih.dead (h0.dead h)
  ·rw[ZHu]at hn
   split at hn
   ·rename_i x r e
    obtain⟨a1,a2,a3⟩:=h0.yea h hk x r e
    exact ih.nay a1 (h0.le hk) (by rw[a3,a2];exact hn)
   ·rename_i e
    exact ih.dead (h0.nay h hk e)
  ·rw[ZHu]at hs
   split at hs
   ·rename_i x r0 e
    obtain⟨a1,a2,a3⟩:=h0.yea h hk x r0 e
    exact ih.yea a1 (h0.le hk) a r (by rw[a3,a2];exact hs)
   ·cases hs
theorem ZIs {α:Type} (f:List α->Sn->Sn×α):∀(n:Nat) (c:Sn) (acc:List α),(ZHz f n c acc).2.length<=acc.length+n
 | 0,c,acc=>by simp[ZHz]
 | n+1,c,acc=>by
  rw[ZHz]
  split
  ·have:=ZIs f n (f acc c).1 (acc++[(f acc c).2])
   simp at this;omega
  ·simp
theorem ZIc {α:Type} {f:List α->Sn->Sn×α} {P:α->Prop} (hf:∀acc c,(∀x∈acc,P x)->P (f acc c).2):∀(n:Nat) (c:Sn) (acc:List α),(∀x∈acc,P x)->∀x∈(ZHz f n c acc).2,P x
 | 0,c,acc,h=>h
 | n+1,c,acc,h=>by
  rw[ZHz]
  split
  ·refine ZIc hf n _ _ fun x hx=>?_
   rcases zaj.1 hx with hx|hx
   ·exact h x hx
   ·simp at hx;rw[hx];exact hf acc c h
  ·exact h
theorem ZJZ {α:Type} (f:Sn->Sn×α):∀(n:Nat) (c:Sn) (acc:List α),(ZIk f n c acc).2.length=acc.length+n
 | 0,c,acc=>by simp[ZIk]
 | n+1,c,acc=>by
  rw[ZIk,ZJZ f n]
  simp;omega
open Go.RowKit Go.Lib
theorem Lw.bind {α β:Type} {S:Tx} {f:Sn->Sn×α} {g:Tx->Option (α×Tx)} {f2:α->Sn->Sn×β} {g2:α->Tx->Option (β×Tx)} {f':Sn->Sn×β} {g':Tx->Option (β×Tx)} {c:Sn} (hf:f' c=f2 (f c).2 (f c).1) (hn:g (S.drop c.k)=none->g' (S.drop c.k)=none) (hs:∀a r,g (S.drop c.k)=some (a,r)->g' (S.drop c.k)=g2 a r) (h1:Lw S f g c) (h2:∀a c,Lw S (f2 a) (g2 a) c):Lw S f' g' c:=by
 refine⟨fun h=>?_,fun h=>?_,fun h hk e=>?_,fun h hk a r e=>?_⟩
 ·rw[hf];exact(h2 _ _).le (h1.le h)
 ·rw[hf];exact(h2 _ _).dead (h1.dead h)
 ·rw[hf]
  cases e0:g (S.drop c.k)with
  | none=>exact(h2 _ _).dead (h1.nay h hk e0)
  | some p =>
   obtain⟨x,r⟩:=p
   obtain⟨a1,a2,a3⟩:=h1.yea h hk x r e0
   rw[hs x r e0]at e
   rw[a2]
   exact(h2 _ _).nay a1 (h1.le hk) (by rw[a3];exact e)
 ·rw[hf]
  cases e0:g (S.drop c.k)with
  | none=>rw[hn e0]at e;cases e
  | some p =>
   obtain⟨x,r0⟩:=p
   obtain⟨a1,a2,a3⟩:=h1.yea h hk x r0 e0
   rw[hs x r0 e0]at e
   rw[a2]
   exact(h2 _ _).yea a1 (h1.le hk) a r (by rw[a3];exact e)
def ZIu {α:Type} (e:Int) (a:α) (c:Sn):Sn×α:=(if c.e=0 then ⟨c.k,e⟩ else c,a)
theorem ZI4 {α:Type} (S:Tx) (e:Int) (a:α) (c:Sn):Lw S (ZIu e a) (fun b=>if e=0 then some (a,b) else none) c:=by
 refine⟨fun h=>?_,fun h=>?_,fun h hk e0=>?_,fun h hk x r e0=>?_⟩
 ·unfold ZIu;simp only;split<;>exact h
 ·unfold ZIu;rw[if_neg h];exact h
 ·unfold ZIu;rw[if_pos h]
  split at e0
  ·cases e0
  ·assumption
 ·unfold ZIu;rw[if_pos h]
  split at e0
  ·injection e0 with e0
   injection e0 with h1 h2
   exact⟨by assumption,h1,h2⟩
  ·cases e0
theorem ZJb {α:Type} (S:Tx) (is:Bool) (e:Int) (a:α) (c:Sn):Lw S (fun c=>(ZHG c is e,a)) (fun b=>if is=true then some (a,b) else none) c:=by
 refine⟨fun h=>ZI5 h,fun h=>ZIO h,fun h hk e0=>?_,fun h hk x r e0=>?_⟩
 ·cases is with
  | true=>simp at e0
  | false=>exact ZJ5
 ·cases is with
  | true =>
   simp only[if_true]at e0
   injection e0 with e0
   injection e0 with h1 h2
   simp only[ZIA]
   exact⟨h,h1,h2⟩
  | false=>simp at e0
def tOk (w s:Tx) (k:Nat):Bool:=isT s&&decide (w<s)&&decide (ZB1 w s=k)
theorem tOk_iff {w s:Tx} {k:Nat}:tOk w s k=true ↔ isT s=true/\w<s/\ZB1 w s=k:=by
 unfold tOk
 simp[and_assoc]
noncomputable def sTrm2 (S:Tx) (w:Tx) (k:Nat) (c:Sn):Sn×Tx:=(ZHG (sTxt S 16 c).1 (tOk w (w.take k++(sTxt S 16 c).2) k) 3,w.take k++(sTxt S 16 c).2)
noncomputable def sTrm (S:Tx) (acc:List Tx) (c:Sn):Sn×Tx:=sTrm2 S (ZGI [] acc) (sNum S (ZGI [] acc).length c).2 (sNum S (ZGI [] acc).length c).1
theorem sTrm_law (S:Tx) (acc:List Tx) (c:Sn):Lw S (sTrm S acc) (gTrm acc) c:=by
 refine Lw.bind (g2:=fun k r=>match gTxt 16 r with
  | some (s,r2)=>if isT ((ZGI [] acc).take k++s)=true/\ZGI [] acc<(ZGI [] acc).take k++s/\ZB1 (ZGI [] acc) ((ZGI [] acc).take k++s)=k then some ((ZGI [] acc).take k++s,r2) else none
  | none=>none) rfl (fun h=>by unfold gTrm;rw[h]) (fun a r h=>by unfold gTrm;rw[h]<;>rfl) (ZHp S _ c) fun k c=>?_
 refine Lw.bind (f2:=fun s c=>(ZHG c (tOk (ZGI [] acc) ((ZGI [] acc).take k++s) k) 3,(ZGI [] acc).take k++s)) (g2:=fun s b=>if tOk (ZGI [] acc) ((ZGI [] acc).take k++s) k=true then some ((ZGI [] acc).take k++s,b) else none) rfl (fun h=>by rw[h]) (fun a r h=>by rw[h];simp only[tOk_iff]) (ZHx S 16 c) fun s c=>?_
 exact ZJb S _ _ _ c
noncomputable def sRow (S:Tx) (most:Nat) (c:Sn):Sn×List Tx:=ZHz (sTrm S) (sNum S most c).2 (sNum S most c).1 []
theorem ZI9 (S:Tx) (most:Nat) (c:Sn):Lw S (sRow S most) (gRow most) c :=
 Lw.bind (f2:=fun n c=>ZHz (sTrm S) n c []) (g2:=fun n r=>ZHu gTrm n [] r) rfl (fun h=>by unfold gRow;rw[h]) (fun a r h=>by unfold gRow;rw[h]<;>rfl) (ZHp S _ c) fun n c=>ZHS n [] (fun c acc=>sTrm_law S acc c) c
noncomputable def sNumI (S:Tx) (most:Nat) (c:Sn):Sn×Int:=((sNum S most c).1,((sNum S most c).2:Int))
theorem ZLk (S:Tx) (most:Nat) (c:Sn):Lw S (sNumI S most) (gNumI most) c:=by
 have h0:=ZHp S most c
 refine⟨h0.le,h0.dead,fun h hk e=>?_,fun h hk a r e=>?_⟩
 ·refine h0.nay h hk ?_
  unfold gNumI at e
  cases e1:gNum most (S.drop c.k)with
  | none=>rfl
  | some p=>rw[e1]at e;cases e
 ·unfold gNumI at e
  cases e1:gNum most (S.drop c.k)with
  | none=>rw[e1]at e;cases e
  | some p =>
   obtain⟨n,r0⟩:=p
   rw[e1]at e
   injection e with e
   injection e with h1 h2
   obtain⟨a1,a2,a3⟩:=h0.yea h hk n r0 e1
   exact⟨a1,by show(((sNum S most c).2:Nat):Int)=a;rw[a2];exact h1,by rw[<- h2];exact a3⟩
noncomputable def sUps (S:Tx) (above n:Nat) (c:Sn):Sn×List Int:=if above=0 then (c,[]) else ZHz (fun _=>sNumI S (above - 1)) n c []
theorem sUps_law (S:Tx) (above n:Nat) (c:Sn):Lw S (sUps S above n) (gUps above n) c:=by
 by_cases h:above=0
 ·have e1:sUps S above n=fun c=>(c,[]):=by funext c;unfold sUps;rw[if_pos h]
  have e2:gUps above n=fun b=>some ([],b):=by funext b;unfold gUps;rw[if_pos h]
  rw[e1,e2]
  exact⟨fun h=>h,fun h=>h,fun _ _ h=>(by cases h),fun h hk a r e=>by
   injection e with e
   injection e with h1 h2
   exact⟨h,h1,h2⟩⟩
 ·have e1:sUps S above n=fun c=>ZHz (fun _=>sNumI S (above - 1)) n c []:=by funext c;unfold sUps;rw[if_neg h]
  have e2:gUps above n=fun b=>ZHu (fun _=>gNumI (above - 1)) n [] b:=by funext b;unfold gUps;rw[if_neg h]
  rw[e1,e2]
  exact ZHS n [] (fun c acc=>ZLk S _ c) c
theorem ZKc (S:Tx) (above n:Nat) (c:Sn):(sUps S above n c).2.length<=n:=by
 unfold sUps
 split
 ·simp
 ·have:=ZIs (fun _=>sNumI S (above - 1)) n c []
  simpa using this
noncomputable def sTir (S:Tx) (above:Nat) (c:Sn):Sn×Tir :=
 let p:=sTxt S 12 c
 let q:=sRow S 200 p.1
 let u:=sUps S above q.2.length q.1
 ZIu (ZbO ⟨p.2,q.2,u.2⟩ (above:Int)) ⟨p.2,q.2,u.2⟩ u.1
theorem ZKk (S:Tx) (above:Nat) (c:Sn):Lw S (sTir S above) (gTir above) c:=by
 refine Lw.bind (f2:=fun nm c=>let q:=sRow S 200 c;let u:=sUps S above q.2.length q.1;ZIu (ZbO ⟨nm,q.2,u.2⟩ (above:Int)) ⟨nm,q.2,u.2⟩ u.1) (g2:=fun nm r=>match gRow 200 r with
  | some (l,r2)=>match gUps above l.length r2 with
   | some (u,r3)=>if ZbO ⟨nm,l,u⟩ (above:Int)=0 then some (⟨nm,l,u⟩,r3) else none
   | none=>none
  | none=>none) rfl (fun h=>by unfold gTir;rw[h]) (fun a r h=>by unfold gTir;rw[h]<;>rfl) (ZHx S 12 c) fun nm c=>?_
 refine Lw.bind (f2:=fun l c=>let u:=sUps S above l.length c;ZIu (ZbO ⟨nm,l,u.2⟩ (above:Int)) ⟨nm,l,u.2⟩ u.1) (g2:=fun l r2=>match gUps above l.length r2 with
   | some (u,r3)=>if ZbO ⟨nm,l,u⟩ (above:Int)=0 then some (⟨nm,l,u⟩,r3) else none
   | none=>none) rfl (fun h=>by simp only[h]) (fun a r h=>by simp only[h]) (ZI9 S 200 c) fun l c=>?_
 exact Lw.bind (f2:=fun u c=>ZIu (ZbO ⟨nm,l,u⟩ (above:Int)) ⟨nm,l,u⟩ c) (g2:=fun u r3=>if ZbO ⟨nm,l,u⟩ (above:Int)=0 then some (⟨nm,l,u⟩,r3) else none) rfl (fun h=>by simp only[h]) (fun a r h=>by simp only[h]) (sUps_law S above l.length c) fun u c=>ZI4 S _ _ c
noncomputable def sDim (S:Tx) (c:Sn):Sn×Dm :=
 let p:=sTxt S 12 c
 let n:=sNum S 4 p.1
 let l:=ZHz (fun acc=>sTir S (ZHF acc)) n.2 n.1 []
 ZIu (Zdv ⟨p.2,l.2.reverse⟩) ⟨p.2,l.2.reverse⟩ l.1
theorem ZIX (S:Tx) (c:Sn):Lw S (sDim S) gDim c:=by
 refine Lw.bind (f2:=fun nm c=>let n:=sNum S 4 c;let l:=ZHz (fun acc=>sTir S (ZHF acc)) n.2 n.1 [];ZIu (Zdv ⟨nm,l.2.reverse⟩) ⟨nm,l.2.reverse⟩ l.1) (g2:=fun nm r=>match gNum 4 r with
  | some (n,r2)=>match ZHu (fun acc=>gTir (ZHF acc)) n [] r2 with
   | some (l,r3)=>if Zdv ⟨nm,l.reverse⟩=0 then some (⟨nm,l.reverse⟩,r3) else none
   | none=>none
  | none=>none) rfl (fun h=>by unfold gDim;rw[h]) (fun a r h=>by unfold gDim;rw[h]<;>rfl) (ZHx S 12 c) fun nm c=>?_
 refine Lw.bind (f2:=fun n c=>let l:=ZHz (fun acc=>sTir S (ZHF acc)) n c [];ZIu (Zdv ⟨nm,l.2.reverse⟩) ⟨nm,l.2.reverse⟩ l.1) (g2:=fun n r2=>match ZHu (fun acc=>gTir (ZHF acc)) n [] r2 with
   | some (l,r3)=>if Zdv ⟨nm,l.reverse⟩=0 then some (⟨nm,l.reverse⟩,r3) else none
   | none=>none) rfl (fun h=>by simp only[h]) (fun a r h=>by simp only[h]) (ZHp S 4 c) fun n c=>?_
 exact Lw.bind (f2:=fun l c=>ZIu (Zdv ⟨nm,l.reverse⟩) ⟨nm,l.reverse⟩ c) (g2:=fun l r3=>if Zdv ⟨nm,l.reverse⟩=0 then some (⟨nm,l.reverse⟩,r3) else none) rfl (fun h=>by simp only[h]) (fun a r h=>by simp only[h]) (ZHS n [] (fun c acc=>ZKk S _ c) c) fun u c=>ZI4 S _ _ c
noncomputable def sSc (S:Tx) (c:Sn):Sn×Sc :=
 let n:=sNum S 16 c
 let ds:=ZHz (fun _=>sDim S) n.2 n.1 []
 let m:=sNum S 3 ds.1
 let ms:=ZHz (fun _=>sTxt S 12) m.2 m.1 []
 ZIu (scE ⟨ds.2,ms.2⟩) ⟨ds.2,ms.2⟩ ms.1
theorem ZLy (S:Tx) (c:Sn):Lw S (sSc S) gSc c:=by
 refine Lw.bind (f2:=fun n c=>let ds:=ZHz (fun _=>sDim S) n c [];let m:=sNum S 3 ds.1;let ms:=ZHz (fun _=>sTxt S 12) m.2 m.1 [];ZIu (scE ⟨ds.2,ms.2⟩) ⟨ds.2,ms.2⟩ ms.1) (g2:=fun n r=>match ZHu (fun _=>gDim) n [] r with
  | some (ds,r2)=>match gNum 3 r2 with
   | some (m,r3)=>match ZHu (fun _=>gTxt 12) m [] r3 with
    | some (ms,r4)=>if scE ⟨ds,ms⟩=0 then some (⟨ds,ms⟩,r4) else none
    | none=>none
   | none=>none
  | none=>none) rfl (fun h=>by unfold gSc;rw[h]) (fun a r h=>by unfold gSc;rw[h]<;>rfl) (ZHp S 16 c) fun n c=>?_
 refine Lw.bind (f2:=fun ds c=>let m:=sNum S 3 c;let ms:=ZHz (fun _=>sTxt S 12) m.2 m.1 [];ZIu (scE ⟨ds,ms.2⟩) ⟨ds,ms.2⟩ ms.1) (g2:=fun ds r2=>match gNum 3 r2 with
   | some (m,r3)=>match ZHu (fun _=>gTxt 12) m [] r3 with
    | some (ms,r4)=>if scE ⟨ds,ms⟩=0 then some (⟨ds,ms⟩,r4) else none
    | none=>none
   | none=>none) rfl (fun h=>by simp only[h]) (fun a r h=>by simp only[h]) (ZHS n [] (fun c acc=>ZIX S c) c) fun ds c=>?_
 refine Lw.bind (f2:=fun m c=>let ms:=ZHz (fun _=>sTxt S 12) m c [];ZIu (scE ⟨ds,ms.2⟩) ⟨ds,ms.2⟩ ms.1) (g2:=fun m r3=>match ZHu (fun _=>gTxt 12) m [] r3 with
    | some (ms,r4)=>if scE ⟨ds,ms⟩=0 then some (⟨ds,ms⟩,r4) else none
    | none=>none) rfl (fun h=>by simp only[h]) (fun a r h=>by simp only[h]) (ZHp S 3 c) fun m c=>?_
 exact Lw.bind (f2:=fun ms c=>ZIu (scE ⟨ds,ms⟩) ⟨ds,ms⟩ c) (g2:=fun ms r4=>if scE ⟨ds,ms⟩=0 then some (⟨ds,ms⟩,r4) else none) rfl (fun h=>by simp only[h]) (fun a r h=>by simp only[h]) (ZHS m [] (fun c acc=>ZHx S 12 c) c) fun u c=>ZI4 S _ _ c
def ZKp (S:Tx) (c:Sn):Int:=(ZHG c (decide (c.k=S.length)) 3).e
theorem ZIW {α:Type} {S:Tx} {f:Sn->Sn×α} {g:Tx->Option (α×Tx)} (h:Lw S f g ⟨0,0⟩):ZKp S (f ⟨0,0⟩).1=0 ↔ ∃a,g S=some (a,[])/\(f ⟨0,0⟩).2=a:=by
 have hle:=h.le (zas _)
 unfold ZKp
 cases e:g S with
 | none =>
  have:=h.nay rfl (zas _) e
  constructor
  ·intro h2;exact absurd h2 (ZIO this)
  ·rintro⟨a,h2,_⟩;cases h2
 | some p =>
  obtain⟨a,r⟩:=p
  obtain⟨a1,a2,a3⟩:=h.yea rfl (zas _) a r e
  have hl:=congrArg List.length a3
  rw[zaB]at hl
  constructor
  ·intro h2
   by_cases hk:(f ⟨0,0⟩).1.k=S.length
   ·refine⟨a,?_,a2⟩
    have:r=[]:=List.length_eq_zero_iff.1 Xa
    rw[this]
   ·rw[decide_eq_false hk]at h2;exact absurd h2 ZJ5
  ·rintro⟨b,h2,_⟩
   injection h2 with h2
   injection h2 with h3 h4
   subst h4
   have hk:(f ⟨0,0⟩).1.k=S.length:=by simp at hl;omega
   rw[decide_eq_true hk,ZIA];exact a1
open Go.RowKit Go.Lib
def zOf:Tx->Nat
 | []=>0
 | c :: _=>ZHA c+1
theorem zOf_le (s:Tx):zOf s<=9:=by
 cases s with
 | nil=>exact zas _
 | cons c r=>have:=ZIv c;show ZHA c+1<=9;omega
theorem ZJK:∀{a b:Nat},1<=a->a<=b->b<=9->ZBa a<=ZBa b:=by
 intro a b h1 h2 h3
 exact(ZDh ⟨a,Xa⟩ ⟨b,Xa⟩ h1 h2).1
theorem hd_not {c:UInt8} {z h k:Nat} (hd:HdN c z h) (hk1:1<=k) (hk:k<=9) (hz:k≠z):c.toNat<ZBa k\/(k<9/\ZBa (k+1)<=c.toNat):=by
 have hc:=hd.c
 by_cases hl:k<z
 ·right
  have:=ZJK (a:=k+1) (b:=z) Xa Xa hd.z9
  have:=hd.z9
  exact⟨Xa,Xa⟩
 ·left
  have h9:z<9:=Xa
  have h2:=(ZDh ⟨z,Xa⟩ ⟨z,Xa⟩ hd.z1 (zad _)).2.1 h9
  simp only at h2
  have h3:=hd.h.1 h9
  have:=ZJK (a:=z+1) (b:=k) Xa Xa hk
  omega
theorem hd_is {c:UInt8} {z h:Nat} (hd:HdN c z h):ZBa z<=c.toNat/\(z<9->c.toNat<ZBa (z+1)):=by
 have hc:=hd.c
 refine⟨Xa,fun h9=>?_⟩
 have h2:=(ZDh ⟨z,Xa⟩ ⟨z,Xa⟩ hd.z1 (zad _)).2.1 h9
 simp only at h2
 have:=hd.h.1 h9
 omega
theorem put_is {c:UInt8} {r:Tx} {z h:Nat} (hd:HdN c z h) (hl:z - 1<=r.length):ZA2 (xNn h r (z - 1))=(c :: r).take z ↔ ZA5 (xNn h r (z - 1))=z:=by
 have hlaw:=ZI3 hd (r:=r)
 rw[if_pos hl]at hlaw
 have hz:=hd.z1
 constructor
 ·intro e
  have:=congrArg List.length e
  rw[ZA3,zau,List.length_cons]at this
  omega
 ·intro e
  have e2:ZA5 (h * 256 ^ (z - 1)+beV (r.take (z - 1)))=z:=e
  rw[if_pos e2]at hlaw
  have h2:=(ZHX hlaw).2
  rw[h2]
  exact(zbh (by rw[ZA3];exact e)).symm
theorem rtake_in {Q:AEx->Fr->Zaa->Prop} {F:Fr} {H G:Zaa} {c:UInt8} {r:Tx} {z h:Nat} (hd:HdN c z h) (hl:z - 1<=r.length) (hx:Zaa.Ext H G) (f0:Fr.get F 0=eS (c :: r)) (f5:Fr.get F 5=.i (z:Int)) (f6:Fr.get F 6=uN h) (f7:Fr.get F 7=.i 1)
  (hQ:∀F' G',Zaa.Ext H G'->Fr.get F' 0=eS (c :: r)->Fr.get F' 5=.i (z:Int)->Fr.get F' 6=uN (xNn h r (z - 1))->Q .normal F' G'):AW Tryz.prog c160_2 Q F G:=by
 have qr:=trivial
 have qn:=trivial
 have z1:=hd.z1
 have z9:=hd.z9
 refine ZBA (fun m F G=>∃k,m+k+1=z/\Fr.get F 7=.i ((k+1:Nat):Int)/\Fr.get F 0=eS (c :: r)/\Fr.get F 5=.i (z:Int)/\Fr.get F 6=uN (xNn h r k)/\Zaa.Ext H G) (z - 1) (GStep.refl _ _) ⟨0,Xa,f7,f0,f5,by rw[ZLx];exact f6,hx⟩ ?_
 rintro m F G ⟨k,hm,f7,f0,f5,f6,hx⟩
 cases m with
 | succ m =>
  have e1:decide (((k+1:Nat):Int)<(z:Int))=true:=by simp;omega
  have hz:(0:Int)<=((k+1:Nat):Int):=Xa
  have hw:=ZCE (s:=k+1) Xa
  have hk:k<r.length:=Xa
  have hb:=Zy6 (c :: r) (k+1)
  rw[List.getElem?_cons_succ,zac hk]at hb
  have hxs:=ZLF (h:=h) hk
  have hlt:=xN_lt hd (k:=k+1) (l:=r) Xa Xa
  have hc:=r[k].toNat_lt
  rw[hxs]at hlt
  generalize r[k]=y at *
  generalize xNn h r k=x at *
  have w1:IntKind.u64.wrap ((x:Int) * 256)=((x * 256:Nat):Int):=by rw[ZB9 Xa Xa];omega
  have w2:IntKind.u64.wrap ((y.toNat:Nat):Int)=((y.toNat:Nat):Int):=ZB9 Xa Xa
  have w3:IntKind.u64.wrap (((x * 256:Nat):Int)+((y.toNat:Nat):Int))=((x * 256+y.toNat:Nat):Int):=by rw[ZB9 Xa Xa];omega
  skip
  refine Bz1 (X11 f7 f0 f5 f6 e1 hz hw hb w1 w2 w3) ?_
  exact⟨m,Xa,k+1,Xa,rfl,by rw[hxs],hx⟩
 | zero =>
  obtain rfl:z=k+1:=Xa
  have e1:decide (((k+1:Nat):Int)<((k+1:Nat):Int))=false:=Xc
  skip
  refine Bz1 (X3 f7 f5 e1) ?_
  exact hQ _ _ hx (by simpa [Fr.get] using f0) (by simpa [Fr.get] using f5) (by simpa [Fr.get] using f6)
theorem eTk_none {S:Tx} (h:gAny S=none):eTk S=.tup [uN 0,.i 0,.b false]:=by unfold eTk;rw[h]
theorem ZK6 (S:Tx) (H:Zaa) (hl:S.length<=1000000):Zay Tryz.prog 160 [eS S] H (Pure H (eTk S)):=by
 have hz9:=zOf_le S
 have hx0:Zaa.Ext H H:=.refl _
 refine fnQ cf160 fun Q qr qn=>?_
 refine Bz0 ?_
 refine ZBA (fun m F G=>∃k,m+k=10/\1<=k/\Fr.get F 5=.i (k:Int)/\Fr.get F 0=eS S/\Zaa.Ext H G/\(zOf S<k->gAny S=none)) 9 (GStep.refl _ _) ⟨1,Xa,Xa,rfl,rfl,.refl _,fun h=>?_⟩ ?_
 ·cases S with
  | nil=>exact any_nil
  | cons c r=>exact absurd h (by show ¬(ZHA c+1<1);omega)
 rintro m F G ⟨k,hm,hk1,f5,f0,hx,hno⟩
 cases m with
 | zero =>
  obtain rfl:k=10:=Xa
  have d0:decide (((10:Nat):Int)<=9)=false:=Xb
  rw[eTk_none (hno Xa)]at qr qn
  skip
  refine Bz1 (X2 f5 d0) ?_
  exact ZaW hx rfl
 | succ m =>
  have d0:decide ((k:Int)<=9)=true:=by simp;omega
  have hw:=ZCE (s:=k) Xa
  have hlk:=ZCc k hk1 Xa
  by_cases hlen:S.length<k
  ·have d1:decide ((S.length:Int)<(k:Int))=true:=by simp;omega
   have hno2:zOf S<k+1->gAny S=none:=fun h=>by
    by_cases h2:zOf S<k
    ·exact hno h2
    ·cases S with
     | nil=>exact any_nil
     | cons c r =>
      have hd:=hd_of c
      have hzk:ZHA c+1=k:=by
       have:zOf (c :: r)=ZHA c+1:=rfl
       omega
      rw[ZI3 hd (r:=r),if_neg]
      rw[List.length_cons]at hlen
      omega
   skip
   refine Bz1 (X5 f5 f0 d0 d1 hw) ?_
   exact⟨m,Xa,k+1,Xa,Xa,rfl,hx,hno2⟩
  ·have d1:decide ((S.length:Int)<(k:Int))=false:=by simp;omega
   cases S with
   | nil=>simp at hlen;omega
   | cons c r =>
    have hd:=hd_of c
    have hzo:zOf (c :: r)=ZHA c+1:=rfl
    have d1b:decide (((r.length+1:Nat):Int)<(k:Int))=false:=d1
    have hlaw:=ZI3 hd (r:=r)
    rw[hzo]at hno hz9
    generalize ZHA c+1=z at *
    have hin:=fun(Q:AEx->Fr->Zaa->Prop) F H G=>rtake_in (Q:=Q) (F:=F) (H:=H) (G:=G) (r:=r) hd
    generalize hh:c.toNat - ZBa z=h at *
    have hc8:=c.toNat_lt
    have hz0:(0:Int)<=0:=zbv _
    have hb0:=Zy6 (c :: r) 0
    rw[List.getElem?_cons_zero]at hb0
    have hwb:IntKind.i64.wrap ((c.toNat:Nat):Int)=((c.toNat:Nat):Int):=Zaw Xa Xa
    by_cases hkz:k=z
    ·subst hkz
     obtain⟨a1,a2⟩:=hd_is hd
     have d2:decide (((c.toNat:Nat):Int)<((ZBa k:Nat):Int))=false:=by simp;omega
     have hql:k - 1<=r.length:=by rw[List.length_cons]at hlen;omega
     rw[if_pos hql]at hlaw
     have hwq:IntKind.i64.wrap (((c.toNat:Nat):Int) - ((ZBa k:Nat):Int))=(h:Int):=by rw[show((c.toNat:Nat):Int) - ((ZBa k:Nat):Int)=(h:Int) by omega];exact Zaw Xa Xa
     have hwu:IntKind.u64.wrap (h:Int)=(h:Int):=ZB9 Xa Xa
     have hkz:(0:Int)<=(k:Int):=Xa
     have hkt:((k:Int)).toNat=k:=Xa
     have hk0:0<=k:=zas _
     have hkS:k<=(c :: r).length:=Xa
     have hkS2:k<=r.length+1:=hkS
     have hbd:(0<=k/\k<=(c :: r).length)=True:=by rw[eq_iff_iff,iff_true];omega
     have e1:=ZCa (c :: r) k
     have hpi:=put_is hd hql
     have hxl:=xN_lt hd (k:=k - 1) (l:=r) (zad _) hql
     have hput:=fun H=>ZCg (xNn h r (k - 1)) H hxl
     have hin:=fun Q F H G=>hin Q F H G hql
     have hxN:h * 256 ^ (k - 1)+beV (r.take (k - 1))=xNn h r (k - 1):=rfl
     rw[hxN]at hlaw
     have fin:∀{Q:AEx->Fr->Zaa->Prop},True:=trivial
     by_cases hs:ZA5 (xNn h r (k - 1))=k
     ·rw[if_pos hs]at hlaw
      have hv:eTk (c :: r)=.tup [uN (xNn h r (k - 1)),.i (k:Int),.b true]:=by unfold eTk;rw[hlaw];simp only[hs]
      rw[hv]at qr qn
      have dd:decide (ZA2 (xNn h r (k - 1))=(c :: r).take k)=true:=decide_eq_true (hpi.2 hs)
      generalize xNn h r (k - 1)=x at *
      generalize (c :: r).take k=PB at *
      by_cases hk9:k<9
      ·have d3:decide ((k:Int)<9)=true:=by simp;omega
       have:=a2 hk9
       have d4:decide (((c.toNat:Nat):Int)≥((ZBa (k+1):Nat):Int))=false:=by rw[decide_eq_false_iff_not];omega
       have hlk2:=ZCc (k+1) Xa Xa
       skip
       refine Bz1 (X8 f5 f0 d0 d1 d1b hz0 hb0 hwb) ?_
       refine qcp (hlk _) fun k1=>?_
       refine Bz1 (X11 f5 f0 d0 d1 d1b d2 d3 hz0 hb0 hwb hw) ?_
       refine qcp (hlk2 _) fun k2=>?_
       refine Bz1 (X11 f5 f0 d0 d1 d1b d2 d3 d4 hz0 hb0 hwb) ?_
       refine qcp (hlk _) fun k3=>?_
       refine Bz1 (X4 f5 f0 hwq hwu) ?_
       refine hin _ _ H _ hx.bump.bump.bump f0 f5 rfl rfl ?_
       intro F1 G1 hx1 f0 f5 f6
       refine Bz6 (X10 f0 f5 f6 hkz hkt hbd hk0 hkS hkS2 e1) ?_
       refine qcp (hput _) fun k4=>?_
       refine Bz1 (X4 f0 f5 f6 dd) ?_
       exact ZaW hx1.bump rfl
      ·have d3:decide ((k:Int)<9)=false:=by simp;omega
       skip
       refine Bz1 (X8 f5 f0 d0 d1 d1b hz0 hb0 hwb) ?_
       refine qcp (hlk _) fun k1=>?_
       refine Bz1 (X11 f5 f0 d0 d1 d1b d2 d3 hz0 hb0 hwb hw) ?_
       refine qcp (hlk _) fun k3=>?_
       refine Bz1 (X4 f5 f0 hwq hwu) ?_
       refine hin _ _ H _ hx.bump.bump f0 f5 rfl rfl ?_
       intro F1 G1 hx1 f0 f5 f6
       refine Bz6 (X10 f0 f5 f6 hkz hkt hbd hk0 hkS hkS2 e1) ?_
       refine qcp (hput _) fun k4=>?_
       refine Bz1 (X4 f0 f5 f6 dd) ?_
       exact ZaW hx1.bump rfl
     ·rw[if_neg hs]at hlaw
      have dd:decide (ZA2 (xNn h r (k - 1))=(c :: r).take k)=false:=decide_eq_false fun e=>hs (hpi.1 e)
      generalize xNn h r (k - 1)=x at *
      generalize (c :: r).take k=PB at *
      by_cases hk9:k<9
      ·have d3:decide ((k:Int)<9)=true:=by simp;omega
       have:=a2 hk9
       have d4:decide (((c.toNat:Nat):Int)≥((ZBa (k+1):Nat):Int))=false:=by rw[decide_eq_false_iff_not];omega
       have hlk2:=ZCc (k+1) Xa Xa
       skip
       refine Bz1 (X8 f5 f0 d0 d1 d1b hz0 hb0 hwb) ?_
       refine qcp (hlk _) fun k1=>?_
       refine Bz1 (X11 f5 f0 d0 d1 d1b d2 d3 hz0 hb0 hwb hw) ?_
       refine qcp (hlk2 _) fun k2=>?_
       refine Bz1 (X11 f5 f0 d0 d1 d1b d2 d3 d4 hz0 hb0 hwb) ?_
       refine qcp (hlk _) fun k3=>?_
       refine Bz1 (X4 f5 f0 hwq hwu) ?_
       refine hin _ _ H _ hx.bump.bump.bump f0 f5 rfl rfl ?_
       intro F1 G1 hx1 f0 f5 f6
       refine Bz6 (X10 f0 f5 f6 hkz hkt hbd hk0 hkS hkS2 e1) ?_
       refine qcp (hput _) fun k4=>?_
       refine Bz1 (X5 f0 f5 f6 dd hw) ?_
       exact⟨m,Xa,k+1,Xa,Xa,rfl,hx1.bump,fun _=>hlaw⟩
      ·have d3:decide ((k:Int)<9)=false:=by simp;omega
       skip
       refine Bz1 (X8 f5 f0 d0 d1 d1b hz0 hb0 hwb) ?_
       refine qcp (hlk _) fun k1=>?_
       refine Bz1 (X11 f5 f0 d0 d1 d1b d2 d3 hz0 hb0 hwb hw) ?_
       refine qcp (hlk _) fun k3=>?_
       refine Bz1 (X4 f5 f0 hwq hwu) ?_
       refine hin _ _ H _ hx.bump.bump f0 f5 rfl rfl ?_
       intro F1 G1 hx1 f0 f5 f6
       refine Bz6 (X10 f0 f5 f6 hkz hkt hbd hk0 hkS hkS2 e1) ?_
       refine qcp (hput _) fun k4=>?_
       refine Bz1 (X5 f0 f5 f6 dd hw) ?_
       exact⟨m,Xa,k+1,Xa,Xa,rfl,hx1.bump,fun _=>hlaw⟩
    ·have hno2:zOf (c :: r)<k+1->gAny (c :: r)=none:=fun h=>hno Xa
     rcases hd_not hd hk1 Xa hkz with hlt|⟨hk9,hge⟩
     ·have d2:decide (((c.toNat:Nat):Int)<((ZBa k:Nat):Int))=true:=by simp;omega
      skip
      refine Bz1 (X8 f5 f0 d0 d1 d1b hz0 hb0 hwb) ?_
      refine qcp (hlk _) fun k1=>?_
      refine Bz1 (X10 f5 f0 d0 d1 d1b d2 hz0 hb0 hwb hw) ?_
      exact⟨m,Xa,k+1,Xa,Xa,rfl,hx.bump,hno2⟩
     ·have d3:decide ((k:Int)<9)=true:=by simp;omega
      have hlk2:=ZCc (k+1) Xa Xa
      have hlo:=ZJK (a:=k) (b:=k+1) hk1 Xa Xa
      have d2:decide (((c.toNat:Nat):Int)<((ZBa k:Nat):Int))=false:=by simp;omega
      have d4:decide (((c.toNat:Nat):Int)≥((ZBa (k+1):Nat):Int))=true:=by rw[decide_eq_true_iff];omega
      skip
      refine Bz1 (X8 f5 f0 d0 d1 d1b hz0 hb0 hwb) ?_
      refine qcp (hlk _) fun k1=>?_
      refine Bz1 (X11 f5 f0 d0 d1 d1b d2 d3 hz0 hb0 hwb hw) ?_
      refine qcp (hlk2 _) fun k2=>?_
      refine Bz1 (X9 f5 f0 d0 d1 d1b d2 d3 d4 hw) ?_
      exact⟨m,Xa,k+1,Xa,Xa,rfl,hx.bump.bump,hno2⟩
open Go.RowKit Go.Lib
abbrev eSn (S:Tx) (c:Sn):List AV:=[eS S,.i (c.k:Int),.i c.e]
theorem ZHs {e:Int} (h:¬e=0):(e != 0)=true/\(e == 0)=false:=⟨by simpa using h,by simpa using h⟩
theorem ZIP (S:Tx) (c:Sn) (H:Zaa) (hS:S.length<=1000000) (hk:c.k<=S.length):Zay Tryz.prog 117 [.agg (eSn S c)] H (Pure H (.tup [.agg (eSn S (sNu S c).1),uN (sNu S c).2])):=by
 obtain⟨k,e⟩:=c
 have hx0:Zaa.Ext H H:=.refl _
 by_cases he:e=0
 ·subst he
  have hk:k<=S.length:=hk
  have hz:(0:Int)<=(k:Int):=Xa
  have hkt:((k:Int)).toNat=k:=Xa
  have hbd:(k<=S.length/\S.length<=S.length)=True:=by rw[eq_iff_iff,iff_true];omega
  have e1:=ZBP S k
  have ht:=fun H=>ZK6 (S.drop k) H (by rw[zaB];omega)
  have d0:((0:Int) != 0)=false:=rfl
  unfold eTk at ht
  cases hg:gAny (S.drop k)with
  | none =>
   have hv:sNu S ⟨k,0⟩=(⟨k,3⟩,0):=by unfold sNu;rw[if_pos rfl];simp only[hg]
   rw[hv]
   rw[hg]at ht
   have ht:∀H,Zay Tryz.prog 160 [eS (S.drop k)] H (Pure H (.tup [uN 0,.i 0,.b false])):=ht
   generalize S.drop k=P at *
   refine fnQ cf117 fun Q qr qn=>?_
   refine Bz6 (X7 d0 hz hkt hk hbd e1 YZp) ?_
   refine qcp (ht _) fun k1=>?_
   refine Bz1 (X2 d0 YZp) ?_
   exact ZaW xX rfl
  | some p =>
   obtain⟨n,r⟩:=p
   have hv:sNu S ⟨k,0⟩=(⟨k+ZA5 n,0⟩,n):=by unfold sNu;rw[if_pos rfl];simp only[hg]
   rw[hv]
   rw[hg]at ht
   have ht:∀H,Zay Tryz.prog 160 [eS (S.drop k)] H (Pure H (.tup [uN n,.i (ZA5 n:Nat),.b true])):=ht
   have hsz:=(ZA7 n).2
   have hw:IntKind.i64.wrap ((k:Int)+(ZA5 n:Int))=((k+ZA5 n:Nat):Int):=by rw[Zaw Xa Xa];omega
   generalize S.drop k=P at *
   generalize ZA5 n=z at *
   refine fnQ cf117 fun Q qr qn=>?_
   refine Bz6 (X7 d0 hz hkt hk hbd e1 YZp) ?_
   refine qcp (ht _) fun k1=>?_
   refine Bz1 (X3 d0 hw YZp) ?_
   exact ZaW xX rfl
 ·have hv:sNu S ⟨k,e⟩=(⟨k,e⟩,0):=by unfold sNu;rw[if_neg he]
  rw[hv]
  obtain⟨d0,_⟩:=ZHs he
  refine fnQ cf117 fun Q qr qn=>?_
  refine Bz1 (X2 d0 YZp) ?_
  exact ZaW xX rfl
theorem ZHL (S:Tx) (most:Nat) (c:Sn) (H:Zaa) (hS:S.length<=1000000) (hk:c.k<=S.length) (hm:most<=1000000):Zay Tryz.prog 64 [.agg (eSn S c),.i (most:Int)] H (Pure H (.tup [.agg (eSn S (sNum S most c).1),.i ((sNum S most c).2:Nat)])):=by
 have ht:=fun H=>ZIP S c H hS hk
 have hlt:=sNu_lt S c
 have hx0:Zaa.Ext H H:=.refl _
 have d2:decide ((most:Int)<0)=false:=Xc
 have hw:=u64n most Xa
 unfold sNum
 generalize sNu S c=p at *
 obtain⟨⟨k,e⟩,n⟩:=p
 have hlt:n<18446744073709551616:=hlt
 by_cases he:e=0
 ·subst he
  have d0:((0:Int) != 0)=false:=rfl
  have d1:((0:Int) == 0)=true:=rfl
  by_cases hn:n<=most
  ·rw[if_pos rfl,if_pos hn]
   have hw2:IntKind.i64.wrap (n:Int)=(n:Int):=Zaw Xa Xa
   have d3:decide ((n:Int) > (most:Int))=false:=by simp;omega
   refine fnQ cf64 fun Q qr qn=>?_
   refine Bz1 (X2 d0 YZp) ?_
   refine qcp (ht _) fun k1=>?_
   refine Bz1 (X7 d0 d1 d2 d3 hw hw2 YZp) ?_
   exact ZaW xX rfl
  ·rw[if_pos rfl,if_neg hn]
   have d3:decide ((n:Int) > (most:Int))=true:=by simp;omega
   have d5:((5:Int) != 0)=true:=rfl
   refine fnQ cf64 fun Q qr qn=>?_
   refine Bz1 (X2 d0 YZp) ?_
   refine qcp (ht _) fun k1=>?_
   refine Bz1 (X7 d0 d1 d2 d3 d5 hw YZp) ?_
   exact ZaW xX rfl
 ·obtain⟨d0,d1⟩:=ZHs he
  rw[if_neg he]
  refine fnQ cf64 fun Q qr qn=>?_
  refine Bz1 (X1 YZp) ?_
  refine qcp (ht _) fun k1=>?_
  refine Bz1 (X3 d0 d1 YZp) ?_
  exact ZaW xX rfl
theorem fix_any (S:Tx) (n:Nat) (c:Sn) (H:Zaa) (hS:S.length<=1000000) (hk:c.k<=S.length) (hn:n<=1000000):Zay Tryz.prog 118 [.agg (eSn S c),.i (n:Int)] H (Pure H (.tup [.agg (eSn S (ZJB S n c).1),eS (ZJB S n c).2])):=by
 obtain⟨k,e⟩:=c
 have hx0:Zaa.Ext H H:=.refl _
 by_cases he:e=0
 ·subst he
  have hk:k<=S.length:=hk
  have d0:((0:Int) != 0)=false:=rfl
  have d2:decide ((n:Int)<0)=false:=Xc
  have w1:IntKind.i64.wrap ((S.length:Int) - (k:Int))=(S.length:Int) - (k:Int):=Zaw Xa Xa
  have hz:(0:Int)<=(k:Int):=Xa
  have hkt:((k:Int)).toNat=k:=Xa
  by_cases hle:n<=S.length - k
  ·have hv:ZJB S n ⟨k,0⟩=(⟨k+n,0⟩,(S.drop k).take n):=by unfold ZJB;rw[if_pos rfl,if_pos hle]
   rw[hv]
   have w2:IntKind.i64.wrap ((k:Int)+(n:Int))=((k+n:Nat):Int):=by rw[Zaw Xa Xa];omega
   have d3:decide ((n:Int) > (S.length:Int) - (k:Int))=false:=by simp;omega
   have hz2:(0:Int)<=((k+n:Nat):Int):=Xa
   have hkt2:(((k+n:Nat):Int)).toNat=k+n:=Xa
   have hb1:k<=k+n:=Xa
   have hb2:k+n<=S.length:=Xa
   have e1:(⟨S.toArray⟩:ByteArray).extract k (k+n)=⟨((S.drop k).take n).toArray⟩:=by
    apply zbi
    simp only[za6,zbC,List.extract_eq_take_drop]
    rw[zbM]
   refine fnQ ZFS fun Q qr qn=>?_
   refine Bz6 (X12 d0 d2 d3 w1 w2 hz hkt hz2 hkt2 hb1 hb2 (X2 e1 YZp)) ?_
   exact ZaW xX rfl
  ·have hv:ZJB S n ⟨k,0⟩=(⟨k,3⟩,[]):=by unfold ZJB;rw[if_pos rfl,if_neg hle]
   rw[hv]
   have d3:decide ((n:Int) > (S.length:Int) - (k:Int))=true:=by simp;omega
   refine fnQ ZFS fun Q qr qn=>?_
   refine Bz1 (X5 d0 d2 d3 w1 YZp) ?_
   exact ZaW xX rfl
 ·have hv:ZJB S n ⟨k,e⟩=(⟨k,e⟩,[]):=by unfold ZJB;rw[if_neg he]
  rw[hv]
  obtain⟨d0,_⟩:=ZHs he
  refine fnQ ZFS fun Q qr qn=>?_
  refine Bz1 (X2 d0 YZp) ?_
  exact ZaW xX rfl
theorem ZH1 (S:Tx) (most:Nat) (c:Sn) (H:Zaa) (hS:S.length<=1000000) (hk:c.k<=S.length) (hm:most<=1000000):Zay Tryz.prog 65 [.agg (eSn S c),.i (most:Int)] H (Pure H (.tup [.agg (eSn S (sTxt S most c).1),eS (sTxt S most c).2])):=by
 have hn1:=fun H=>ZHL S most c H hS hk hm
 have hle:=ZHK S most c
 have hf:=fun H=>fix_any S (sNum S most c).2 (sNum S most c).1 H hS ((ZHp S most c).le hk) Xa
 unfold sTxt
 generalize sNum S most c=p at *
 generalize ZJB S p.2 p.1=q at *
 have hx0:Zaa.Ext H H:=.refl _
 refine fnQ cf65 fun Q qr qn=>?_
 refine Bz1 (X1 YZp) ?_
 refine qcp (hn1 _) fun k1=>?_
 refine Bz1 (X1 YZp) ?_
 refine qcp (hf _) fun k2=>?_
 refine Bz1 (X1 YZp) ?_
 exact ZaW xX rfl
theorem ZI6 (S:Tx) (is:Bool) (c:Sn) (x:Int) (H:Zaa):Zay Tryz.prog 66 [.agg (eSn S c),.b is,.i x] H (Pure H (.agg (eSn S (ZHG c is x)))):=by
 obtain⟨k,e⟩:=c
 have hx0:Zaa.Ext H H:=.refl _
 by_cases he:e=0
 ·subst he
  have d1:((0:Int) == 0)=true:=rfl
  cases is with
  | true =>
   rw[ZIA]
   refine fnQ cf66 fun Q qr qn=>?_
   refine Bz1 (X2 d1 YZp) ?_
   exact ZaW xX rfl
  | false =>
   by_cases hx:x=0
   ·subst hx
    have hv:ZHG ⟨k,0⟩ false 0=⟨k,3⟩:=rfl
    rw[hv]
    refine fnQ cf66 fun Q qr qn=>?_
    refine Bz1 (X2 d1 YZp) ?_
    exact ZaW xX rfl
   ·have hv:ZHG ⟨k,0⟩ false x=⟨k,x⟩:=by unfold ZHG;rw[if_pos ⟨rfl,rfl⟩,if_neg hx]
    rw[hv]
    obtain⟨_,d2⟩:=ZHs hx
    refine fnQ cf66 fun Q qr qn=>?_
    refine Bz1 (X3 d1 d2 YZp) ?_
    exact ZaW xX rfl
 ·have hv:ZHG ⟨k,e⟩ is x=⟨k,e⟩:=by unfold ZHG;rw[if_neg fun h=>he h.1]
  rw[hv]
  obtain⟨_,d2⟩:=ZHs he
  refine fnQ cf66 fun Q qr qn=>?_
  refine Bz1 (X2 d2 YZp) ?_
  exact ZaW xX rfl
theorem ZJL (S:Tx) (c:Sn) (H:Zaa):Zay Tryz.prog 62 [.agg (eSn S c)] H (Pure H (.i (ZKp S c))):=by
 obtain⟨k,e⟩:=c
 have hx0:Zaa.Ext H H:=.refl _
 have d1:(((k:Nat):Int) == ((S.length:Nat):Int))=decide (k=S.length):=by
  by_cases h:k=S.length
  ·rw[decide_eq_true h,h];simp
  ·rw[decide_eq_false h];simp;omega
 have hw:=fun H=>ZI6 S (decide (k=S.length)) ⟨k,e⟩ 3 H
 unfold ZKp
 generalize ZHG ⟨k,e⟩ (decide (k=S.length)) 3=q at *
 generalize decide (k=S.length)=b at *
 refine fnQ cf62 fun Q qr qn=>?_
 refine Bz1 (X2 d1 YZp) ?_
 refine qcp (hw _) fun k1=>?_
 refine Bz1 (X1 YZp) ?_
 exact ZaW xX rfl
theorem runf_any (n:Nat) (H:Zaa) (hn:n<18446744073709551616):Zay Tryz.prog 119 [uN n] H (Pure H (.i (ZLd n))):=by
 have h20:((2:Int)=0)=False:=Xc
 have w2:(n:Int).tmod 2=((n % 2:Nat):Int):=by rw[zbj Xa];omega
 have w1:IntKind.u64.wrap ((n:Int).tdiv 2)=((n / 2:Nat):Int):=by rw[zbF Xa,ZB9 Xa Xa];omega
 have hw:IntKind.i64.wrap ((n / 2:Nat):Int)=((n / 2:Nat):Int):=Zaw Xa Xa
 unfold ZLd
 by_cases h0:n % 2=0
 ·rw[if_pos h0]
  have d:(((n % 2:Nat):Int) == 0)=true:=by rw[h0];rfl
  refine fnQ cf119 fun Q qr qn=>?_
  refine Bz1 (X5 w2 w1 hw d h20) ?_
  refine Zaz (by rfl)
 ·rw[if_neg h0]
  have d:(((n % 2:Nat):Int) == 0)=false:=by simp only[beq_eq_false_iff_ne];omega
  have hw3:IntKind.i64.wrap (-((n / 2:Nat):Int)) = -((n / 2:Nat):Int):=Zaw Xa Xa
  have hw4:IntKind.i64.wrap (-((n / 2:Nat):Int) - 1) = -((n / 2:Nat):Int) - 1:=Zaw Xa Xa
  refine fnQ cf119 fun Q qr qn=>?_
  refine Bz1 (X7 w2 w1 hw hw3 hw4 d h20) ?_
  refine Zaz Xa
theorem int_any (S:Tx) (c:Sn) (H:Zaa) (hS:S.length<=1000000) (hk:c.k<=S.length):Zay Tryz.prog 68 [.agg (eSn S c)] H (Pure H (.tup [.agg (eSn S (sInt S c).1),.i (sInt S c).2])):=by
 have ht:=fun H=>ZIP S c H hS hk
 have hlt:=sNu_lt S c
 have hx0:Zaa.Ext H H:=.refl _
 unfold sInt
 generalize sNu S c=p at *
 obtain⟨⟨k,e⟩,n⟩:=p
 have hlt:n<18446744073709551616:=hlt
 have hu:=fun H=>runf_any n H hlt
 by_cases he:e=0
 ·subst he
  have d0:((0:Int) != 0)=false:=rfl
  rw[if_pos rfl]
  refine fnQ cf68 fun Q qr qn=>?_
  refine Bz1 (X2 YZp YZs) ?_
  refine qcp (ht _) fun k1=>?_
  refine Bz1 (X3 d0 YZp YZs) ?_
  refine qcp (hu _) fun k2=>?_
  refine Bz1 (X2 YZp YZs) ?_
  exact ZaW xX rfl
 ·obtain⟨d0,d1⟩:=ZHs he
  rw[if_neg he]
  refine fnQ cf68 fun Q qr qn=>?_
  refine Bz1 (X2 YZp YZs) ?_
  refine qcp (ht _) fun k1=>?_
  refine Bz1 (X3 d0 YZp YZs) ?_
  exact ZaW xX rfl
end Go.Proofs.YtdfgoekdlmkdfaaGreatDoor
