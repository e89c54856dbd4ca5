/- Texts of the walk, joined: Hf H1 H2 H3 H4 H5. -/
import Derived.Test.YtaapiigfmdhobaaGreatMj
namespace Go.Proofs.YtaapiigfmdhobaaGreat
set_option linter.unusedSimpArgs false
set_option linter.unusedVariables false
open Go.RowKit
abbrev Fct:=List Int×Ag
def eFct (f:Fct):List AV:=.sl .no (rI f.1) :: eAg f.2
abbrev rF (fs:List Fct):List (List AV):=fs.map eFct
abbrev Tx:=List UInt8
abbrev eS (l:List UInt8):AV:=.sc (.string ⟨l.toArray⟩)
abbrev rS (l:List Tx):List (List AV):=l.map fun s=>[eS s]
def kS (l:List UInt8):Value:=.string ⟨l.toArray⟩
theorem kS_eq (a b:List UInt8):kEq (kS a) (kS b)=decide (a=b):=by
 rw [Bool.eq_iff_iff,decide_eq_true_eq]
 show (a.toArray == b.toArray)=true ↔ _
 rw [beq_iff_eq]
 exact ⟨fun h=>by simpa using congrArg Array.toList h,fun h=>by rw [h]⟩
theorem kS_of (l:List UInt8):KK.of (.one .str) (eS l)=some (kS l):=rfl
structure Tr where
 name:Tx
 terms:List Tx
 up:List Int
structure Dm where
 name:Tx
 tiers:List Tr
structure Sc where
 dims:List Dm
 meas:List Tx
def eTr (t:Tr):List AV:=[eS t.name,.sl .no (rS t.terms),.sl .no (rI t.up)]
abbrev rT (l:List Tr):List (List AV):=l.map eTr
def eDm (d:Dm):List AV:=[eS d.name,.sl .no (rT d.tiers)]
abbrev rD (l:List Dm):List (List AV):=l.map eDm
def eSc (s:Sc):List AV:=[.sl .no (rD s.dims),.sl .no (rS s.meas)]
theorem bfb (b:Bool):b=false∨b=true:=by cases b<;>simp
theorem all_snoc {α:Type} {l:List α} {p:α→Bool} {k:Nat} (h:k<l.length):(l.take (k+1)).all p=((l.take k).all p&&p l[k]):=by
 rw [List.take_succ_eq_append_getElem h,List.all_append];simp
theorem all_not {α:Type} {l:List α} {p:α→Bool} {k:Nat} (h:k<l.length) (hp:p l[k]=false):l.all p=false:=by
 rw [List.all_eq_false]
 exact ⟨l[k],List.getElem_mem h,by simp [hp]⟩
theorem bytes_get {l:List UInt8} {k:Nat} (h:k<l.length):(⟨l.toArray⟩:ByteArray)[k]?=some l[k]:=by
 show (if h:k<l.toArray.size then some _ else none)=_
 rw [dif_pos (by simpa using h)]
 rfl
def nameCh (c:UInt8):Bool:=(decide ((97:Int)≤c.toNat)&&decide ((c.toNat:Int)≤122)) || (decide ((48:Int)≤c.toNat)&&decide ((c.toNat:Int)≤57)) || ((c.toNat:Int) == 95)
def nameOk (s:Tx):Bool:=!decide (s=[])&&!decide ((s.length:Int) > 12)&&s.all nameCh
set_option maxHeartbeats 1000000 in
theorem name_sound (q:Tx) (H:AHeap):Sound Tryz.prog 130 [eS q] H (Pure H (.i (if nameOk q=true then 0 else 2))):=by
 refine fn_soundQ hE cf130 (Nat.le_of_ble_eq_true rfl) fun Q hQr hQn=>?_
 by_cases h0:q=[]
 ·subst h0
  ((have hd:=trivial;repeat' (first|((first|apply GdK_st|apply GdK_sf|apply CondK_s)<;>intro hd<;>(try simp only [hd]))|simp (disch:=first|assumption|omega|(simp only [nx]<;>omega)|fail) only [hd,hQr,hQn,c130_0,↓YA,YB,YC,YE,YF,YZ,sevalprocAttr]))<;>(try (have hd_:True:=hd;clear hd_ hd)))
  refine fin_iA (by rfl)
 have d0:decide (q=[])=false:=decide_eq_false h0
 by_cases h1:(q.length:Int) > 12
 ·have d1:decide ((q.length:Int) > 12)=true:=decide_eq_true h1
  ((have hd:=trivial;repeat' (first|((first|apply GdK_st|apply GdK_sf|apply CondK_s)<;>intro hd<;>(try simp only [hd]))|simp (disch:=first|assumption|omega|(simp only [nx]<;>omega)|fail) only [hd,hQr,hQn,c130_0,↓YA,YB,YC,YE,YF,YZ,sevalprocAttr,d0,d1]))<;>(try (have hd_:True:=hd;clear hd_ hd)))
  refine fin_iA (by simp [nameOk,h1])
 have d1:decide ((q.length:Int) > 12)=false:=decide_eq_false h1
 have hbad:∀ k (hk:k<q.length),nameCh q[k]=false→(2:Int)=if nameOk q=true then 0 else 2:=fun k hk h=>by
  rw [if_neg]
  rw [nameOk,all_not hk h];simp
 have hgood:q.all nameCh=true→(0:Int)=if nameOk q=true then 0 else 2:=fun h=>by
  rw [if_pos]
  rw [nameOk,h,d0,d1];rfl
 ((have hd:=trivial;repeat' (first|((first|apply GdK_st|apply GdK_sf|apply CondK_s)<;>intro hd<;>(try simp only [hd]))|simp (disch:=first|assumption|omega|(simp only [nx]<;>omega)|fail) only [hd,hQr,hQn,c130_0,↓YA,YB,YC,YE,YF,YZ,sevalprocAttr,d0,d1]))<;>(try (have hd_:True:=hd;clear hd_ hd)))
 refine AW_for [0,13] (σ:=Unit) (fun (k:Nat) s=>(q.take k).all nameCh=true) (fun k s=>[]) (fun k s=>[]) () (GStep.refl _ _) (by simp only [keep_nil,keep_cons,Fr.put,Fr.get,↓reduceIte,Nat.reduceEqDiff];rfl) (by intro k s;rfl) (by intro k s;rfl) (by rfl) (by unfold maxLen;omega) ?_ (by simp only [FrL_nil]) (by simp only [ObjL_nil]) ?_ ?_
 ·rfl
 ·(rintro k u G hk ht hG hn;try simp only [nx] at hn)
  have hs:=bytes_get hk
  have hb:=hbad k hk
  have hsn:=all_snoc (p:=nameCh) hk
  rw [ht,Bool.true_and] at hsn
  generalize q[k]=c at *
  clear hbad hgood
  ((have hd:=trivial;repeat' (first|((first|apply GdK_st|apply GdK_sf|apply CondK_s)<;>intro hd<;>(try simp only [hd]))|simp (disch:=first|assumption|omega|(simp only [nx]<;>omega)|fail) only [hd,hQr,hQn,c130_0,↓YA,YB,YC,YE,YF,YZ,sevalprocAttr,hs]))<;>(try (have hd_:True:=hd;clear hd_ hd)))
  all_goals first
   | (refine fin_iA (hb ?_);clear hb hsn;unfold nameCh;first|(simp_all;done)|grind)
   | (refine ⟨(),?_,by exact HXT⟩;rw [hsn];clear hb hsn;unfold nameCh;first|(simp_all;done)|grind)
 ·(rintro u G ht hG hn;try simp only [nx] at hn)
  rw [List.take_length] at ht
  ((have hd:=trivial;repeat' (first|((first|apply GdK_st|apply GdK_sf|apply CondK_s)<;>intro hd<;>(try simp only [hd]))|simp (disch:=first|assumption|omega|(simp only [nx]<;>omega)|fail) only [hd,hQr,hQn,c130_0,↓YA,YB,YC,YE,YF,YZ,sevalprocAttr]))<;>(try (have hd_:True:=hd;clear hd_ hd)))
  refine fin_iA (by exact hgood ht)
theorem name_no {s:Tx} (h:nameOk s=false) (H:AHeap):Sound Tryz.prog 130 [eS s] H (Pure H (.i 2)):=by
 have:=name_sound s H
 rw [h] at this
 exact this
theorem name_yes {s:Tx} (h:nameOk s=true) (H:AHeap):Sound Tryz.prog 130 [eS s] H (Pure H (.i 0)):=by
 have:=name_sound s H
 rw [h] at this
 exact this
def isT (s:Tx):Bool:=decide ((s.length:Int)≥1)&&decide ((s.length:Int)≤16)
theorem tcheck_sound (s:Tx) (H:AHeap):Sound Tryz.prog 170 [eS s] H (Pure H (.i (if isT s=true then 0 else 2))):=by
 unfold isT
 cases s with
 | nil =>
  refine fn_soundQ hE cf170 (Nat.le_of_ble_eq_true rfl) fun Q hQr hQn=>?_
  ((have hd:=trivial;repeat' (first|((first|apply GdK_st|apply GdK_sf|apply CondK_s)<;>intro hd<;>(try simp only [hd]))|simp (disch:=first|assumption|omega|(simp only [nx]<;>omega)|fail) only [hd,hQr,hQn,c170_0,↓YA,YB,YC,YE,YF,YZ,sevalprocAttr]))<;>(try (have hd_:True:=hd;clear hd_ hd)))
  refine fin_iA (by rfl)
 | cons a r =>
  have d0:decide (a :: r=[])=false:=by simp
  refine fn_soundQ hE cf170 (Nat.le_of_ble_eq_true rfl) fun Q hQr hQn=>?_
  ((have hd:=trivial;repeat' (first|((first|apply GdK_st|apply GdK_sf|apply CondK_s)<;>intro hd<;>(try simp only [hd]))|simp (disch:=first|assumption|omega|(simp only [nx]<;>omega)|fail) only [hd,hQr,hQn,c170_0,↓YA,YB,YC,YE,YF,YZ,sevalprocAttr,d0]))<;>(try (have hd_:True:=hd;clear hd_ hd)))
  ·refine fin_iA (by rw [if_neg];simp at hd ⊢;omega)
  ·refine fin_iA (by rw [if_pos];simp at hd ⊢;omega)
def geT (w:Option Tx) (s:Tx):Bool:=match w with
 | some q=>!decide (q<s)
 | none=>false
def rowE:Option Tx→List Tx→Int
 | _,[]=>0
 | w,s :: r=>if isT s=false then 2 else if geT w s=true then 4 else rowE (some s) r
theorem rowE_cons (w:Option Tx) (s:Tx) (r:List Tx):rowE w (s :: r)=if isT s=false then 2 else if geT w s=true then 4 else rowE (some s) r:=by simp only [rowE]
def prevT (l:List Tx) (k:Nat):Option Tx:=match k with
 | 0=>none
 | k+1=>l[k]?
set_option maxHeartbeats 1000000 in
theorem trow_sound (t:Tok) (l:List Tx) (H:AHeap) (hl:l.length≤1000000):Sound Tryz.prog 157 [.sl t (rS l)] H (Pure H (.i (rowE none l))):=by
 refine fn_soundQ hE cf157 (Nat.le_of_ble_eq_true rfl) fun Q hQr hQn=>?_
 ((have hd:=trivial;repeat' (first|((first|apply GdK_st|apply GdK_sf|apply CondK_s)<;>intro hd<;>(try simp only [hd]))|simp (disch:=first|assumption|omega|(simp only [nx]<;>omega)|fail) only [hd,hQr,hQn,c157_0,↓YA,YB,YC,YE,YF,YZ,sevalprocAttr,List.length_map]))<;>(try (have hd_:True:=hd;clear hd_ hd)))
 generalize hT:rowE none l=T at *
 refine AW_for [0,6,7] (σ:=Unit) (fun (k:Nat) s=>T=rowE (prevT l k) (l.drop k)) (fun k s=>[]) (fun k s=>[]) () (GStep.refl _ _) (by simp only [keep_nil,keep_cons,Fr.put,Fr.get,↓reduceIte,Nat.reduceEqDiff];rfl) (by intro k s;rfl) (by intro k s;rfl) (by rfl) (by unfold maxLen;omega) ?_ (by simp only [FrL_nil]) (by simp only [ObjL_nil]) ?_ ?_
 ·exact hT.symm
 ·(rintro k s G hk ht hG hn;try simp only [nx] at hn)
  rw [List.drop_eq_getElem_cons hk,rowE_cons] at ht
  have hC:=tcheck_sound l[k]
  have hb:=bfb (isT l[k])
  rcases hb with hb|hb
  ·rw [hb] at hC ht
   simp only [Bool.false_eq_true,if_false,if_true] at hC ht
   ((have hd:=trivial;repeat' (first|((first|apply GdK_st|apply GdK_sf|apply CondK_s)<;>intro hd<;>(try simp only [hd]))|simp (disch:=first|assumption|omega|(simp only [nx]<;>omega)|fail) only [hd,hQr,hQn,c157_0,↓YA,YB,YC,YE,YF,YZ,sevalprocAttr,List.length_map]))<;>(try (have hd_:True:=hd;clear hd_ hd)))
   (refine CallK.use (hC _) ?_;rintro _ _ ⟨rfl,k1,rfl⟩)
   ((have hd:=trivial;repeat' (first|((first|apply GdK_st|apply GdK_sf|apply CondK_s)<;>intro hd<;>(try simp only [hd]))|simp (disch:=first|assumption|omega|(simp only [nx]<;>omega)|fail) only [hd,hQr,hQn,c157_0,↓YA,YB,YC,YE,YF,YZ,sevalprocAttr,show ((2:Int) != 0)=true from by decide]))<;>(try (have hd_:True:=hd;clear hd_ hd)))
   refine fin_iA (by rw [ht])
  ·rw [hb] at hC ht
   simp only [Bool.true_eq_false,if_false,if_true] at hC ht
   cases k with
   | zero =>
    have d1:decide (((0:Nat):Int) > 0)=false:=by decide
    ((have hd:=trivial;repeat' (first|((first|apply GdK_st|apply GdK_sf|apply CondK_s)<;>intro hd<;>(try simp only [hd]))|simp (disch:=first|assumption|omega|(simp only [nx]<;>omega)|fail) only [hd,hQr,hQn,c157_0,↓YA,YB,YC,YE,YF,YZ,sevalprocAttr,List.length_map]))<;>(try (have hd_:True:=hd;clear hd_ hd)))
    (refine CallK.use (hC _) ?_;rintro _ _ ⟨rfl,k1,rfl⟩)
    ((have hd:=trivial;repeat' (first|((first|apply GdK_st|apply GdK_sf|apply CondK_s)<;>intro hd<;>(try simp only [hd]))|simp (disch:=first|assumption|omega|(simp only [nx]<;>omega)|fail) only [hd,hQr,hQn,c157_0,↓YA,YB,YC,YE,YF,YZ,sevalprocAttr,d1,List.length_map]))<;>(try (have hd_:True:=hd;clear hd_ hd)))
    refine ⟨(),by rw [ht];simp [prevT,hk,geT],by exact HXT⟩
   | succ j =>
    have d1:decide (((j+1:Nat):Int) > 0)=true:=decide_eq_true (by omega)
    have hj:j<l.length:=by omega
    have hw:IntKind.i64.wrap (((j+1:Nat):Int) - 1)=(j:Int):=by rw [show ((j+1:Nat):Int) - 1=(j:Int) by omega];exact wrap_of (by omega) (by omega)
    have hp:prevT l (j+1)=some l[j]:=by simp [prevT,hj]
    have hp2:prevT l (j+1+1)=some l[j+1]:=by simp [prevT,hk]
    rw [hp] at ht
    simp only [geT] at ht
    have hlt:=bfb (decide (l[j]<l[j+1]))
    rcases hlt with hlt|hlt
    ·((have hd:=trivial;repeat' (first|((first|apply GdK_st|apply GdK_sf|apply CondK_s)<;>intro hd<;>(try simp only [hd]))|simp (disch:=first|assumption|omega|(simp only [nx]<;>omega)|fail) only [hd,hQr,hQn,c157_0,↓YA,YB,YC,YE,YF,YZ,sevalprocAttr,List.length_map]))<;>(try (have hd_:True:=hd;clear hd_ hd)))
     (refine CallK.use (hC _) ?_;rintro _ _ ⟨rfl,k1,rfl⟩)
     ((have hd:=trivial;repeat' (first|((first|apply GdK_st|apply GdK_sf|apply CondK_s)<;>intro hd<;>(try simp only [hd]))|simp (disch:=first|assumption|omega|(simp only [nx]<;>omega)|fail) only [hd,hQr,hQn,c157_0,↓YA,YB,YC,YE,YF,YZ,sevalprocAttr,d1,hw,hlt,hj,hk,List.length_map]))<;>(try (have hd_:True:=hd;clear hd_ hd)))
     refine fin_iA (by rw [ht];simp [hlt])
    ·((have hd:=trivial;repeat' (first|((first|apply GdK_st|apply GdK_sf|apply CondK_s)<;>intro hd<;>(try simp only [hd]))|simp (disch:=first|assumption|omega|(simp only [nx]<;>omega)|fail) only [hd,hQr,hQn,c157_0,↓YA,YB,YC,YE,YF,YZ,sevalprocAttr,List.length_map]))<;>(try (have hd_:True:=hd;clear hd_ hd)))
     (refine CallK.use (hC _) ?_;rintro _ _ ⟨rfl,k1,rfl⟩)
     ((have hd:=trivial;repeat' (first|((first|apply GdK_st|apply GdK_sf|apply CondK_s)<;>intro hd<;>(try simp only [hd]))|simp (disch:=first|assumption|omega|(simp only [nx]<;>omega)|fail) only [hd,hQr,hQn,c157_0,↓YA,YB,YC,YE,YF,YZ,sevalprocAttr,d1,hw,hlt,hj,hk,List.length_map]))<;>(try (have hd_:True:=hd;clear hd_ hd)))
     refine ⟨(),by rw [ht,hp2];simp [hlt],by exact HXT⟩
 ·(rintro s G ht hG hn;try simp only [nx] at hn)
  rw [List.drop_length] at ht
  ((have hd:=trivial;repeat' (first|((first|apply GdK_st|apply GdK_sf|apply CondK_s)<;>intro hd<;>(try simp only [hd]))|simp (disch:=first|assumption|omega|(simp only [nx]<;>omega)|fail) only [hd,hQr,hQn,c157_0,↓YA,YB,YC,YE,YF,YZ,sevalprocAttr]))<;>(try (have hd_:True:=hd;clear hd_ hd)))
  refine fin_iA (by rw [ht];rfl)
def numM (l:List Int):List (Int×Int):=l.foldl (fun M n=>aSet n 1 M) []
theorem numM_snoc {l:List Int} {k:Nat} (h:k<l.length):numM (l.take (k+1))=aSet l[k] 1 (numM (l.take k)):=by
 rw [List.take_succ_eq_append_getElem h,numM,List.foldl_append];rfl
theorem aSet_le {K V:Type} [DecidableEq K] (k:K) (v:V) (M:List (K×V)):(aSet k v M).length≤M.length+1:=by
 rw [aSet_len];split<;>omega
theorem numM_len (l:List Int):(numM l).length≤l.length:=by
 suffices ∀ (l:List Int) (M:List (Int×Int)),(l.foldl (fun M n=>aSet n 1 M) M).length≤M.length+l.length from by simpa [numM] using this l []
 intro l
 induction l with
 | nil=>intro M;simp
 | cons a r ih =>
  intro M
  rw [List.foldl_cons]
  have h1:=ih (aSet a 1 M)
  have h2:=aSet_le a (1:Int) M
  simp only [List.length_cons]
  omega
def inU (a n:Int):Bool:=!decide (n<0)&&!decide (n≥a)
def treeB (up:List Int) (members above:Int):Bool :=
 if above≤0 then ((up.length:Int) == 0) else if (up.length:Int)≠members then false else up.all (inU above)&&(((numM up).length:Int) == above)
set_option maxHeartbeats 1000000 in
theorem tree_sound (t:Tok) (up:List Int) (members above:Int) (H:AHeap) (hl:up.length≤1000000):Sound Tryz.prog 158 [.sl t (rI up),.i members,.i above] H (Pure H (.b (treeB up members above))):=by
 refine fn_soundQ hE cf158 (Nat.le_of_ble_eq_true rfl) fun Q hQr hQn=>?_
 by_cases h1:above≤0
 ·have d1:decide (above≤0)=true:=decide_eq_true h1
  ((have hd:=trivial;repeat' (first|((first|apply GdK_st|apply GdK_sf|apply CondK_s)<;>intro hd<;>(try simp only [hd]))|simp (disch:=first|assumption|omega|(simp only [nx]<;>omega)|fail) only [hd,hQr,hQn,c158_0,↓YA,YB,YC,YE,YF,YZ,sevalprocAttr,d1,List.length_map]))<;>(try (have hd_:True:=hd;clear hd_ hd)))
  refine fin_bA (by rw [treeB,if_pos h1])
 have d1:decide (above≤0)=false:=decide_eq_false h1
 by_cases h2:(up.length:Int)≠members
 ·have d2:((up.length:Int) != members)=true:=by simpa using h2
  ((have hd:=trivial;repeat' (first|((first|apply GdK_st|apply GdK_sf|apply CondK_s)<;>intro hd<;>(try simp only [hd]))|simp (disch:=first|assumption|omega|(simp only [nx]<;>omega)|fail) only [hd,hQr,hQn,c158_0,↓YA,YB,YC,YE,YF,YZ,sevalprocAttr,d1,d2,List.length_map]))<;>(try (have hd_:True:=hd;clear hd_ hd)))
  refine fin_bA (by rw [treeB,if_neg h1,if_pos h2])
 have d2:((up.length:Int) != members)=false:=by simpa using h2
 have hv:treeB up members above=(up.all (inU above)&&(((numM up).length:Int) == above)):=by rw [treeB,if_neg h1,if_neg h2]
 ((have hd:=trivial;repeat' (first|((first|apply GdK_st|apply GdK_sf|apply CondK_s)<;>intro hd<;>(try simp only [hd]))|simp (disch:=first|assumption|omega|(simp only [nx]<;>omega)|fail) only [hd,hQr,hQn,c158_0,↓YA,YB,YC,YE,YF,YZ,sevalprocAttr,d1,d2,List.length_map]))<;>(try (have hd_:True:=hd;clear hd_ hd)))
 refine AW_for [2,7,20,21] (σ:=Unit) (fun (k:Nat) s=>(up.take k).all (inU above)=true) (fun k s=>[]) (fun k s=>[(H.next,.map (.one (.int .i64)) (eMap kI AV.i (numM (up.take k))) false)]) () (GStep.refl _ _) (by simp only [keep_nil,keep_cons,Fr.put,Fr.get,↓reduceIte,Nat.reduceEqDiff];rfl) (by intro k s;rfl) (by intro k s;rfl) (by rfl) (by unfold maxLen;omega) ?_ (by simp only [FrL_nil]) ?_ ?_ ?_
 ·rfl
 ·rw [ObjL_cons];exact ⟨AHeap.get_alloc_self (H:=H),by simp [ObjL]⟩
 ·(rintro k s G hk ht hG hn;try simp only [nx] at hn)
  have ho:=hG.o (_,_) (List.mem_singleton.2 rfl)
  have hlo:=AHeap.lt ho
  have hs:=all_snoc (p:=inU above) hk
  rw [ht,Bool.true_and] at hs
  have hb:=bfb (inU above up[k])
  rcases hb with hb|hb
  ·have hf:(false:Bool)=treeB up members above:=by rw [hv,all_not hk hb];rfl
   have hc:=hb
   unfold inU at hc
   by_cases c1:up[k]<0
   ·have e1:decide (up[k]<0)=true:=decide_eq_true c1
    ((have hd:=trivial;repeat' (first|((first|apply GdK_st|apply GdK_sf|apply CondK_s)<;>intro hd<;>(try simp only [hd]))|simp (disch:=first|assumption|omega|(simp only [nx]<;>omega)|fail) only [hd,hQr,hQn,c158_0,↓YA,YB,YC,YE,YF,YZ,sevalprocAttr,e1,List.length_map]))<;>(try (have hd_:True:=hd;clear hd_ hd)))
    exact fin_bA hf (hG.extO (AHeap.Ext.refl H).alloc (by simp))
   ·have e1:decide (up[k]<0)=false:=decide_eq_false c1
    rw [e1] at hc
    have e2:decide (up[k]≥above)=true:=by simpa using hc
    ((have hd:=trivial;repeat' (first|((first|apply GdK_st|apply GdK_sf|apply CondK_s)<;>intro hd<;>(try simp only [hd]))|simp (disch:=first|assumption|omega|(simp only [nx]<;>omega)|fail) only [hd,hQr,hQn,c158_0,↓YA,YB,YC,YE,YF,YZ,sevalprocAttr,e1,e2,List.length_map]))<;>(try (have hd_:True:=hd;clear hd_ hd)))
    exact fin_bA hf (hG.extO (AHeap.Ext.refl H).alloc (by simp))
  ·have hc:=hb
   unfold inU at hc
   simp only [Bool.and_eq_true,Bool.not_eq_true'] at hc
   obtain ⟨e1,e2⟩:=hc
   have hset:=mSet_map (vf:=AV.i) kI_eq up[k] 1 (numM (up.take k))
   have hof:=kI_of up[k]
   ((have hd:=trivial;repeat' (first|((first|apply GdK_st|apply GdK_sf|apply CondK_s)<;>intro hd<;>(try simp only [hd]))|simp (disch:=first|assumption|omega|(simp only [nx]<;>omega)|fail) only [hd,hQr,hQn,c158_0,↓YA,YB,YC,YE,YF,YZ,sevalprocAttr,e1,e2,ho,hof,hset,List.length_map]))<;>(try (have hd_:True:=hd;clear hd_ hd)))
   exact ⟨(),by rw [hs,hb],by rw [numM_snoc hk];exact hG.put⟩
 ·(rintro s G ht hG hn;try simp only [nx] at hn)
  have ho:=hG.o (_,_) (List.mem_singleton.2 rfl)
  rw [List.take_length] at ht ho
  have hlen:(eMap kI AV.i (numM up)).length=(numM up).length:=by rw [eMap,List.length_map]
  ((have hd:=trivial;repeat' (first|((first|apply GdK_st|apply GdK_sf|apply CondK_s)<;>intro hd<;>(try simp only [hd]))|simp (disch:=first|assumption|omega|(simp only [nx]<;>omega)|fail) only [hd,hQr,hQn,c158_0,↓YA,YB,YC,YE,YF,YZ,sevalprocAttr,ho,hlen]))<;>(try (have hd_:True:=hd;clear hd_ hd)))
  exact fin_bA (by rw [hv,ht];rfl) (hG.extO (AHeap.Ext.refl H).alloc (by simp))
def tierE (t:Tr) (above:Int):Int :=
 if nameOk t.name=false then 2 else if (t.terms.length:Int)<1∨(t.terms.length:Int) > 200 then 5 else if rowE none t.terms≠0 then rowE none t.terms else if treeB t.up t.terms.length above=false then 14 else 0
theorem eTr_facts (t:Tr):(eTr t).length=3∧(eTr t)[0]?=some (eS t.name)∧(eTr t)[1]?=some (.sl .no (rS t.terms))∧(eTr t)[2]?=some (.sl .no (rI t.up))∧(eTr t).take 3=eTr t:=⟨rfl,rfl,rfl,rfl,rfl⟩
set_option maxHeartbeats 1000000 in
theorem tier_sound (t:Tr) (above:Int) (H:AHeap) (hu:t.up.length≤1000000):Sound Tryz.prog 131 [.agg (eTr t),.i above] H (Pure H (.i (tierE t above))):=by
 obtain ⟨f0,f1,f2,f3,f4⟩:=eTr_facts t
 have hx:AHeap.Ext H (H.alloc (.cells (eTr t) 107)):=(AHeap.Ext.refl H).alloc
 have hb:=bfb (nameOk t.name)
 rcases hb with hb|hb
 ·have hv:tierE t above=2:=by rw [tierE,if_pos hb]
  have hN:=fun G=>name_no hb G
  rw [hv]
  refine fn_soundQ hE cf131 (Nat.le_of_ble_eq_true rfl) fun Q hQr hQn=>?_
  ((have hd:=trivial;repeat' (first|((first|apply GdK_st|apply GdK_sf|apply CondK_s)<;>intro hd<;>(try simp only [hd]))|simp (disch:=first|assumption|omega|(simp only [nx]<;>omega)|fail) only [hd,hQr,hQn,c131_0,↓YA,YB,YC,YE,YF,YZ,sevalprocAttr,f1]))<;>(try (have hd_:True:=hd;clear hd_ hd)))
  (refine CallK.use (hN _) ?_;rintro _ _ ⟨rfl,k1,rfl⟩)
  ((have hd:=trivial;repeat' (first|((first|apply GdK_st|apply GdK_sf|apply CondK_s)<;>intro hd<;>(try simp only [hd]))|simp (disch:=first|assumption|omega|(simp only [nx]<;>omega)|fail) only [hd,hQr,hQn,c131_0,↓YA,YB,YC,YE,YF,YZ,sevalprocAttr]))<;>(try (have hd_:True:=hd;clear hd_ hd)))
  refine fin_iA (by rfl)
 have hN:=fun G=>name_yes hb G
 by_cases h1:(t.terms.length:Int)<1∨(t.terms.length:Int) > 200
 ·have hv:tierE t above=5:=by rw [tierE,if_neg (by simp [hb]),if_pos h1]
  rw [hv]
  refine fn_soundQ hE cf131 (Nat.le_of_ble_eq_true rfl) fun Q hQr hQn=>?_
  ((have hd:=trivial;repeat' (first|((first|apply GdK_st|apply GdK_sf|apply CondK_s)<;>intro hd<;>(try simp only [hd]))|simp (disch:=first|assumption|omega|(simp only [nx]<;>omega)|fail) only [hd,hQr,hQn,c131_0,↓YA,YB,YC,YE,YF,YZ,sevalprocAttr,f1]))<;>(try (have hd_:True:=hd;clear hd_ hd)))
  (refine CallK.use (hN _) ?_;rintro _ _ ⟨rfl,k1,rfl⟩)
  ((have hd:=trivial;repeat' (first|((first|apply GdK_st|apply GdK_sf|apply CondK_s)<;>intro hd<;>(try simp only [hd]))|simp (disch:=first|assumption|omega|(simp only [nx]<;>omega)|fail) only [hd,hQr,hQn,c131_0,↓YA,YB,YC,YE,YF,YZ,sevalprocAttr,f1,f2,List.length_map]))<;>(try (have hd_:True:=hd;clear hd_ hd)))
  all_goals first
   | (exfalso;simp_all;omega;done)
   | refine fin_iA (by rfl)
 have hR:=fun G=>trow_sound .no t.terms G (by omega)
 have e1:decide ((t.terms.length:Int)<1)=false:=by simp;omega
 have e2:decide ((t.terms.length:Int) > 200)=false:=by simp;omega
 by_cases h2:rowE none t.terms≠0
 ·have hv:tierE t above=rowE none t.terms:=by rw [tierE,if_neg (by simp [hb]),if_neg h1,if_pos h2]
  have e3:(rowE none t.terms != 0)=true:=by simpa using h2
  rw [hv]
  refine fn_soundQ hE cf131 (Nat.le_of_ble_eq_true rfl) fun Q hQr hQn=>?_
  ((have hd:=trivial;repeat' (first|((first|apply GdK_st|apply GdK_sf|apply CondK_s)<;>intro hd<;>(try simp only [hd]))|simp (disch:=first|assumption|omega|(simp only [nx]<;>omega)|fail) only [hd,hQr,hQn,c131_0,↓YA,YB,YC,YE,YF,YZ,sevalprocAttr,f1]))<;>(try (have hd_:True:=hd;clear hd_ hd)))
  (refine CallK.use (hN _) ?_;rintro _ _ ⟨rfl,k1,rfl⟩)
  ((have hd:=trivial;repeat' (first|((first|apply GdK_st|apply GdK_sf|apply CondK_s)<;>intro hd<;>(try simp only [hd]))|simp (disch:=first|assumption|omega|(simp only [nx]<;>omega)|fail) only [hd,hQr,hQn,c131_0,↓YA,YB,YC,YE,YF,YZ,sevalprocAttr,f1,f2,List.length_map,e1,e2]))<;>(try (have hd_:True:=hd;clear hd_ hd)))
  (refine CallK.use (hR _) ?_;rintro _ _ ⟨rfl,k2,rfl⟩)
  ((have hd:=trivial;repeat' (first|((first|apply GdK_st|apply GdK_sf|apply CondK_s)<;>intro hd<;>(try simp only [hd]))|simp (disch:=first|assumption|omega|(simp only [nx]<;>omega)|fail) only [hd,hQr,hQn,c131_0,↓YA,YB,YC,YE,YF,YZ,sevalprocAttr,e3]))<;>(try (have hd_:True:=hd;clear hd_ hd)))
  refine fin_iA (by rfl)
 have e3:(rowE none t.terms != 0)=false:=by simpa using h2
 have hT:=fun G=>tree_sound .no t.up t.terms.length above G hu
 have hv:tierE t above=if treeB t.up t.terms.length above=false then 14 else 0:=by rw [tierE,if_neg (by simp [hb]),if_neg h1,if_neg h2]
 rw [hv]
 have hb2:=bfb (treeB t.up t.terms.length above)
 rcases hb2 with hb2|hb2<;>rw [hb2] at hT ⊢
 all_goals
  refine fn_soundQ hE cf131 (Nat.le_of_ble_eq_true rfl) fun Q hQr hQn=>?_
  ((have hd:=trivial;repeat' (first|((first|apply GdK_st|apply GdK_sf|apply CondK_s)<;>intro hd<;>(try simp only [hd]))|simp (disch:=first|assumption|omega|(simp only [nx]<;>omega)|fail) only [hd,hQr,hQn,c131_0,↓YA,YB,YC,YE,YF,YZ,sevalprocAttr,f1]))<;>(try (have hd_:True:=hd;clear hd_ hd)))
  (refine CallK.use (hN _) ?_;rintro _ _ ⟨rfl,k1,rfl⟩)
  ((have hd:=trivial;repeat' (first|((first|apply GdK_st|apply GdK_sf|apply CondK_s)<;>intro hd<;>(try simp only [hd]))|simp (disch:=first|assumption|omega|(simp only [nx]<;>omega)|fail) only [hd,hQr,hQn,c131_0,↓YA,YB,YC,YE,YF,YZ,sevalprocAttr,f1,f2,List.length_map,e1,e2]))<;>(try (have hd_:True:=hd;clear hd_ hd)))
  (refine CallK.use (hR _) ?_;rintro _ _ ⟨rfl,k2,rfl⟩)
  ((have hd:=trivial;repeat' (first|((first|apply GdK_st|apply GdK_sf|apply CondK_s)<;>intro hd<;>(try simp only [hd]))|simp (disch:=first|assumption|omega|(simp only [nx]<;>omega)|fail) only [hd,hQr,hQn,c131_0,↓YA,YB,YC,YE,YF,YZ,sevalprocAttr,e3,f2,f3,List.length_map]))<;>(try (have hd_:True:=hd;clear hd_ hd)))
  (refine CallK.use (hT _) ?_;rintro _ _ ⟨rfl,k3,rfl⟩)
  ((have hd:=trivial;repeat' (first|((first|apply GdK_st|apply GdK_sf|apply CondK_s)<;>intro hd<;>(try simp only [hd]))|simp (disch:=first|assumption|omega|(simp only [nx]<;>omega)|fail) only [hd,hQr,hQn,c131_0,↓YA,YB,YC,YE,YF,YZ,sevalprocAttr]))<;>(try (have hd_:True:=hd;clear hd_ hd)))
  refine fin_iA (by rfl)
def aboveL:List Tr→Int
 | []=>0
 | u :: _=>(u.terms.length:Int)
theorem eDm_facts (d:Dm):(eDm d).length=2∧(eDm d)[0]?=some (eS d.name)∧(eDm d)[1]?=some (.sl .no (rT d.tiers))∧(eDm d).take 2=eDm d:=⟨rfl,rfl,rfl,rfl⟩
theorem rT_get {l:List Tr} {k:Nat} (h:k<l.length):(rT l)[k]?=some (eTr l[k]):=by simp [h]
theorem rD_get {l:List Dm} {k:Nat} (h:k<l.length):(rD l)[k]?=some (eDm l[k]):=by simp [h]
theorem above_sound (d:Dm) (k:Nat) (H:AHeap) (hk:k<d.tiers.length) (hl:d.tiers.length≤1000000):Sound Tryz.prog 132 [.agg (eDm d),.i (k:Int)] H (Pure H (.i (aboveL (d.tiers.drop (k+1))))):=by
 obtain ⟨f0,f1,f2,f3⟩:=eDm_facts d
 have hw:IntKind.i64.wrap ((k:Int)+1)=((k+1:Nat):Int):=by rw [show (k:Int)+1=((k+1:Nat):Int) by omega];exact wrap_of (by omega) (by omega)
 refine fn_soundQ hE cf132 (Nat.le_of_ble_eq_true rfl) fun Q hQr hQn=>?_
 by_cases h:k+1<d.tiers.length
 ·have d1:decide (((k+1:Nat):Int)<(d.tiers.length:Int))=true:=by simp;omega
  rw [List.drop_eq_getElem_cons h] at hQr hQn
  have hg:=rT_get h
  obtain ⟨g0,g1,g2,g3,g4⟩:=eTr_facts d.tiers[k+1]
  ((have hd:=trivial;repeat' (first|((first|apply GdK_st|apply GdK_sf|apply CondK_s)<;>intro hd<;>(try simp only [hd]))|simp (disch:=first|assumption|omega|(simp only [nx]<;>omega)|fail) only [hd,hQr,hQn,c132_0,↓YA,YB,YC,YE,YF,YZ,sevalprocAttr,f2,hw,d1,List.length_map,h,g0,g2]))<;>(try (have hd_:True:=hd;clear hd_ hd)))
  refine fin_iA (by rfl)
 ·have d1:decide (((k+1:Nat):Int)<(d.tiers.length:Int))=false:=by simp;omega
  rw [List.drop_eq_nil_of_le (by omega)] at hQr hQn
  ((have hd:=trivial;repeat' (first|((first|apply GdK_st|apply GdK_sf|apply CondK_s)<;>intro hd<;>(try simp only [hd]))|simp (disch:=first|assumption|omega|(simp only [nx]<;>omega)|fail) only [hd,hQr,hQn,c132_0,↓YA,YB,YC,YE,YF,YZ,sevalprocAttr,f2,hw,d1,List.length_map]))<;>(try (have hd_:True:=hd;clear hd_ hd)))
  refine fin_iA (by rfl)
def MetT (M:List (Tx×Int)) (seen:List Tx):Prop:=∀ n,aGet n M=if n ∈ seen then some 1 else none
theorem MetT.nil:MetT [] []:=fun n=>by simp [aGet]
theorem MetT.snoc {M:List (Tx×Int)} {seen:List Tx} (h:MetT M seen) (n:Tx):MetT (aSet n 1 M) (seen++[n]):=fun m=>by
 rw [aGet_set,h m]
 by_cases e:m=n
 ·subst e;simp
 ·rw [if_neg e]
  by_cases hm:m ∈ seen<;>simp [hm,e]
abbrev mpT (M:List (Tx×Int)):AObj:=.map (.one .str) (eMap kS AV.i M) false
def dimF (seen:List Tx):List Tr→Int
 | []=>0
 | t :: r=>if tierE t (aboveL r)≠0 then tierE t (aboveL r) else if t.name ∈ seen then 11 else dimF (seen++[t.name]) r
def dimE (d:Dm):Int:=if nameOk d.name=false then 2 else if (d.tiers.length:Int)<1∨(d.tiers.length:Int) > 4 then 5 else dimF [] d.tiers
def smallT (t:Tr):Prop:=t.up.length≤1000000
theorem take_mapT {α β:Type} {f:α→β} {l:List α} {k:Nat} (h:k<l.length):(l.take (k+1)).map f=(l.take k).map f++[f l[k]]:=by
 rw [List.take_succ_eq_append_getElem h,List.map_append];rfl
set_option maxHeartbeats 2000000 in
theorem dim_sound (d:Dm) (H:AHeap) (hs:∀ t ∈ d.tiers,smallT t):Sound Tryz.prog 88 [.agg (eDm d)] H (Pure H (.i (dimE d))):=by
 obtain ⟨f0,f1,f2,f3⟩:=eDm_facts d
 have hb:=bfb (nameOk d.name)
 rcases hb with hb|hb
 ·have hv:dimE d=2:=by rw [dimE,if_pos hb]
  have hN:=fun G=>name_no hb G
  rw [hv]
  refine fn_soundQ hE cf88 (Nat.le_of_ble_eq_true rfl) fun Q hQr hQn=>?_
  ((have hd:=trivial;repeat' (first|((first|apply GdK_st|apply GdK_sf|apply CondK_s)<;>intro hd<;>(try simp only [hd]))|simp (disch:=first|assumption|omega|(simp only [nx]<;>omega)|fail) only [hd,hQr,hQn,c88_0,↓YA,YB,YC,YE,YF,YZ,sevalprocAttr,f1]))<;>(try (have hd_:True:=hd;clear hd_ hd)))
  (refine CallK.use (hN _) ?_;rintro _ _ ⟨rfl,k1,rfl⟩)
  ((have hd:=trivial;repeat' (first|((first|apply GdK_st|apply GdK_sf|apply CondK_s)<;>intro hd<;>(try simp only [hd]))|simp (disch:=first|assumption|omega|(simp only [nx]<;>omega)|fail) only [hd,hQr,hQn,c88_0,↓YA,YB,YC,YE,YF,YZ,sevalprocAttr]))<;>(try (have hd_:True:=hd;clear hd_ hd)))
  refine fin_iA (by rfl)
 have hN:=fun G=>name_yes hb G
 by_cases h1:(d.tiers.length:Int)<1∨(d.tiers.length:Int) > 4
 ·have hv:dimE d=5:=by rw [dimE,if_neg (by simp [hb]),if_pos h1]
  rw [hv]
  refine fn_soundQ hE cf88 (Nat.le_of_ble_eq_true rfl) fun Q hQr hQn=>?_
  ((have hd:=trivial;repeat' (first|((first|apply GdK_st|apply GdK_sf|apply CondK_s)<;>intro hd<;>(try simp only [hd]))|simp (disch:=first|assumption|omega|(simp only [nx]<;>omega)|fail) only [hd,hQr,hQn,c88_0,↓YA,YB,YC,YE,YF,YZ,sevalprocAttr,f1]))<;>(try (have hd_:True:=hd;clear hd_ hd)))
  (refine CallK.use (hN _) ?_;rintro _ _ ⟨rfl,k1,rfl⟩)
  ((have hd:=trivial;repeat' (first|((first|apply GdK_st|apply GdK_sf|apply CondK_s)<;>intro hd<;>(try simp only [hd]))|simp (disch:=first|assumption|omega|(simp only [nx]<;>omega)|fail) only [hd,hQr,hQn,c88_0,↓YA,YB,YC,YE,YF,YZ,sevalprocAttr,f1,f2,List.length_map]))<;>(try (have hd_:True:=hd;clear hd_ hd)))
  all_goals first
   | (exfalso;simp_all;omega;done)
   | refine fin_iA (by rfl)
 have e1:decide ((d.tiers.length:Int)<1)=false:=by simp;omega
 have e2:decide ((d.tiers.length:Int) > 4)=false:=by simp;omega
 have hv:dimE d=dimF [] d.tiers:=by rw [dimE,if_neg (by simp [hb]),if_neg h1]
 rw [hv]
 generalize hT:dimF [] d.tiers=T
 refine fn_soundQ hE cf88 (Nat.le_of_ble_eq_true rfl) fun Q hQr hQn=>?_
 ((have hd:=trivial;repeat' (first|((first|apply GdK_st|apply GdK_sf|apply CondK_s)<;>intro hd<;>(try simp only [hd]))|simp (disch:=first|assumption|omega|(simp only [nx]<;>omega)|fail) only [hd,hQr,hQn,c88_0,↓YA,YB,YC,YE,YF,YZ,sevalprocAttr,f1]))<;>(try (have hd_:True:=hd;clear hd_ hd)))
 (refine CallK.use (hN _) ?_;rintro _ _ ⟨rfl,k1,rfl⟩)
 ((have hd:=trivial;repeat' (first|((first|apply GdK_st|apply GdK_sf|apply CondK_s)<;>intro hd<;>(try simp only [hd]))|simp (disch:=first|assumption|omega|(simp only [nx]<;>omega)|fail) only [hd,hQr,hQn,c88_0,↓YA,YB,YC,YE,YF,YZ,sevalprocAttr,f1,f2,List.length_map,e1,e2]))<;>(try (have hd_:True:=hd;clear hd_ hd)))
 have g1:(((H.alloc (.cells (eDm d) 102)).bump k1).alloc (.map (.one .str) [] false)).get H.next=some (.cells (eDm d) 102):=by
  rw [AHeap.get_alloc_ne (by simp only [nx];omega)];exact AHeap.get_alloc_self (H:=H)
 have g2:(((H.alloc (.cells (eDm d) 102)).bump k1).alloc (.map (.one .str) [] false)).get (H.next+1+k1)=some (mpT []):=AHeap.get_alloc_self (H:=(H.alloc _).bump k1)
 have hx0:AHeap.Ext H (((H.alloc (.cells (eDm d) 102)).bump k1).alloc (.map (.one .str) [] false)):=by exact AXT
 have hne:((H.alloc (.cells (eDm d) 102)).bump k1).next=H.next+1+k1:=rfl
 generalize ((H.alloc (.cells (eDm d) 102)).bump k1).alloc (.map (.one .str) [] false)=G0 at *
 have l1:=AHeap.lt g1
 have l2:=AHeap.lt g2
 refine AW_for [1,4,26,27] (σ:=List (Tx×Int)) (fun (k:Nat) s=>MetT s ((d.tiers.take k).map (·.name))∧T=dimF ((d.tiers.take k).map (·.name)) (d.tiers.drop k)) (fun k s=>[]) (fun k s=>[(H.next+1+k1,mpT s)]) [] (GStep.refl _ _) (by simp only [keep_nil,keep_cons,Fr.put,Fr.get,↓reduceIte,Nat.reduceEqDiff];rfl) (by intro k s;rfl) (by intro k s;rfl) (by rfl) (by unfold maxLen;omega) ?_ (by simp only [FrL_nil]) ?_ ?_ ?_
 ·exact ⟨MetT.nil,hT.symm⟩
 ·rw [ObjL_cons];exact ⟨g2,by simp [ObjL]⟩
 ·(rintro k M G hk ⟨hM,ht⟩ hG hn;try simp only [nx] at hn)
  have ho:=hG.o (_,_) (List.mem_singleton.2 rfl)
  have hc:=(hG.g _ l1 (by simp;omega)).trans g1
  have lc:=AHeap.lt hc
  have lo:=AHeap.lt ho
  rw [List.drop_eq_getElem_cons hk,dimF] at ht
  have hA:=fun G=>above_sound d k G hk (by omega)
  have hC:=fun G=>tier_sound d.tiers[k] (aboveL (d.tiers.drop (k+1))) G (hs _ (List.getElem_mem hk))
  have htk:=rT_get hk
  obtain ⟨q0,q1,q2,q3,q4⟩:=eTr_facts d.tiers[k]
  have hsn:=take_mapT (f:=Tr.name) hk
  by_cases c1:tierE d.tiers[k] (aboveL (d.tiers.drop (k+1)))≠0
  ·have e3:(tierE d.tiers[k] (aboveL (d.tiers.drop (k+1))) != 0)=true:=by simpa using c1
   rw [if_pos c1] at ht
   generalize tierE d.tiers[k] (aboveL (d.tiers.drop (k+1)))=E at *
   generalize aboveL (d.tiers.drop (k+1))=A at *
   ((have hd:=trivial;repeat' (first|((first|apply GdK_st|apply GdK_sf|apply CondK_s)<;>intro hd<;>(try simp only [hd]))|simp (disch:=first|assumption|omega|(simp only [nx]<;>omega)|fail) only [hd,hQr,hQn,c88_0,↓YA,YB,YC,YE,YF,YZ,sevalprocAttr,hk,q0,q4,hc,f0,f3,List.length_map]))<;>(try (have hd_:True:=hd;clear hd_ hd)))
   (refine CallK.use (hA _) ?_;rintro _ _ ⟨rfl,k2,rfl⟩)
   ((have hd:=trivial;repeat' (first|((first|apply GdK_st|apply GdK_sf|apply CondK_s)<;>intro hd<;>(try simp only [hd]))|simp (disch:=first|assumption|omega|(simp only [nx]<;>omega)|fail) only [hd,hQr,hQn,c88_0,↓YA,YB,YC,YE,YF,YZ,sevalprocAttr,hk,q0,q4,hc,f0,f3,List.length_map]))<;>(try (have hd_:True:=hd;clear hd_ hd)))
   (refine CallK.use (hC _) ?_;rintro _ _ ⟨rfl,k3,rfl⟩)
   ((have hd:=trivial;repeat' (first|((first|apply GdK_st|apply GdK_sf|apply CondK_s)<;>intro hd<;>(try simp only [hd]))|simp (disch:=first|assumption|omega|(simp only [nx]<;>omega)|fail) only [hd,hQr,hQn,c88_0,↓YA,YB,YC,YE,YF,YZ,sevalprocAttr,e3]))<;>(try (have hd_:True:=hd;clear hd_ hd)))
   refine fin_iA ht.symm ?_
   exact (AHeap.Ext.alloc (hG.extO hx0 (by simp;omega))).bump.bump
  ·have c1':tierE d.tiers[k] (aboveL (d.tiers.drop (k+1)))=0:=by simpa using c1
   have e3:(tierE d.tiers[k] (aboveL (d.tiers.drop (k+1))) != 0)=false:=by simp [c1']
   rw [if_neg c1] at ht
   generalize tierE d.tiers[k] (aboveL (d.tiers.drop (k+1)))=E at *
   generalize aboveL (d.tiers.drop (k+1))=A at *
   have hof:=kS_of d.tiers[k].name
   have hgn:=hM d.tiers[k].name
   have hfn:=mFind_map (vf:=AV.i) kS_eq d.tiers[k].name M
   by_cases c2:d.tiers[k].name ∈ (d.tiers.take k).map (·.name)
   ·rw [if_pos c2] at ht hgn
    rw [hgn,Option.map_some] at hfn
    have hset:=mSet_map (vf:=AV.i) kS_eq d.tiers[k].name 2 M
    have hfn2:=mFind_map (vf:=AV.i) kS_eq d.tiers[k].name (aSet d.tiers[k].name 2 M)
    rw [aGet_same,Option.map_some] at hfn2
    have e4:decide ((2:Int) > 1)=true:=by decide
    have hw:IntKind.i64.wrap (1+1)=2:=by decide
    ((have hd:=trivial;repeat' (first|((first|apply GdK_st|apply GdK_sf|apply CondK_s)<;>intro hd<;>(try simp only [hd]))|simp (disch:=first|assumption|omega|(simp only [nx]<;>omega)|fail) only [hd,hQr,hQn,c88_0,↓YA,YB,YC,YE,YF,YZ,sevalprocAttr,hk,q0,q4,hc,f0,f3,List.length_map]))<;>(try (have hd_:True:=hd;clear hd_ hd)))
    (refine CallK.use (hA _) ?_;rintro _ _ ⟨rfl,k2,rfl⟩)
    ((have hd:=trivial;repeat' (first|((first|apply GdK_st|apply GdK_sf|apply CondK_s)<;>intro hd<;>(try simp only [hd]))|simp (disch:=first|assumption|omega|(simp only [nx]<;>omega)|fail) only [hd,hQr,hQn,c88_0,↓YA,YB,YC,YE,YF,YZ,sevalprocAttr,hk,q0,q4,hc,f0,f3,List.length_map]))<;>(try (have hd_:True:=hd;clear hd_ hd)))
    (refine CallK.use (hC _) ?_;rintro _ _ ⟨rfl,k3,rfl⟩)
    ((have hd:=trivial;repeat' (first|((first|apply GdK_st|apply GdK_sf|apply CondK_s)<;>intro hd<;>(try simp only [hd]))|simp (disch:=first|assumption|omega|(simp only [nx]<;>omega)|fail) only [hd,hQr,hQn,c88_0,↓YA,YB,YC,YE,YF,YZ,sevalprocAttr,e3,q1,ho,hof,hfn,hset,hfn2,hw,e4]))<;>(try (have hd_:True:=hd;clear hd_ hd)))
    refine fin_iA ht.symm ?_
    exact AHeap.Ext.set ((AHeap.Ext.alloc (hG.extO hx0 (by simp;omega))).bump.bump) (by omega)
   ·rw [if_neg c2] at ht hgn
    rw [hgn,Option.map_none] at hfn
    have hset:=mSet_map (vf:=AV.i) kS_eq d.tiers[k].name 1 M
    have hfn2:=mFind_map (vf:=AV.i) kS_eq d.tiers[k].name (aSet d.tiers[k].name 1 M)
    rw [aGet_same,Option.map_some] at hfn2
    have e4:decide ((1:Int) > 1)=false:=by decide
    have hw:IntKind.i64.wrap (0+1)=1:=by decide
    ((have hd:=trivial;repeat' (first|((first|apply GdK_st|apply GdK_sf|apply CondK_s)<;>intro hd<;>(try simp only [hd]))|simp (disch:=first|assumption|omega|(simp only [nx]<;>omega)|fail) only [hd,hQr,hQn,c88_0,↓YA,YB,YC,YE,YF,YZ,sevalprocAttr,hk,q0,q4,hc,f0,f3,List.length_map]))<;>(try (have hd_:True:=hd;clear hd_ hd)))
    (refine CallK.use (hA _) ?_;rintro _ _ ⟨rfl,k2,rfl⟩)
    ((have hd:=trivial;repeat' (first|((first|apply GdK_st|apply GdK_sf|apply CondK_s)<;>intro hd<;>(try simp only [hd]))|simp (disch:=first|assumption|omega|(simp only [nx]<;>omega)|fail) only [hd,hQr,hQn,c88_0,↓YA,YB,YC,YE,YF,YZ,sevalprocAttr,hk,q0,q4,hc,f0,f3,List.length_map]))<;>(try (have hd_:True:=hd;clear hd_ hd)))
    (refine CallK.use (hC _) ?_;rintro _ _ ⟨rfl,k3,rfl⟩)
    ((have hd:=trivial;repeat' (first|((first|apply GdK_st|apply GdK_sf|apply CondK_s)<;>intro hd<;>(try simp only [hd]))|simp (disch:=first|assumption|omega|(simp only [nx]<;>omega)|fail) only [hd,hQr,hQn,c88_0,↓YA,YB,YC,YE,YF,YZ,sevalprocAttr,e3,q1,ho,hof,hfn,hset,hfn2,hw,e4]))<;>(try (have hd_:True:=hd;clear hd_ hd)))
    refine ⟨aSet d.tiers[k].name 1 M,⟨by rw [hsn];exact hM.snoc _,by rw [hsn];exact ht⟩,?_⟩
    exact hG.alloc.bump.bump.put
 ·(rintro M G ⟨hM,ht⟩ hG hn;try simp only [nx] at hn)
  rw [List.drop_length] at ht
  ((have hd:=trivial;repeat' (first|((first|apply GdK_st|apply GdK_sf|apply CondK_s)<;>intro hd<;>(try simp only [hd]))|simp (disch:=first|assumption|omega|(simp only [nx]<;>omega)|fail) only [hd,hQr,hQn,c88_0,↓YA,YB,YC,YE,YF,YZ,sevalprocAttr]))<;>(try (have hd_:True:=hd;clear hd_ hd)))
  exact fin_iA (by rw [ht];rfl) (hG.extO hx0 (by simp;omega))
def FreshQ (mid:Nat) (b:Bool) (M:List (Tx×Int)) (H:AHeap) (r:AV) (H':AHeap):Prop:=r=.b b∧HX [(mid,mpT M)] H H'
theorem HX.one {id:Nat} {o:AObj} {H:AHeap} (h:H.get id=some o):HX [(id,o)] H H:=HX.ini (by rw [ObjL_cons];exact ⟨h,by simp [ObjL]⟩)
theorem HX.o1 {a:Nat} {x:AObj} {O:List (Nat×AObj)} {H G:AHeap} (h:HX ((a,x) :: O) H G):G.get a=some x:=h.o (a,x) (by simp)
theorem HX.o2 {a:Nat} {x:AObj} {p:Nat×AObj} {O:List (Nat×AObj)} {H G:AHeap} (h:HX (p :: (a,x) :: O) H G):G.get a=some x:=h.o (a,x) (by simp)
theorem HX.put2 {a b:Nat} {x x' y y':AObj} {H G:AHeap} (h:HX [(a,x),(b,y)] H G) (hne:a≠b):HX [(a,x'),(b,y')] H ((G.set b y').set a x'):=by
 have ha:=AHeap.lt h.o1
 have hb:=AHeap.lt h.o2
 refine ⟨h.n,?_,fun i hi hn=>?_⟩
 ·rw [ObjL_cons,ObjL_cons]
  exact ⟨AHeap.get_set_self ha,(AHeap.get_set_ne (Ne.symm hne)).trans (AHeap.get_set_self hb),by simp [ObjL]⟩
 ·have hn':a≠i∧b≠i:=by simpa using hn
  rw [AHeap.get_set_ne (Ne.symm hn'.1),AHeap.get_set_ne (Ne.symm hn'.2)]
  exact h.g i hi (by simpa using hn)
theorem HX.thn {a:Nat} {x x':AObj} {H G G1:AHeap} (h:HX [(a,x)] H G) (k:HX [(a,x')] G G1):HX [(a,x')] H G1:=by
 refine ⟨Nat.le_trans h.n k.n,?_,fun i hi hn=>(k.g i (Nat.lt_of_lt_of_le hi h.n) (by simpa using hn)).trans (h.g i hi (by simpa using hn))⟩
 rw [ObjL_cons]
 exact ⟨k.o (a,x') (by simp),by simp [ObjL]⟩
theorem fresh_no {mid:Nat} {M:List (Tx×Int)} {s:Tx} {H:AHeap} (hm:H.get mid=some (mpT M)) (hg:aGet s M=none):Sound Tryz.prog 89 [.mp mid,eS s] H (FreshQ mid true (aSet s 1 M) H):=by
 have lm:=AHeap.lt hm
 have hof:=kS_of s
 have hfn:=mFind_map (vf:=AV.i) kS_eq s M
 rw [hg,Option.map_none] at hfn
 have hset:=mSet_map (vf:=AV.i) kS_eq s 1 M
 have hfn2:=mFind_map (vf:=AV.i) kS_eq s (aSet s 1 M)
 rw [aGet_same,Option.map_some] at hfn2
 have hw:IntKind.i64.wrap (0+1)=1:=by decide
 refine fn_soundQ hE cf89 (Nat.le_of_ble_eq_true rfl) fun Q hQr hQn=>?_
 ((have hd:=trivial;repeat' (first|((first|apply GdK_st|apply GdK_sf|apply CondK_s)<;>intro hd<;>(try simp only [hd]))|simp (disch:=first|assumption|omega|(simp only [nx]<;>omega)|fail) only [hd,hQr,hQn,c89_0,↓YA,YB,YC,YE,YF,YZ,sevalprocAttr,hm,hof,hfn,hset,hfn2,hw]))<;>(try (have hd_:True:=hd;clear hd_ hd)))
 exact fin_keep ⟨rfl,(HX.one hm).put⟩
theorem fresh_yes {mid:Nat} {M:List (Tx×Int)} {s:Tx} {H:AHeap} (hm:H.get mid=some (mpT M)) (hg:aGet s M=some 1):Sound Tryz.prog 89 [.mp mid,eS s] H (FreshQ mid false (aSet s 2 M) H):=by
 have lm:=AHeap.lt hm
 have hof:=kS_of s
 have hfn:=mFind_map (vf:=AV.i) kS_eq s M
 rw [hg,Option.map_some] at hfn
 have hset:=mSet_map (vf:=AV.i) kS_eq s 2 M
 have hfn2:=mFind_map (vf:=AV.i) kS_eq s (aSet s 2 M)
 rw [aGet_same,Option.map_some] at hfn2
 have hw:IntKind.i64.wrap (1+1)=2:=by decide
 have e1:((2:Int) == 1)=false:=by decide
 refine fn_soundQ hE cf89 (Nat.le_of_ble_eq_true rfl) fun Q hQr hQn=>?_
 ((have hd:=trivial;repeat' (first|((first|apply GdK_st|apply GdK_sf|apply CondK_s)<;>intro hd<;>(try simp only [hd]))|simp (disch:=first|assumption|omega|(simp only [nx]<;>omega)|fail) only [hd,hQr,hQn,c89_0,↓YA,YB,YC,YE,YF,YZ,sevalprocAttr,hm,hof,hfn,hset,hfn2,hw,e1]))<;>(try (have hd_:True:=hd;clear hd_ hd)))
 exact fin_keep ⟨rfl,(HX.one hm).put⟩
def measF (seen:List Tx):List Tx→Int
 | []=>0
 | s :: r=>if nameOk s=false then 2 else if s ∈ seen then 11 else measF (seen++[s]) r
def measE (l:List Tx):Int:=if (l.length:Int)<1∨(l.length:Int) > 3 then 5 else measF [] l
theorem take_snoc {α:Type} {l:List α} {k:Nat} (h:k<l.length):l.take (k+1)=l.take k++[l[k]]:=List.take_succ_eq_append_getElem h
set_option maxHeartbeats 2000000 in
theorem meas_sound (t:Tok) (l:List Tx) (H:AHeap):Sound Tryz.prog 90 [.sl t (rS l)] H (Pure H (.i (measE l))):=by
 by_cases h1:(l.length:Int)<1∨(l.length:Int) > 3
 ·have hv:measE l=5:=by rw [measE,if_pos h1]
  rw [hv]
  refine fn_soundQ hE cf90 (Nat.le_of_ble_eq_true rfl) fun Q hQr hQn=>?_
  ((have hd:=trivial;repeat' (first|((first|apply GdK_st|apply GdK_sf|apply CondK_s)<;>intro hd<;>(try simp only [hd]))|simp (disch:=first|assumption|omega|(simp only [nx]<;>omega)|fail) only [hd,hQr,hQn,c90_0,↓YA,YB,YC,YE,YF,YZ,sevalprocAttr,List.length_map]))<;>(try (have hd_:True:=hd;clear hd_ hd)))
  all_goals first
   | (exfalso;simp_all;omega;done)
   | refine fin_iA (by rfl)
 have e1:decide ((l.length:Int)<1)=false:=by simp;omega
 have e2:decide ((l.length:Int) > 3)=false:=by simp;omega
 have hv:measE l=measF [] l:=by rw [measE,if_neg h1]
 rw [hv]
 generalize hT:measF [] l=T
 refine fn_soundQ hE cf90 (Nat.le_of_ble_eq_true rfl) fun Q hQr hQn=>?_
 ((have hd:=trivial;repeat' (first|((first|apply GdK_st|apply GdK_sf|apply CondK_s)<;>intro hd<;>(try simp only [hd]))|simp (disch:=first|assumption|omega|(simp only [nx]<;>omega)|fail) only [hd,hQr,hQn,c90_0,↓YA,YB,YC,YE,YF,YZ,sevalprocAttr,List.length_map,e1,e2]))<;>(try (have hd_:True:=hd;clear hd_ hd)))
 refine AW_for [3,16,17] (σ:=List (Tx×Int)) (fun (k:Nat) s=>MetT s (l.take k)∧T=measF (l.take k) (l.drop k)) (fun k s=>[]) (fun k s=>[(H.next,mpT s)]) [] (GStep.refl _ _) (by simp only [keep_nil,keep_cons,Fr.put,Fr.get,↓reduceIte,Nat.reduceEqDiff];rfl) (by intro k s;rfl) (by intro k s;rfl) (by rfl) (by unfold maxLen;omega) ?_ (by simp only [FrL_nil]) ?_ ?_ ?_
 ·exact ⟨MetT.nil,hT.symm⟩
 ·rw [ObjL_cons];exact ⟨AHeap.get_alloc_self (H:=H),by simp [ObjL]⟩
 ·(rintro k M G hk ⟨hM,ht⟩ hG hn;try simp only [nx] at hn)
  have ho:=hG.o (_,_) (List.mem_singleton.2 rfl)
  rw [List.drop_eq_getElem_cons hk,measF] at ht
  have hsn:=take_snoc hk
  have hgn:=hM l[k]
  have hb:=bfb (nameOk l[k])
  rcases hb with hb|hb
  ·have hN:=fun G=>name_no hb G
   rw [if_pos hb] at ht
   ((have hd:=trivial;repeat' (first|((first|apply GdK_st|apply GdK_sf|apply CondK_s)<;>intro hd<;>(try simp only [hd]))|simp (disch:=first|assumption|omega|(simp only [nx]<;>omega)|fail) only [hd,hQr,hQn,c90_0,↓YA,YB,YC,YE,YF,YZ,sevalprocAttr,hk,List.length_map]))<;>(try (have hd_:True:=hd;clear hd_ hd)))
   (refine CallK.use (hN _) ?_;rintro _ _ ⟨rfl,k1,rfl⟩)
   ((have hd:=trivial;repeat' (first|((first|apply GdK_st|apply GdK_sf|apply CondK_s)<;>intro hd<;>(try simp only [hd]))|simp (disch:=first|assumption|omega|(simp only [nx]<;>omega)|fail) only [hd,hQr,hQn,c90_0,↓YA,YB,YC,YE,YF,YZ,sevalprocAttr]))<;>(try (have hd_:True:=hd;clear hd_ hd)))
   exact fin_iA ht.symm ((hG.extO (AHeap.Ext.refl H).alloc (by simp)).bump)
  ·have hN:=fun G=>name_yes hb G
   rw [if_neg (by simp [hb])] at ht
   by_cases c2:l[k] ∈ l.take k
   ·rw [if_pos c2] at ht hgn
    have hF:∀ G,G.get H.next=some (mpT M)→Sound Tryz.prog 89 [.mp H.next,eS l[k]] G (FreshQ H.next false (aSet l[k] 2 M) G):=fun G h=>fresh_yes h hgn
    ((have hd:=trivial;repeat' (first|((first|apply GdK_st|apply GdK_sf|apply CondK_s)<;>intro hd<;>(try simp only [hd]))|simp (disch:=first|assumption|omega|(simp only [nx]<;>omega)|fail) only [hd,hQr,hQn,c90_0,↓YA,YB,YC,YE,YF,YZ,sevalprocAttr,hk,List.length_map]))<;>(try (have hd_:True:=hd;clear hd_ hd)))
    (refine CallK.use (hN _) ?_;rintro _ _ ⟨rfl,k1,rfl⟩)
    ((have hd:=trivial;repeat' (first|((first|apply GdK_st|apply GdK_sf|apply CondK_s)<;>intro hd<;>(try simp only [hd]))|simp (disch:=first|assumption|omega|(simp only [nx]<;>omega)|fail) only [hd,hQr,hQn,c90_0,↓YA,YB,YC,YE,YF,YZ,sevalprocAttr,hk,List.length_map]))<;>(try (have hd_:True:=hd;clear hd_ hd)))
    refine CallK.use (hF _ ho) ?_
    rintro _ G2 ⟨rfl,hx2⟩
    ((have hd:=trivial;repeat' (first|((first|apply GdK_st|apply GdK_sf|apply CondK_s)<;>intro hd<;>(try simp only [hd]))|simp (disch:=first|assumption|omega|(simp only [nx]<;>omega)|fail) only [hd,hQr,hQn,c90_0,↓YA,YB,YC,YE,YF,YZ,sevalprocAttr]))<;>(try (have hd_:True:=hd;clear hd_ hd)))
    exact fin_iA ht.symm (((hG.bump (k:=k1)).thn hx2).extO (AHeap.Ext.refl H).alloc (by simp))
   ·rw [if_neg c2] at ht hgn
    have hF:∀ G,G.get H.next=some (mpT M)→Sound Tryz.prog 89 [.mp H.next,eS l[k]] G (FreshQ H.next true (aSet l[k] 1 M) G):=fun G h=>fresh_no h hgn
    ((have hd:=trivial;repeat' (first|((first|apply GdK_st|apply GdK_sf|apply CondK_s)<;>intro hd<;>(try simp only [hd]))|simp (disch:=first|assumption|omega|(simp only [nx]<;>omega)|fail) only [hd,hQr,hQn,c90_0,↓YA,YB,YC,YE,YF,YZ,sevalprocAttr,hk,List.length_map]))<;>(try (have hd_:True:=hd;clear hd_ hd)))
    (refine CallK.use (hN _) ?_;rintro _ _ ⟨rfl,k1,rfl⟩)
    ((have hd:=trivial;repeat' (first|((first|apply GdK_st|apply GdK_sf|apply CondK_s)<;>intro hd<;>(try simp only [hd]))|simp (disch:=first|assumption|omega|(simp only [nx]<;>omega)|fail) only [hd,hQr,hQn,c90_0,↓YA,YB,YC,YE,YF,YZ,sevalprocAttr,hk,List.length_map]))<;>(try (have hd_:True:=hd;clear hd_ hd)))
    refine CallK.use (hF _ ho) ?_
    rintro _ G2 ⟨rfl,hx2⟩
    ((have hd:=trivial;repeat' (first|((first|apply GdK_st|apply GdK_sf|apply CondK_s)<;>intro hd<;>(try simp only [hd]))|simp (disch:=first|assumption|omega|(simp only [nx]<;>omega)|fail) only [hd,hQr,hQn,c90_0,↓YA,YB,YC,YE,YF,YZ,sevalprocAttr]))<;>(try (have hd_:True:=hd;clear hd_ hd)))
    exact ⟨aSet l[k] 1 M,⟨by rw [hsn];exact hM.snoc _,by rw [hsn];exact ht⟩,(hG.bump (k:=k1)).thn hx2⟩
 ·(rintro M G ⟨hM,ht⟩ hG hn;try simp only [nx] at hn)
  rw [List.drop_length] at ht
  ((have hd:=trivial;repeat' (first|((first|apply GdK_st|apply GdK_sf|apply CondK_s)<;>intro hd<;>(try simp only [hd]))|simp (disch:=first|assumption|omega|(simp only [nx]<;>omega)|fail) only [hd,hQr,hQn,c90_0,↓YA,YB,YC,YE,YF,YZ,sevalprocAttr]))<;>(try (have hd_:True:=hd;clear hd_ hd)))
  exact fin_iA (by rw [ht];rfl) (hG.extO (AHeap.Ext.refl H).alloc (by simp))
def dimsF (seen:List Tx):List Dm→Int
 | []=>0
 | d :: r=>if dimE d≠0 then dimE d else if d.name ∈ seen then 11 else dimsF (seen++[d.name]) r
def scE (s:Sc):Int:=if (s.dims.length:Int)<1∨(s.dims.length:Int) > 16 then 5 else if dimsF [] s.dims≠0 then dimsF [] s.dims else measE s.meas
theorem eSc_facts (s:Sc):(eSc s).length=2∧(eSc s)[0]?=some (.sl .no (rD s.dims))∧(eSc s)[1]?=some (.sl .no (rS s.meas))∧(eSc s).take 2=eSc s:=⟨rfl,rfl,rfl,rfl⟩
def smallS (s:Sc):Prop:=∀ d ∈ s.dims,∀ t ∈ d.tiers,smallT t
set_option maxHeartbeats 2000000 in
theorem sch_sound (S:Sc) (H:AHeap) (hs:smallS S):Sound Tryz.prog 48 [.agg (eSc S)] H (Pure H (.i (scE S))):=by
 obtain ⟨f0,f1,f2,f3⟩:=eSc_facts S
 by_cases h1:(S.dims.length:Int)<1∨(S.dims.length:Int) > 16
 ·have hv:scE S=5:=by rw [scE,if_pos h1]
  rw [hv]
  refine fn_soundQ hE cf48 (Nat.le_of_ble_eq_true rfl) fun Q hQr hQn=>?_
  ((have hd:=trivial;repeat' (first|((first|apply GdK_st|apply GdK_sf|apply CondK_s)<;>intro hd<;>(try simp only [hd]))|simp (disch:=first|assumption|omega|(simp only [nx]<;>omega)|fail) only [hd,hQr,hQn,c48_0,↓YA,YB,YC,YE,YF,YZ,sevalprocAttr,f1,List.length_map]))<;>(try (have hd_:True:=hd;clear hd_ hd)))
  all_goals first
   | (exfalso;simp_all;omega;done)
   | refine fin_iA (by rfl)
 have e1:decide ((S.dims.length:Int)<1)=false:=by simp;omega
 have e2:decide ((S.dims.length:Int) > 16)=false:=by simp;omega
 have hv:scE S=if dimsF [] S.dims≠0 then dimsF [] S.dims else measE S.meas:=by rw [scE,if_neg h1]
 rw [hv]
 generalize hT:dimsF [] S.dims=T
 refine fn_soundQ hE cf48 (Nat.le_of_ble_eq_true rfl) fun Q hQr hQn=>?_
 ((have hd:=trivial;repeat' (first|((first|apply GdK_st|apply GdK_sf|apply CondK_s)<;>intro hd<;>(try simp only [hd]))|simp (disch:=first|assumption|omega|(simp only [nx]<;>omega)|fail) only [hd,hQr,hQn,c48_0,↓YA,YB,YC,YE,YF,YZ,sevalprocAttr,f1,f2,List.length_map,e1,e2]))<;>(try (have hd_:True:=hd;clear hd_ hd)))
 have g1:((H.alloc (.cells (eSc S) 25)).alloc (.map (.one .str) [] false)).get H.next=some (.cells (eSc S) 25):=by
  rw [AHeap.get_alloc_ne (by simp only [nx];omega)];exact AHeap.get_alloc_self (H:=H)
 have g2:((H.alloc (.cells (eSc S) 25)).alloc (.map (.one .str) [] false)).get (H.next+1)=some (mpT []):=AHeap.get_alloc_self (H:=H.alloc _)
 have hx0:AHeap.Ext H ((H.alloc (.cells (eSc S) 25)).alloc (.map (.one .str) [] false)):=by exact AXT
 have hne:((H.alloc (.cells (eSc S) 25)).alloc (.map (.one .str) [] false)).next=H.next+2:=rfl
 generalize (H.alloc (.cells (eSc S) 25)).alloc (.map (.one .str) [] false)=G0 at *
 have l1:=AHeap.lt g1
 have l2:=AHeap.lt g2
 refine AW_for [1,3,19,20] (σ:=List (Tx×Int)) (fun (k:Nat) s=>MetT s ((S.dims.take k).map (·.name))∧T=dimsF ((S.dims.take k).map (·.name)) (S.dims.drop k)) (fun k s=>[]) (fun k s=>[(H.next+1,mpT s)]) [] (GStep.refl _ _) (by simp only [keep_nil,keep_cons,Fr.put,Fr.get,↓reduceIte,Nat.reduceEqDiff];rfl) (by intro k s;rfl) (by intro k s;rfl) (by rfl) (by unfold maxLen;omega) ?_ (by simp only [FrL_nil]) ?_ ?_ ?_
 ·exact ⟨MetT.nil,hT.symm⟩
 ·rw [ObjL_cons];exact ⟨g2,by simp [ObjL]⟩
 ·(rintro k M G hk ⟨hM,ht⟩ hG hn;try simp only [nx] at hn)
  have ho:=hG.o (_,_) (List.mem_singleton.2 rfl)
  have hc:=(hG.g _ l1 (by simp)).trans g1
  have lc:=AHeap.lt hc
  have lo:=AHeap.lt ho
  rw [List.drop_eq_getElem_cons hk,dimsF] at ht
  have hC:=fun G=>dim_sound S.dims[k] G (hs _ (List.getElem_mem hk))
  obtain ⟨q0,q1,q2,q3⟩:=eDm_facts S.dims[k]
  have hsn:=take_mapT (f:=Dm.name) hk
  have hgn:=hM S.dims[k].name
  by_cases c1:dimE S.dims[k]≠0
  ·have e3:(dimE S.dims[k] != 0)=true:=by simpa using c1
   rw [if_pos c1] at ht
   generalize dimE S.dims[k]=E at *
   rw [ht,if_pos c1] at hQr hQn
   ((have hd:=trivial;repeat' (first|((first|apply GdK_st|apply GdK_sf|apply CondK_s)<;>intro hd<;>(try simp only [hd]))|simp (disch:=first|assumption|omega|(simp only [nx]<;>omega)|fail) only [hd,hQr,hQn,c48_0,↓YA,YB,YC,YE,YF,YZ,sevalprocAttr,hk,q0,q3,List.length_map]))<;>(try (have hd_:True:=hd;clear hd_ hd)))
   (refine CallK.use (hC _) ?_;rintro _ _ ⟨rfl,k3,rfl⟩)
   ((have hd:=trivial;repeat' (first|((first|apply GdK_st|apply GdK_sf|apply CondK_s)<;>intro hd<;>(try simp only [hd]))|simp (disch:=first|assumption|omega|(simp only [nx]<;>omega)|fail) only [hd,hQr,hQn,c48_0,↓YA,YB,YC,YE,YF,YZ,sevalprocAttr,e3]))<;>(try (have hd_:True:=hd;clear hd_ hd)))
   refine fin_iA rfl ?_
   exact (AHeap.Ext.alloc (hG.extO hx0 (by simp))).bump
  ·have e3:(dimE S.dims[k] != 0)=false:=by simpa using c1
   rw [if_neg c1] at ht
   generalize dimE S.dims[k]=E at *
   by_cases c2:S.dims[k].name ∈ (S.dims.take k).map (·.name)
   ·rw [if_pos c2] at ht hgn
    have hF:∀ G,G.get (H.next+1)=some (mpT M)→Sound Tryz.prog 89 [.mp (H.next+1),eS S.dims[k].name] G (FreshQ (H.next+1) false (aSet S.dims[k].name 2 M) G):=fun G h=>fresh_yes h hgn
    ((have hd:=trivial;repeat' (first|((first|apply GdK_st|apply GdK_sf|apply CondK_s)<;>intro hd<;>(try simp only [hd]))|simp (disch:=first|assumption|omega|(simp only [nx]<;>omega)|fail) only [hd,hQr,hQn,c48_0,↓YA,YB,YC,YE,YF,YZ,sevalprocAttr,hk,q0,q3,List.length_map]))<;>(try (have hd_:True:=hd;clear hd_ hd)))
    (refine CallK.use (hC _) ?_;rintro _ _ ⟨rfl,k3,rfl⟩)
    ((have hd:=trivial;repeat' (first|((first|apply GdK_st|apply GdK_sf|apply CondK_s)<;>intro hd<;>(try simp only [hd]))|simp (disch:=first|assumption|omega|(simp only [nx]<;>omega)|fail) only [hd,hQr,hQn,c48_0,↓YA,YB,YC,YE,YF,YZ,sevalprocAttr,e3,q1,List.length_map]))<;>(try (have hd_:True:=hd;clear hd_ hd)))
    refine CallK.use (hF _ (by simp only [AHeap.get_bump];rw [AHeap.get_alloc_ne (by omega)];exact ho)) ?_
    rintro _ G2 ⟨rfl,hx2⟩
    ((have hd:=trivial;repeat' (first|((first|apply GdK_st|apply GdK_sf|apply CondK_s)<;>intro hd<;>(try simp only [hd]))|simp (disch:=first|assumption|omega|(simp only [nx]<;>omega)|fail) only [hd,hQr,hQn,c48_0,↓YA,YB,YC,YE,YF,YZ,sevalprocAttr]))<;>(try (have hd_:True:=hd;clear hd_ hd)))
    refine fin_iA (by rw [ht];rfl) ?_
    exact ((hG.alloc.bump (k:=k3)).thn hx2).extO hx0 (by simp)
   ·rw [if_neg c2] at ht hgn
    have hF:∀ G,G.get (H.next+1)=some (mpT M)→Sound Tryz.prog 89 [.mp (H.next+1),eS S.dims[k].name] G (FreshQ (H.next+1) true (aSet S.dims[k].name 1 M) G):=fun G h=>fresh_no h hgn
    ((have hd:=trivial;repeat' (first|((first|apply GdK_st|apply GdK_sf|apply CondK_s)<;>intro hd<;>(try simp only [hd]))|simp (disch:=first|assumption|omega|(simp only [nx]<;>omega)|fail) only [hd,hQr,hQn,c48_0,↓YA,YB,YC,YE,YF,YZ,sevalprocAttr,hk,q0,q3,List.length_map]))<;>(try (have hd_:True:=hd;clear hd_ hd)))
    (refine CallK.use (hC _) ?_;rintro _ _ ⟨rfl,k3,rfl⟩)
    ((have hd:=trivial;repeat' (first|((first|apply GdK_st|apply GdK_sf|apply CondK_s)<;>intro hd<;>(try simp only [hd]))|simp (disch:=first|assumption|omega|(simp only [nx]<;>omega)|fail) only [hd,hQr,hQn,c48_0,↓YA,YB,YC,YE,YF,YZ,sevalprocAttr,e3,q1,List.length_map]))<;>(try (have hd_:True:=hd;clear hd_ hd)))
    refine CallK.use (hF _ (by simp only [AHeap.get_bump];rw [AHeap.get_alloc_ne (by omega)];exact ho)) ?_
    rintro _ G2 ⟨rfl,hx2⟩
    ((have hd:=trivial;repeat' (first|((first|apply GdK_st|apply GdK_sf|apply CondK_s)<;>intro hd<;>(try simp only [hd]))|simp (disch:=first|assumption|omega|(simp only [nx]<;>omega)|fail) only [hd,hQr,hQn,c48_0,↓YA,YB,YC,YE,YF,YZ,sevalprocAttr]))<;>(try (have hd_:True:=hd;clear hd_ hd)))
    exact ⟨aSet S.dims[k].name 1 M,⟨by rw [hsn];exact hM.snoc _,by rw [hsn];exact ht⟩,(hG.alloc.bump (k:=k3)).thn hx2⟩
 ·(rintro M G ⟨hM,ht⟩ hG hn;try simp only [nx] at hn)
  rw [List.drop_length] at ht
  have hc:=(hG.g _ l1 (by simp)).trans g1
  have h0:T=0:=by rw [ht];rfl
  have hMs:=fun G=>meas_sound .no S.meas G
  rw [h0] at hQr hQn
  ((have hd:=trivial;repeat' (first|((first|apply GdK_st|apply GdK_sf|apply CondK_s)<;>intro hd<;>(try simp only [hd]))|simp (disch:=first|assumption|omega|(simp only [nx]<;>omega)|fail) only [hd,hQr,hQn,c48_0,↓YA,YB,YC,YE,YF,YZ,sevalprocAttr,hc,f2,List.length_map]))<;>(try (have hd_:True:=hd;clear hd_ hd)))
  (refine CallK.use (hMs _) ?_;rintro _ _ ⟨rfl,k3,rfl⟩)
  ((have hd:=trivial;repeat' (first|((first|apply GdK_st|apply GdK_sf|apply CondK_s)<;>intro hd<;>(try simp only [hd]))|simp (disch:=first|assumption|omega|(simp only [nx]<;>omega)|fail) only [hd,hQr,hQn,c48_0,↓YA,YB,YC,YE,YF,YZ,sevalprocAttr]))<;>(try (have hd_:True:=hd;clear hd_ hd)))
  exact fin_iA (by simp) ((hG.extO hx0 (by simp)).bump)
def szT (t:Tr):Int:=(t.terms.length:Int)
theorem rI_snoc {l:List Int} {n:Int}:rI l++[[.i n]]=rI (l++[n]):=by simp
set_option maxHeartbeats 1000000 in
theorem sizes_sound (d:Dm) (H:AHeap) (hl:d.tiers.length≤1000000):Sound Tryz.prog 91 [.agg (eDm d)] H (Pure H (.sl .no (rI (d.tiers.map szT)))):=by
 obtain ⟨f0,f1,f2,f3⟩:=eDm_facts d
 refine fn_soundQ hE cf91 (Nat.le_of_ble_eq_true rfl) fun Q hQr hQn=>?_
 ((have hd:=trivial;repeat' (first|((first|apply GdK_st|apply GdK_sf|apply CondK_s)<;>intro hd<;>(try simp only [hd]))|simp (disch:=first|assumption|omega|(simp only [nx]<;>omega)|fail) only [hd,hQr,hQn,c91_0,↓YA,YB,YC,YE,YF,YZ,sevalprocAttr,f2,List.length_map]))<;>(try (have hd_:True:=hd;clear hd_ hd)))
 have hx0:AHeap.Ext H (H.alloc (.cells (eDm d) 102)):=by exact AXT
 have hn0:(H.alloc (.cells (eDm d) 102)).next=H.next+1:=rfl
 generalize H.alloc (.cells (eDm d) 102)=G0 at *
 refine AW_for [7,8] (σ:=Unit) (fun (k:Nat) s=>True) (fun k s=>[(3,.sl (.own G0.next) (rI ((d.tiers.take k).map szT)))]) (fun k s=>[(G0.next,.tok k 3 1)]) () (GStep.tok 3 3 1 rfl) (by simp only [keep_nil,keep_cons,Fr.put,Fr.get,↓reduceIte,Nat.reduceEqDiff];rfl) (by intro k s;rfl) (by intro k s;rfl) (by rfl) (by unfold maxLen;omega) ?_ (by simp only [FrL_nil,FrL_cons,Fr.put,Fr.get,↓reduceIte,Nat.reduceEqDiff,and_self]<;>simp) ?_ ?_ ?_
 ·trivial
 ·rw [ObjL_cons]
  exact ⟨AHeap.get_alloc_self (H:=G0),by simp [ObjL]⟩
 ·(rintro k s G hk ht hG hn;try simp only [nx] at hn)
  have ho:=hG.o (_,_) (List.mem_singleton.2 rfl)
  have lo:=AHeap.lt ho
  obtain ⟨q0,q1,q2,q3,q4⟩:=eTr_facts d.tiers[k]
  have hsn:rI ((d.tiers.take k).map szT)++[[.i (szT d.tiers[k])]]=rI ((d.tiers.take (k+1)).map szT):=by rw [take_mapT hk];exact rI_snoc
  have la1:=allLen_rI ((d.tiers.take k).map szT)
  have la2:allLen 1 [[AV.i (d.tiers[k].terms.length:Int)]]=true:=rfl
  have lm1:k+1≤maxLen:=by unfold maxLen;omega
  have lm2:(k+1) * 8≤140737488355328:=by omega
  have hrl:(rI ((d.tiers.take k).map szT)).length=k:=by simp;omega
  ((have hd:=trivial;repeat' (first|((first|apply GdK_st|apply GdK_sf|apply CondK_s)<;>intro hd<;>(try simp only [hd]))|simp (disch:=first|assumption|omega|(simp only [nx]<;>omega)|fail) only [hd,hQr,hQn,c91_0,↓YA,YB,YC,YE,YF,YZ,sevalprocAttr,hk,q0,q2,q4,ho,la1,la2,lm1,lm2,hrl,rowsIn,rowsOf,List.length_map,List.length_singleton]))<;>(try (have hd_:True:=hd;clear hd_ hd)))
  exact ⟨(),congrArg (AV.sl _) hsn,hG.alloc.put⟩
 ·(rintro s G ht hG hn;try simp only [nx] at hn)
  ((have hd:=trivial;repeat' (first|((first|apply GdK_st|apply GdK_sf|apply CondK_s)<;>intro hd<;>(try simp only [hd]))|simp (disch:=first|assumption|omega|(simp only [nx]<;>omega)|fail) only [hd,hQr,hQn,c91_0,↓YA,YB,YC,YE,YF,YZ,sevalprocAttr,List.take_length]))<;>(try (have hd_:True:=hd;clear hd_ hd)))
  exact fin_pA rfl (hG.extO hx0.alloc (by simp;omega))
def shpS (S:Sc):Shp:=⟨S.dims.map fun d=>d.tiers.map szT,S.meas.length⟩
theorem wkn_sl (t:Tok) (rows:List (List AV)):Wkn (.sl t rows) (.sl .no rows):=.sl t rows rows rfl (fun i r r' h h'=>by rw [h] at h';injection h' with h';rw [h']) (fun i r r' j x y h h' hx hy=>by
 rw [h] at h';injection h' with h';subst h';rw [hx] at hy;injection hy with hy;rw [hy];exact .refl _)
theorem wkn_shp (t:Tok) (x:Shp):Wkn (.agg [.sl t (rII x.sizes),.i x.measures]) (.agg (eShp x)):=by
 refine .agg _ _ rfl (fun i a b ha hb=>?_)
 rw [eShp_eq] at hb
 match i with
 | 0=>simp at ha hb;subst ha hb;exact wkn_sl _ _
 | 1=>simp at ha hb;subst ha hb;exact .refl _
 | i+2=>simp at ha
set_option maxHeartbeats 2000000 in
theorem shape_sound (S:Sc) (H:AHeap) (hl:S.dims.length≤1000000) (hl2:∀ d ∈ S.dims,d.tiers.length≤1000000):Sound Tryz.prog 49 [.agg (eSc S)] H (Pure H (.agg (eShp (shpS S)))):=by
 obtain ⟨f0,f1,f2,f3⟩:=eSc_facts S
 refine fn_soundQ hE cf49 (Nat.le_of_ble_eq_true rfl) fun Q hQr hQn=>?_
 ((have hd:=trivial;repeat' (first|((first|apply GdK_st|apply GdK_sf|apply CondK_s)<;>intro hd<;>(try simp only [hd]))|simp (disch:=first|assumption|omega|(simp only [nx]<;>omega)|fail) only [hd,hQr,hQn,c49_0,↓YA,YB,YC,YE,YF,YZ,sevalprocAttr,f1,f2,List.length_map]))<;>(try (have hd_:True:=hd;clear hd_ hd)))
 have hx0:AHeap.Ext H ((((H.alloc (.cells (eSc S) 25)).alloc (.cells [.sl .full [],.i 0] 37)).alloc (.cells [.sl .full [],.i (S.meas.length:Int)] 37))):=by exact AXT
 have g1:((((H.alloc (.cells (eSc S) 25)).alloc (.cells [.sl .full [],.i 0] 37)).alloc (.cells [.sl .full [],.i (S.meas.length:Int)] 37))).get (H.next+1+1)=some (.cells [.sl .full [],.i (S.meas.length:Int)] 37):=AHeap.get_alloc_self (H:=(H.alloc _).alloc _)
 have g2:((((H.alloc (.cells (eSc S) 25)).alloc (.cells [.sl .full [],.i 0] 37)).alloc (.cells [.sl .full [],.i (S.meas.length:Int)] 37))).get (H.next+1)=some (.cells [.sl .full [],.i 0] 37):=by
  rw [AHeap.get_alloc_ne (by simp only [nx];omega)]
  exact AHeap.get_alloc_self (H:=H.alloc _)
 have hn0:((((H.alloc (.cells (eSc S) 25)).alloc (.cells [.sl .full [],.i 0] 37)).alloc (.cells [.sl .full [],.i (S.meas.length:Int)] 37))).next=H.next+3:=rfl
 generalize (((H.alloc (.cells (eSc S) 25)).alloc (.cells [.sl .full [],.i 0] 37)).alloc (.cells [.sl .full [],.i (S.meas.length:Int)] 37))=G0 at *
 have l1:=AHeap.lt g1
 have l2:=AHeap.lt g2
 refine AW_for [2,3,11,12] (σ:=Unit) (fun (k:Nat) s=>True) (fun k s=>[]) (fun k s=>[(H.next+1+1,.cells [.sl (.own G0.next) (rII ((S.dims.take k).map fun d=>d.tiers.map szT)),.i (S.meas.length:Int)] 37),(G0.next,.tok k 57 1)]) () (GStep.tokCell (H.next+1+1) 0 37 57 1 g1 rfl) (by simp only [keep_nil,keep_cons,Fr.put,Fr.get,↓reduceIte,Nat.reduceEqDiff];rfl) (by intro k s;rfl) (by intro k s;rfl) (by rfl) (by unfold maxLen;omega) ?_ (by simp only [FrL_nil]) ?_ ?_ ?_
 ·trivial
 ·rw [ObjL_cons,ObjL_cons]
  refine ⟨?_,AHeap.get_alloc_self (H:=G0.set _ _),by simp [ObjL]⟩
  rw [AHeap.get_alloc_ne (by simp only [nx];omega)]
  exact AHeap.get_set_self l1
 ·(rintro k s G hk ht hG hn;try simp only [nx] at hn)
  have ho1:=hG.o1
  have ho2:=hG.o2
  have lo1:=AHeap.lt ho1
  have lo2:=AHeap.lt ho2
  obtain ⟨q0,q1,q2,q3⟩:=eDm_facts S.dims[k]
  have hC:=fun G=>sizes_sound S.dims[k] G (hl2 _ (List.getElem_mem hk))
  have hsn:rII ((S.dims.take k).map fun d=>d.tiers.map szT)++[[.sl .no (rI (S.dims[k].tiers.map szT))]]=rII ((S.dims.take (k+1)).map fun d=>d.tiers.map szT):=by rw [take_mapT hk];simp
  have la1:=allLen_rII ((S.dims.take k).map fun d=>d.tiers.map szT)
  have la2:allLen 1 [[AV.sl .no (rI (S.dims[k].tiers.map szT))]]=true:=rfl
  have lm1:k+1≤maxLen:=by unfold maxLen;omega
  have lm2:(k+1) * 24≤140737488355328:=by omega
  have hrl:(rII ((S.dims.take k).map fun d=>d.tiers.map szT)).length=k:=by simp;omega
  ((have hd:=trivial;repeat' (first|((first|apply GdK_st|apply GdK_sf|apply CondK_s)<;>intro hd<;>(try simp only [hd]))|simp (disch:=first|assumption|omega|(simp only [nx]<;>omega)|fail) only [hd,hQr,hQn,c49_0,↓YA,YB,YC,YE,YF,YZ,sevalprocAttr,hk,q0,q3,ho1,ho2,List.length_map]))<;>(try (have hd_:True:=hd;clear hd_ hd)))
  (refine CallK.use (hC _) ?_;rintro _ _ ⟨rfl,k1,rfl⟩)
  ((have hd:=trivial;repeat' (first|((first|apply GdK_st|apply GdK_sf|apply CondK_s)<;>intro hd<;>(try simp only [hd]))|simp (disch:=first|assumption|omega|(simp only [nx]<;>omega)|fail) only [hd,hQr,hQn,c49_0,↓YA,YB,YC,YE,YF,YZ,sevalprocAttr,hk,q0,q3,ho1,ho2,la1,la2,lm1,lm2,hrl,rowsIn,rowsOf,List.length_map,List.length_singleton]))<;>(try (have hd_:True:=hd;clear hd_ hd)))
  rw [hsn]
  exact ⟨(),hG.alloc.bump.put2 (by omega)⟩
 ·(rintro s G ht hG hn;try simp only [nx] at hn)
  have ho1:=hG.o1
  have hc:=(hG.g (H.next+1) (by simp only [nx];omega) (by simp;omega)).trans ((AHeap.get_alloc_ne (by simp only [nx];omega)).trans ((AHeap.get_set_ne (by omega)).trans g2))
  have lo1:=AHeap.lt ho1
  have lc:=AHeap.lt hc
  rw [List.take_length] at ho1
  ((have hd:=trivial;repeat' (first|((first|apply GdK_st|apply GdK_sf|apply CondK_s)<;>intro hd<;>(try simp only [hd]))|simp (disch:=first|assumption|omega|(simp only [nx]<;>omega)|fail) only [hd,hQr,hQn,c49_0,↓YA,YB,YC,YE,YF,YZ,sevalprocAttr,ho1,hc]))<;>(try (have hd_:True:=hd;clear hd_ hd)))
  exact fin_wkn (wkn_shp _ (shpS S)) ((hG.extO ((hx0.set (by omega)).alloc) (by simp;omega)).set (by omega))
def cmpI (a b:Int):Int:=if a<b then -1 else if a > b then 1 else 0
theorem cmpi_sound (a b:Int) (H:AHeap):Sound Tryz.prog 139 [.i a,.i b] H (Pure H (.i (cmpI a b))):=by
 have hN:∀ n H,Sound Tryz.prog 162 [.i n] H (Pure H (.b false)):=fun n H=>by
  refine fn_soundQ hE cf162 (Nat.le_of_ble_eq_true rfl) fun Q hQr hQn=>?_
  ((have hd:=trivial;repeat' (first|((first|apply GdK_st|apply GdK_sf|apply CondK_s)<;>intro hd<;>(try simp only [hd]))|simp (disch:=first|assumption|omega|(simp only [nx]<;>omega)|fail) only [hd,hQr,hQn,c162_0,↓YA,YB,YC,YE,YF,YZ,sevalprocAttr]))<;>(try (have hd_:True:=hd;clear hd_ hd)))
  refine fin_bA (by rfl)
 refine fn_soundQ hE cf139 (Nat.le_of_ble_eq_true rfl) fun Q hQr hQn=>?_
 ((have hd:=trivial;repeat' (first|((first|apply GdK_st|apply GdK_sf|apply CondK_s)<;>intro hd<;>(try simp only [hd]))|simp (disch:=first|assumption|omega|(simp only [nx]<;>omega)|fail) only [hd,hQr,hQn,c139_0,↓YA,YB,YC,YE,YF,YZ,sevalprocAttr]))<;>(try (have hd_:True:=hd;clear hd_ hd)))
 (refine CallK.use (hN _ _) ?_;rintro _ _ ⟨rfl,k1,rfl⟩)
 ((have hd:=trivial;repeat' (first|((first|apply GdK_st|apply GdK_sf|apply CondK_s)<;>intro hd<;>(try simp only [hd]))|simp (disch:=first|assumption|omega|(simp only [nx]<;>omega)|fail) only [hd,hQr,hQn,c139_0,↓YA,YB,YC,YE,YF,YZ,sevalprocAttr]))<;>(try (have hd_:True:=hd;clear hd_ hd)))
 (refine CallK.use (hN _ _) ?_;rintro _ _ ⟨rfl,k2,rfl⟩)
 ((have hd:=trivial;repeat' (first|((first|apply GdK_st|apply GdK_sf|apply CondK_s)<;>intro hd<;>(try simp only [hd]))|simp (disch:=first|assumption|omega|(simp only [nx]<;>omega)|fail) only [hd,hQr,hQn,c139_0,↓YA,YB,YC,YE,YF,YZ,sevalprocAttr]))<;>(try (have hd_:True:=hd;clear hd_ hd)))
 ·refine fin_iA (by unfold cmpI;grind)
 ·refine fin_iA (by unfold cmpI;grind)
 ·refine fin_iA (by unfold cmpI;grind)
def cmpL:List Int→List Int→Int
 | [],[]=>0
 | [],_ :: _ => -1
 | _ :: _,[]=>1
 | a :: r,b :: t=>if cmpI a b≠0 then cmpI a b else cmpL r t
set_option maxHeartbeats 1000000 in
theorem cmpl_sound (t u:Tok) (a b:List Int) (H:AHeap) (hl:a.length≤1000000):Sound Tryz.prog 134 [.sl t (rI a),.sl u (rI b)] H (Pure H (.i (cmpL a b))):=by
 generalize hT:cmpL a b=T
 refine fn_soundQ hE cf134 (Nat.le_of_ble_eq_true rfl) fun Q hQr hQn=>?_
 ((have hd:=trivial;repeat' (first|((first|apply GdK_st|apply GdK_sf|apply CondK_s)<;>intro hd<;>(try simp only [hd]))|simp (disch:=first|assumption|omega|(simp only [nx]<;>omega)|fail) only [hd,hQr,hQn,c134_0,↓YA,YB,YC,YE,YF,YZ,sevalprocAttr,List.length_map]))<;>(try (have hd_:True:=hd;clear hd_ hd)))
 refine AW_for [0,1,9,10] (σ:=Unit) (fun (k:Nat) s=>T=cmpL (a.drop k) (b.drop k)∧k≤b.length) (fun k s=>[]) (fun k s=>[]) () (GStep.refl _ _) (by simp only [keep_nil,keep_cons,Fr.put,Fr.get,↓reduceIte,Nat.reduceEqDiff];rfl) (by intro k s;rfl) (by intro k s;rfl) (by rfl) (by unfold maxLen;omega) ?_ (by simp only [FrL_nil]) (by simp only [ObjL_nil]) ?_ ?_
 ·exact ⟨hT.symm,Nat.zero_le _⟩
 ·(rintro k s G hk ⟨ht,hb⟩ hG hn;try simp only [nx] at hn)
  rw [List.drop_eq_getElem_cons hk] at ht
  by_cases h1:k<b.length
  ·have d1:decide ((k:Int)≥(b.length:Int))=false:=decide_eq_false (by omega)
   rw [List.drop_eq_getElem_cons h1,cmpL] at ht
   have hC:=fun G=>cmpi_sound a[k] b[k] G
   generalize cmpI a[k] b[k]=c at *
   by_cases h2:c≠0
   ·have d2:(c != 0)=true:=by simpa using h2
    rw [if_pos h2] at ht
    ((have hd:=trivial;repeat' (first|((first|apply GdK_st|apply GdK_sf|apply CondK_s)<;>intro hd<;>(try simp only [hd]))|simp (disch:=first|assumption|omega|(simp only [nx]<;>omega)|fail) only [hd,hQr,hQn,c134_0,↓YA,YB,YC,YE,YF,YZ,sevalprocAttr,hk,h1,d1,List.length_map]))<;>(try (have hd_:True:=hd;clear hd_ hd)))
    (refine CallK.use (hC _) ?_;rintro _ _ ⟨rfl,k1,rfl⟩)
    ((have hd:=trivial;repeat' (first|((first|apply GdK_st|apply GdK_sf|apply CondK_s)<;>intro hd<;>(try simp only [hd]))|simp (disch:=first|assumption|omega|(simp only [nx]<;>omega)|fail) only [hd,hQr,hQn,c134_0,↓YA,YB,YC,YE,YF,YZ,sevalprocAttr,d2]))<;>(try (have hd_:True:=hd;clear hd_ hd)))
    refine fin_iA (by rw [ht])
   ·have d2:(c != 0)=false:=by simpa using h2
    rw [if_neg h2] at ht
    ((have hd:=trivial;repeat' (first|((first|apply GdK_st|apply GdK_sf|apply CondK_s)<;>intro hd<;>(try simp only [hd]))|simp (disch:=first|assumption|omega|(simp only [nx]<;>omega)|fail) only [hd,hQr,hQn,c134_0,↓YA,YB,YC,YE,YF,YZ,sevalprocAttr,hk,h1,d1,List.length_map]))<;>(try (have hd_:True:=hd;clear hd_ hd)))
    (refine CallK.use (hC _) ?_;rintro _ _ ⟨rfl,k1,rfl⟩)
    ((have hd:=trivial;repeat' (first|((first|apply GdK_st|apply GdK_sf|apply CondK_s)<;>intro hd<;>(try simp only [hd]))|simp (disch:=first|assumption|omega|(simp only [nx]<;>omega)|fail) only [hd,hQr,hQn,c134_0,↓YA,YB,YC,YE,YF,YZ,sevalprocAttr,d2]))<;>(try (have hd_:True:=hd;clear hd_ hd)))
    refine ⟨(),by exact ⟨ht,by omega⟩,by exact HXT⟩
  ·have d1:decide ((k:Int)≥(b.length:Int))=true:=decide_eq_true (by omega)
   have e0:b.drop k=[]:=List.drop_eq_nil_of_le (by omega)
   rw [e0] at ht
   simp only [cmpL] at ht
   ((have hd:=trivial;repeat' (first|((first|apply GdK_st|apply GdK_sf|apply CondK_s)<;>intro hd<;>(try simp only [hd]))|simp (disch:=first|assumption|omega|(simp only [nx]<;>omega)|fail) only [hd,hQr,hQn,c134_0,↓YA,YB,YC,YE,YF,YZ,sevalprocAttr,hk,d1,List.length_map]))<;>(try (have hd_:True:=hd;clear hd_ hd)))
   refine fin_iA (by rw [ht])
 ·(rintro s G ⟨ht,hb⟩ hG hn;try simp only [nx] at hn)
  rw [List.drop_length] at ht
  by_cases h1:a.length<b.length
  ·have d1:decide ((a.length:Int)<(b.length:Int))=true:=decide_eq_true (by omega)
   rw [List.drop_eq_getElem_cons h1,cmpL] at ht
   ((have hd:=trivial;repeat' (first|((first|apply GdK_st|apply GdK_sf|apply CondK_s)<;>intro hd<;>(try simp only [hd]))|simp (disch:=first|assumption|omega|(simp only [nx]<;>omega)|fail) only [hd,hQr,hQn,c134_0,↓YA,YB,YC,YE,YF,YZ,sevalprocAttr,d1,List.length_map]))<;>(try (have hd_:True:=hd;clear hd_ hd)))
   refine fin_iA (by rw [ht])
  ·have d1:decide ((a.length:Int)<(b.length:Int))=false:=decide_eq_false (by omega)
   have e0:b.drop a.length=[]:=List.drop_eq_nil_of_le (by omega)
   rw [e0] at ht
   simp only [cmpL] at ht
   ((have hd:=trivial;repeat' (first|((first|apply GdK_st|apply GdK_sf|apply CondK_s)<;>intro hd<;>(try simp only [hd]))|simp (disch:=first|assumption|omega|(simp only [nx]<;>omega)|fail) only [hd,hQr,hQn,c134_0,↓YA,YB,YC,YE,YF,YZ,sevalprocAttr,d1,List.length_map]))<;>(try (have hd_:True:=hd;clear hd_ hd)))
   refine fin_iA (by rw [ht])
end Go.Proofs.YtaapiigfmdhobaaGreat
