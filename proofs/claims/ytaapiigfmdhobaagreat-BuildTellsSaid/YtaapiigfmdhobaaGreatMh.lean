/- Texts of the walk, joined: T1 T2 T3 T4 T5 T6 T7 T8 T9. -/
import Derived.Test.YtaapiigfmdhobaaGreatMg
import Derived.Test.YtaapiigfmdhobaaGreatMd
import Derived.Test.YtaapiigfmdhobaaGreatMe
namespace Go.Proofs.YtaapiigfmdhobaaGreat
set_option linter.unusedSimpArgs false
set_option linter.unusedVariables false
open Go.RowKit
def eAg (a:Ag):List AV:=[.i a.n,.i a.s0,.i a.l0,.i a.h0,.i a.s1,.i a.l1,.i a.h1,.i a.s2,.i a.l2,.i a.h2]
def eCel (c:Cel):List AV:=[.i c.key,.i c.child,.i c.agg.n,.i c.agg.s0,.i c.agg.l0,.i c.agg.h0,.i c.agg.s1,.i c.agg.l1,.i c.agg.h1,.i c.agg.s2,.i c.agg.l2,.i c.agg.h2]
theorem last_sound (tok:Tok) (x:Shp) (dim:Int) (H:AHeap) (hl:x.sizes.length≤1000000):Sound Tryz.prog 62 [.agg [.sl tok (rII x.sizes),.i x.measures],.i dim] H (Pure H (.b (lastB x dim))):=by
 refine fn_soundQ hE cf62 (Nat.le_of_ble_eq_true rfl) fun Q hQr hQn=>?_
 ((try simp (disch:=first|assumption|omega|(simp only [nx_alloc,nx_bump,nx_set]<;>omega)|fail) only [↓YA,YB,YC,YZ,YF,↓reduceIte,Nat.reduceEqDiff,Nat.reduceAdd,Nat.reduceMul,Nat.reduceLeDiff,hQr,hQn,c62_0,List.length_map]);repeat' ((first|apply GdK_st|apply GdK_sf|apply CondK_s)<;>intro hd<;>(try simp only [hd])<;>(try simp (disch:=first|assumption|omega|(simp only [nx_alloc,nx_bump,nx_set]<;>omega)|fail) only [↓YA,YB,YC,YZ,YF,↓reduceIte,Nat.reduceEqDiff,Nat.reduceAdd,Nat.reduceMul,Nat.reduceLeDiff,hQr,hQn,hd,c62_0,List.length_map])))
 exact fin_pure (AHeap.Ext.refl H).alloc rfl
theorem vEq_int (a b:Int):vEq (.int .i64 a) (.int .i64 b)=decide (a=b):=by by_cases h:a=b<;>simp [vEq,h]
set_option maxHeartbeats 1000000 in
theorem pmay_sound (m : Int) (a : Ag) (H : AHeap) : Sound Tryz.prog 133 [.i m, .agg (eAg a)] H (Pure H (.b (aggMay m a))) := by
  refine fn_soundQ hE cf133 (Nat.le_of_ble_eq_true rfl) fun Q hQr hQn => ?_
  have hx : AHeap.Ext H (H.alloc (.cells (eAg a) 54)) := (AHeap.Ext.refl H).alloc
  unfold eAg at hx ⊢
  ((try simp (disch := first | assumption | omega | (simp only [nx_alloc, nx_bump, nx_set] <;> omega) | fail) only [↓YA, YB, YC, YZ, YF, ↓reduceIte, Nat.reduceEqDiff, Nat.reduceAdd, Nat.reduceMul, Nat.reduceLeDiff, hQr, hQn, c133_0]); repeat' ((first | refine GdK_st (fun hd => ?_) (fun hd => ?_) | refine GdK_sf (fun hd => ?_) (fun hd => ?_) | refine CondK_s (fun hd => ?_) (fun hd => ?_)) <;> (try simp only [hd]) <;> (try simp (disch := first | assumption | omega | (simp only [nx_alloc, nx_bump, nx_set] <;> omega) | fail) only [↓YA, YB, YC, YZ, YF, ↓reduceIte, Nat.reduceEqDiff, Nat.reduceAdd, Nat.reduceMul, Nat.reduceLeDiff, hQr, hQn, hd, c133_0])))
  case refine_1.refine_1.refine_2 =>
    rename_i h0 h1
    have h0 : 0 ≤ m := by simpa using h0
    have h1 : m ≤ 3 := by simpa using h1
    have h2 : 1 ≤ a.n := by simp at hd; omega
    rw [tail0 h0 h1 h2] at hQr hQn
    refine AW_forI (N := 3) (fun k F G => Fr.get F 20 = .i (k : Int) ∧ Fr.get F 0 = .i m ∧ Fr.get F 3 = .ptr H.next 0 ∧ Fr.get F 19 = .agg [.i a.s0, .i a.l0, .i a.h0, .i a.s1, .i a.l1, .i a.h1, .i a.s2, .i a.l2, .i a.h2] ∧ AHeap.Ext H G ∧ G.get H.next = some (.cells (eAg a) 54) ∧ tailMay 0 m a = tailMay k m a) (by unfold maxLen; omega) (fun k F G h => ⟨h.1, rfl⟩) (GStep.refl _ _) ?_ ?_ ?_
    · refine ⟨rfl, rfl, rfl, rfl, hx, AHeap.get_alloc_self (H := H), rfl⟩
    · rintro k F G hk ⟨f20, f0, f3, f19, hxG, hg, ht⟩
      rw [tail_step hk] at ht
      have hgl := AHeap.lt hg
      have hg0 := hg
      unfold eAg at hg
      obtain rfl | rfl | rfl : k = 0 ∨ k = 1 ∨ k = 2 := by omega
      all_goals
        first | (replace f20 : Fr.get F 20 = .i 0 := f20) | (replace f20 : Fr.get F 20 = .i 1 := f20) | (replace f20 : Fr.get F 20 = .i 2 := f20)
        ((try simp (disch := first | assumption | omega | (simp only [nx_alloc, nx_bump, nx_set] <;> omega) | fail) only [↓YA, YB, YC, YZ, YF, ↓reduceIte, Nat.reduceEqDiff, Nat.reduceAdd, Nat.reduceMul, Nat.reduceLeDiff, hQr, hQn, c133_0, f20, f0, f3, f19, hg, eAg, Int.cast_ofNat_Int, Int.reduceLE, Int.reduceLT, Int.reduceToNat, Nat.reduceMul, scs, SK.is, vsEq, vEq_int, Int.reduceSub]); repeat' ((first | refine GdK_st (fun hd => ?_) (fun hd => ?_) | refine GdK_sf (fun hd => ?_) (fun hd => ?_) | refine CondK_s (fun hd => ?_) (fun hd => ?_)) <;> (try simp only [hd]) <;> (try simp (disch := first | assumption | omega | (simp only [nx_alloc, nx_bump, nx_set] <;> omega) | fail) only [↓YA, YB, YC, YZ, YF, ↓reduceIte, Nat.reduceEqDiff, Nat.reduceAdd, Nat.reduceMul, Nat.reduceLeDiff, hQr, hQn, hd, c133_0, f20, f0, f3, f19, hg, eAg, Int.cast_ofNat_Int, Int.reduceLE, Int.reduceLT, Int.reduceToNat, Nat.reduceMul, scs, SK.is, vsEq, vEq_int, Int.reduceSub])))
      all_goals have hxn := hxG.next
      all_goals first
        | (refine fin_b ?_ ?_
           · (repeat (first | assumption | exact AHeap.Ext.refl _ | refine AHeap.Ext.set ?_ (by first | assumption | omega | (simp only [nx_alloc, nx_bump, nx_set]; omega)) | refine AHeap.Ext.alloc ?_ | refine AHeap.Ext.bump ?_))
           · rw [ht]; simp only [prtMay, Ag.prt]; grind)
        | (refine ⟨?_, ?_⟩
           · (repeat (first | assumption | exact AHeap.Ext.refl _ | refine AHeap.Ext.set ?_ (by first | assumption | omega | (simp only [nx_alloc, nx_bump, nx_set]; omega)) | refine AHeap.Ext.alloc ?_ | refine AHeap.Ext.bump ?_))
           · rw [ht]; simp only [prtMay, Ag.prt]; grind)
    · rintro F G ⟨f20, f0, f3, f19, hxG, hg, ht⟩
      ((try simp (disch := first | assumption | omega | (simp only [nx_alloc, nx_bump, nx_set] <;> omega) | fail) only [↓YA, YB, YC, YZ, YF, ↓reduceIte, Nat.reduceEqDiff, Nat.reduceAdd, Nat.reduceMul, Nat.reduceLeDiff, hQr, hQn, c133_0]); repeat' ((first | refine GdK_st (fun hd => ?_) (fun hd => ?_) | refine GdK_sf (fun hd => ?_) (fun hd => ?_) | refine CondK_s (fun hd => ?_) (fun hd => ?_)) <;> (try simp only [hd]) <;> (try simp (disch := first | assumption | omega | (simp only [nx_alloc, nx_bump, nx_set] <;> omega) | fail) only [↓YA, YB, YC, YZ, YF, ↓reduceIte, Nat.reduceEqDiff, Nat.reduceAdd, Nat.reduceMul, Nat.reduceLeDiff, hQr, hQn, hd, c133_0])))
      exact fin_b hxG (by rw [ht]; rfl)
  all_goals
    refine fin_b hx ?_
    unfold aggMay
    grind
theorem ag0_iff (a:Ag):(decide (a.n=0)&&(decide (a.s0=0)&&(decide (a.l0=0)&&(decide (a.h0=0)&&(decide (a.s1=0)&&(decide (a.l1=0)&&(decide (a.h1=0)&&(decide (a.s2=0)&&(decide (a.l2=0)&&(decide (a.h2=0)&&true))))))))))=decide (a=ag0):=by
 obtain ⟨n,s0,l0,h0,s1,l1,h1,s2,l2,h2⟩:=a
 rw [Bool.eq_iff_iff]
 simp [ag0]
theorem cell_sound (tok:Tok) (x:Shp) (dim:Int) (c:Cel) (H:AHeap) (hl:x.sizes.length≤1000000):Sound Tryz.prog 151 [.agg [.sl tok (rII x.sizes),.i x.measures],.i dim,.agg (eCel c)] H (Pure H (.b (cellOk x dim c))):=by
 refine fn_soundQ hE cf151 (Nat.le_of_ble_eq_true rfl) fun Q hQr hQn=>?_
 have e2:(3:Nat)=3:=rfl
 unfold eCel
 ((try simp (disch:=first|assumption|omega|(simp only [nx_alloc,nx_bump,nx_set]<;>omega)|fail) only [↓YA,YB,YC,YZ,YF,↓reduceIte,Nat.reduceEqDiff,Nat.reduceAdd,Nat.reduceMul,Nat.reduceLeDiff,hQr,hQn,c151_0]);repeat' ((first|apply GdK_st|apply GdK_sf|apply CondK_s)<;>intro hd<;>(try simp only [hd])<;>(try simp (disch:=first|assumption|omega|(simp only [nx_alloc,nx_bump,nx_set]<;>omega)|fail) only [↓YA,YB,YC,YZ,YF,↓reduceIte,Nat.reduceEqDiff,Nat.reduceAdd,Nat.reduceMul,Nat.reduceLeDiff,hQr,hQn,hd,c151_0])))
 refine CallK.use (last_sound tok x dim _ hl) ?_
 rintro r H' ⟨rfl,k,rfl⟩
 cases hb:lastB x dim with
 | true =>
  ((try simp (disch:=first|assumption|omega|(simp only [nx_alloc,nx_bump,nx_set]<;>omega)|fail) only [↓YA,YB,YC,YZ,YF,↓reduceIte,Nat.reduceEqDiff,Nat.reduceAdd,Nat.reduceMul,Nat.reduceLeDiff,hQr,hQn,c151_0,hb]);repeat' ((first|apply GdK_st|apply GdK_sf|apply CondK_s)<;>intro hd<;>(try simp only [hd])<;>(try simp (disch:=first|assumption|omega|(simp only [nx_alloc,nx_bump,nx_set]<;>omega)|fail) only [↓YA,YB,YC,YZ,YF,↓reduceIte,Nat.reduceEqDiff,Nat.reduceAdd,Nat.reduceMul,Nat.reduceLeDiff,hQr,hQn,hd,c151_0,hb])))
  ·refine CallK.use (pmay_sound x.measures c.agg _) ?_
   rintro r H' ⟨rfl,k2,rfl⟩
   ((try simp (disch:=first|assumption|omega|(simp only [nx_alloc,nx_bump,nx_set]<;>omega)|fail) only [↓YA,YB,YC,YZ,YF,↓reduceIte,Nat.reduceEqDiff,Nat.reduceAdd,Nat.reduceMul,Nat.reduceLeDiff,hQr,hQn]);repeat' ((first|apply GdK_st|apply GdK_sf|apply CondK_s)<;>intro hd<;>(try simp only [hd])<;>(try simp (disch:=first|assumption|omega|(simp only [nx_alloc,nx_bump,nx_set]<;>omega)|fail) only [↓YA,YB,YC,YZ,YF,↓reduceIte,Nat.reduceEqDiff,Nat.reduceAdd,Nat.reduceMul,Nat.reduceLeDiff,hQr,hQn,hd])))
   refine fin_b ?_ ?_
   ·(repeat (first|assumption|exact AHeap.Ext.refl _|refine AHeap.Ext.set ?_ (by first|assumption|omega|(simp only [nx_alloc,nx_bump,nx_set];omega))|refine AHeap.Ext.alloc ?_|refine AHeap.Ext.bump ?_))
   ·unfold cellOk;rw [hb];grind
  ·refine fin_b ?_ ?_
   ·(repeat (first|assumption|exact AHeap.Ext.refl _|refine AHeap.Ext.set ?_ (by first|assumption|omega|(simp only [nx_alloc,nx_bump,nx_set];omega))|refine AHeap.Ext.alloc ?_|refine AHeap.Ext.bump ?_))
   ·unfold cellOk;rw [hb];grind
 | false =>
  ((try simp (disch:=first|assumption|omega|(simp only [nx_alloc,nx_bump,nx_set]<;>omega)|fail) only [↓YA,YB,YC,YZ,YF,↓reduceIte,Nat.reduceEqDiff,Nat.reduceAdd,Nat.reduceMul,Nat.reduceLeDiff,hQr,hQn,c151_0,hb,scs,SK.is,vsEq,vEq_int,ag0_iff]);repeat' ((first|apply GdK_st|apply GdK_sf|apply CondK_s)<;>intro hd<;>(try simp only [hd])<;>(try simp (disch:=first|assumption|omega|(simp only [nx_alloc,nx_bump,nx_set]<;>omega)|fail) only [↓YA,YB,YC,YZ,YF,↓reduceIte,Nat.reduceEqDiff,Nat.reduceAdd,Nat.reduceMul,Nat.reduceLeDiff,hQr,hQn,hd,c151_0,hb,scs,SK.is,vsEq,vEq_int,ag0_iff])))
  all_goals
   refine fin_b ?_ ?_
   ·(repeat (first|assumption|exact AHeap.Ext.refl _|refine AHeap.Ext.set ?_ (by first|assumption|omega|(simp only [nx_alloc,nx_bump,nx_set];omega))|refine AHeap.Ext.alloc ?_|refine AHeap.Ext.bump ?_))
   ·unfold cellOk;rw [hb];grind
abbrev rC (l:List Cel):List (List AV):=l.map eCel
theorem rC_get {l:List Cel} {k:Nat} (h:k<l.length):(rC l)[k]?=some (eCel l[k]):=by simp [h]
set_option maxHeartbeats 1000000 in
theorem list_sound (tok tok2:Tok) (x:Shp) (dim size:Int) (l:List Cel) (H:AHeap) (hl:x.sizes.length≤1000000) (hl2:l.length≤100000000):Sound Tryz.prog 150 [.agg [.sl tok (rII x.sizes),.i x.measures],.i dim,.i size,.sl tok2 (rC l)] H (Pure H (.i (listErr0 x dim size l))):=by
 refine fn_soundQ hE cf150 (Nat.le_of_ble_eq_true rfl) fun Q hQr hQn=>?_
 ((try simp (disch:=first|assumption|omega|(simp only [nx_alloc,nx_bump,nx_set]<;>omega)|fail) only [↓YA,YB,YC,YZ,YF,↓reduceIte,Nat.reduceEqDiff,Nat.reduceAdd,Nat.reduceMul,Nat.reduceLeDiff,hQr,hQn,c150_0,List.length_map]);repeat' ((first|refine GdK_st (fun hd=>?_) (fun hd=>?_)|refine GdK_sf (fun hd=>?_) (fun hd=>?_)|refine CondK_s (fun hd=>?_) (fun hd=>?_))<;>(try simp only [hd])<;>(try simp (disch:=first|assumption|omega|(simp only [nx_alloc,nx_bump,nx_set]<;>omega)|fail) only [↓YA,YB,YC,YZ,YF,↓reduceIte,Nat.reduceEqDiff,Nat.reduceAdd,Nat.reduceMul,Nat.reduceLeDiff,hQr,hQn,hd,c150_0,List.length_map])))
 ·refine fin_i ?_ ?_
  ·(repeat (first|assumption|exact AHeap.Ext.refl _|refine AHeap.Ext.set ?_ (by first|assumption|omega|(simp only [nx_alloc,nx_bump,nx_set];omega))|refine AHeap.Ext.alloc ?_|refine AHeap.Ext.bump ?_))
  ·unfold listErr0;grind
 ·have hne:l.length≠0:=by simp at hd;simpa using hd
  have hle:listErr0 x dim size l=listErr x dim size (keyAhead l 0) (l.drop 0):=by unfold listErr0;rw [if_neg hne];rfl
  generalize listErr0 x dim size l=T at *
  refine AW_forI (N:=l.length) (fun k F G=>Fr.get F 16=.i (k:Int)∧Fr.get F 15=.i (l.length:Int)∧Fr.get F 14=.sl tok2 (rC l)∧Fr.get F 3=.sl tok2 (rC l)∧Fr.get F 1=.i dim∧Fr.get F 2=.i size∧Fr.get F 4=.ptr H.next 0∧AHeap.Ext H G∧G.get H.next=some (.cells [.sl tok (rII x.sizes),.i x.measures] 37)∧T=listErr x dim size (keyAhead l k) (l.drop k)) (by unfold maxLen;omega) (fun k F G h=>⟨h.1,h.2.1⟩) (GStep.refl _ _) ?_ ?_ ?_
  ·refine ⟨rfl,rfl,rfl,rfl,rfl,rfl,rfl,(AHeap.Ext.refl H).alloc,AHeap.get_alloc_self (H:=H),hle⟩
  ·rintro k F G hk ⟨f16,f15,f14,f3,f1,f2,f4,hxG,hg,ht⟩
   rw [listErr_step x dim size l k hk] at ht
   have hgl:=AHeap.lt hg
   have hxn:=hxG.next
   have hr:=rC_get hk
   have h0:(0:Int)≤k:=by omega
   have fin:∀ (b:Bool),b=cellOk x dim l[k]→overK (keyAhead l k) l[k].key=false→(l[k].key<0)=False→(size≤l[k].key)=False→T=if b=false then 2 else listErr x dim size (keyAhead l (k+1)) (l.drop (k+1)):=by
    intro b hb h1 h2 h3
    rw [ht,hb,h1]
    simp [h2,h3]
   by_cases hk0:k=0
   ·have d0:decide ((k:Int) > 0)=false:=by simp;omega
    have ho:overK (keyAhead l k) l[k].key=false:=by subst hk0;rfl
    rw [ho] at ht
    have hr':=hr
    unfold eCel at hr
    ((try simp (disch:=first|assumption|omega|(simp only [nx_alloc,nx_bump,nx_set]<;>omega)|fail) only [↓YA,YB,YC,YZ,YF,↓reduceIte,Nat.reduceEqDiff,Nat.reduceAdd,Nat.reduceMul,Nat.reduceLeDiff,hQr,hQn,c150_0,f16,f14,f3,f1,f2,f4,hg,hr,h0,d0]);repeat' ((first|refine GdK_st (fun hd=>?_) (fun hd=>?_)|refine GdK_sf (fun hd=>?_) (fun hd=>?_)|refine CondK_s (fun hd=>?_) (fun hd=>?_))<;>(try simp only [hd])<;>(try simp (disch:=first|assumption|omega|(simp only [nx_alloc,nx_bump,nx_set]<;>omega)|fail) only [↓YA,YB,YC,YZ,YF,↓reduceIte,Nat.reduceEqDiff,Nat.reduceAdd,Nat.reduceMul,Nat.reduceLeDiff,hQr,hQn,hd,c150_0,f16,f14,f3,f1,f2,f4,hg,hr,h0,d0])))
    case refine_1.refine_2 =>
     refine CallK.use (cell_sound tok x dim l[k] _ hl) ?_
     rintro r H' ⟨rfl,k2,rfl⟩
     cases hb:cellOk x dim l[k] with
     | true =>
      ((try simp (disch:=first|assumption|omega|(simp only [nx_alloc,nx_bump,nx_set]<;>omega)|fail) only [↓YA,YB,YC,YZ,YF,↓reduceIte,Nat.reduceEqDiff,Nat.reduceAdd,Nat.reduceMul,Nat.reduceLeDiff,hQr,hQn,c150_0,hb,f16,f15,f14,f3,f1,f2,f4,hg]);repeat' ((first|refine GdK_st (fun hd=>?_) (fun hd=>?_)|refine GdK_sf (fun hd=>?_) (fun hd=>?_)|refine CondK_s (fun hd=>?_) (fun hd=>?_))<;>(try simp only [hd])<;>(try simp (disch:=first|assumption|omega|(simp only [nx_alloc,nx_bump,nx_set]<;>omega)|fail) only [↓YA,YB,YC,YZ,YF,↓reduceIte,Nat.reduceEqDiff,Nat.reduceAdd,Nat.reduceMul,Nat.reduceLeDiff,hQr,hQn,hd,c150_0,hb,f16,f15,f14,f3,f1,f2,f4,hg])))
      refine ⟨?_,?_⟩
      ·(repeat (first|assumption|exact AHeap.Ext.refl _|refine AHeap.Ext.set ?_ (by first|assumption|omega|(simp only [nx_alloc,nx_bump,nx_set];omega))|refine AHeap.Ext.alloc ?_|refine AHeap.Ext.bump ?_))
      ·grind
     | false =>
      ((try simp (disch:=first|assumption|omega|(simp only [nx_alloc,nx_bump,nx_set]<;>omega)|fail) only [↓YA,YB,YC,YZ,YF,↓reduceIte,Nat.reduceEqDiff,Nat.reduceAdd,Nat.reduceMul,Nat.reduceLeDiff,hQr,hQn,c150_0,hb,f16,f15,f14,f3,f1,f2,f4,hg]);repeat' ((first|refine GdK_st (fun hd=>?_) (fun hd=>?_)|refine GdK_sf (fun hd=>?_) (fun hd=>?_)|refine CondK_s (fun hd=>?_) (fun hd=>?_))<;>(try simp only [hd])<;>(try simp (disch:=first|assumption|omega|(simp only [nx_alloc,nx_bump,nx_set]<;>omega)|fail) only [↓YA,YB,YC,YZ,YF,↓reduceIte,Nat.reduceEqDiff,Nat.reduceAdd,Nat.reduceMul,Nat.reduceLeDiff,hQr,hQn,hd,c150_0,hb,f16,f15,f14,f3,f1,f2,f4,hg])))
      refine fin_i ?_ ?_
      ·(repeat (first|assumption|exact AHeap.Ext.refl _|refine AHeap.Ext.set ?_ (by first|assumption|omega|(simp only [nx_alloc,nx_bump,nx_set];omega))|refine AHeap.Ext.alloc ?_|refine AHeap.Ext.bump ?_))
      ·grind
    all_goals
     refine fin_i ?_ ?_
     ·(repeat (first|assumption|exact AHeap.Ext.refl _|refine AHeap.Ext.set ?_ (by first|assumption|omega|(simp only [nx_alloc,nx_bump,nx_set];omega))|refine AHeap.Ext.alloc ?_|refine AHeap.Ext.bump ?_))
     ·grind
   ·have d0:decide ((k:Int) > 0)=true:=by simp;omega
    have hk1:k - 1<l.length:=by omega
    have ho:overK (keyAhead l k) l[k].key=decide (l[k].key≤l[k - 1].key):=by
     unfold keyAhead
     rw [if_neg hk0,List.getElem?_eq_getElem hk1]
     rfl
    rw [ho] at ht
    have hr1:=rC_get hk1
    have h0i:(0:Int)≤(k:Int) - 1:=by omega
    have hti:((k:Int) - 1).toNat=k - 1:=by omega
    have hr':=hr
    unfold eCel at hr hr1
    ((try simp (disch:=first|assumption|omega|(simp only [nx_alloc,nx_bump,nx_set]<;>omega)|fail) only [↓YA,YB,YC,YZ,YF,↓reduceIte,Nat.reduceEqDiff,Nat.reduceAdd,Nat.reduceMul,Nat.reduceLeDiff,hQr,hQn,c150_0,f16,f14,f3,f1,f2,f4,hg,hr,h0,d0,h0i,hti,hr1]);repeat' ((first|refine GdK_st (fun hd=>?_) (fun hd=>?_)|refine GdK_sf (fun hd=>?_) (fun hd=>?_)|refine CondK_s (fun hd=>?_) (fun hd=>?_))<;>(try simp only [hd])<;>(try simp (disch:=first|assumption|omega|(simp only [nx_alloc,nx_bump,nx_set]<;>omega)|fail) only [↓YA,YB,YC,YZ,YF,↓reduceIte,Nat.reduceEqDiff,Nat.reduceAdd,Nat.reduceMul,Nat.reduceLeDiff,hQr,hQn,hd,c150_0,f16,f14,f3,f1,f2,f4,hg,hr,h0,d0,h0i,hti,hr1])))
    case refine_1.refine_2.refine_2 =>
     refine CallK.use (cell_sound tok x dim l[k] _ hl) ?_
     rintro r H' ⟨rfl,k2,rfl⟩
     cases hb:cellOk x dim l[k] with
     | true =>
      ((try simp (disch:=first|assumption|omega|(simp only [nx_alloc,nx_bump,nx_set]<;>omega)|fail) only [↓YA,YB,YC,YZ,YF,↓reduceIte,Nat.reduceEqDiff,Nat.reduceAdd,Nat.reduceMul,Nat.reduceLeDiff,hQr,hQn,c150_0,hb,f16,f15,f14,f3,f1,f2,f4,hg]);repeat' ((first|refine GdK_st (fun hd=>?_) (fun hd=>?_)|refine GdK_sf (fun hd=>?_) (fun hd=>?_)|refine CondK_s (fun hd=>?_) (fun hd=>?_))<;>(try simp only [hd])<;>(try simp (disch:=first|assumption|omega|(simp only [nx_alloc,nx_bump,nx_set]<;>omega)|fail) only [↓YA,YB,YC,YZ,YF,↓reduceIte,Nat.reduceEqDiff,Nat.reduceAdd,Nat.reduceMul,Nat.reduceLeDiff,hQr,hQn,hd,c150_0,hb,f16,f15,f14,f3,f1,f2,f4,hg])))
      refine ⟨?_,?_⟩
      ·(repeat (first|assumption|exact AHeap.Ext.refl _|refine AHeap.Ext.set ?_ (by first|assumption|omega|(simp only [nx_alloc,nx_bump,nx_set];omega))|refine AHeap.Ext.alloc ?_|refine AHeap.Ext.bump ?_))
      ·grind
     | false =>
      ((try simp (disch:=first|assumption|omega|(simp only [nx_alloc,nx_bump,nx_set]<;>omega)|fail) only [↓YA,YB,YC,YZ,YF,↓reduceIte,Nat.reduceEqDiff,Nat.reduceAdd,Nat.reduceMul,Nat.reduceLeDiff,hQr,hQn,c150_0,hb,f16,f15,f14,f3,f1,f2,f4,hg]);repeat' ((first|refine GdK_st (fun hd=>?_) (fun hd=>?_)|refine GdK_sf (fun hd=>?_) (fun hd=>?_)|refine CondK_s (fun hd=>?_) (fun hd=>?_))<;>(try simp only [hd])<;>(try simp (disch:=first|assumption|omega|(simp only [nx_alloc,nx_bump,nx_set]<;>omega)|fail) only [↓YA,YB,YC,YZ,YF,↓reduceIte,Nat.reduceEqDiff,Nat.reduceAdd,Nat.reduceMul,Nat.reduceLeDiff,hQr,hQn,hd,c150_0,hb,f16,f15,f14,f3,f1,f2,f4,hg])))
      refine fin_i ?_ ?_
      ·(repeat (first|assumption|exact AHeap.Ext.refl _|refine AHeap.Ext.set ?_ (by first|assumption|omega|(simp only [nx_alloc,nx_bump,nx_set];omega))|refine AHeap.Ext.alloc ?_|refine AHeap.Ext.bump ?_))
      ·grind
    all_goals
     refine fin_i ?_ ?_
     ·(repeat (first|assumption|exact AHeap.Ext.refl _|refine AHeap.Ext.set ?_ (by first|assumption|omega|(simp only [nx_alloc,nx_bump,nx_set];omega))|refine AHeap.Ext.alloc ?_|refine AHeap.Ext.bump ?_))
     ·grind
  ·rintro F G ⟨f16,f15,f14,f3,f1,f2,f4,hxG,hg,ht⟩
   ((try simp (disch:=first|assumption|omega|(simp only [nx_alloc,nx_bump,nx_set]<;>omega)|fail) only [↓YA,YB,YC,YZ,YF,↓reduceIte,Nat.reduceEqDiff,Nat.reduceAdd,Nat.reduceMul,Nat.reduceLeDiff,hQr,hQn,c150_0]);repeat' ((first|refine GdK_st (fun hd=>?_) (fun hd=>?_)|refine GdK_sf (fun hd=>?_) (fun hd=>?_)|refine CondK_s (fun hd=>?_) (fun hd=>?_))<;>(try simp only [hd])<;>(try simp (disch:=first|assumption|omega|(simp only [nx_alloc,nx_bump,nx_set]<;>omega)|fail) only [↓YA,YB,YC,YZ,YF,↓reduceIte,Nat.reduceEqDiff,Nat.reduceAdd,Nat.reduceMul,Nat.reduceLeDiff,hQr,hQn,hd,c150_0])))
   refine fin_i hxG ?_
   rw [ht,List.drop_length]
   cases keyAhead l l.length<;>rfl
abbrev rL (ls:List (List Cel)):List (List AV):=ls.map fun l=>[.sl .no (rC l)]
theorem rL_get {ls:List (List Cel)} {k:Nat} (h:k<ls.length):(rL ls)[k]?=some [.sl .no (rC ls[k])]:=by simp [h]
def eNod (t:Tok) (n:Nod):List AV:=[.i n.dim,.sl t (rL n.lists),.i n.all.key,.i n.all.child,.i n.all.agg.n,.i n.all.agg.s0,.i n.all.agg.l0,.i n.all.agg.h0,.i n.all.agg.s1,.i n.all.agg.l1,.i n.all.agg.h1,.i n.all.agg.s2,.i n.all.agg.l2,.i n.all.agg.h2]
def smallL (ls:List (List Cel)):Prop:=ls.length≤1000000∧∀ l ∈ ls,l.length≤1000000
set_option maxHeartbeats 4000000 in
theorem check_sound (tok t:Tok) (x:Shp) (n:Nod) (H:AHeap) (hl:x.sizes.length≤1000000) (hx:∀ s ∈ x.sizes,s.length≤1000000) (hn:smallL n.lists):Sound Tryz.prog 121 [.agg [.sl tok (rII x.sizes),.i x.measures],.agg (eNod t n)] H (Pure H (.i (checkErr x n))):=by
 refine fn_soundQ hE cf121 (Nat.le_of_ble_eq_true rfl) fun Q hQr hQn=>?_
 obtain ⟨dim,lists,all⟩:=n
 obtain ⟨hn1,hn2⟩:=hn
 simp only at hn1 hn2
 by_cases hdm:0≤dim∧dim<x.sizes.length
 ·obtain ⟨d,rfl⟩:∃ d:Nat,dim=d:=⟨dim.toNat,by omega⟩
  have hd':d<x.sizes.length:=by omega
  have d1:decide ((d:Int)<0)=false:=by simp
  have d2:decide ((d:Int)≥(x.sizes.length:Int))=false:=by simp;omega
  have h0:(0:Int)≤d:=by omega
  have hs:=rII_get hd'
  have hss:=hx _ (List.getElem_mem hd')
  have hT:checkErr x ⟨d,lists,all⟩=if lists.length≠x.sizes[d].length∨lists.length=0 then 2 else if listsErr x d none x.sizes[d] lists≠0 then listsErr x d none x.sizes[d] lists else if all.key≠0∨cellOk x d all=false then 2 else 0:=by
   unfold checkErr
   rw [if_neg (by simp;omega)]
   simp only [Int.toNat_natCast,List.getD_eq_getElem?_getD,List.getElem?_eq_getElem hd',Option.getD_some]
  generalize checkErr x ⟨d,lists,all⟩=T at *
  ((try simp (disch:=first|assumption|omega|(simp only [nx_alloc,nx_bump,nx_set]<;>omega)|fail) only [↓YA,YB,YC,YZ,YF,↓reduceIte,Nat.reduceEqDiff,Nat.reduceAdd,Nat.reduceMul,Nat.reduceLeDiff,hQr,hQn,c121_0,eNod,d1,d2,h0,hs,List.length_map]);repeat' ((first|apply GdK_st|apply GdK_sf|apply CondK_s)<;>intro hd<;>(try simp only [hd])<;>(try simp (disch:=first|assumption|omega|(simp only [nx_alloc,nx_bump,nx_set]<;>omega)|fail) only [↓YA,YB,YC,YZ,YF,↓reduceIte,Nat.reduceEqDiff,Nat.reduceAdd,Nat.reduceMul,Nat.reduceLeDiff,hQr,hQn,hd,c121_0,eNod,d1,d2,h0,hs,List.length_map])))
  any_goals
   refine fin_i ?_ ?_
   ·(repeat (first|assumption|exact AHeap.Ext.refl _|refine AHeap.Ext.set ?_ (by first|assumption|omega|(simp only [nx_alloc,nx_bump,nx_set];omega))|refine AHeap.Ext.alloc ?_|refine AHeap.Ext.bump ?_))
   ·grind
  have e1:lists.length=x.sizes[d].length:=by grind
  have e2:lists.length≠0:=by grind
  rw [if_neg (by omega)] at hT
  generalize hS:listsErr x d none x.sizes[d] lists=S at *
  refine AW_forI (N:=lists.length) (fun k F G=>Fr.get F 41=.i (k:Int)∧Fr.get F 40=.i (lists.length:Int)∧Fr.get F 39=.sl t (rL lists)∧Fr.get F 2=.ptr H.next 0∧Fr.get F 3=.ptr (H.next+1) 0∧AHeap.Ext H G∧G.get H.next=some (.cells [.sl tok (rII x.sizes),.i x.measures] 37)∧G.get (H.next+1)=some (.cells (eNod t ⟨d,lists,all⟩) 115)∧S=listsErr x d (lenAhead lists k) (x.sizes[d].drop k) (lists.drop k)) (by unfold maxLen;omega) (fun k F G h=>⟨h.1,h.2.1⟩) (GStep.refl _ _) ?_ ?_ ?_
  ·refine ⟨rfl,rfl,rfl,rfl,rfl,(AHeap.Ext.refl H).alloc.alloc,?_,AHeap.get_alloc_self (H:=H.alloc _),hS.symm⟩
   rw [AHeap.get_alloc_ne (by simp)]
   exact AHeap.get_alloc_self
  ·rintro k F G hk ⟨f41,f40,f39,f2,f3,hxG,hg,hg2,ht⟩
   have hks:k<x.sizes[d].length:=by omega
   rw [listsErr_step x d x.sizes[d] lists k hk hks] at ht
   have hgl:=AHeap.lt hg2
   have hxn:=hxG.next
   have hr:=rL_get hk
   have hrs:=rI_get hks
   have h0k:(0:Int)≤k:=by omega
   have hlk:=hn2 _ (List.getElem_mem hk)
   unfold eNod at hg2
   ((try simp (disch:=first|assumption|omega|(simp only [nx_alloc,nx_bump,nx_set]<;>omega)|fail) only [↓YA,YB,YC,YZ,YF,↓reduceIte,Nat.reduceEqDiff,Nat.reduceAdd,Nat.reduceMul,Nat.reduceLeDiff,hQr,hQn,c121_0,f41,f39,f2,f3,hg,hg2,hr,hrs,hs,h0,h0k]);repeat' ((first|apply GdK_st|apply GdK_sf|apply CondK_s)<;>intro hd<;>(try simp only [hd])<;>(try simp (disch:=first|assumption|omega|(simp only [nx_alloc,nx_bump,nx_set]<;>omega)|fail) only [↓YA,YB,YC,YZ,YF,↓reduceIte,Nat.reduceEqDiff,Nat.reduceAdd,Nat.reduceMul,Nat.reduceLeDiff,hQr,hQn,hd,c121_0,f41,f39,f2,f3,hg,hg2,hr,hrs,hs,h0,h0k])))
   refine CallK.use (list_sound tok .no x d x.sizes[d][k] lists[k] _ hl (by omega)) ?_
   rintro r H' ⟨rfl,k2,rfl⟩
   generalize hE0:listErr0 x d x.sizes[d][k] lists[k]=E at *
   by_cases hk0:k=0
   ·have d0:decide ((k:Int) > 0)=false:=by simp;omega
    have ho:overN (lenAhead lists k) lists[k].length=false:=by subst hk0;rfl
    rw [ho] at ht
    ((try simp (disch:=first|assumption|omega|(simp only [nx_alloc,nx_bump,nx_set]<;>omega)|fail) only [↓YA,YB,YC,YZ,YF,↓reduceIte,Nat.reduceEqDiff,Nat.reduceAdd,Nat.reduceMul,Nat.reduceLeDiff,hQr,hQn,c121_0,eNod,f41,f40,f39,f2,f3,hg,hg2,hr,d0,h0k]);repeat' ((first|apply GdK_st|apply GdK_sf|apply CondK_s)<;>intro hd<;>(try simp only [hd])<;>(try simp (disch:=first|assumption|omega|(simp only [nx_alloc,nx_bump,nx_set]<;>omega)|fail) only [↓YA,YB,YC,YZ,YF,↓reduceIte,Nat.reduceEqDiff,Nat.reduceAdd,Nat.reduceMul,Nat.reduceLeDiff,hQr,hQn,hd,c121_0,eNod,f41,f40,f39,f2,f3,hg,hg2,hr,d0,h0k])))
    any_goals
     refine fin_i ?_ ?_
     ·(repeat (first|assumption|exact AHeap.Ext.refl _|refine AHeap.Ext.set ?_ (by first|assumption|omega|(simp only [nx_alloc,nx_bump,nx_set];omega))|refine AHeap.Ext.alloc ?_|refine AHeap.Ext.bump ?_))
     ·grind
    refine ⟨?_,?_⟩
    ·(repeat (first|assumption|exact AHeap.Ext.refl _|refine AHeap.Ext.set ?_ (by first|assumption|omega|(simp only [nx_alloc,nx_bump,nx_set];omega))|refine AHeap.Ext.alloc ?_|refine AHeap.Ext.bump ?_))
    ·grind
   ·have d0:decide ((k:Int) > 0)=true:=by simp;omega
    have hk1:k - 1<lists.length:=by omega
    have ho:overN (lenAhead lists k) lists[k].length=decide (lists[k - 1].length<lists[k].length):=by
     unfold lenAhead
     rw [if_neg hk0,List.getElem?_eq_getElem hk1]
     rfl
    rw [ho] at ht
    have hr1:=rL_get hk1
    have h0i:(0:Int)≤(k:Int) - 1:=by omega
    have hti:((k:Int) - 1).toNat=k - 1:=by omega
    ((try simp (disch:=first|assumption|omega|(simp only [nx_alloc,nx_bump,nx_set]<;>omega)|fail) only [↓YA,YB,YC,YZ,YF,↓reduceIte,Nat.reduceEqDiff,Nat.reduceAdd,Nat.reduceMul,Nat.reduceLeDiff,hQr,hQn,c121_0,eNod,f41,f40,f39,f2,f3,hg,hg2,hr,d0,h0k,h0i,hti,hr1,List.length_map]);repeat' ((first|apply GdK_st|apply GdK_sf|apply CondK_s)<;>intro hd<;>(try simp only [hd])<;>(try simp (disch:=first|assumption|omega|(simp only [nx_alloc,nx_bump,nx_set]<;>omega)|fail) only [↓YA,YB,YC,YZ,YF,↓reduceIte,Nat.reduceEqDiff,Nat.reduceAdd,Nat.reduceMul,Nat.reduceLeDiff,hQr,hQn,hd,c121_0,eNod,f41,f40,f39,f2,f3,hg,hg2,hr,d0,h0k,h0i,hti,hr1,List.length_map])))
    any_goals
     refine fin_i ?_ ?_
     ·(repeat (first|assumption|exact AHeap.Ext.refl _|refine AHeap.Ext.set ?_ (by first|assumption|omega|(simp only [nx_alloc,nx_bump,nx_set];omega))|refine AHeap.Ext.alloc ?_|refine AHeap.Ext.bump ?_))
     ·grind
    refine ⟨?_,?_⟩
    ·(repeat (first|assumption|exact AHeap.Ext.refl _|refine AHeap.Ext.set ?_ (by first|assumption|omega|(simp only [nx_alloc,nx_bump,nx_set];omega))|refine AHeap.Ext.alloc ?_|refine AHeap.Ext.bump ?_))
    ·grind
  ·rintro F G ⟨f41,f40,f39,f2,f3,hxG,hg,hg2,ht⟩
   have hS0:S=0:=by rw [ht,List.drop_length,listsErr_end]
   rw [hS0] at hT
   have hgl:=AHeap.lt hg2
   have hxn:=hxG.next
   unfold eNod at hg2
   ((try simp (disch:=first|assumption|omega|(simp only [nx_alloc,nx_bump,nx_set]<;>omega)|fail) only [↓YA,YB,YC,YZ,YF,↓reduceIte,Nat.reduceEqDiff,Nat.reduceAdd,Nat.reduceMul,Nat.reduceLeDiff,hQr,hQn,c121_0,f2,f3,hg,hg2]);repeat' ((first|apply GdK_st|apply GdK_sf|apply CondK_s)<;>intro hd<;>(try simp only [hd])<;>(try simp (disch:=first|assumption|omega|(simp only [nx_alloc,nx_bump,nx_set]<;>omega)|fail) only [↓YA,YB,YC,YZ,YF,↓reduceIte,Nat.reduceEqDiff,Nat.reduceAdd,Nat.reduceMul,Nat.reduceLeDiff,hQr,hQn,hd,c121_0,f2,f3,hg,hg2])))
   any_goals
    refine fin_i ?_ ?_
    ·(repeat (first|assumption|exact AHeap.Ext.refl _|refine AHeap.Ext.set ?_ (by first|assumption|omega|(simp only [nx_alloc,nx_bump,nx_set];omega))|refine AHeap.Ext.alloc ?_|refine AHeap.Ext.bump ?_))
    ·grind
   refine CallK.use (cell_sound tok x d all _ hl) ?_
   rintro r H' ⟨rfl,k2,rfl⟩
   cases hb:cellOk x d all with
   | true =>
    ((try simp (disch:=first|assumption|omega|(simp only [nx_alloc,nx_bump,nx_set]<;>omega)|fail) only [↓YA,YB,YC,YZ,YF,↓reduceIte,Nat.reduceEqDiff,Nat.reduceAdd,Nat.reduceMul,Nat.reduceLeDiff,hQr,hQn,c121_0,hb]);repeat' ((first|apply GdK_st|apply GdK_sf|apply CondK_s)<;>intro hd<;>(try simp only [hd])<;>(try simp (disch:=first|assumption|omega|(simp only [nx_alloc,nx_bump,nx_set]<;>omega)|fail) only [↓YA,YB,YC,YZ,YF,↓reduceIte,Nat.reduceEqDiff,Nat.reduceAdd,Nat.reduceMul,Nat.reduceLeDiff,hQr,hQn,hd,c121_0,hb])))
    refine fin_i ?_ ?_
    ·(repeat (first|assumption|exact AHeap.Ext.refl _|refine AHeap.Ext.set ?_ (by first|assumption|omega|(simp only [nx_alloc,nx_bump,nx_set];omega))|refine AHeap.Ext.alloc ?_|refine AHeap.Ext.bump ?_))
    ·grind
   | false =>
    ((try simp (disch:=first|assumption|omega|(simp only [nx_alloc,nx_bump,nx_set]<;>omega)|fail) only [↓YA,YB,YC,YZ,YF,↓reduceIte,Nat.reduceEqDiff,Nat.reduceAdd,Nat.reduceMul,Nat.reduceLeDiff,hQr,hQn,c121_0,hb]);repeat' ((first|apply GdK_st|apply GdK_sf|apply CondK_s)<;>intro hd<;>(try simp only [hd])<;>(try simp (disch:=first|assumption|omega|(simp only [nx_alloc,nx_bump,nx_set]<;>omega)|fail) only [↓YA,YB,YC,YZ,YF,↓reduceIte,Nat.reduceEqDiff,Nat.reduceAdd,Nat.reduceMul,Nat.reduceLeDiff,hQr,hQn,hd,c121_0,hb])))
    refine fin_i ?_ ?_
    ·(repeat (first|assumption|exact AHeap.Ext.refl _|refine AHeap.Ext.set ?_ (by first|assumption|omega|(simp only [nx_alloc,nx_bump,nx_set];omega))|refine AHeap.Ext.alloc ?_|refine AHeap.Ext.bump ?_))
    ·grind
 ·have hT:checkErr x ⟨dim,lists,all⟩=2:=by unfold checkErr;rw [if_pos (by simp;omega)]
  rw [hT] at hQr hQn
  ((try simp (disch:=first|assumption|omega|(simp only [nx_alloc,nx_bump,nx_set]<;>omega)|fail) only [↓YA,YB,YC,YZ,YF,↓reduceIte,Nat.reduceEqDiff,Nat.reduceAdd,Nat.reduceMul,Nat.reduceLeDiff,hQr,hQn,c121_0,eNod,List.length_map]);repeat' ((first|apply GdK_st|apply GdK_sf|apply CondK_s)<;>intro hd<;>(try simp only [hd])<;>(try simp (disch:=first|assumption|omega|(simp only [nx_alloc,nx_bump,nx_set]<;>omega)|fail) only [↓YA,YB,YC,YZ,YF,↓reduceIte,Nat.reduceEqDiff,Nat.reduceAdd,Nat.reduceMul,Nat.reduceLeDiff,hQr,hQn,hd,c121_0,eNod,List.length_map])))
  all_goals first
   | (refine fin_i ?_ rfl;(repeat (first|assumption|exact AHeap.Ext.refl _|refine AHeap.Ext.set ?_ (by first|assumption|omega|(simp only [nx_alloc,nx_bump,nx_set];omega))|refine AHeap.Ext.alloc ?_|refine AHeap.Ext.bump ?_)))
   | (exfalso;grind)
theorem take_flat {α:Type} {ls:List (List α)} {k:Nat} (h:k<ls.length):(ls.take (k+1)).flatten=(ls.take k).flatten++ls[k]:=by
 rw [List.take_succ_eq_append_getElem h,List.flatten_append,List.flatten_cons,List.flatten_nil,List.append_nil]
theorem flat_le {α:Type} (ls:List (List α)) (k:Nat):(ls.take k).flatten.length≤ls.flatten.length:=by
 conv=>rhs;rw [← List.take_append_drop k ls,List.flatten_append,List.length_append]
 omega
theorem allLen_rC (l:List Cel):allLen 12 (rC l)=true:=allLen_map (f:=eCel) (fun _=>rfl) l
def ConcQ (ls:List (List Cel)) (H:AHeap) (r:AV) (H':AHeap):Prop:=AHeap.Ext H H'∧((ls.flatten=[]∧r=.sl .full [])∨∃ id,r=.sl (.own id) (rC ls.flatten)∧H'.get id=some (.tok ls.flatten.length 113 12)∧H.next≤id)
set_option maxHeartbeats 4000000 in
theorem concat_sound (t:Tok) (ls:List (List Cel)) (H:AHeap) (h1:ls.length≤1000000) (h2:ls.flatten.length≤1000000):Sound Tryz.prog 107 [.sl t (rL ls)] H (ConcQ ls H):=by
 refine fn_soundQ hE cf107 (Nat.le_of_ble_eq_true rfl) fun Q hQr hQn=>?_
 ((try simp (disch:=first|assumption|omega|(simp only [nx_alloc,nx_bump,nx_set]<;>omega)|fail) only [↓YA,YB,YC,YZ,YF,↓reduceIte,Nat.reduceEqDiff,Nat.reduceAdd,Nat.reduceMul,Nat.reduceLeDiff,hQr,hQn,c107_0,List.length_map]);repeat' ((first|apply GdK_st|apply GdK_sf|apply CondK_s)<;>intro hd<;>(try simp only [hd])<;>(try simp (disch:=first|assumption|omega|(simp only [nx_alloc,nx_bump,nx_set]<;>omega)|fail) only [↓YA,YB,YC,YZ,YF,↓reduceIte,Nat.reduceEqDiff,Nat.reduceAdd,Nat.reduceMul,Nat.reduceLeDiff,hQr,hQn,hd,c107_0,List.length_map])))
 refine AW_forI (N:=ls.length) (fun k F G=>Fr.get F 11=.i (k:Int)∧Fr.get F 10=.i (ls.length:Int)∧Fr.get F 9=.sl t (rL ls)∧Fr.get F 0=.sl t (rL ls)∧Fr.get F 3=.i ((ls.take k).flatten.length:Int)∧G=H) (by unfold maxLen;omega) (fun k F G h=>⟨h.1,h.2.1⟩) (GStep.refl _ _) ?_ ?_ ?_
 ·exact ⟨rfl,rfl,rfl,rfl,rfl,rfl⟩
 ·rintro k F G hk ⟨f11,f10,f9,f0,f3,rfl⟩
  have hr:=rL_get hk
  have h0k:(0:Int)≤k:=by omega
  have hf:=flat_le ls (k+1)
  rw [take_flat hk,List.length_append] at hf
  have hw:IntKind.i64.wrap (((ls.take k).flatten.length:Int)+(ls[k].length:Int))=(((ls.take (k+1)).flatten.length:Nat):Int):=by
   rw [take_flat hk,List.length_append,wrap_of (by omega) (by omega)];omega
  have d0:decide ((((ls.take (k+1)).flatten.length:Nat):Int)<0)=false:=by simp
  ((try simp (disch:=first|assumption|omega|(simp only [nx_alloc,nx_bump,nx_set]<;>omega)|fail) only [↓YA,YB,YC,YZ,YF,↓reduceIte,Nat.reduceEqDiff,Nat.reduceAdd,Nat.reduceMul,Nat.reduceLeDiff,hQr,hQn,c107_0,f11,f10,f9,f0,f3,hr,h0k,List.length_map,hw,d0]);repeat' ((first|apply GdK_st|apply GdK_sf|apply CondK_s)<;>intro hd<;>(try simp only [hd])<;>(try simp (disch:=first|assumption|omega|(simp only [nx_alloc,nx_bump,nx_set]<;>omega)|fail) only [↓YA,YB,YC,YZ,YF,↓reduceIte,Nat.reduceEqDiff,Nat.reduceAdd,Nat.reduceMul,Nat.reduceLeDiff,hQr,hQn,hd,c107_0,f11,f10,f9,f0,f3,hr,h0k,List.length_map,hw,d0])))
 ·rintro F G ⟨f11,f10,f9,f0,f3,rfl⟩
  rw [List.take_length] at f3
  ((try simp (disch:=first|assumption|omega|(simp only [nx_alloc,nx_bump,nx_set]<;>omega)|fail) only [↓YA,YB,YC,YZ,YF,↓reduceIte,Nat.reduceEqDiff,Nat.reduceAdd,Nat.reduceMul,Nat.reduceLeDiff,hQr,hQn,c107_0,f0,f3]);repeat' ((first|apply GdK_st|apply GdK_sf|apply CondK_s)<;>intro hd<;>(try simp only [hd])<;>(try simp (disch:=first|assumption|omega|(simp only [nx_alloc,nx_bump,nx_set]<;>omega)|fail) only [↓YA,YB,YC,YZ,YF,↓reduceIte,Nat.reduceEqDiff,Nat.reduceAdd,Nat.reduceMul,Nat.reduceLeDiff,hQr,hQn,hd,c107_0,f0,f3])))
  by_cases he:ls.flatten.length=0
  ·have hnil:ls.flatten=[]:=List.eq_nil_of_length_eq_zero he
   rw [he]
   refine CallK.use (grow_sound0 _) ?_
   rintro r H' ⟨rfl,rfl⟩
   ((try simp (disch:=first|assumption|omega|(simp only [nx_alloc,nx_bump,nx_set]<;>omega)|fail) only [↓YA,YB,YC,YZ,YF,↓reduceIte,Nat.reduceEqDiff,Nat.reduceAdd,Nat.reduceMul,Nat.reduceLeDiff,hQr,hQn,c107_0,f0,List.length_map]);repeat' ((first|apply GdK_st|apply GdK_sf|apply CondK_s)<;>intro hd<;>(try simp only [hd])<;>(try simp (disch:=first|assumption|omega|(simp only [nx_alloc,nx_bump,nx_set]<;>omega)|fail) only [↓YA,YB,YC,YZ,YF,↓reduceIte,Nat.reduceEqDiff,Nat.reduceAdd,Nat.reduceMul,Nat.reduceLeDiff,hQr,hQn,hd,c107_0,f0,List.length_map])))
   refine AW_forI (N:=ls.length) (fun k F G'=>Fr.get F 27=.i (k:Int)∧Fr.get F 26=.i (ls.length:Int)∧Fr.get F 25=.sl t (rL ls)∧Fr.get F 6=.sl .full []∧G'=H') (by unfold maxLen;omega) (fun k F G h=>⟨h.1,h.2.1⟩) (GStep.refl _ _) ?_ ?_ ?_
   ·exact ⟨rfl,rfl,rfl,rfl,rfl⟩
   ·rintro k F G hk ⟨f27,f26,f25,f6,rfl⟩
    have hr:=rL_get hk
    have h0k:(0:Int)≤k:=by omega
    have hz:ls[k]=[]:=by
     have:=flat_le ls (k+1)
     rw [take_flat hk,List.length_append] at this
     exact List.eq_nil_of_length_eq_zero (by omega)
    have ha:allLen 12 []=true:=rfl
    have hm:(0:Nat)≤maxLen:=Nat.zero_le _
    rw [hz] at hr
    ((try simp (disch:=first|assumption|omega|(simp only [nx_alloc,nx_bump,nx_set]<;>omega)|fail) only [↓YA,YB,YC,YZ,YF,↓reduceIte,Nat.reduceEqDiff,Nat.reduceAdd,Nat.reduceMul,Nat.reduceLeDiff,hQr,hQn,c107_0,f27,f26,f25,f6,hr,h0k,ha,hm,Nat.zero_mul,Nat.zero_le]);repeat' ((first|apply GdK_st|apply GdK_sf|apply CondK_s)<;>intro hd<;>(try simp only [hd])<;>(try simp (disch:=first|assumption|omega|(simp only [nx_alloc,nx_bump,nx_set]<;>omega)|fail) only [↓YA,YB,YC,YZ,YF,↓reduceIte,Nat.reduceEqDiff,Nat.reduceAdd,Nat.reduceMul,Nat.reduceLeDiff,hQr,hQn,hd,c107_0,f27,f26,f25,f6,hr,h0k,ha,hm,Nat.zero_mul,Nat.zero_le])))
   ·rintro F G ⟨f27,f26,f25,f6,rfl⟩
    ((try simp (disch:=first|assumption|omega|(simp only [nx_alloc,nx_bump,nx_set]<;>omega)|fail) only [↓YA,YB,YC,YZ,YF,↓reduceIte,Nat.reduceEqDiff,Nat.reduceAdd,Nat.reduceMul,Nat.reduceLeDiff,hQr,hQn,c107_0,f6]);repeat' ((first|apply GdK_st|apply GdK_sf|apply CondK_s)<;>intro hd<;>(try simp only [hd])<;>(try simp (disch:=first|assumption|omega|(simp only [nx_alloc,nx_bump,nx_set]<;>omega)|fail) only [↓YA,YB,YC,YZ,YF,↓reduceIte,Nat.reduceEqDiff,Nat.reduceAdd,Nat.reduceMul,Nat.reduceLeDiff,hQr,hQn,hd,c107_0,f6])))
    exact fin_keep ⟨AHeap.Ext.refl _,.inl ⟨hnil,rfl⟩⟩
  ·refine CallK.use (grow_sound ls.flatten.length _ (by omega) h2) ?_
   rintro r H' ⟨rfl,rfl⟩
   ((try simp (disch:=first|assumption|omega|(simp only [nx_alloc,nx_bump,nx_set]<;>omega)|fail) only [↓YA,YB,YC,YZ,YF,↓reduceIte,Nat.reduceEqDiff,Nat.reduceAdd,Nat.reduceMul,Nat.reduceLeDiff,hQr,hQn,c107_0,f0,List.length_map]);repeat' ((first|apply GdK_st|apply GdK_sf|apply CondK_s)<;>intro hd<;>(try simp only [hd])<;>(try simp (disch:=first|assumption|omega|(simp only [nx_alloc,nx_bump,nx_set]<;>omega)|fail) only [↓YA,YB,YC,YZ,YF,↓reduceIte,Nat.reduceEqDiff,Nat.reduceAdd,Nat.reduceMul,Nat.reduceLeDiff,hQr,hQn,hd,c107_0,f0,List.length_map])))
   refine AW_forI (N:=ls.length) (fun k F G'=>Fr.get F 27=.i (k:Int)∧Fr.get F 26=.i (ls.length:Int)∧Fr.get F 25=.sl t (rL ls)∧Fr.get F 6=.sl (.own G.next) (rC (ls.take k).flatten)∧AHeap.Ext G G'∧G'.get G.next=some (.tok (ls.take k).flatten.length 113 12)) (by unfold maxLen;omega) (fun k F G h=>⟨h.1,h.2.1⟩) (GStep.refl _ _) ?_ ?_ ?_
   ·exact ⟨rfl,rfl,rfl,rfl,(AHeap.Ext.refl G).alloc,AHeap.get_alloc_self (H:=G)⟩
   ·rintro k F G' hk ⟨f27,f26,f25,f6,hx,hg⟩
    have hr:=rL_get hk
    have h0k:(0:Int)≤k:=by omega
    have hf:=flat_le ls (k+1)
    rw [take_flat hk,List.length_append] at hf
    have ha:=allLen_rC ls[k]
    have hb:=allLen_rC (ls.take k).flatten
    have hgl:=AHeap.lt hg
    have hm:(ls.take k).flatten.length+ls[k].length≤maxLen:=by unfold maxLen;omega
    have hm2:((ls.take k).flatten.length+ls[k].length) * 96≤140737488355328:=by omega
    have hap:rC (ls.take k).flatten++rC ls[k]=rC (ls.take (k+1)).flatten:=by rw [take_flat hk];simp
    have hlen:(ls.take k).flatten.length+ls[k].length=(ls.take (k+1)).flatten.length:=by rw [take_flat hk,List.length_append]
    ((try simp (disch:=first|assumption|omega|(simp only [nx_alloc,nx_bump,nx_set]<;>omega)|fail) only [↓YA,YB,YC,YZ,YF,↓reduceIte,Nat.reduceEqDiff,Nat.reduceAdd,Nat.reduceMul,Nat.reduceLeDiff,hQr,hQn,c107_0,f27,f26,f25,f6,hr,h0k,ha,hb,hm,hm2,hg,List.length_map]);repeat' ((first|apply GdK_st|apply GdK_sf|apply CondK_s)<;>intro hd<;>(try simp only [hd])<;>(try simp (disch:=first|assumption|omega|(simp only [nx_alloc,nx_bump,nx_set]<;>omega)|fail) only [↓YA,YB,YC,YZ,YF,↓reduceIte,Nat.reduceEqDiff,Nat.reduceAdd,Nat.reduceMul,Nat.reduceLeDiff,hQr,hQn,hd,c107_0,f27,f26,f25,f6,hr,h0k,ha,hb,hm,hm2,hg,List.length_map])))
    exact ⟨by rw [hap],hx.set (Nat.le_refl _),by rw [hlen]⟩
   ·rintro F G' ⟨f27,f26,f25,f6,hx,hg⟩
    rw [List.take_length] at f6 hg
    ((try simp (disch:=first|assumption|omega|(simp only [nx_alloc,nx_bump,nx_set]<;>omega)|fail) only [↓YA,YB,YC,YZ,YF,↓reduceIte,Nat.reduceEqDiff,Nat.reduceAdd,Nat.reduceMul,Nat.reduceLeDiff,hQr,hQn,c107_0,f6]);repeat' ((first|apply GdK_st|apply GdK_sf|apply CondK_s)<;>intro hd<;>(try simp only [hd])<;>(try simp (disch:=first|assumption|omega|(simp only [nx_alloc,nx_bump,nx_set]<;>omega)|fail) only [↓YA,YB,YC,YZ,YF,↓reduceIte,Nat.reduceEqDiff,Nat.reduceAdd,Nat.reduceMul,Nat.reduceLeDiff,hQr,hQn,hd,c107_0,f6])))
    exact fin_keep ⟨hx,.inr ⟨_,rfl,hg,Nat.le_refl _⟩⟩
theorem each_sound (t:Tok) (n:Nod) (H:AHeap) (h1:n.lists.length≤1000000) (h2:n.lists.flatten.length≤1000000):Sound Tryz.prog 63 [.agg (eNod t n)] H (Pure H (.sl .no (rC (each n)))):=by
 refine fn_soundQ hE cf63 (Nat.le_of_ble_eq_true rfl) fun Q hQr hQn=>?_
 obtain ⟨dim,lists,all⟩:=n
 simp only at h1 h2
 ((try simp (disch:=first|assumption|omega|(simp only [nx_alloc,nx_bump,nx_set]<;>omega)|fail) only [↓YA,YB,YC,YZ,YF,↓reduceIte,Nat.reduceEqDiff,Nat.reduceAdd,Nat.reduceMul,Nat.reduceLeDiff,hQr,hQn,c63_0,eNod]);repeat' ((first|apply GdK_st|apply GdK_sf|apply CondK_s)<;>intro hd<;>(try simp only [hd])<;>(try simp (disch:=first|assumption|omega|(simp only [nx_alloc,nx_bump,nx_set]<;>omega)|fail) only [↓YA,YB,YC,YZ,YF,↓reduceIte,Nat.reduceEqDiff,Nat.reduceAdd,Nat.reduceMul,Nat.reduceLeDiff,hQr,hQn,hd,c63_0,eNod])))
 refine CallK.use (concat_sound t lists _ h1 h2) ?_
 rintro r H' ⟨hx,hr⟩
 have hg:=hx.get _ _ (AHeap.get_alloc_self (H:=H) (o:=.cells (eNod t ⟨dim,lists,all⟩) 115))
 have hgl:=AHeap.lt hg
 have hxn:=hx.next
 simp only [AHeap.next_alloc] at hxn
 have hx2:=((AHeap.Ext.refl H).alloc (o:=.cells (eNod t ⟨dim,lists,all⟩) 115)).trans hx
 unfold eNod at hg
 have hb:=allLen_rC lists.flatten
 have ha:allLen 12 [eCel all]=true:=rfl
 unfold eCel at ha
 have hm:lists.flatten.length+1≤maxLen:=by unfold maxLen;omega
 have hm2:(lists.flatten.length+1) * 96≤140737488355328:=by omega
 have hap:rC lists.flatten++[eCel all]=rC (each ⟨dim,lists,all⟩):=by unfold each;simp
 unfold eCel at hap
 rcases hr with ⟨he,rfl⟩|⟨id,rfl,hid,hl⟩
 ·have hall:each ⟨dim,lists,all⟩=[all]:=by unfold each;simp [he]
  rw [hall] at hQr hQn
  have hb:allLen 12 []=true:=rfl
  have hm:(1:Nat)≤maxLen:=by unfold maxLen;omega
  ((try simp (disch:=first|assumption|omega|(simp only [nx_alloc,nx_bump,nx_set]<;>omega)|fail) only [↓YA,YB,YC,YZ,YF,↓reduceIte,Nat.reduceEqDiff,Nat.reduceAdd,Nat.reduceMul,Nat.reduceLeDiff,hQr,hQn,c63_0,hg,hb,ha,hm]);repeat' ((first|apply GdK_st|apply GdK_sf|apply CondK_s)<;>intro hd<;>(try simp only [hd])<;>(try simp (disch:=first|assumption|omega|(simp only [nx_alloc,nx_bump,nx_set]<;>omega)|fail) only [↓YA,YB,YC,YZ,YF,↓reduceIte,Nat.reduceEqDiff,Nat.reduceAdd,Nat.reduceMul,Nat.reduceLeDiff,hQr,hQn,hd,c63_0,hg,hb,ha,hm])))
  refine fin_pure (hx2.alloc) ?_
  rfl
 ·have hil:=AHeap.lt hid
  simp only [AHeap.next_alloc] at hl
  ((try simp (disch:=first|assumption|omega|(simp only [nx_alloc,nx_bump,nx_set]<;>omega)|fail) only [↓YA,YB,YC,YZ,YF,↓reduceIte,Nat.reduceEqDiff,Nat.reduceAdd,Nat.reduceMul,Nat.reduceLeDiff,hQr,hQn,c63_0,hg,hb,ha,hm,hm2,hid,List.length_map]);repeat' ((first|apply GdK_st|apply GdK_sf|apply CondK_s)<;>intro hd<;>(try simp only [hd])<;>(try simp (disch:=first|assumption|omega|(simp only [nx_alloc,nx_bump,nx_set]<;>omega)|fail) only [↓YA,YB,YC,YZ,YF,↓reduceIte,Nat.reduceEqDiff,Nat.reduceAdd,Nat.reduceMul,Nat.reduceLeDiff,hQr,hQn,hd,c63_0,hg,hb,ha,hm,hm2,hid,List.length_map])))
  rw [hap]
  exact fin_pure (hx2.set (by omega)) rfl
theorem cloneC_sound (tok:Tok) (l:List Cel) (H:AHeap) (hl:l.length≤1000000):Sound Tryz.prog 106 [.sl tok (rC l)] H (Pure H (.sl .no (rC l))):=by
 refine fn_soundQ hE cf106 (Nat.le_of_ble_eq_true rfl) fun Q hQr hQn=>?_
 cases l with
 | nil =>
  have ha:allLen 12 []=true:=rfl
  have hm:(0:Nat)≤maxLen:=Nat.zero_le _
  ((try simp (disch:=first|assumption|omega|(simp only [nx_alloc,nx_bump,nx_set]<;>omega)|fail) only [↓YA,YB,YC,YZ,YF,↓reduceIte,Nat.reduceEqDiff,Nat.reduceAdd,Nat.reduceMul,Nat.reduceLeDiff,hQr,hQn,c106_0,ha,hm,Nat.zero_mul,Nat.zero_le]);repeat' ((first|apply GdK_st|apply GdK_sf|apply CondK_s)<;>intro hd<;>(try simp only [hd])<;>(try simp (disch:=first|assumption|omega|(simp only [nx_alloc,nx_bump,nx_set]<;>omega)|fail) only [↓YA,YB,YC,YZ,YF,↓reduceIte,Nat.reduceEqDiff,Nat.reduceAdd,Nat.reduceMul,Nat.reduceLeDiff,hQr,hQn,hd,c106_0,ha,hm,Nat.zero_mul,Nat.zero_le])))
  exact fin_pure (AHeap.Ext.refl _) rfl
 | cons c l =>
  have ha:=allLen_rC (c :: l)
  have hb:allLen 12 []=true:=rfl
  have hm:(c :: l).length≤maxLen:=by unfold maxLen;omega
  have hm2:(c :: l).length * 96≤140737488355328:=by omega
  simp only [List.map_cons,List.length_cons] at ha hm hm2
  ((try simp (disch:=first|assumption|omega|(simp only [nx_alloc,nx_bump,nx_set]<;>omega)|fail) only [↓YA,YB,YC,YZ,YF,↓reduceIte,Nat.reduceEqDiff,Nat.reduceAdd,Nat.reduceMul,Nat.reduceLeDiff,hQr,hQn,c106_0,ha,hb,hm,hm2,List.length_map]);repeat' ((first|apply GdK_st|apply GdK_sf|apply CondK_s)<;>intro hd<;>(try simp only [hd])<;>(try simp (disch:=first|assumption|omega|(simp only [nx_alloc,nx_bump,nx_set]<;>omega)|fail) only [↓YA,YB,YC,YZ,YF,↓reduceIte,Nat.reduceEqDiff,Nat.reduceAdd,Nat.reduceMul,Nat.reduceLeDiff,hQr,hQn,hd,c106_0,ha,hb,hm,hm2,List.length_map])))
  exact fin_pure (AHeap.Ext.refl _).alloc rfl
structure CpAt (H0:AHeap) (id t j:Nat) (n:Nod) (s:AHeap):Prop where
 ne:id≠t
 lo:H0.next≤id
 lo2:H0.next≤t
 cell:s.get id=some (.cells (eNod (.own t) ⟨n.dim,n.lists.take j,n.all⟩) 115)
 tok:s.get t=some (.tok j 120 1)
 ext:AHeap.Ext H0 s
theorem CpAt.next {H0:AHeap} {id t j k:Nat} {n:Nod} {s:AHeap} (h:CpAt H0 id t j n s):CpAt H0 id t (j+1) n (((s.bump k).set t (.tok (j+1) 120 1)).set id (.cells (eNod (.own t) ⟨n.dim,n.lists.take (j+1),n.all⟩) 115)):=by
 have h1:=AHeap.lt h.cell
 have h2:=AHeap.lt h.tok
 refine ⟨h.ne,h.lo,h.lo2,AHeap.get_set_self (by simp;omega),?_,(h.ext.bump.set h.lo2).set h.lo⟩
 rw [AHeap.get_set_ne (Ne.symm h.ne)]
 exact AHeap.get_set_self (by simp;omega)
theorem allLen_rL (l:List (List Cel)):allLen 1 (rL l)=true:=allLen_map (f:=fun l=>[AV.sl .no (rC l)]) (fun _=>rfl) l
theorem rL_snoc {l:List (List Cel)} {j:Nat} (h:j<l.length):rL (l.take j)++[[AV.sl .no (rC l[j])]]=rL (l.take (j+1)):=by
 rw [List.take_add_one,List.getElem?_eq_getElem h]
 simp only [Option.toList_some,List.map_append,List.map_cons,List.map_nil]
set_option maxHeartbeats 4000000 in
theorem nclone_sound (t:Tok) (n:Nod) (H:AHeap) (hn:smallL n.lists):Sound Tryz.prog 61 [.agg (eNod t n)] H (Pure H (.agg (eNod .no n))):=by
 refine fn_soundQ hE cf61 (Nat.le_of_ble_eq_true rfl) fun Q hQr hQn=>?_
 obtain ⟨hn1,hn2⟩:=hn
 obtain ⟨dim,lists,all⟩:=n
 simp only at hn1 hn2
 ((try simp (disch:=first|assumption|omega|(simp only [nx_alloc,nx_bump,nx_set]<;>omega)|fail) only [↓YA,YB,YC,YZ,YF,↓reduceIte,Nat.reduceEqDiff,Nat.reduceAdd,Nat.reduceMul,Nat.reduceLeDiff,hQr,hQn,c61_0,eNod,List.length_map]);repeat' ((first|apply GdK_st|apply GdK_sf|apply CondK_s)<;>intro hd<;>(try simp only [hd])<;>(try simp (disch:=first|assumption|omega|(simp only [nx_alloc,nx_bump,nx_set]<;>omega)|fail) only [↓YA,YB,YC,YZ,YF,↓reduceIte,Nat.reduceEqDiff,Nat.reduceAdd,Nat.reduceMul,Nat.reduceLeDiff,hQr,hQn,hd,c61_0,eNod,List.length_map])))
 refine AW_let fun G hG=>?_
 have hGn:G.next=H.next+3:=by rw [hG];simp
 have hg2:G.get (H.next+1+1)=some (.cells (eNod .full ⟨dim,[],all⟩) 115):=by rw [hG];exact AHeap.get_set_self (by simp)
 have hg1:G.get (H.next+1)=some (.cells (eNod .full ⟨0,[],⟨0,0,⟨0,0,0,0,0,0,0,0,0,0⟩⟩⟩) 115):=by
  rw [hG,AHeap.get_set_ne (by omega),AHeap.get_alloc_ne (by simp)]
  exact AHeap.get_alloc_self (H:=H.alloc _)
 generalize hZ:eNod .full ⟨0,[],⟨0,0,⟨0,0,0,0,0,0,0,0,0,0⟩⟩⟩=Z at hg1
 have hGe:AHeap.Ext H G:=by rw [hG];exact (AHeap.Ext.refl H).alloc.alloc.alloc.set (by omega)
 clear hG
 refine AW_forI (N:=lists.length) (fun k F s=>Fr.get F 14=.i (k:Int)∧Fr.get F 13=.i (lists.length:Int)∧Fr.get F 12=.sl t (rL lists)∧Fr.get F 3=.ptr (H.next+1+1) 0∧Fr.get F 2=.ptr (H.next+1) 0∧CpAt H (H.next+1+1) G.next k ⟨dim,lists,all⟩ s∧s.get (H.next+1)=some (.cells Z 115)) (by unfold maxLen;omega) (fun k F G h=>⟨h.1,h.2.1⟩)
  (F1:=[(14,.i ((0:Nat):Int)),(13,.i (lists.length:Int)),(12,.sl t (rL lists)),(3,.ptr (H.next+1+1) 0),(2,.ptr (H.next+1) 0)]) (H1:=(G.set (H.next+1+1) (.cells (eNod (.own G.next) ⟨dim,[],all⟩) 115)).alloc (.tok 0 120 1)) ?_ ?_ ?_ ?_
 ·exact (GStep.fr (by simp [Fr.get])).trans (GStep.tokCell (H.next+1+1) 1 115 120 1 hg2 rfl)
 ·refine ⟨rfl,rfl,rfl,rfl,rfl,⟨by omega,by omega,by omega,?_,AHeap.get_alloc_self (H:=G.set _ _),(hGe.set (by omega)).alloc⟩,?_⟩
  ·rw [AHeap.get_alloc_ne (by simp;omega)]
   exact AHeap.get_set_self (by omega)
  ·rw [AHeap.get_alloc_ne (by simp;omega),AHeap.get_set_ne (by omega)]
   exact hg1
 ·rintro k F s hk ⟨f14,f13,f12,f3,f2,hinv,hs1⟩
  have hr:=rL_get hk
  have h0:(0:Int)≤k:=by omega
  have hlk:(rL (lists.take k)).length=k:=by simp;omega
  have hl1:=hn2 _ (List.getElem_mem hk)
  have hc:=hinv.cell
  have ht:=hinv.tok
  have hc1:=AHeap.lt hc
  have ht1:=AHeap.lt ht
  have hne:=hinv.ne
  have hne':=Ne.symm hne
  have hne1:H.next+1≠H.next+1+1:=by omega
  have hne2:H.next+1≠G.next:=by omega
  unfold eNod at hc
  simp only at hc
  ((try simp (disch:=first|assumption|omega|(simp only [nx_alloc,nx_bump,nx_set]<;>omega)|fail) only [↓YA,YB,YC,YZ,YF,↓reduceIte,Nat.reduceEqDiff,Nat.reduceAdd,Nat.reduceMul,Nat.reduceLeDiff,hQr,hQn,c61_0,f14,f12,f3,hr,h0,hc]);repeat' ((first|apply GdK_st|apply GdK_sf|apply CondK_s)<;>intro hd<;>(try simp only [hd])<;>(try simp (disch:=first|assumption|omega|(simp only [nx_alloc,nx_bump,nx_set]<;>omega)|fail) only [↓YA,YB,YC,YZ,YF,↓reduceIte,Nat.reduceEqDiff,Nat.reduceAdd,Nat.reduceMul,Nat.reduceLeDiff,hQr,hQn,hd,c61_0,f14,f12,f3,hr,h0,hc])))
  refine CallK.use (cloneC_sound .no lists[k] _ (by omega)) ?_
  rintro r H' ⟨rfl,k',rfl⟩
  have ha1:=allLen_rL (lists.take k)
  have hb1:k+1≤maxLen:=by unfold maxLen;omega
  have hb2:(k+1) * 24≤140737488355328:=by omega
  refine ⟨stable_one rfl rfl (by simp (disch:=first|assumption|omega|(simp only [nx_alloc,nx_bump,nx_set]<;>omega)|fail) only [↓YA,YB,YC,YZ,YF,↓reduceIte,Nat.reduceEqDiff,Nat.reduceAdd,Nat.reduceMul,Nat.reduceLeDiff,hc]),?_⟩
  have ho1:allLen 1 [[AV.sl .no (rC lists[k])]]=true:=rfl
  ((try simp (disch:=first|assumption|omega|(simp only [nx_alloc,nx_bump,nx_set]<;>omega)|fail) only [↓YA,YB,YC,YZ,YF,↓reduceIte,Nat.reduceEqDiff,Nat.reduceAdd,Nat.reduceMul,Nat.reduceLeDiff,hQr,hQn,hlk,ha1,hb1,hb2,hc,ht,ho1,f14,f13,f12,f3,f2,hs1]);repeat' ((first|apply GdK_st|apply GdK_sf|apply CondK_s)<;>intro hd<;>(try simp only [hd])<;>(try simp (disch:=first|assumption|omega|(simp only [nx_alloc,nx_bump,nx_set]<;>omega)|fail) only [↓YA,YB,YC,YZ,YF,↓reduceIte,Nat.reduceEqDiff,Nat.reduceAdd,Nat.reduceMul,Nat.reduceLeDiff,hQr,hQn,hd,hlk,ha1,hb1,hb2,hc,ht,ho1,f14,f13,f12,f3,f2,hs1])))
  rw [rL_snoc hk]
  exact hinv.next (k:=k')
 ·rintro F s ⟨f14,f13,f12,f3,f2,hinv,hs1⟩
  have hc:=hinv.cell
  have hc1:=AHeap.lt hc
  have hl1:=AHeap.lt hs1
  have hx:=hinv.ext
  unfold eNod at hc
  simp only [List.take_length] at hc
  subst hZ
  unfold eNod at hs1
  ((try simp (disch:=first|assumption|omega|(simp only [nx_alloc,nx_bump,nx_set]<;>omega)|fail) only [↓YA,YB,YC,YZ,YF,↓reduceIte,Nat.reduceEqDiff,Nat.reduceAdd,Nat.reduceMul,Nat.reduceLeDiff,hQr,hQn,c61_0,f3,f2,hc,hs1]);repeat' ((first|apply GdK_st|apply GdK_sf|apply CondK_s)<;>intro hd<;>(try simp only [hd])<;>(try simp (disch:=first|assumption|omega|(simp only [nx_alloc,nx_bump,nx_set]<;>omega)|fail) only [↓YA,YB,YC,YZ,YF,↓reduceIte,Nat.reduceEqDiff,Nat.reduceAdd,Nat.reduceMul,Nat.reduceLeDiff,hQr,hQn,hd,c61_0,f3,f2,hc,hs1])))
  exact fin_pure (hx.set (by omega)) rfl
abbrev rN (l:List Nod):List (List AV):=l.map (eNod .no)
theorem rN_get {l:List Nod} {k:Nat} (h:k<l.length):(rN l)[k]?=some (eNod .no l[k]):=by simp [h]
abbrev eArN (x:Shp) (tok nt:Tok) (l:List Nod) (most:Int):List AV:=eAr x tok (.sl nt (rN l)) most
set_option maxHeartbeats 1000000 in
theorem lead1_sound {H:AHeap} {ia id inn:Nat} {x:Shp} {tok nt t:Tok} {l:List Nod} {most:Int} {n:Nod} (c:Cel) (h1:H.get ia=some (.cells [.ptr id 0] 29)) (h2:H.get id=some (.cells (eArN x tok nt l most) 117)) (h3:H.get inn=some (.cells (eNod t n) 115)) (hc:0≤c.child) (hd1:0≤n.dim) (hd2:n.dim<1000000) :
  Sound Tryz.prog 152 [.agg (eCel c),.ptr ia 0,.ptr inn 0] H (Pure H (.b (leadB l n.dim c))):=by
 refine fn_soundQ hE cf152 (Nat.le_of_ble_eq_true rfl) fun Q hQr hQn=>?_
 have l1:=AHeap.lt h1
 have l2:=AHeap.lt h2
 have l3:=AHeap.lt h3
 unfold eArN eAr at h2
 unfold eNod at h3
 obtain ⟨d,hdc⟩:∃ d:Nat,c.child=d:=⟨c.child.toNat,by omega⟩
 have hw:IntKind.i64.wrap (n.dim+1)=n.dim+1:=wrap_of (by omega) (by omega)
 have h0:(0:Int)≤d:=by omega
 by_cases hdl:d<l.length
 ·have hr:=rN_get hdl
  have d1:decide ((d:Int)<(l.length:Int))=true:=by simp;omega
  unfold eNod at hr
  have hT:leadB l n.dim c=(l[d].dim == n.dim+1):=by
   unfold leadB
   rw [hdc]
   simp only [d1,Bool.true_and,Int.toNat_natCast,List.getD_eq_getElem?_getD,List.getElem?_eq_getElem hdl,Option.getD_some]
   rfl
  rw [hT] at hQr hQn
  ((try simp (disch:=first|assumption|omega|(simp only [nx_alloc,nx_bump,nx_set]<;>omega)|fail) only [↓YA,YB,YC,YZ,YF,↓reduceIte,Nat.reduceEqDiff,Nat.reduceAdd,Nat.reduceMul,Nat.reduceLeDiff,hQr,hQn,c152_0,eCel,hdc,h1,h2,h3,d1,h0,hr,hw,List.length_map]);repeat' ((first|apply GdK_st|apply GdK_sf|apply CondK_s)<;>intro hd<;>(try simp only [hd])<;>(try simp (disch:=first|assumption|omega|(simp only [nx_alloc,nx_bump,nx_set]<;>omega)|fail) only [↓YA,YB,YC,YZ,YF,↓reduceIte,Nat.reduceEqDiff,Nat.reduceAdd,Nat.reduceMul,Nat.reduceLeDiff,hQr,hQn,hd,c152_0,eCel,hdc,h1,h2,h3,d1,h0,hr,hw,List.length_map])))
  refine fin_b ?_ rfl
  (repeat (first|assumption|exact AHeap.Ext.refl _|refine AHeap.Ext.set ?_ (by first|assumption|omega|(simp only [nx_alloc,nx_bump,nx_set];omega))|refine AHeap.Ext.alloc ?_|refine AHeap.Ext.bump ?_))
 ·have d1:decide ((d:Int)<(l.length:Int))=false:=by simp;omega
  have hT:leadB l n.dim c=false:=by
   unfold leadB
   rw [hdc]
   simp only [d1,Bool.false_and]
  rw [hT] at hQr hQn
  ((try simp (disch:=first|assumption|omega|(simp only [nx_alloc,nx_bump,nx_set]<;>omega)|fail) only [↓YA,YB,YC,YZ,YF,↓reduceIte,Nat.reduceEqDiff,Nat.reduceAdd,Nat.reduceMul,Nat.reduceLeDiff,hQr,hQn,c152_0,eCel,hdc,h1,h2,h3,d1,h0,hw,List.length_map]);repeat' ((first|apply GdK_st|apply GdK_sf|apply CondK_s)<;>intro hd<;>(try simp only [hd])<;>(try simp (disch:=first|assumption|omega|(simp only [nx_alloc,nx_bump,nx_set]<;>omega)|fail) only [↓YA,YB,YC,YZ,YF,↓reduceIte,Nat.reduceEqDiff,Nat.reduceAdd,Nat.reduceMul,Nat.reduceLeDiff,hQr,hQn,hd,c152_0,eCel,hdc,h1,h2,h3,d1,h0,hw,List.length_map])))
  refine fin_b ?_ rfl
  (repeat (first|assumption|exact AHeap.Ext.refl _|refine AHeap.Ext.set ?_ (by first|assumption|omega|(simp only [nx_alloc,nx_bump,nx_set];omega))|refine AHeap.Ext.alloc ?_|refine AHeap.Ext.bump ?_))
theorem all_drop {l:List Cel} {p:Cel→Bool} {k:Nat} (h:k<l.length):(l.drop k).all p=(p l[k]&&(l.drop (k+1)).all p):=by
 rw [List.drop_eq_getElem_cons h,List.all_cons]
set_option maxHeartbeats 4000000 in
theorem leads_sound {H:AHeap} {id:Nat} {x:Shp} {tok nt:Tok} {l:List Nod} {most:Int} (t:Tok) (n:Nod) (h2:H.get id=some (.cells (eArN x tok nt l most) 117)) (hck:checkErr x n=0) (hl:x.sizes.length≤1000) (hn1:n.lists.length≤1000000) (hn2:n.lists.flatten.length≤999999) :
  Sound Tryz.prog 122 [.ptr id 0,.agg (eNod t n)] H (Pure H (.b (leadsB x l n))):=by
 refine fn_soundQ hE cf122 (Nat.le_of_ble_eq_true rfl) fun Q hQr hQn=>?_
 have l2:=AHeap.lt h2
 have hdm:=check_dim hck
 obtain ⟨hd1,hd2,_⟩:=hdm
 have h2':=h2
 unfold eArN eAr at h2
 ((try simp (disch:=first|assumption|omega|(simp only [nx_alloc,nx_bump,nx_set]<;>omega)|fail) only [↓YA,YB,YC,YZ,YF,↓reduceIte,Nat.reduceEqDiff,Nat.reduceAdd,Nat.reduceMul,Nat.reduceLeDiff,hQr,hQn,c122_0,eNod,h2]);repeat' ((first|apply GdK_st|apply GdK_sf|apply CondK_s)<;>intro hd<;>(try simp only [hd])<;>(try simp (disch:=first|assumption|omega|(simp only [nx_alloc,nx_bump,nx_set]<;>omega)|fail) only [↓YA,YB,YC,YZ,YF,↓reduceIte,Nat.reduceEqDiff,Nat.reduceAdd,Nat.reduceMul,Nat.reduceLeDiff,hQr,hQn,hd,c122_0,eNod,h2])))
 refine CallK.use (last_sound tok x n.dim _ (by omega)) ?_
 rintro r H' ⟨rfl,k,rfl⟩
 rw [leadsB_eq] at hQr hQn
 cases hb:lastB x n.dim with
 | true =>
  rw [hb,Bool.true_or] at hQr hQn
  ((try simp (disch:=first|assumption|omega|(simp only [nx_alloc,nx_bump,nx_set]<;>omega)|fail) only [↓YA,YB,YC,YZ,YF,↓reduceIte,Nat.reduceEqDiff,Nat.reduceAdd,Nat.reduceMul,Nat.reduceLeDiff,hQr,hQn,c122_0,hb]);repeat' ((first|apply GdK_st|apply GdK_sf|apply CondK_s)<;>intro hd<;>(try simp only [hd])<;>(try simp (disch:=first|assumption|omega|(simp only [nx_alloc,nx_bump,nx_set]<;>omega)|fail) only [↓YA,YB,YC,YZ,YF,↓reduceIte,Nat.reduceEqDiff,Nat.reduceAdd,Nat.reduceMul,Nat.reduceLeDiff,hQr,hQn,hd,c122_0,hb])))
  refine fin_b ?_ rfl
  (repeat (first|assumption|exact AHeap.Ext.refl _|refine AHeap.Ext.set ?_ (by first|assumption|omega|(simp only [nx_alloc,nx_bump,nx_set];omega))|refine AHeap.Ext.alloc ?_|refine AHeap.Ext.bump ?_))
 | false =>
  rw [hb,Bool.false_or] at hQr hQn
  ((try simp (disch:=first|assumption|omega|(simp only [nx_alloc,nx_bump,nx_set]<;>omega)|fail) only [↓YA,YB,YC,YZ,YF,↓reduceIte,Nat.reduceEqDiff,Nat.reduceAdd,Nat.reduceMul,Nat.reduceLeDiff,hQr,hQn,c122_0,hb]);repeat' ((first|apply GdK_st|apply GdK_sf|apply CondK_s)<;>intro hd<;>(try simp only [hd])<;>(try simp (disch:=first|assumption|omega|(simp only [nx_alloc,nx_bump,nx_set]<;>omega)|fail) only [↓YA,YB,YC,YZ,YF,↓reduceIte,Nat.reduceEqDiff,Nat.reduceAdd,Nat.reduceMul,Nat.reduceLeDiff,hQr,hQn,hd,c122_0,hb])))
  have hln:(each n).length≤1000000:=by unfold each;rw [List.length_append];simp only [List.length_cons,List.length_nil];omega
  refine CallK.use (each_sound t n _ hn1 (by omega)) ?_
  rintro r H' ⟨rfl,k2,rfl⟩
  ((try simp (disch:=first|assumption|omega|(simp only [nx_alloc,nx_bump,nx_set]<;>omega)|fail) only [↓YA,YB,YC,YZ,YF,↓reduceIte,Nat.reduceEqDiff,Nat.reduceAdd,Nat.reduceMul,Nat.reduceLeDiff,hQr,hQn,List.length_map]);repeat' ((first|apply GdK_st|apply GdK_sf|apply CondK_s)<;>intro hd<;>(try simp only [hd])<;>(try simp (disch:=first|assumption|omega|(simp only [nx_alloc,nx_bump,nx_set]<;>omega)|fail) only [↓YA,YB,YC,YZ,YF,↓reduceIte,Nat.reduceEqDiff,Nat.reduceAdd,Nat.reduceMul,Nat.reduceLeDiff,hQr,hQn,hd,List.length_map])))
  have hch:=check_child hck hb
  generalize each n=es at *
  generalize hT:es.all (leadB l n.dim)=T at *
  refine AW_forI (N:=es.length) (fun k F G=>Fr.get F 19=.i (k:Int)∧Fr.get F 18=.i (es.length:Int)∧Fr.get F 17=.sl .no (rC es)∧Fr.get F 5=.fn 152 [] [.ptr H.next 0,.ptr (H.next+1) 0]∧AHeap.Ext H G∧G.get H.next=some (.cells [.ptr id 0] 29)∧G.get (H.next+1)=some (.cells (eNod t n) 115)∧T=(es.drop k).all (leadB l n.dim)) (by unfold maxLen;omega) (fun k F G h=>⟨h.1,h.2.1⟩) (GStep.refl _ _) ?_ ?_ ?_
  ·refine ⟨rfl,rfl,rfl,rfl,(AHeap.Ext.refl H).alloc.alloc.bump.bump,?_,?_,hT.symm⟩
   ·simp only [AHeap.get_bump]
    rw [AHeap.get_alloc_ne (by simp)]
    exact AHeap.get_alloc_self
   ·simp only [AHeap.get_bump]
    exact AHeap.get_alloc_self (H:=H.alloc _)
  ·rintro k F G hk ⟨f19,f18,f17,f5,hxG,hg1,hg2,ht⟩
   rw [all_drop hk] at ht
   have hr:=rC_get hk
   have h0:(0:Int)≤k:=by omega
   have hgl:=AHeap.lt hg2
   have hxn:=hxG.next
   have hck1:=hch _ (List.getElem_mem hk)
   have hG2:∀ o o',((G.alloc o).set G.next o').get id=some (.cells (eArN x tok nt l most) 117):=by
    intro o o'
    have:=AHeap.lt h2'
    rw [AHeap.get_set_ne (by omega),AHeap.get_alloc_ne (by omega)]
    exact hxG.get _ _ h2'
   have hG1:∀ o o',((G.alloc o).set G.next o').get H.next=some (.cells [.ptr id 0] 29):=by
    intro o o'
    rw [AHeap.get_set_ne (by omega),AHeap.get_alloc_ne (by omega)]
    exact hg1
   have hG3:∀ o o',((G.alloc o).set G.next o').get (H.next+1)=some (.cells (eNod t n) 115):=by
    intro o o'
    rw [AHeap.get_set_ne (by omega),AHeap.get_alloc_ne (by omega)]
    exact hg2
   unfold eCel at hr
   ((try simp (disch:=first|assumption|omega|(simp only [nx_alloc,nx_bump,nx_set]<;>omega)|fail) only [↓YA,YB,YC,YZ,YF,↓reduceIte,Nat.reduceEqDiff,Nat.reduceAdd,Nat.reduceMul,Nat.reduceLeDiff,hQr,hQn,c122_0,f19,f17,f5,hr,h0]);repeat' ((first|apply GdK_st|apply GdK_sf|apply CondK_s)<;>intro hd<;>(try simp only [hd])<;>(try simp (disch:=first|assumption|omega|(simp only [nx_alloc,nx_bump,nx_set]<;>omega)|fail) only [↓YA,YB,YC,YZ,YF,↓reduceIte,Nat.reduceEqDiff,Nat.reduceAdd,Nat.reduceMul,Nat.reduceLeDiff,hQr,hQn,hd,c122_0,f19,f17,f5,hr,h0])))
   refine CallK.use (lead1_sound es[k] (hG1 _ _) (hG2 _ _) (hG3 _ _) hck1 hd1 (by omega)) ?_
   rintro r H' ⟨rfl,k',rfl⟩
   cases hp:leadB l n.dim es[k] with
   | true =>
    ((try simp (disch:=first|assumption|omega|(simp only [nx_alloc,nx_bump,nx_set]<;>omega)|fail) only [↓YA,YB,YC,YZ,YF,↓reduceIte,Nat.reduceEqDiff,Nat.reduceAdd,Nat.reduceMul,Nat.reduceLeDiff,hQr,hQn,c122_0,hp,f19,f18,f17,f5,hg1,hg2]);repeat' ((first|apply GdK_st|apply GdK_sf|apply CondK_s)<;>intro hd<;>(try simp only [hd])<;>(try simp (disch:=first|assumption|omega|(simp only [nx_alloc,nx_bump,nx_set]<;>omega)|fail) only [↓YA,YB,YC,YZ,YF,↓reduceIte,Nat.reduceEqDiff,Nat.reduceAdd,Nat.reduceMul,Nat.reduceLeDiff,hQr,hQn,hd,c122_0,hp,f19,f18,f17,f5,hg1,hg2])))
    refine ⟨?_,?_⟩
    ·(repeat (first|assumption|exact AHeap.Ext.refl _|refine AHeap.Ext.set ?_ (by first|assumption|omega|(simp only [nx_alloc,nx_bump,nx_set];omega))|refine AHeap.Ext.alloc ?_|refine AHeap.Ext.bump ?_))
    ·rw [ht,hp];rfl
   | false =>
    ((try simp (disch:=first|assumption|omega|(simp only [nx_alloc,nx_bump,nx_set]<;>omega)|fail) only [↓YA,YB,YC,YZ,YF,↓reduceIte,Nat.reduceEqDiff,Nat.reduceAdd,Nat.reduceMul,Nat.reduceLeDiff,hQr,hQn,c122_0,hp]);repeat' ((first|apply GdK_st|apply GdK_sf|apply CondK_s)<;>intro hd<;>(try simp only [hd])<;>(try simp (disch:=first|assumption|omega|(simp only [nx_alloc,nx_bump,nx_set]<;>omega)|fail) only [↓YA,YB,YC,YZ,YF,↓reduceIte,Nat.reduceEqDiff,Nat.reduceAdd,Nat.reduceMul,Nat.reduceLeDiff,hQr,hQn,hd,c122_0,hp])))
    refine fin_b ?_ ?_
    ·(repeat (first|assumption|exact AHeap.Ext.refl _|refine AHeap.Ext.set ?_ (by first|assumption|omega|(simp only [nx_alloc,nx_bump,nx_set];omega))|refine AHeap.Ext.alloc ?_|refine AHeap.Ext.bump ?_))
    ·rw [ht,hp];rfl
  ·rintro F G ⟨f19,f18,f17,f5,hxG,hg1,hg2,ht⟩
   ((try simp (disch:=first|assumption|omega|(simp only [nx_alloc,nx_bump,nx_set]<;>omega)|fail) only [↓YA,YB,YC,YZ,YF,↓reduceIte,Nat.reduceEqDiff,Nat.reduceAdd,Nat.reduceMul,Nat.reduceLeDiff,hQr,hQn,c122_0]);repeat' ((first|apply GdK_st|apply GdK_sf|apply CondK_s)<;>intro hd<;>(try simp only [hd])<;>(try simp (disch:=first|assumption|omega|(simp only [nx_alloc,nx_bump,nx_set]<;>omega)|fail) only [↓YA,YB,YC,YZ,YF,↓reduceIte,Nat.reduceEqDiff,Nat.reduceAdd,Nat.reduceMul,Nat.reduceLeDiff,hQr,hQn,hd,c122_0])))
   refine fin_b hxG ?_
   rw [ht,List.drop_length];rfl
structure ArO (H:AHeap) (id tk:Nat) (x:Shp) (tok:Tok) (l:List Nod) (most:Int):Prop where
 ne:id≠tk
 cell:H.get id=some (.cells (eArN x tok (.own tk) l most) 117)
 row:H.get tk=some (.tok l.length 115 14)
structure Ext2 (id tk:Nat) (H H':AHeap):Prop where
 next:H.next≤H'.next
 get:∀ i o,i≠id→i≠tk→H.get i=some o→H'.get i=some o
theorem Ext2.refl (id tk:Nat) (H:AHeap):Ext2 id tk H H:=⟨Nat.le_refl _,fun _ _ _ _ h=>h⟩
theorem Ext2.trans {id tk:Nat} {H H' H'':AHeap} (h:Ext2 id tk H H') (k:Ext2 id tk H' H''):Ext2 id tk H H'':=⟨Nat.le_trans h.next k.next,fun i o h1 h2 e=>k.get i o h1 h2 (h.get i o h1 h2 e)⟩
theorem Ext2.of {id tk:Nat} {H H':AHeap} (h:AHeap.Ext H H'):Ext2 id tk H H':=⟨h.next,fun i o _ _ e=>h.get i o e⟩
theorem ArO.ext {H H':AHeap} {id tk:Nat} {x:Shp} {tok:Tok} {l:List Nod} {most:Int} (h:ArO H id tk x tok l most) (hx:AHeap.Ext H H'):ArO H' id tk x tok l most:=⟨h.ne,hx.get _ _ h.cell,hx.get _ _ h.row⟩
def AddQ (x:Shp) (most:Int) (l:List Nod) (n:Nod) (id tk:Nat) (tok:Tok) (H:AHeap) (r:AV) (H':AHeap):Prop :=
 (addErr x most l n≠0∧r=.tup [.i 0,.i (addErr x most l n)]∧AHeap.Ext H H')∨(addErr x most l n=0∧r=.tup [.i (l.length:Int),.i 0]∧ArO H' id tk x tok (l++[n]) most∧Ext2 id tk H H')
theorem allLen_rN (l:List Nod):allLen 14 (rN l)=true:=allLen_map (f:=eNod .no) (fun _=>rfl) l
theorem rN_snoc (l:List Nod) (n:Nod):rN l++[eNod .no n]=rN (l++[n]):=by simp
def smallN (n:Nod):Prop:=n.lists.length≤1000000∧n.lists.flatten.length≤999999∧∀ l ∈ n.lists,l.length≤1000000
set_option maxHeartbeats 4000000 in
theorem add_sound {H:AHeap} {id tk:Nat} {x:Shp} {tok:Tok} {l:List Nod} {most:Int} (t:Tok) (n:Nod) (ha:ArO H id tk x tok l most) (hx:shpMay x=true) (hl:l.length≤200000) (hn:smallN n):Sound Tryz.prog 77 [.ptr id 0,.agg (eNod t n)] H (AddQ x most l n id tk tok H):=by
 refine fn_soundQ hE cf77 (Nat.le_of_ble_eq_true rfl) fun Q hQr hQn=>?_
 obtain ⟨b1,b2,b3,b4,b5⟩:=shpMay_bounds hx
 obtain ⟨hn1,hn2,hn3⟩:=hn
 have hx0:AHeap.Ext H (H.alloc (.cells (eNod t n) 115)):=(AHeap.Ext.refl H).alloc
 have hss:∀ s ∈ x.sizes,s.length≤1000000:=fun s hs=>by have:=(sizesMay_bounds (b5 s hs)).2.1;omega
 ((try simp (disch:=first|assumption|omega|(simp only [nx_alloc,nx_bump,nx_set]<;>omega)|fail) only [↓YA,YB,YC,YZ,YF,↓reduceIte,Nat.reduceEqDiff,Nat.reduceAdd,Nat.reduceMul,Nat.reduceLeDiff,hQr,hQn,c77_0,eNod]);repeat' ((first|apply GdK_st|apply GdK_sf|apply CondK_s)<;>intro hd<;>(try simp only [hd])<;>(try simp (disch:=first|assumption|omega|(simp only [nx_alloc,nx_bump,nx_set]<;>omega)|fail) only [↓YA,YB,YC,YZ,YF,↓reduceIte,Nat.reduceEqDiff,Nat.reduceAdd,Nat.reduceMul,Nat.reduceLeDiff,hQr,hQn,hd,c77_0,eNod])))
 refine CallK.use (there_yes (hx0.get _ _ ha.cell) b1) ?_
 rintro r H1 ⟨rfl,hx1⟩
 have hx01:=hx0.trans hx1
 have hnod:=hx1.get _ _ (AHeap.get_alloc_self (H:=H) (o:=.cells (eNod t n) 115))
 have hc:=(ha.ext hx01).cell
 have hid:=AHeap.lt ha.cell
 have htk:=AHeap.lt ha.row
 have hxn:=hx01.next
 unfold eNod at hnod
 have hc0:=hc
 unfold eArN eAr at hc
 ((try simp (disch:=first|assumption|omega|(simp only [nx_alloc,nx_bump,nx_set]<;>omega)|fail) only [↓YA,YB,YC,YZ,YF,↓reduceIte,Nat.reduceEqDiff,Nat.reduceAdd,Nat.reduceMul,Nat.reduceLeDiff,hQr,hQn,c77_0,hc,hnod]);repeat' ((first|apply GdK_st|apply GdK_sf|apply CondK_s)<;>intro hd<;>(try simp only [hd])<;>(try simp (disch:=first|assumption|omega|(simp only [nx_alloc,nx_bump,nx_set]<;>omega)|fail) only [↓YA,YB,YC,YZ,YF,↓reduceIte,Nat.reduceEqDiff,Nat.reduceAdd,Nat.reduceMul,Nat.reduceLeDiff,hQr,hQn,hd,c77_0,hc,hnod])))
 refine CallK.use (check_sound tok t x n _ (by omega) hss ⟨hn1,hn3⟩) ?_
 rintro r H2 ⟨rfl,k2,rfl⟩
 by_cases e1:checkErr x n=0
 ·have d1:(checkErr x n != 0)=false:=by simp [e1]
  ((try simp (disch:=first|assumption|omega|(simp only [nx_alloc,nx_bump,nx_set]<;>omega)|fail) only [↓YA,YB,YC,YZ,YF,↓reduceIte,Nat.reduceEqDiff,Nat.reduceAdd,Nat.reduceMul,Nat.reduceLeDiff,hQr,hQn,c77_0,d1,hc,hnod]);repeat' ((first|apply GdK_st|apply GdK_sf|apply CondK_s)<;>intro hd<;>(try simp only [hd])<;>(try simp (disch:=first|assumption|omega|(simp only [nx_alloc,nx_bump,nx_set]<;>omega)|fail) only [↓YA,YB,YC,YZ,YF,↓reduceIte,Nat.reduceEqDiff,Nat.reduceAdd,Nat.reduceMul,Nat.reduceLeDiff,hQr,hQn,hd,c77_0,d1,hc,hnod])))
  refine CallK.use (leads_sound t n (H:=H1.bump k2) hc0 e1 (by omega) hn1 hn2) ?_
  rintro r H3 ⟨rfl,k3,rfl⟩
  cases hlb:leadsB x l n with
  | false =>
   have hT:addErr x most l n=9:=by unfold addErr;simp [e1,hlb]
   ((try simp (disch:=first|assumption|omega|(simp only [nx_alloc,nx_bump,nx_set]<;>omega)|fail) only [↓YA,YB,YC,YZ,YF,↓reduceIte,Nat.reduceEqDiff,Nat.reduceAdd,Nat.reduceMul,Nat.reduceLeDiff,hQr,hQn,c77_0,hlb]);repeat' ((first|apply GdK_st|apply GdK_sf|apply CondK_s)<;>intro hd<;>(try simp only [hd])<;>(try simp (disch:=first|assumption|omega|(simp only [nx_alloc,nx_bump,nx_set]<;>omega)|fail) only [↓YA,YB,YC,YZ,YF,↓reduceIte,Nat.reduceEqDiff,Nat.reduceAdd,Nat.reduceMul,Nat.reduceLeDiff,hQr,hQn,hd,c77_0,hlb])))
   refine fin_keep (.inl ⟨by rw [hT];decide,by rw [hT],?_⟩)
   (repeat (first|assumption|exact AHeap.Ext.refl _|refine AHeap.Ext.set ?_ (by first|assumption|omega|(simp only [nx_alloc,nx_bump,nx_set];omega))|refine AHeap.Ext.alloc ?_|refine AHeap.Ext.bump ?_))
  | true =>
   ((try simp (disch:=first|assumption|omega|(simp only [nx_alloc,nx_bump,nx_set]<;>omega)|fail) only [↓YA,YB,YC,YZ,YF,↓reduceIte,Nat.reduceEqDiff,Nat.reduceAdd,Nat.reduceMul,Nat.reduceLeDiff,hQr,hQn,c77_0,hlb,hc,List.length_map]);repeat' ((first|apply GdK_st|apply GdK_sf|apply CondK_s)<;>intro hd<;>(try simp only [hd])<;>(try simp (disch:=first|assumption|omega|(simp only [nx_alloc,nx_bump,nx_set]<;>omega)|fail) only [↓YA,YB,YC,YZ,YF,↓reduceIte,Nat.reduceEqDiff,Nat.reduceAdd,Nat.reduceMul,Nat.reduceLeDiff,hQr,hQn,hd,c77_0,hlb,hc,List.length_map])))
   any_goals
    have hT:addErr x most l n=7:=by unfold addErr;simp [e1,hlb];grind
    refine fin_keep (.inl ⟨by rw [hT];decide,by rw [hT],?_⟩)
    (repeat (first|assumption|exact AHeap.Ext.refl _|refine AHeap.Ext.set ?_ (by first|assumption|omega|(simp only [nx_alloc,nx_bump,nx_set];omega))|refine AHeap.Ext.alloc ?_|refine AHeap.Ext.bump ?_))
   have hT:addErr x most l n=0:=by unfold addErr;simp [e1,hlb];grind
   have hrow:=(ha.ext hx01).row
   ((try simp (disch:=first|assumption|omega|(simp only [nx_alloc,nx_bump,nx_set]<;>omega)|fail) only [↓YA,YB,YC,YZ,YF,↓reduceIte,Nat.reduceEqDiff,Nat.reduceAdd,Nat.reduceMul,Nat.reduceLeDiff,hQr,hQn,c77_0,hc,hnod,List.length_map]);repeat' ((first|apply GdK_st|apply GdK_sf|apply CondK_s)<;>intro hd<;>(try simp only [hd])<;>(try simp (disch:=first|assumption|omega|(simp only [nx_alloc,nx_bump,nx_set]<;>omega)|fail) only [↓YA,YB,YC,YZ,YF,↓reduceIte,Nat.reduceEqDiff,Nat.reduceAdd,Nat.reduceMul,Nat.reduceLeDiff,hQr,hQn,hd,c77_0,hc,hnod,List.length_map])))
   refine CallK.use (nclone_sound t n _ ⟨hn1,hn3⟩) ?_
   rintro r H4 ⟨rfl,k4,rfl⟩
   have ha1:=allLen_rN l
   have hb1:l.length+1≤maxLen:=by unfold maxLen;omega
   have hb2:(l.length+1) * 128≤140737488355328:=by omega
   have ho1:allLen 14 [eNod .no n]=true:=rfl
   have hne:=ha.ne
   have hne':=Ne.symm hne
   have hl1:=AHeap.lt hc
   have hl2:=AHeap.lt hrow
   refine ⟨stable_one rfl rfl (by simp (disch:=first|assumption|omega|(simp only [nx_alloc,nx_bump,nx_set]<;>omega)|fail) only [↓YA,YB,YC,YZ,YF,↓reduceIte,Nat.reduceEqDiff,Nat.reduceAdd,Nat.reduceMul,Nat.reduceLeDiff,hc]),?_⟩
   unfold eNod at ho1
   have hsn:=rN_snoc l n
   conv at hsn=>lhs;rhs;unfold eNod
   have hw:IntKind.i64.wrap (((l.length+1:Nat):Int) - 1)=(l.length:Int):=by rw [wrap_of (by omega) (by omega)];omega
   ((try simp (disch:=first|assumption|omega|(simp only [nx_alloc,nx_bump,nx_set]<;>omega)|fail) only [↓YA,YB,YC,YZ,YF,↓reduceIte,Nat.reduceEqDiff,Nat.reduceAdd,Nat.reduceMul,Nat.reduceLeDiff,hQr,hQn,c77_0,eNod,hc,hnod,hrow,ha1,hb1,hb2,ho1,List.length_map,List.length_append]);repeat' ((first|apply GdK_st|apply GdK_sf|apply CondK_s)<;>intro hd<;>(try simp only [hd])<;>(try simp (disch:=first|assumption|omega|(simp only [nx_alloc,nx_bump,nx_set]<;>omega)|fail) only [↓YA,YB,YC,YZ,YF,↓reduceIte,Nat.reduceEqDiff,Nat.reduceAdd,Nat.reduceMul,Nat.reduceLeDiff,hQr,hQn,hd,c77_0,eNod,hc,hnod,hrow,ha1,hb1,hb2,ho1,List.length_map,List.length_append])))
   have hi:((l.length+1:Nat):Int) - 1=l.length:=by omega
   rw [hsn,hi]
   refine fin_keep (.inr ⟨hT,rfl,⟨hne,?_,?_⟩,?_⟩)
   ·rw [AHeap.get_set_self (by simp;omega)];rfl
   ·rw [AHeap.get_set_ne hne',AHeap.get_set_self (by simp;omega),List.length_append];rfl
   ·refine ⟨by simp;omega,fun i o h1 h2 h=>?_⟩
    rw [AHeap.get_set_ne h1,AHeap.get_set_ne h2]
    simp only [AHeap.get_bump]
    exact hx01.get _ _ h
 ·have d1:(checkErr x n != 0)=true:=by simpa using e1
  have hT:addErr x most l n=checkErr x n:=by unfold addErr;rw [if_pos e1]
  ((try simp (disch:=first|assumption|omega|(simp only [nx_alloc,nx_bump,nx_set]<;>omega)|fail) only [↓YA,YB,YC,YZ,YF,↓reduceIte,Nat.reduceEqDiff,Nat.reduceAdd,Nat.reduceMul,Nat.reduceLeDiff,hQr,hQn,c77_0,d1]);repeat' ((first|apply GdK_st|apply GdK_sf|apply CondK_s)<;>intro hd<;>(try simp only [hd])<;>(try simp (disch:=first|assumption|omega|(simp only [nx_alloc,nx_bump,nx_set]<;>omega)|fail) only [↓YA,YB,YC,YZ,YF,↓reduceIte,Nat.reduceEqDiff,Nat.reduceAdd,Nat.reduceMul,Nat.reduceLeDiff,hQr,hQn,hd,c77_0,d1])))
  refine fin_keep (.inl ⟨by rw [hT];exact e1,by rw [hT],?_⟩)
  (repeat (first|assumption|exact AHeap.Ext.refl _|refine AHeap.Ext.set ?_ (by first|assumption|omega|(simp only [nx_alloc,nx_bump,nx_set];omega))|refine AHeap.Ext.alloc ?_|refine AHeap.Ext.bump ?_))
end Go.Proofs.YtaapiigfmdhobaaGreat
