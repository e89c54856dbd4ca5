/- Texts of the walk, joined: Ta Tb Tc Td Te Tf Ye Ym Av. -/
import Derived.Test.YtaapiigfmdhobaaGreatMh
import Derived.Sort.Walk0
import Derived.Test.YtaapiigfmdhobaaGreatMd
import Derived.Test.YtaapiigfmdhobaaGreatMe
namespace Go.Proofs.YtaapiigfmdhobaaGreat
set_option linter.unusedSimpArgs false
set_option linter.unusedVariables false
open Go.RowKit
def ArA (H:AHeap) (id:Nat) (x:Shp) (l:List Nod):Prop:=∃ tok nt most,H.get id=some (.cells (eArN x tok nt l most) 117)
theorem ArA.ext {H H':AHeap} {id:Nat} {x:Shp} {l:List Nod} (h:ArA H id x l) (hx:AHeap.Ext H H'):ArA H' id x l:=by
 obtain ⟨tok,nt,most,h⟩:=h
 exact ⟨tok,nt,most,hx.get _ _ h⟩
theorem ArO.ara {H:AHeap} {id tk:Nat} {x:Shp} {tok:Tok} {l:List Nod} {most:Int} (h:ArO H id tk x tok l most):ArA H id x l:=⟨_,_,_,h.cell⟩
theorem len_sound {H:AHeap} {id:Nat} {x:Shp} {l:List Nod} (ha:ArA H id x l) (hx:1≤x.sizes.length):Sound Tryz.prog 42 [.ptr id 0] H (PureE H (.i l.length)):=by
 obtain ⟨tok,nt,most,h⟩:=ha
 refine fn_soundQ hE cf42 (Nat.le_of_ble_eq_true rfl) fun Q hQr hQn=>?_
 ((try simp (disch:=first|assumption|omega|(simp only [nx_alloc,nx_bump,nx_set]<;>omega)|fail) only [↓YA,YB,YC,YZ,YF,↓reduceIte,Nat.reduceEqDiff,Nat.reduceAdd,Nat.reduceMul,Nat.reduceLeDiff,hQr,hQn,c42_0]);repeat' ((first|apply GdK_st|apply GdK_sf|apply CondK_s)<;>intro hd<;>(try simp only [hd])<;>(try simp (disch:=first|assumption|omega|(simp only [nx_alloc,nx_bump,nx_set]<;>omega)|fail) only [↓YA,YB,YC,YZ,YF,↓reduceIte,Nat.reduceEqDiff,Nat.reduceAdd,Nat.reduceMul,Nat.reduceLeDiff,hQr,hQn,hd,c42_0])))
 refine CallK.use (there_yes h hx) ?_
 rintro r H1 ⟨rfl,hx1⟩
 have hc:=hx1.get _ _ h
 unfold eArN eAr at hc
 ((try simp (disch:=first|assumption|omega|(simp only [nx_alloc,nx_bump,nx_set]<;>omega)|fail) only [↓YA,YB,YC,YZ,YF,↓reduceIte,Nat.reduceEqDiff,Nat.reduceAdd,Nat.reduceMul,Nat.reduceLeDiff,hQr,hQn,c42_0,hc,List.length_map]);repeat' ((first|apply GdK_st|apply GdK_sf|apply CondK_s)<;>intro hd<;>(try simp only [hd])<;>(try simp (disch:=first|assumption|omega|(simp only [nx_alloc,nx_bump,nx_set]<;>omega)|fail) only [↓YA,YB,YC,YZ,YF,↓reduceIte,Nat.reduceEqDiff,Nat.reduceAdd,Nat.reduceMul,Nat.reduceLeDiff,hQr,hQn,hd,c42_0,hc,List.length_map])))
 exact fin_keep ⟨rfl,hx1⟩
theorem top_sound {H:AHeap} {id:Nat} {x:Shp} {l:List Nod} (ha:ArA H id x l) (hx:1≤x.sizes.length) (hl:l.length≤1000000000):Sound Tryz.prog 44 [.ptr id 0] H (PureE H (.i ((l.length:Int) - 1))):=by
 refine fn_soundQ hE cf44 (Nat.le_of_ble_eq_true rfl) fun Q hQr hQn=>?_
 ((try simp (disch:=first|assumption|omega|(simp only [nx_alloc,nx_bump,nx_set]<;>omega)|fail) only [↓YA,YB,YC,YZ,YF,↓reduceIte,Nat.reduceEqDiff,Nat.reduceAdd,Nat.reduceMul,Nat.reduceLeDiff,hQr,hQn,c44_0]);repeat' ((first|apply GdK_st|apply GdK_sf|apply CondK_s)<;>intro hd<;>(try simp only [hd])<;>(try simp (disch:=first|assumption|omega|(simp only [nx_alloc,nx_bump,nx_set]<;>omega)|fail) only [↓YA,YB,YC,YZ,YF,↓reduceIte,Nat.reduceEqDiff,Nat.reduceAdd,Nat.reduceMul,Nat.reduceLeDiff,hQr,hQn,hd,c44_0])))
 refine CallK.use (len_sound ha hx) ?_
 rintro r H1 ⟨rfl,hx1⟩
 ((try simp (disch:=first|assumption|omega|(simp only [nx_alloc,nx_bump,nx_set]<;>omega)|fail) only [↓YA,YB,YC,YZ,YF,↓reduceIte,Nat.reduceEqDiff,Nat.reduceAdd,Nat.reduceMul,Nat.reduceLeDiff,hQr,hQn]);repeat' ((first|apply GdK_st|apply GdK_sf|apply CondK_s)<;>intro hd<;>(try simp only [hd])<;>(try simp (disch:=first|assumption|omega|(simp only [nx_alloc,nx_bump,nx_set]<;>omega)|fail) only [↓YA,YB,YC,YZ,YF,↓reduceIte,Nat.reduceEqDiff,Nat.reduceAdd,Nat.reduceMul,Nat.reduceLeDiff,hQr,hQn,hd])))
 exact fin_keep ⟨rfl,hx1⟩
def nodAt (l:List Nod) (i:Int):Nod:=if 0≤i then (l[i.toNat]?).getD ⟨0,[],⟨0,0,⟨0,0,0,0,0,0,0,0,0,0⟩⟩⟩ else ⟨0,[],⟨0,0,⟨0,0,0,0,0,0,0,0,0,0⟩⟩⟩
def inB (l:List Nod) (i:Int):Bool:=decide (0≤i)&&decide (i<l.length)
theorem anode_sound {H:AHeap} {id:Nat} {x:Shp} {l:List Nod} (i:Int) (ha:ArA H id x l) (hx:1≤x.sizes.length) (hn:∀ n ∈ l,smallN n):Sound Tryz.prog 68 [.ptr id 0,.i i] H fun r H'=>AHeap.Ext H H'∧∃ t,r=.tup [.agg (eNod t (nodAt l i)),.i (bif inB l i then 0 else 9)]:=by
 obtain ⟨tok,nt,most,h⟩:=ha
 refine fn_soundQ hE cf68 (Nat.le_of_ble_eq_true rfl) fun Q hQr hQn=>?_
 have hid:=AHeap.lt h
 have hx0:∀ o,AHeap.Ext H (H.alloc o):=fun o=>(AHeap.Ext.refl H).alloc
 ((try simp (disch:=first|assumption|omega|(simp only [nx_alloc,nx_bump,nx_set]<;>omega)|fail) only [↓YA,YB,YC,YZ,YF,↓reduceIte,Nat.reduceEqDiff,Nat.reduceAdd,Nat.reduceMul,Nat.reduceLeDiff,hQr,hQn,c68_0]);repeat' ((first|apply GdK_st|apply GdK_sf|apply CondK_s)<;>intro hd<;>(try simp only [hd])<;>(try simp (disch:=first|assumption|omega|(simp only [nx_alloc,nx_bump,nx_set]<;>omega)|fail) only [↓YA,YB,YC,YZ,YF,↓reduceIte,Nat.reduceEqDiff,Nat.reduceAdd,Nat.reduceMul,Nat.reduceLeDiff,hQr,hQn,hd,c68_0])))
 refine CallK.use (there_yes ((hx0 _).get _ _ h) hx) ?_
 rintro r H1 ⟨rfl,hx1⟩
 have hx01:=(hx0 _).trans hx1
 have hc:=hx01.get _ _ h
 have hz:=hx1.get _ _ (AHeap.get_alloc_self (H:=H))
 have hzl:=AHeap.lt hz
 unfold eArN eAr at hc
 by_cases hi:0≤i∧i<l.length
 ·obtain ⟨d,rfl⟩:∃ d:Nat,i=d:=⟨i.toNat,by omega⟩
  have hd:d<l.length:=by omega
  have hr:=rN_get hd
  have h0:(0:Int)≤d:=by omega
  have d1:decide ((d:Int)<0)=false:=by simp
  have d2:decide ((d:Int)≥(l.length:Int))=false:=by simp;omega
  have hT1:nodAt l d=l[d]:=by unfold nodAt;simp [hd]
  have hT2:inB l d=true:=by unfold inB;simp;omega
  rw [hT1,hT2] at hQr hQn
  unfold eNod at hr
  ((try simp (disch:=first|assumption|omega|(simp only [nx_alloc,nx_bump,nx_set]<;>omega)|fail) only [↓YA,YB,YC,YZ,YF,↓reduceIte,Nat.reduceEqDiff,Nat.reduceAdd,Nat.reduceMul,Nat.reduceLeDiff,hQr,hQn,c68_0,hc,hz,d1,d2,h0,hr,List.length_map]);repeat' ((first|apply GdK_st|apply GdK_sf|apply CondK_s)<;>intro hd<;>(try simp only [hd])<;>(try simp (disch:=first|assumption|omega|(simp only [nx_alloc,nx_bump,nx_set]<;>omega)|fail) only [↓YA,YB,YC,YZ,YF,↓reduceIte,Nat.reduceEqDiff,Nat.reduceAdd,Nat.reduceMul,Nat.reduceLeDiff,hQr,hQn,hd,c68_0,hc,hz,d1,d2,h0,hr,List.length_map])))
  have hs:=hn _ (List.getElem_mem hd)
  refine CallK.use (nclone_sound .no l[d] _ ⟨hs.1,hs.2.2⟩) ?_
  rintro r H2 ⟨rfl,k2,rfl⟩
  ((try simp (disch:=first|assumption|omega|(simp only [nx_alloc,nx_bump,nx_set]<;>omega)|fail) only [↓YA,YB,YC,YZ,YF,↓reduceIte,Nat.reduceEqDiff,Nat.reduceAdd,Nat.reduceMul,Nat.reduceLeDiff,hQr,hQn,eNod,hz]);repeat' ((first|apply GdK_st|apply GdK_sf|apply CondK_s)<;>intro hd<;>(try simp only [hd])<;>(try simp (disch:=first|assumption|omega|(simp only [nx_alloc,nx_bump,nx_set]<;>omega)|fail) only [↓YA,YB,YC,YZ,YF,↓reduceIte,Nat.reduceEqDiff,Nat.reduceAdd,Nat.reduceMul,Nat.reduceLeDiff,hQr,hQn,hd,eNod,hz])))
  exact fin_keep ⟨(hx01.bump).set (Nat.le_refl _),_,rfl⟩
 ·have hT1:nodAt l i=⟨0,[],⟨0,0,⟨0,0,0,0,0,0,0,0,0,0⟩⟩⟩:=by
   unfold nodAt
   split
   ·rw [List.getElem?_eq_none (by omega)];rfl
   ·rfl
  have hT2:inB l i=false:=by unfold inB;simp;omega
  rw [hT1,hT2] at hQr hQn
  ((try simp (disch:=first|assumption|omega|(simp only [nx_alloc,nx_bump,nx_set]<;>omega)|fail) only [↓YA,YB,YC,YZ,YF,↓reduceIte,Nat.reduceEqDiff,Nat.reduceAdd,Nat.reduceMul,Nat.reduceLeDiff,hQr,hQn,c68_0,hc,hz,List.length_map]);repeat' ((first|apply GdK_st|apply GdK_sf|apply CondK_s)<;>intro hd<;>(try simp only [hd])<;>(try simp (disch:=first|assumption|omega|(simp only [nx_alloc,nx_bump,nx_set]<;>omega)|fail) only [↓YA,YB,YC,YZ,YF,↓reduceIte,Nat.reduceEqDiff,Nat.reduceAdd,Nat.reduceMul,Nat.reduceLeDiff,hQr,hQn,hd,c68_0,hc,hz,List.length_map])))
  all_goals first
   | (exact fin_keep ⟨hx01.set (Nat.le_refl _),.full,rfl⟩)
   | (exfalso;grind)
def cnt (n:Nat) (chs:List Int):List Int:=(List.range n).map fun (i:Nat)=>(chs.count (i:Int):Int)
theorem cnt_len (n:Nat) (chs:List Int):(cnt n chs).length=n:=by simp [cnt]
theorem cnt_get {n:Nat} {chs:List Int} {k:Nat} (h:k<n):(cnt n chs)[k]'(by rw [cnt_len];exact h)=(chs.count (k:Int):Int):=by simp [cnt]
def kids (x:Shp) (l:List Nod):List Int:=l.flatMap fun n=>if lastB x n.dim=true then [] else (each n).map Cel.child
def wholeB (x:Shp) (l:List Nod):Bool:=if l.length=0 then true else (nodAt l ((l.length:Int) - 1)).dim == 0&&!(((cnt l.length (kids x l)).take (l.length - 1)).contains 0)
set_option maxHeartbeats 4000000 in
theorem rmay6_sound (m : Int) (a : Ag) (H : AHeap) : Sound Tryz.prog 102 [.i m, .agg (eAg a)] H (Pure H (.b (aggMay m a))) := by
  refine fn_soundQ hE cf102 (Nat.le_of_ble_eq_true rfl) fun Q hQr hQn => ?_
  have hx : AHeap.Ext H (H.alloc (.cells (eAg a) 54)) := (AHeap.Ext.refl H).alloc
  unfold eAg at hx ⊢
  ((try simp (disch := first | assumption | omega | (simp only [nx_alloc, nx_bump, nx_set] <;> omega) | fail) only [↓YA, YB, YC, YZ, YF, ↓reduceIte, Nat.reduceEqDiff, Nat.reduceAdd, Nat.reduceMul, Nat.reduceLeDiff, hQr, hQn, c102_0]); repeat' ((first | apply GdK_st | apply GdK_sf | apply CondK_s) <;> intro hd <;> (try simp only [hd]) <;> (try simp (disch := first | assumption | omega | (simp only [nx_alloc, nx_bump, nx_set] <;> omega) | fail) only [↓YA, YB, YC, YZ, YF, ↓reduceIte, Nat.reduceEqDiff, Nat.reduceAdd, Nat.reduceMul, Nat.reduceLeDiff, hQr, hQn, hd, c102_0])))
  any_goals
    refine fin_b hx ?_
    unfold aggMay
    grind
  have h0 : 0 ≤ m := by grind
  have h1 : m ≤ 3 := by grind
  have h2 : 1 ≤ a.n := by grind
  rw [tail0 h0 h1 h2] at hQr hQn
  refine AW_loopI (fun n F G => ∃ k : Nat, k ≤ 3 ∧ n = 3 - k ∧ Fr.get F 5 = .i (k : Int) ∧ Fr.get F 0 = .i m ∧ Fr.get F 3 = .ptr H.next 0 ∧ AHeap.Ext H G ∧ G.get H.next = some (.cells (eAg a) 54) ∧ tailMay 0 m a = tailMay k m a) 3 (GStep.refl _ _) ⟨0, by omega, rfl, rfl, rfl, rfl, hx, AHeap.get_alloc_self (H := H), rfl⟩ ?_
  rintro n F G ⟨k, hk, rfl, f5, f0, f3, hxG, hg, ht⟩
  by_cases hk3 : k = 3
  · subst hk3
    replace f5 : Fr.get F 5 = .i 3 := f5
    have d : decide ((3 : Int) < 3) = false := by decide
    ((try simp (disch := first | assumption | omega | (simp only [nx_alloc, nx_bump, nx_set] <;> omega) | fail) only [↓YA, YB, YC, YZ, YF, ↓reduceIte, Nat.reduceEqDiff, Nat.reduceAdd, Nat.reduceMul, Nat.reduceLeDiff, hQr, hQn, c102_0, f5, d]); repeat' ((first | apply GdK_st | apply GdK_sf | apply CondK_s) <;> intro hd <;> (try simp only [hd]) <;> (try simp (disch := first | assumption | omega | (simp only [nx_alloc, nx_bump, nx_set] <;> omega) | fail) only [↓YA, YB, YC, YZ, YF, ↓reduceIte, Nat.reduceEqDiff, Nat.reduceAdd, Nat.reduceMul, Nat.reduceLeDiff, hQr, hQn, hd, c102_0, f5, d])))
    ((try simp (disch := first | assumption | omega | (simp only [nx_alloc, nx_bump, nx_set] <;> omega) | fail) only [↓YA, YB, YC, YZ, YF, ↓reduceIte, Nat.reduceEqDiff, Nat.reduceAdd, Nat.reduceMul, Nat.reduceLeDiff, hQr, hQn, c102_0]); repeat' ((first | apply GdK_st | apply GdK_sf | apply CondK_s) <;> intro hd <;> (try simp only [hd]) <;> (try simp (disch := first | assumption | omega | (simp only [nx_alloc, nx_bump, nx_set] <;> omega) | fail) only [↓YA, YB, YC, YZ, YF, ↓reduceIte, Nat.reduceEqDiff, Nat.reduceAdd, Nat.reduceMul, Nat.reduceLeDiff, hQr, hQn, hd, c102_0])))
    exact fin_b hxG (by rw [ht]; rfl)
  · have hk' : k < 3 := by omega
    rw [tail_step hk'] at ht
    have hgl := AHeap.lt hg
    have hg0 := hg
    have hxn := hxG.next
    unfold eAg at hg
    obtain rfl | rfl | rfl : k = 0 ∨ k = 1 ∨ k = 2 := by omega
    · replace f5 : Fr.get F 5 = .i 0 := f5
      ((try simp (disch := first | assumption | omega | (simp only [nx_alloc, nx_bump, nx_set] <;> omega) | fail) only [↓YA, YB, YC, YZ, YF, ↓reduceIte, Nat.reduceEqDiff, Nat.reduceAdd, Nat.reduceMul, Nat.reduceLeDiff, hQr, hQn, c102_0, f5, f0, f3, hg, eAg, Int.cast_ofNat_Int, Int.reduceLE, Int.reduceLT, Int.reduceToNat, Nat.reduceMul, Int.reduceAdd, decide_true]); repeat' ((first | apply GdK_st | apply GdK_sf | apply CondK_s) <;> intro hd <;> (try simp only [hd]) <;> (try simp (disch := first | assumption | omega | (simp only [nx_alloc, nx_bump, nx_set] <;> omega) | fail) only [↓YA, YB, YC, YZ, YF, ↓reduceIte, Nat.reduceEqDiff, Nat.reduceAdd, Nat.reduceMul, Nat.reduceLeDiff, hQr, hQn, hd, c102_0, f5, f0, f3, hg, eAg, Int.cast_ofNat_Int, Int.reduceLE, Int.reduceLT, Int.reduceToNat, Nat.reduceMul, Int.reduceAdd, decide_true])))
      all_goals first
        | (refine fin_b ?_ ?_
           · (repeat (first | assumption | exact AHeap.Ext.refl _ | refine AHeap.Ext.set ?_ (by first | assumption | omega | (simp only [nx_alloc, nx_bump, nx_set]; omega)) | refine AHeap.Ext.alloc ?_ | refine AHeap.Ext.bump ?_))
           · rw [ht]; simp only [prtMay, Ag.prt]; grind)
        | (refine ⟨2, by omega, 1, by omega, rfl, rfl, ?_, ?_⟩
           · (repeat (first | assumption | exact AHeap.Ext.refl _ | refine AHeap.Ext.set ?_ (by first | assumption | omega | (simp only [nx_alloc, nx_bump, nx_set]; omega)) | refine AHeap.Ext.alloc ?_ | refine AHeap.Ext.bump ?_))
           · rw [ht]; simp only [prtMay, Ag.prt]; grind)
    · replace f5 : Fr.get F 5 = .i 1 := f5
      ((try simp (disch := first | assumption | omega | (simp only [nx_alloc, nx_bump, nx_set] <;> omega) | fail) only [↓YA, YB, YC, YZ, YF, ↓reduceIte, Nat.reduceEqDiff, Nat.reduceAdd, Nat.reduceMul, Nat.reduceLeDiff, hQr, hQn, c102_0, f5, f0, f3, hg, eAg, Int.cast_ofNat_Int, Int.reduceLE, Int.reduceLT, Int.reduceToNat, Nat.reduceMul, Int.reduceAdd, decide_true]); repeat' ((first | apply GdK_st | apply GdK_sf | apply CondK_s) <;> intro hd <;> (try simp only [hd]) <;> (try simp (disch := first | assumption | omega | (simp only [nx_alloc, nx_bump, nx_set] <;> omega) | fail) only [↓YA, YB, YC, YZ, YF, ↓reduceIte, Nat.reduceEqDiff, Nat.reduceAdd, Nat.reduceMul, Nat.reduceLeDiff, hQr, hQn, hd, c102_0, f5, f0, f3, hg, eAg, Int.cast_ofNat_Int, Int.reduceLE, Int.reduceLT, Int.reduceToNat, Nat.reduceMul, Int.reduceAdd, decide_true])))
      all_goals first
        | (refine fin_b ?_ ?_
           · (repeat (first | assumption | exact AHeap.Ext.refl _ | refine AHeap.Ext.set ?_ (by first | assumption | omega | (simp only [nx_alloc, nx_bump, nx_set]; omega)) | refine AHeap.Ext.alloc ?_ | refine AHeap.Ext.bump ?_))
           · rw [ht]; simp only [prtMay, Ag.prt]; grind)
        | (refine ⟨1, by omega, 2, by omega, rfl, rfl, ?_, ?_⟩
           · (repeat (first | assumption | exact AHeap.Ext.refl _ | refine AHeap.Ext.set ?_ (by first | assumption | omega | (simp only [nx_alloc, nx_bump, nx_set]; omega)) | refine AHeap.Ext.alloc ?_ | refine AHeap.Ext.bump ?_))
           · rw [ht]; simp only [prtMay, Ag.prt]; grind)
    · replace f5 : Fr.get F 5 = .i 2 := f5
      ((try simp (disch := first | assumption | omega | (simp only [nx_alloc, nx_bump, nx_set] <;> omega) | fail) only [↓YA, YB, YC, YZ, YF, ↓reduceIte, Nat.reduceEqDiff, Nat.reduceAdd, Nat.reduceMul, Nat.reduceLeDiff, hQr, hQn, c102_0, f5, f0, f3, hg, eAg, Int.cast_ofNat_Int, Int.reduceLE, Int.reduceLT, Int.reduceToNat, Nat.reduceMul, Int.reduceAdd, decide_true]); repeat' ((first | apply GdK_st | apply GdK_sf | apply CondK_s) <;> intro hd <;> (try simp only [hd]) <;> (try simp (disch := first | assumption | omega | (simp only [nx_alloc, nx_bump, nx_set] <;> omega) | fail) only [↓YA, YB, YC, YZ, YF, ↓reduceIte, Nat.reduceEqDiff, Nat.reduceAdd, Nat.reduceMul, Nat.reduceLeDiff, hQr, hQn, hd, c102_0, f5, f0, f3, hg, eAg, Int.cast_ofNat_Int, Int.reduceLE, Int.reduceLT, Int.reduceToNat, Nat.reduceMul, Int.reduceAdd, decide_true])))
      all_goals first
        | (refine fin_b ?_ ?_
           · (repeat (first | assumption | exact AHeap.Ext.refl _ | refine AHeap.Ext.set ?_ (by first | assumption | omega | (simp only [nx_alloc, nx_bump, nx_set]; omega)) | refine AHeap.Ext.alloc ?_ | refine AHeap.Ext.bump ?_))
           · rw [ht]; simp only [prtMay, Ag.prt]; grind)
        | (refine ⟨0, by omega, 3, by omega, rfl, rfl, ?_, ?_⟩
           · (repeat (first | assumption | exact AHeap.Ext.refl _ | refine AHeap.Ext.set ?_ (by first | assumption | omega | (simp only [nx_alloc, nx_bump, nx_set]; omega)) | refine AHeap.Ext.alloc ?_ | refine AHeap.Ext.bump ?_))
           · rw [ht]; simp only [prtMay, Ag.prt]; grind)
def vAg (a:Ag):List Value:=[.int .i64 a.n,.int .i64 a.s0,.int .i64 a.l0,.int .i64 a.h0,.int .i64 a.s1,.int .i64 a.l1,.int .i64 a.h1,.int .i64 a.s2,.int .i64 a.l2,.int .i64 a.h2]
def vCel (c:Cel):List Value:=.int .i64 c.key :: .int .i64 c.child :: vAg c.agg
theorem vsEq_ag (a b:Ag):vsEq (vAg a) (vAg b)=decide (a=b):=by
 obtain ⟨n,s0,l0,h0,s1,l1,h1,s2,l2,h2⟩:=a
 obtain ⟨n',s0',l0',h0',s1',l1',h1',s2',l2',h2'⟩:=b
 rw [Bool.eq_iff_iff]
 simp [vAg,vsEq,vEq_int]
theorem vsEq_cel (a b:Cel):vsEq (vCel a) (vCel b)=decide (a=b):=by
 obtain ⟨k,c,x⟩:=a
 obtain ⟨k',c',y⟩:=b
 rw [Bool.eq_iff_iff]
 simp [vCel,vsEq,vEq_int,vsEq_ag]
theorem stable_n {d:Nat} {op:AOp} {F:Fr} {H:AHeap}:AI.stable ⟨none,some d,op⟩ F H=(op.ev F H=some (Fr.get F d,H)):=by
 simp [AI.stable,AI.want]
theorem stable_g {s d:Nat} {t:Bool} {op:AOp} {F:Fr} {H:AHeap}:AI.stable ⟨some (s,t),some d,op⟩ F H=@GdK (Fr.get F s) t ⟨op.ev F H=some (Fr.get F d,H)⟩ ⟨fun _ _=>True⟩:=by
 simp only [AI.stable,AI.want,GdK]
 cases Fr.get F s with
 | sc v =>
  cases v with
  | bool c=>cases c<;>cases t<;>simp
  | _=>rfl
 | _=>rfl
theorem stables_nil {F:Fr} {H:AHeap}:(∀ r ∈ ([]:List AI),r.stable F H)=True:=by simp
theorem stables_cons {F:Fr} {H:AHeap} {a:AI} {l:List AI}:(∀ r ∈ a :: l,r.stable F H)=(a.stable F H∧∀ r ∈ l,r.stable F H):=by simp
theorem bytes_toList (l:List UInt8):(⟨l.toArray⟩:ByteArray).toList=l:=by rw [ByteArray.toList_eq]
theorem beq_dec (a b:List UInt8):(a == b)=decide (a=b):=by rw [Bool.eq_iff_iff];simp
theorem YE:(∀ {α β:Type} {f:α→β} {l:List α} {i:Nat},(l.map f)[i]?=(l[i]?).map f)∧(∀ {α:Type} {l:List α} {i:Nat} (h:i<l.length),l[i]?=some l[i]) ∧
  (∀ {a:Ag},(eAg a).length=10)∧(∀ {c:Cel},(eCel c).length=12)∧(∀ {t:Tok} {n:Nod},(eNod t n).length=14)∧(∀ {x:Shp},(eShp x).length=2) ∧
  (∀ {a:Ag},(eAg a).take 10=eAg a)∧(∀ {c:Cel},(eCel c).take 12=eCel c)∧(∀ {t:Tok} {n:Nod},(eNod t n).take 14=eNod t n)∧(∀ {x:Shp},(eShp x).take 2=eShp x) ∧
  (∀ {c:Cel},(eCel c)[0]?=some (.i c.key))∧(∀ {c:Cel},(eCel c)[1]?=some (.i c.child))∧(∀ {c:Cel},((eCel c).drop 2).take 10=eAg c.agg)∧(∀ {a:Ag},(eAg a)[0]?=some (.i a.n)) ∧
  (∀ {t:Tok} {n:Nod},(eNod t n)[0]?=some (.i n.dim))∧(∀ {t:Tok} {n:Nod},(eNod t n)[1]?=some (.sl t (rL n.lists)))∧(∀ {t:Tok} {n:Nod},(eNod t n)[2]?=some (.i n.all.key))∧(∀ {t:Tok} {n:Nod},(eNod t n)[3]?=some (.i n.all.child)) ∧
  (∀ {t:Tok} {n:Nod},((eNod t n).drop 2).take 12=eCel n.all)∧(∀ {t:Tok} {n:Nod},((eNod t n).drop 4).take 10=eAg n.all.agg)∧(∀ {x:Shp},(eShp x)[0]?=some (.sl .no (rII x.sizes)))∧(∀ {x:Shp},(eShp x)[1]?=some (.i x.measures)) ∧
  (∀ {a:Ag},scs [.int .i64,.int .i64,.int .i64,.int .i64,.int .i64,.int .i64,.int .i64,.int .i64,.int .i64,.int .i64] (eAg a)=some (vAg a)) ∧
  (∀ {c:Cel},scs [.int .i64,.int .i64,.int .i64,.int .i64,.int .i64,.int .i64,.int .i64,.int .i64,.int .i64,.int .i64,.int .i64,.int .i64] (eCel c)=some (vCel c)) ∧
  (∀ {a b:Ag},vsEq (vAg a) (vAg b)=decide (a=b))∧(∀ {a b:Cel},vsEq (vCel a) (vCel b)=decide (a=b))∧(∀ {n:Nat},(0≤(n:Int))=True)∧(∀ {H:AHeap} {i:Nat} {o o':AObj},i=H.next→(H.alloc o).set i o'=H.alloc o') ∧
  (∀ {d op F H},AI.stable ⟨none,some d,op⟩ F H=(op.ev F H=some (Fr.get F d,H)))∧(∀ {s d t op F H},AI.stable ⟨some (s,t),some d,op⟩ F H=@GdK (Fr.get F s) t ⟨op.ev F H=some (Fr.get F d,H)⟩ ⟨fun _ _=>True⟩) ∧
  (∀ {F:Fr} {H:AHeap},(∀ r ∈ ([]:List AI),r.stable F H)=True)∧(∀ {F:Fr} {H:AHeap} {a:AI} {l:List AI},(∀ r ∈ a :: l,r.stable F H)=(a.stable F H∧∀ r ∈ l,r.stable F H)) ∧
  (∀ {l:List UInt8},(⟨l.toArray⟩:ByteArray).toList=l)∧(∀ {a b:List UInt8},Op.bytesLess a b=decide (a<b))∧(∀ {a b:List UInt8},(a == b)=decide (a=b))∧(∀ {l:List UInt8},(⟨l.toArray⟩:ByteArray).size=l.length) :=
 ⟨List.getElem?_map,List.getElem?_eq_getElem,rfl,rfl,rfl,rfl,rfl,rfl,rfl,rfl,rfl,rfl,rfl,rfl,rfl,rfl,rfl,rfl,rfl,rfl,rfl,rfl,rfl,rfl,vsEq_ag _ _,vsEq_cel _ _,by simp,set_alloc_at,stable_n,stable_g,stables_nil,stables_cons,bytes_toList _,bytesLess_eq _ _,beq_dec _ _,rfl⟩
section
variable {K V:Type} [DecidableEq K] {kf:K→Value} {vf:V→AV}
def aGet (k:K):List (K×V)→Option V
 | []=>none
 | (k',v) :: M=>if k=k' then some v else aGet k M
def aSet (k:K) (v:V):List (K×V)→List (K×V)
 | []=>[(k,v)]
 | (k',u) :: M=>if k=k' then (k,v) :: M else (k',u) :: aSet k v M
def eMap (kf:K→Value) (vf:V→AV) (M:List (K×V)):List (Value×AV):=M.map fun p=>(kf p.1,vf p.2)
theorem mFind_map (hk:∀ a b,kEq (kf a) (kf b)=decide (a=b)) (k:K):∀ M:List (K×V),mFind (kf k) (eMap kf vf M)=(aGet k M).map vf
 | []=>rfl
 | (k',v) :: M=>by
  have ih:=mFind_map hk k M
  unfold eMap at ih ⊢
  simp only [List.map_cons,mFind,hk,aGet]
  by_cases h:k=k'<;>simp [h,ih]
theorem mSet_map (hk:∀ a b,kEq (kf a) (kf b)=decide (a=b)) (k:K) (v:V):∀ M:List (K×V),mSet (kf k) (vf v) (eMap kf vf M)=eMap kf vf (aSet k v M)
 | []=>rfl
 | (k',u) :: M=>by
  have ih:=mSet_map hk k v M
  unfold eMap at ih ⊢
  simp only [List.map_cons,mSet,hk,aSet]
  by_cases h:k=k'<;>simp [h,ih]
theorem aGet_set (k j:K) (v:V):∀ M:List (K×V),aGet j (aSet k v M)=if j=k then some v else aGet j M
 | []=>by simp [aSet,aGet]
 | (k',u) :: M=>by
  have ih:=aGet_set k j v M
  unfold aSet
  by_cases h:k=k'
  ·subst h
   rw [if_pos rfl]
   simp only [aGet]
   by_cases h2:j=k<;>simp [h2]
  ·rw [if_neg h]
   simp only [aGet,ih]
   by_cases h2:j=k
   ·subst h2;simp [h]
   ·simp [h2]
theorem aGet_same (k:K) (v:V) (M:List (K×V)):aGet k (aSet k v M)=some v:=by rw [aGet_set,if_pos rfl]
theorem aSet_len (k:K) (v:V):∀ M:List (K×V),(aSet k v M).length=if (aGet k M).isSome then M.length else M.length+1
 | []=>by simp [aSet,aGet]
 | (k',u) :: M=>by
  have ih:=aSet_len k v M
  unfold aSet aGet
  by_cases h:k=k'
  ·simp [h]
  ·simp only [h,if_false,List.length_cons,ih]
   split<;>omega
end
def kI (n:Int):Value:=.int .i64 n
def k2 (p:Int×Int):Value:=.agg #[.int .i64 p.1,.int .i64 p.2]
theorem kI_eq (a b:Int):kEq (kI a) (kI b)=decide (a=b):=vEq_int a b
theorem kI_of (a:Int):KK.of (.one (.int .i64)) (.i a)=some (kI a):=rfl
structure ExtB (m:Nat) (H H':AHeap):Prop where
 next:H.next≤H'.next
 get:∀ i o,i≠m→H.get i=some o→H'.get i=some o
theorem ExtB.refl (m:Nat) (H:AHeap):ExtB m H H:=⟨Nat.le_refl _,fun _ _ _ h=>h⟩
theorem ExtB.trans {m:Nat} {H H' H'':AHeap} (h:ExtB m H H') (k:ExtB m H' H''):ExtB m H H'':=⟨Nat.le_trans h.next k.next,fun i o hi e=>k.get i o hi (h.get i o hi e)⟩
theorem ExtB.of {m:Nat} {H H':AHeap} (h:AHeap.Ext H H'):ExtB m H H':=⟨h.next,fun i o _ e=>h.get i o e⟩
theorem ExtB.set {m:Nat} {H H':AHeap} {o:AObj} (h:ExtB m H H'):ExtB m H (H'.set m o):=⟨h.next,fun i o hi e=>by rw [AHeap.get_set_ne hi];exact h.get i o hi e⟩
theorem ExtB.alloc {m:Nat} {H H':AHeap} {o:AObj} (h:ExtB m H H'):ExtB m H (H'.alloc o):=h.trans (.of (AHeap.Ext.refl _).alloc)
theorem ExtB.bump {m k:Nat} {H H':AHeap} (h:ExtB m H H'):ExtB m H (H'.bump k):=h.trans (.of (AHeap.Ext.refl _).bump)
section
variable {w:World} {F:Nat→Prop}
theorem enc_slice {s:Sh} {α:Type} {f:α→List AV} (he:∀ cs x,s.Is w F cs x→∃ a,s.enc x=f a) {cs:List Value} {x:(Sh.slice s).D} (h:(Sh.slice s).Is w F cs x):∃ l:List α,l.length≤maxLen∧(Sh.slice s).enc x=[.sl .no (l.map f)]:=by
 obtain ⟨A,c,css,_,h1,h2,h3,_,h5⟩:=h
 have:∀ (l:List s.D),(∀ x ∈ l,∃ a,s.enc x=f a)→∃ m:List α,m.length=l.length∧l.map s.enc=m.map f:=by
  intro l
  induction l with
  | nil=>intro _;exact ⟨[],rfl,rfl⟩
  | cons y l ih =>
   intro hl
   obtain ⟨a,ha⟩:=hl y List.mem_cons_self
   obtain ⟨m,hm,e⟩:=ih fun z hz=>hl z (List.mem_cons_of_mem _ hz)
   exact ⟨a :: m,by simp [hm],by simp [ha,e]⟩
 obtain ⟨m,hm,e⟩:=this x fun y hy=>by
  obtain ⟨i,hi,rfl⟩:=List.getElem_of_mem hy
  have hi2:i<css.length:=by rw [h3];exact hi
  exact he css[i] _ (h5 i _ _ (List.getElem?_eq_getElem hi2) (List.getElem?_eq_getElem hi))
 refine ⟨m,by rw [hm];exact Nat.le_trans h1 h2,?_⟩
 show [AV.sl .no (List.map s.enc x)]=_
 rw [e]
end
section
variable {W:World}
end
end Go.Proofs.YtaapiigfmdhobaaGreat
