/- Texts of the walk, joined: Ta Tb Tc Td Te Tf Ye Ym Av. -/
import Derived.Test.YtaapiigfmdhobaaGreatMh
import Derived.Sort.Walk0
import Derived.Test.YtaapiigfmdhobaaGreatMd
import Derived.Test.YtaapiigfmdhobaaGreatMe
namespace Go.Proofs.YtaapiigfmdhobaaGreat
set_option linter.unusedSimpArgs false
set_option linter.unusedVariables false
open Go.RowKit
def ArA (H:Zaa) (id:Nat) (x:Shp) (l:List Nod):Prop:=∃tok nt most,H.get id=some (.cells (Zk5 x tok nt l most) 117)
theorem ArA.ext {H H':Zaa} {id:Nat} {x:Shp} {l:List Nod} (h:ArA H id x l) (hx:Zaa.Ext H H'):ArA H' id x l:=by
 obtain⟨tok,nt,most,h⟩:=h
 exact⟨tok,nt,most,hx.get _ _ h⟩
theorem ArO.ara {H:Zaa} {id tk:Nat} {x:Shp} {tok:Tok} {l:List Nod} {most:Int} (h:ArO H id tk x tok l most):ArA H id x l:=⟨_,_,_,h.cell⟩
theorem ZhQ {H:Zaa} {id:Nat} {x:Shp} {l:List Nod} (ha:ArA H id x l) (hx:1≤x.sizes.length):Zay Tryz.prog 42 [.ptr id 0] H (PureE H (.i l.length)):=by
 obtain⟨tok,nt,most,h⟩:=ha
 refine Zak hE cf42 (Nat.le_of_ble_eq_true rfl) fun Q hQr hQn=>?_
 ((try simp(disch:=first|assumption|omega|(simp only[Zaf,Zai,Zam]<;>omega)|fail)only [↓YA,YB,YC,YZ,YF,↓reduceIte,Nat.reduceEqDiff,Nat.reduceAdd,Nat.reduceMul,Nat.reduceLeDiff,hQr,hQn,Zk8]);repeat' ((first|apply Zad|apply Zac|apply Zab)<;>intro hd<;>(try simp only[hd])<;>(try simp(disch:=first|assumption|omega|(simp only[Zaf,Zai,Zam]<;>omega)|fail)only [↓YA,YB,YC,YZ,YF,↓reduceIte,Nat.reduceEqDiff,Nat.reduceAdd,Nat.reduceMul,Nat.reduceLeDiff,hQr,hQn,hd,Zk8])))
 refine Zap.use (Zeu h hx) ?_
 rintro r H1 ⟨rfl,hx1⟩
 have hc:=hx1.get _ _ h
 unfold Zk5 eAr at hc
 ((try simp(disch:=first|assumption|omega|(simp only[Zaf,Zai,Zam]<;>omega)|fail)only [↓YA,YB,YC,YZ,YF,↓reduceIte,Nat.reduceEqDiff,Nat.reduceAdd,Nat.reduceMul,Nat.reduceLeDiff,hQr,hQn,Zk8,hc,List.length_map]);repeat' ((first|apply Zad|apply Zac|apply Zab)<;>intro hd<;>(try simp only[hd])<;>(try simp(disch:=first|assumption|omega|(simp only[Zaf,Zai,Zam]<;>omega)|fail)only [↓YA,YB,YC,YZ,YF,↓reduceIte,Nat.reduceEqDiff,Nat.reduceAdd,Nat.reduceMul,Nat.reduceLeDiff,hQr,hQn,hd,Zk8,hc,List.length_map])))
 exact Zaq ⟨rfl,hx1⟩
theorem Ziu {H:Zaa} {id:Nat} {x:Shp} {l:List Nod} (ha:ArA H id x l) (hx:1≤x.sizes.length) (hl:l.length≤1000000000):Zay Tryz.prog 44 [.ptr id 0] H (PureE H (.i ((l.length:Int) - 1))):=by
 refine Zak hE cf44 (Nat.le_of_ble_eq_true rfl) fun Q hQr hQn=>?_
 ((try simp(disch:=first|assumption|omega|(simp only[Zaf,Zai,Zam]<;>omega)|fail)only [↓YA,YB,YC,YZ,YF,↓reduceIte,Nat.reduceEqDiff,Nat.reduceAdd,Nat.reduceMul,Nat.reduceLeDiff,hQr,hQn,c44_0]);repeat' ((first|apply Zad|apply Zac|apply Zab)<;>intro hd<;>(try simp only[hd])<;>(try simp(disch:=first|assumption|omega|(simp only[Zaf,Zai,Zam]<;>omega)|fail)only [↓YA,YB,YC,YZ,YF,↓reduceIte,Nat.reduceEqDiff,Nat.reduceAdd,Nat.reduceMul,Nat.reduceLeDiff,hQr,hQn,hd,c44_0])))
 refine Zap.use (ZhQ ha hx) ?_
 rintro r H1 ⟨rfl,hx1⟩
 ((try simp(disch:=first|assumption|omega|(simp only[Zaf,Zai,Zam]<;>omega)|fail)only [↓YA,YB,YC,YZ,YF,↓reduceIte,Nat.reduceEqDiff,Nat.reduceAdd,Nat.reduceMul,Nat.reduceLeDiff,hQr,hQn]);repeat' ((first|apply Zad|apply Zac|apply Zab)<;>intro hd<;>(try simp only[hd])<;>(try simp(disch:=first|assumption|omega|(simp only[Zaf,Zai,Zam]<;>omega)|fail)only [↓YA,YB,YC,YZ,YF,↓reduceIte,Nat.reduceEqDiff,Nat.reduceAdd,Nat.reduceMul,Nat.reduceLeDiff,hQr,hQn,hd])))
 exact Zaq ⟨rfl,hx1⟩
def Zdw (l:List Nod) (i:Int):Nod:=if 0≤i then (l[i.toNat]?).getD ⟨0,[],⟨0,0,⟨0,0,0,0,0,0,0,0,0,0⟩⟩⟩ else ⟨0,[],⟨0,0,⟨0,0,0,0,0,0,0,0,0,0⟩⟩⟩
def inB (l:List Nod) (i:Int):Bool:=decide (0≤i)&&decide (i<l.length)
theorem ZfD {H:Zaa} {id:Nat} {x:Shp} {l:List Nod} (i:Int) (ha:ArA H id x l) (hx:1≤x.sizes.length) (hn:∀n∈l,Zdb n):Zay Tryz.prog 68 [.ptr id 0,.i i] H fun r H'=>Zaa.Ext H H'∧∃t,r=.tup [.agg (ZbD t (Zdw l i)),.i (bif inB l i then 0 else 9)]:=by
 obtain⟨tok,nt,most,h⟩:=ha
 refine Zak hE cf68 (Nat.le_of_ble_eq_true rfl) fun Q hQr hQn=>?_
 have hid:=Zaa.lt h
 have hx0:∀o,Zaa.Ext H (H.alloc o):=fun o=>(Zaa.Ext.refl H).alloc
 ((try simp(disch:=first|assumption|omega|(simp only[Zaf,Zai,Zam]<;>omega)|fail)only [↓YA,YB,YC,YZ,YF,↓reduceIte,Nat.reduceEqDiff,Nat.reduceAdd,Nat.reduceMul,Nat.reduceLeDiff,hQr,hQn,ZiL]);repeat' ((first|apply Zad|apply Zac|apply Zab)<;>intro hd<;>(try simp only[hd])<;>(try simp(disch:=first|assumption|omega|(simp only[Zaf,Zai,Zam]<;>omega)|fail)only [↓YA,YB,YC,YZ,YF,↓reduceIte,Nat.reduceEqDiff,Nat.reduceAdd,Nat.reduceMul,Nat.reduceLeDiff,hQr,hQn,hd,ZiL])))
 refine Zap.use (Zeu ((hx0 _).get _ _ h) hx) ?_
 rintro r H1 ⟨rfl,hx1⟩
 have hx01:=(hx0 _).trans hx1
 have hc:=hx01.get _ _ h
 have hz:=hx1.get _ _ (Zaa.Zae (H:=H))
 have hzl:=Zaa.lt hz
 unfold Zk5 eAr at hc
 by_cases hi:0≤i∧i<l.length
 ·obtain⟨d,rfl⟩:∃d:Nat,i=d:=⟨i.toNat,by omega⟩
  have hd:d<l.length:=by omega
  have hr:=rN_get hd
  have h0:(0:Int)≤d:=by omega
  have d1:decide ((d:Int)<0)=false:=by simp
  have d2:decide ((d:Int)≥(l.length:Int))=false:=by simp;omega
  have hT1:Zdw l d=l[d]:=by unfold Zdw;simp[hd]
  have hT2:inB l d=true:=by unfold inB;simp;omega
  rw[hT1,hT2]at hQr hQn
  unfold ZbD at hr
  ((try simp(disch:=first|assumption|omega|(simp only[Zaf,Zai,Zam]<;>omega)|fail)only [↓YA,YB,YC,YZ,YF,↓reduceIte,Nat.reduceEqDiff,Nat.reduceAdd,Nat.reduceMul,Nat.reduceLeDiff,hQr,hQn,ZiL,hc,hz,d1,d2,h0,hr,List.length_map]);repeat' ((first|apply Zad|apply Zac|apply Zab)<;>intro hd<;>(try simp only[hd])<;>(try simp(disch:=first|assumption|omega|(simp only[Zaf,Zai,Zam]<;>omega)|fail)only [↓YA,YB,YC,YZ,YF,↓reduceIte,Nat.reduceEqDiff,Nat.reduceAdd,Nat.reduceMul,Nat.reduceLeDiff,hQr,hQn,hd,ZiL,hc,hz,d1,d2,h0,hr,List.length_map])))
  have hs:=hn _ (List.getElem_mem hd)
  refine Zap.use (ZeN .no l[d] _ ⟨hs.1,hs.2.2⟩) ?_
  rintro r H2 ⟨rfl,k2,rfl⟩
  ((try simp(disch:=first|assumption|omega|(simp only[Zaf,Zai,Zam]<;>omega)|fail)only [↓YA,YB,YC,YZ,YF,↓reduceIte,Nat.reduceEqDiff,Nat.reduceAdd,Nat.reduceMul,Nat.reduceLeDiff,hQr,hQn,ZbD,hz]);repeat' ((first|apply Zad|apply Zac|apply Zab)<;>intro hd<;>(try simp only[hd])<;>(try simp(disch:=first|assumption|omega|(simp only[Zaf,Zai,Zam]<;>omega)|fail)only [↓YA,YB,YC,YZ,YF,↓reduceIte,Nat.reduceEqDiff,Nat.reduceAdd,Nat.reduceMul,Nat.reduceLeDiff,hQr,hQn,hd,ZbD,hz])))
  exact Zaq ⟨(hx01.bump).set (Nat.le_refl _),_,rfl⟩
 ·have hT1:Zdw l i=⟨0,[],⟨0,0,⟨0,0,0,0,0,0,0,0,0,0⟩⟩⟩:=by
   unfold Zdw
   split
   ·rw[List.getElem?_eq_none (by omega)];rfl
   ·rfl
  have hT2:inB l i=false:=by unfold inB;simp;omega
  rw[hT1,hT2]at hQr hQn
  ((try simp(disch:=first|assumption|omega|(simp only[Zaf,Zai,Zam]<;>omega)|fail)only [↓YA,YB,YC,YZ,YF,↓reduceIte,Nat.reduceEqDiff,Nat.reduceAdd,Nat.reduceMul,Nat.reduceLeDiff,hQr,hQn,ZiL,hc,hz,List.length_map]);repeat' ((first|apply Zad|apply Zac|apply Zab)<;>intro hd<;>(try simp only[hd])<;>(try simp(disch:=first|assumption|omega|(simp only[Zaf,Zai,Zam]<;>omega)|fail)only [↓YA,YB,YC,YZ,YF,↓reduceIte,Nat.reduceEqDiff,Nat.reduceAdd,Nat.reduceMul,Nat.reduceLeDiff,hQr,hQn,hd,ZiL,hc,hz,List.length_map])))
  all_goals first
   | (exact Zaq ⟨hx01.set (Nat.le_refl _),.full,rfl⟩)
   | (exfalso;grind)
def cnt (n:Nat) (chs:List Int):List Int:=(List.range n).map fun(i:Nat)=>(chs.count (i:Int):Int)
theorem ZlV (n:Nat) (chs:List Int):(cnt n chs).length=n:=by simp[cnt]
theorem cnt_get {n:Nat} {chs:List Int} {k:Nat} (h:k<n):(cnt n chs)[k]'(by rw[ZlV];exact h)=(chs.count (k:Int):Int):=by simp[cnt]
def kids (x:Shp) (l:List Nod):List Int:=l.flatMap fun n=>if lastB x n.dim=true then [] else (each n).map Cel.child
def Zlb (x:Shp) (l:List Nod):Bool:=if l.length=0 then true else (Zdw l ((l.length:Int) - 1)).dim == 0&&!(((cnt l.length (kids x l)).take (l.length - 1)).contains 0)
set_option maxHeartbeats 4000000 in
theorem Zjg (m : Int) (a : Ag) (H : Zaa) : Zay Tryz.prog 102 [.i m, .agg (eAg a)] H (Pure H (.b (Zbw m a))) := by
  refine Zak hE cf102 (Nat.le_of_ble_eq_true rfl) fun Q hQr hQn => ?_
  have hx : Zaa.Ext H (H.alloc (.cells (eAg a) 54)) := (Zaa.Ext.refl H).alloc
  unfold eAg at hx ⊢
  ((try simp (disch := first | assumption | omega | (simp only [Zaf, Zai, Zam] <;> omega) | fail) only [↓YA, YB, YC, YZ, YF, ↓reduceIte, Nat.reduceEqDiff, Nat.reduceAdd, Nat.reduceMul, Nat.reduceLeDiff, hQr, hQn, Zdc]); repeat' ((first | apply Zad | apply Zac | apply Zab) <;> intro hd <;> (try simp only [hd]) <;> (try simp (disch := first | assumption | omega | (simp only [Zaf, Zai, Zam] <;> omega) | fail) only [↓YA, YB, YC, YZ, YF, ↓reduceIte, Nat.reduceEqDiff, Nat.reduceAdd, Nat.reduceMul, Nat.reduceLeDiff, hQr, hQn, hd, Zdc])))
  any_goals
    refine ZdI hx ?_
    unfold Zbw
    grind
  have h0 : 0 ≤ m := by grind
  have h1 : m ≤ 3 := by grind
  have h2 : 1 ≤ a.n := by grind
  rw [tail0 h0 h1 h2] at hQr hQn
  refine Zg1 (fun n F G => ∃ k : Nat, k ≤ 3 ∧ n = 3 - k ∧ Fr.get F 5 = .i (k : Int) ∧ Fr.get F 0 = .i m ∧ Fr.get F 3 = .ptr H.next 0 ∧ Zaa.Ext H G ∧ G.get H.next = some (.cells (eAg a) 54) ∧ ZcQ 0 m a = ZcQ k m a) 3 (GStep.refl _ _) ⟨0, by omega, rfl, rfl, rfl, rfl, hx, Zaa.Zae (H := H), rfl⟩ ?_
  rintro n F G ⟨k, hk, rfl, f5, f0, f3, hxG, hg, ht⟩
  by_cases hk3 : k = 3
  · subst hk3
    replace f5 : Fr.get F 5 = .i 3 := f5
    have d : decide ((3 : Int) < 3) = false := by decide
    ((try simp (disch := first | assumption | omega | (simp only [Zaf, Zai, Zam] <;> omega) | fail) only [↓YA, YB, YC, YZ, YF, ↓reduceIte, Nat.reduceEqDiff, Nat.reduceAdd, Nat.reduceMul, Nat.reduceLeDiff, hQr, hQn, Zdc, f5, d]); repeat' ((first | apply Zad | apply Zac | apply Zab) <;> intro hd <;> (try simp only [hd]) <;> (try simp (disch := first | assumption | omega | (simp only [Zaf, Zai, Zam] <;> omega) | fail) only [↓YA, YB, YC, YZ, YF, ↓reduceIte, Nat.reduceEqDiff, Nat.reduceAdd, Nat.reduceMul, Nat.reduceLeDiff, hQr, hQn, hd, Zdc, f5, d])))
    ((try simp (disch := first | assumption | omega | (simp only [Zaf, Zai, Zam] <;> omega) | fail) only [↓YA, YB, YC, YZ, YF, ↓reduceIte, Nat.reduceEqDiff, Nat.reduceAdd, Nat.reduceMul, Nat.reduceLeDiff, hQr, hQn, Zdc]); repeat' ((first | apply Zad | apply Zac | apply Zab) <;> intro hd <;> (try simp only [hd]) <;> (try simp (disch := first | assumption | omega | (simp only [Zaf, Zai, Zam] <;> omega) | fail) only [↓YA, YB, YC, YZ, YF, ↓reduceIte, Nat.reduceEqDiff, Nat.reduceAdd, Nat.reduceMul, Nat.reduceLeDiff, hQr, hQn, hd, Zdc])))
    exact ZdI hxG (by rw [ht]; rfl)
  · have hk' : k < 3 := by omega
    rw [Zii hk'] at ht
    have hgl := Zaa.lt hg
    have hg0 := hg
    have hxn := hxG.next
    unfold eAg at hg
    obtain rfl | rfl | rfl : k = 0 ∨ k = 1 ∨ k = 2 := by omega
    · replace f5 : Fr.get F 5 = .i 0 := f5
      ((try simp (disch := first | assumption | omega | (simp only [Zaf, Zai, Zam] <;> omega) | fail) only [↓YA, YB, YC, YZ, YF, ↓reduceIte, Nat.reduceEqDiff, Nat.reduceAdd, Nat.reduceMul, Nat.reduceLeDiff, hQr, hQn, Zdc, f5, f0, f3, hg, eAg, Int.cast_ofNat_Int, Int.reduceLE, Int.reduceLT, Int.reduceToNat, Nat.reduceMul, Int.reduceAdd, decide_true]); repeat' ((first | apply Zad | apply Zac | apply Zab) <;> intro hd <;> (try simp only [hd]) <;> (try simp (disch := first | assumption | omega | (simp only [Zaf, Zai, Zam] <;> omega) | fail) only [↓YA, YB, YC, YZ, YF, ↓reduceIte, Nat.reduceEqDiff, Nat.reduceAdd, Nat.reduceMul, Nat.reduceLeDiff, hQr, hQn, hd, Zdc, f5, f0, f3, hg, eAg, Int.cast_ofNat_Int, Int.reduceLE, Int.reduceLT, Int.reduceToNat, Nat.reduceMul, Int.reduceAdd, decide_true])))
      all_goals first
        | (refine ZdI ?_ ?_
           · (repeat (first | assumption | exact Zaa.Ext.refl _ | refine Zaa.Ext.set ?_ (by first | assumption | omega | (simp only [Zaf, Zai, Zam]; omega)) | refine Zaa.Ext.alloc ?_ | refine Zaa.Ext.bump ?_))
           · rw [ht]; simp only [Zb2, Ag.prt]; grind)
        | (refine ⟨2, by omega, 1, by omega, rfl, rfl, ?_, ?_⟩
           · (repeat (first | assumption | exact Zaa.Ext.refl _ | refine Zaa.Ext.set ?_ (by first | assumption | omega | (simp only [Zaf, Zai, Zam]; omega)) | refine Zaa.Ext.alloc ?_ | refine Zaa.Ext.bump ?_))
           · rw [ht]; simp only [Zb2, Ag.prt]; grind)
    · replace f5 : Fr.get F 5 = .i 1 := f5
      ((try simp (disch := first | assumption | omega | (simp only [Zaf, Zai, Zam] <;> omega) | fail) only [↓YA, YB, YC, YZ, YF, ↓reduceIte, Nat.reduceEqDiff, Nat.reduceAdd, Nat.reduceMul, Nat.reduceLeDiff, hQr, hQn, Zdc, f5, f0, f3, hg, eAg, Int.cast_ofNat_Int, Int.reduceLE, Int.reduceLT, Int.reduceToNat, Nat.reduceMul, Int.reduceAdd, decide_true]); repeat' ((first | apply Zad | apply Zac | apply Zab) <;> intro hd <;> (try simp only [hd]) <;> (try simp (disch := first | assumption | omega | (simp only [Zaf, Zai, Zam] <;> omega) | fail) only [↓YA, YB, YC, YZ, YF, ↓reduceIte, Nat.reduceEqDiff, Nat.reduceAdd, Nat.reduceMul, Nat.reduceLeDiff, hQr, hQn, hd, Zdc, f5, f0, f3, hg, eAg, Int.cast_ofNat_Int, Int.reduceLE, Int.reduceLT, Int.reduceToNat, Nat.reduceMul, Int.reduceAdd, decide_true])))
      all_goals first
        | (refine ZdI ?_ ?_
           · (repeat (first | assumption | exact Zaa.Ext.refl _ | refine Zaa.Ext.set ?_ (by first | assumption | omega | (simp only [Zaf, Zai, Zam]; omega)) | refine Zaa.Ext.alloc ?_ | refine Zaa.Ext.bump ?_))
           · rw [ht]; simp only [Zb2, Ag.prt]; grind)
        | (refine ⟨1, by omega, 2, by omega, rfl, rfl, ?_, ?_⟩
           · (repeat (first | assumption | exact Zaa.Ext.refl _ | refine Zaa.Ext.set ?_ (by first | assumption | omega | (simp only [Zaf, Zai, Zam]; omega)) | refine Zaa.Ext.alloc ?_ | refine Zaa.Ext.bump ?_))
           · rw [ht]; simp only [Zb2, Ag.prt]; grind)
    · replace f5 : Fr.get F 5 = .i 2 := f5
      ((try simp (disch := first | assumption | omega | (simp only [Zaf, Zai, Zam] <;> omega) | fail) only [↓YA, YB, YC, YZ, YF, ↓reduceIte, Nat.reduceEqDiff, Nat.reduceAdd, Nat.reduceMul, Nat.reduceLeDiff, hQr, hQn, Zdc, f5, f0, f3, hg, eAg, Int.cast_ofNat_Int, Int.reduceLE, Int.reduceLT, Int.reduceToNat, Nat.reduceMul, Int.reduceAdd, decide_true]); repeat' ((first | apply Zad | apply Zac | apply Zab) <;> intro hd <;> (try simp only [hd]) <;> (try simp (disch := first | assumption | omega | (simp only [Zaf, Zai, Zam] <;> omega) | fail) only [↓YA, YB, YC, YZ, YF, ↓reduceIte, Nat.reduceEqDiff, Nat.reduceAdd, Nat.reduceMul, Nat.reduceLeDiff, hQr, hQn, hd, Zdc, f5, f0, f3, hg, eAg, Int.cast_ofNat_Int, Int.reduceLE, Int.reduceLT, Int.reduceToNat, Nat.reduceMul, Int.reduceAdd, decide_true])))
      all_goals first
        | (refine ZdI ?_ ?_
           · (repeat (first | assumption | exact Zaa.Ext.refl _ | refine Zaa.Ext.set ?_ (by first | assumption | omega | (simp only [Zaf, Zai, Zam]; omega)) | refine Zaa.Ext.alloc ?_ | refine Zaa.Ext.bump ?_))
           · rw [ht]; simp only [Zb2, Ag.prt]; grind)
        | (refine ⟨0, by omega, 3, by omega, rfl, rfl, ?_, ?_⟩
           · (repeat (first | assumption | exact Zaa.Ext.refl _ | refine Zaa.Ext.set ?_ (by first | assumption | omega | (simp only [Zaf, Zai, Zam]; omega)) | refine Zaa.Ext.alloc ?_ | refine Zaa.Ext.bump ?_))
           · rw [ht]; simp only [Zb2, Ag.prt]; grind)
def vAg (a:Ag):List Value:=[.int .i64 a.n,.int .i64 a.s0,.int .i64 a.l0,.int .i64 a.h0,.int .i64 a.s1,.int .i64 a.l1,.int .i64 a.h1,.int .i64 a.s2,.int .i64 a.l2,.int .i64 a.h2]
def vCel (c:Cel):List Value:=.int .i64 c.key :: .int .i64 c.child :: vAg c.agg
theorem Zl8 (a b:Ag):ZgE (vAg a) (vAg b)=decide (a=b):=by
 obtain⟨n,s0,l0,h0,s1,l1,h1,s2,l2,h2⟩:=a
 obtain⟨n',s0',l0',h0',s1',l1',h1',s2',l2',h2'⟩:=b
 rw[Bool.eq_iff_iff]
 simp[vAg,ZgE,Zd4]
theorem vsEq_cel (a b:Cel):ZgE (vCel a) (vCel b)=decide (a=b):=by
 obtain⟨k,c,x⟩:=a
 obtain⟨k',c',y⟩:=b
 rw[Bool.eq_iff_iff]
 simp[vCel,ZgE,Zd4,Zl8]
theorem stable_n {d:Nat} {op:AOp} {F:Fr} {H:Zaa}:AI.stable ⟨none,some d,op⟩ F H=(op.ev F H=some (Fr.get F d,H)):=by
 simp[AI.stable,AI.want]
theorem stable_g {s d:Nat} {t:Bool} {op:AOp} {F:Fr} {H:Zaa}:AI.stable ⟨some (s,t),some d,op⟩ F H=@GdK (Fr.get F s) t ⟨op.ev F H=some (Fr.get F d,H)⟩ ⟨fun _ _=>True⟩:=by
 simp only[AI.stable,AI.want,GdK]
 cases Fr.get F s with
 | sc v =>
  cases v with
  | bool c=>cases c<;>cases t<;>simp
  | _=>rfl
 | _=>rfl
theorem ZiY {F:Fr} {H:Zaa}:(∀r∈([]:List AI),r.stable F H)=True:=by simp
theorem ZhH {F:Fr} {H:Zaa} {a:AI} {l:List AI}:(∀r∈a :: l,r.stable F H)=(a.stable F H∧∀r∈l,r.stable F H):=by simp
theorem ZhK (l:List UInt8):(⟨l.toArray⟩:ByteArray).toList=l:=by rw[ByteArray.toList_eq]
theorem beq_dec (a b:List UInt8):(a == b)=decide (a=b):=by rw[Bool.eq_iff_iff];simp
theorem YE:(∀{α β:Type} {f:α→β} {l:List α} {i:Nat},(l.map f)[i]?=(l[i]?).map f)∧(∀{α:Type} {l:List α} {i:Nat} (h:i<l.length),l[i]?=some l[i]) ∧
  (∀{a:Ag},(eAg a).length=10)∧(∀{c:Cel},(ZbE c).length=12)∧(∀{t:Tok} {n:Nod},(ZbD t n).length=14)∧(∀{x:Shp},(Zc3 x).length=2) ∧
  (∀{a:Ag},(eAg a).take 10=eAg a)∧(∀{c:Cel},(ZbE c).take 12=ZbE c)∧(∀{t:Tok} {n:Nod},(ZbD t n).take 14=ZbD t n)∧(∀{x:Shp},(Zc3 x).take 2=Zc3 x) ∧
  (∀{c:Cel},(ZbE c)[0]?=some (.i c.key))∧(∀{c:Cel},(ZbE c)[1]?=some (.i c.child))∧(∀{c:Cel},((ZbE c).drop 2).take 10=eAg c.agg)∧(∀{a:Ag},(eAg a)[0]?=some (.i a.n)) ∧
  (∀{t:Tok} {n:Nod},(ZbD t n)[0]?=some (.i n.dim))∧(∀{t:Tok} {n:Nod},(ZbD t n)[1]?=some (.sl t (rL n.lists)))∧(∀{t:Tok} {n:Nod},(ZbD t n)[2]?=some (.i n.all.key))∧(∀{t:Tok} {n:Nod},(ZbD t n)[3]?=some (.i n.all.child)) ∧
  (∀{t:Tok} {n:Nod},((ZbD t n).drop 2).take 12=ZbE n.all)∧(∀{t:Tok} {n:Nod},((ZbD t n).drop 4).take 10=eAg n.all.agg)∧(∀{x:Shp},(Zc3 x)[0]?=some (.sl .no (rII x.sizes)))∧(∀{x:Shp},(Zc3 x)[1]?=some (.i x.measures)) ∧
  (∀{a:Ag},scs [.int .i64,.int .i64,.int .i64,.int .i64,.int .i64,.int .i64,.int .i64,.int .i64,.int .i64,.int .i64] (eAg a)=some (vAg a)) ∧
  (∀{c:Cel},scs [.int .i64,.int .i64,.int .i64,.int .i64,.int .i64,.int .i64,.int .i64,.int .i64,.int .i64,.int .i64,.int .i64,.int .i64] (ZbE c)=some (vCel c)) ∧
  (∀{a b:Ag},ZgE (vAg a) (vAg b)=decide (a=b))∧(∀{a b:Cel},ZgE (vCel a) (vCel b)=decide (a=b))∧(∀{n:Nat},(0≤(n:Int))=True)∧(∀{H:Zaa} {i:Nat} {o o':Zb3},i=H.next→(H.alloc o).set i o'=H.alloc o') ∧
  (∀{d op F H},AI.stable ⟨none,some d,op⟩ F H=(op.ev F H=some (Fr.get F d,H)))∧(∀{s d t op F H},AI.stable ⟨some (s,t),some d,op⟩ F H=@GdK (Fr.get F s) t ⟨op.ev F H=some (Fr.get F d,H)⟩ ⟨fun _ _=>True⟩) ∧
  (∀{F:Fr} {H:Zaa},(∀r∈([]:List AI),r.stable F H)=True)∧(∀{F:Fr} {H:Zaa} {a:AI} {l:List AI},(∀r∈a :: l,r.stable F H)=(a.stable F H∧∀r∈l,r.stable F H)) ∧
  (∀{l:List UInt8},(⟨l.toArray⟩:ByteArray).toList=l)∧(∀{a b:List UInt8},Op.bytesLess a b=decide (a<b))∧(∀{a b:List UInt8},(a == b)=decide (a=b))∧(∀{l:List UInt8},(⟨l.toArray⟩:ByteArray).size=l.length) :=
 ⟨List.getElem?_map,List.getElem?_eq_getElem,rfl,rfl,rfl,rfl,rfl,rfl,rfl,rfl,rfl,rfl,rfl,rfl,rfl,rfl,rfl,rfl,rfl,rfl,rfl,rfl,rfl,rfl,Zl8 _ _,vsEq_cel _ _,by simp,ZaM,stable_n,stable_g,ZiY,ZhH,ZhK _,bytesLess_eq _ _,beq_dec _ _,rfl⟩
section
variable {K V:Type} [DecidableEq K] {kf:K→Value} {vf:V→AV}
def Zcz (k:K):List (K×V)→Option V
 | []=>none
 | (k',v) :: M=>if k=k' then some v else Zcz k M
def ZbU (k:K) (v:V):List (K×V)→List (K×V)
 | []=>[(k,v)]
 | (k',u) :: M=>if k=k' then (k,v) :: M else (k',u) :: ZbU k v M
def Zgf (kf:K→Value) (vf:V→AV) (M:List (K×V)):List (Value×AV):=M.map fun p=>(kf p.1,vf p.2)
theorem ZbV (hk:∀a b,kEq (kf a) (kf b)=decide (a=b)) (k:K):∀M:List (K×V),ZdG (kf k) (Zgf kf vf M)=(Zcz k M).map vf
 | []=>rfl
 | (k',v) :: M=>by
  have ih:=ZbV hk k M
  unfold Zgf at ih ⊢
  simp only[List.map_cons,ZdG,hk,Zcz]
  by_cases h:k=k'<;>simp[h,ih]
theorem ZcH (hk:∀a b,kEq (kf a) (kf b)=decide (a=b)) (k:K) (v:V):∀M:List (K×V),Ziw (kf k) (vf v) (Zgf kf vf M)=Zgf kf vf (ZbU k v M)
 | []=>rfl
 | (k',u) :: M=>by
  have ih:=ZcH hk k v M
  unfold Zgf at ih ⊢
  simp only[List.map_cons,Ziw,hk,ZbU]
  by_cases h:k=k'<;>simp[h,ih]
theorem Zeg (k j:K) (v:V):∀M:List (K×V),Zcz j (ZbU k v M)=if j=k then some v else Zcz j M
 | []=>by simp[ZbU,Zcz]
 | (k',u) :: M=>by
  have ih:=Zeg k j v M
  unfold ZbU
  by_cases h:k=k'
  ·subst h
   rw[if_pos rfl]
   simp only[Zcz]
   by_cases h2:j=k<;>simp[h2]
  ·rw[if_neg h]
   simp only[Zcz,ih]
   by_cases h2:j=k
   ·subst h2;simp[h]
   ·simp[h2]
theorem ZdP (k:K) (v:V) (M:List (K×V)):Zcz k (ZbU k v M)=some v:=by rw[Zeg,if_pos rfl]
theorem ZjW (k:K) (v:V):∀M:List (K×V),(ZbU k v M).length=if (Zcz k M).isSome then M.length else M.length+1
 | []=>by simp[ZbU,Zcz]
 | (k',u) :: M=>by
  have ih:=ZjW k v M
  unfold ZbU Zcz
  by_cases h:k=k'
  ·simp[h]
  ·simp only[h,if_false,List.length_cons,ih]
   split<;>omega
end
def kI (n:Int):Value:=.int .i64 n
def k2 (p:Int×Int):Value:=.agg #[.int .i64 p.1,.int .i64 p.2]
theorem ZkH (a b:Int):kEq (kI a) (kI b)=decide (a=b):=Zd4 a b
theorem kI_of (a:Int):KK.of (.one (.int .i64)) (.i a)=some (kI a):=rfl
structure Zh2 (m:Nat) (H H':Zaa):Prop where
 next:H.next≤H'.next
 get:∀i o,i≠m→H.get i=some o→H'.get i=some o
theorem Zh2.refl (m:Nat) (H:Zaa):Zh2 m H H:=⟨Nat.le_refl _,fun _ _ _ h=>h⟩
theorem Zh2.trans {m:Nat} {H H' H'':Zaa} (h:Zh2 m H H') (k:Zh2 m H' H''):Zh2 m H H'':=⟨Nat.le_trans h.next k.next,fun i o hi e=>k.get i o hi (h.get i o hi e)⟩
theorem Zh2.of {m:Nat} {H H':Zaa} (h:Zaa.Ext H H'):Zh2 m H H':=⟨h.next,fun i o _ e=>h.get i o e⟩
theorem Zh2.set {m:Nat} {H H':Zaa} {o:Zb3} (h:Zh2 m H H'):Zh2 m H (H'.set m o):=⟨h.next,fun i o hi e=>by rw[Zaa.Zah hi];exact h.get i o hi e⟩
theorem Zh2.alloc {m:Nat} {H H':Zaa} {o:Zb3} (h:Zh2 m H H'):Zh2 m H (H'.alloc o):=h.trans (.of (Zaa.Ext.refl _).alloc)
theorem Zh2.bump {m k:Nat} {H H':Zaa} (h:Zh2 m H H'):Zh2 m H (H'.bump k):=h.trans (.of (Zaa.Ext.refl _).bump)
section
variable {w:World} {F:Nat→Prop}
theorem Zhx {s:Sh} {α:Type} {f:α→List AV} (he:∀cs x,s.Is w F cs x→∃a,s.enc x=f a) {cs:List Value} {x:(Sh.slice s).D} (h:(Sh.slice s).Is w F cs x):∃l:List α,l.length≤maxLen∧(Sh.slice s).enc x=[.sl .no (l.map f)]:=by
 obtain⟨A,c,css,_,h1,h2,h3,_,h5⟩:=h
 have:∀(l:List s.D),(∀x∈l,∃a,s.enc x=f a)→∃m:List α,m.length=l.length∧l.map s.enc=m.map f:=by
  intro l
  induction l with
  | nil=>intro _;exact⟨[],rfl,rfl⟩
  | cons y l ih =>
   intro hl
   obtain⟨a,ha⟩:=hl y List.mem_cons_self
   obtain⟨m,hm,e⟩:=ih fun z hz=>hl z (List.mem_cons_of_mem _ hz)
   exact⟨a :: m,by simp[hm],by simp[ha,e]⟩
 obtain⟨m,hm,e⟩:=this x fun y hy=>by
  obtain⟨i,hi,rfl⟩:=List.getElem_of_mem hy
  have hi2:i<css.length:=by rw[h3];exact hi
  exact he css[i] _ (h5 i _ _ (List.getElem?_eq_getElem hi2) (List.getElem?_eq_getElem hi))
 refine⟨m,by rw[hm];exact Nat.le_trans h1 h2,?_⟩
 show[AV.sl .no (List.map s.enc x)]=_
 rw[e]
end
section
variable {W:World}
end
end Go.Proofs.YtaapiigfmdhobaaGreat
