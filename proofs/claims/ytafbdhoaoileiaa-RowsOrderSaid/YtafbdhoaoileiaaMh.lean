/- Texts of the walk, joined: Ge Gf Gg Gh Gi Gj Gk. -/
import Derived.Test.YtafbdhoaoileiaaMg
namespace Go.Proofs.Ytafbdhoaoileiaa
set_option linter.unusedSimpArgs false
set_option linter.unusedVariables false
open Go.RowKit
theorem keys_eq {a b : List Int} (h1 : ¬ a < b) (h2 : ¬ b < a) : a = b := by
 rcases List.le_iff_lt_or_eq.mp (List.not_lt.mp h1) with h | h
 ·exact absurd h h2
 ·exact h.symm
theorem fct_ne {fs gs : List Fct} {k : Nat} (h1 : k < fs.length) (h2 : k < gs.length) (h : fs[k] ≠ gs[k]) : decide (fs = gs) = false := decide_eq_false fun e => h (by subst e; rfl)
theorem fct_all {fs gs : List Fct} (hl : fs.length = gs.length) (h : ∀ j (h1 : j < fs.length) (h2 : j < gs.length), fs[j] = gs[j]) : decide (fs = gs) = true := decide_eq_true (List.ext_getElem hl h)
set_option maxHeartbeats 4000000 in
theorem same19_sound (t u : Tok) (fs gs : List Fct) (H : AHeap) (hl : fs.length ≤ 1000000) (hk : ∀ f ∈ fs, f.1.length ≤ 1000000) (hm : ∀ f ∈ gs, f.1.length ≤ 1000000) : Sound Try.prog 11 [.sl t (rF fs), .sl u (rF gs)] H (Pure H (.b (decide (fs = gs)))) := by
 refine fn_soundQ hE cf11 (Nat.le_of_ble_eq_true rfl) fun Q hQr hQn => ?_
 by_cases hlen : fs.length = gs.length
 ·have d0 : ((fs.length : Int) != (gs.length : Int)) = false := by simp [hlen]
  ((have hd := trivial; repeat' (first | ((first | apply GdK_st | apply GdK_sf | apply CondK_s) <;> intro hd <;> (try simp only [hd])) | simp (disch := first | assumption | omega | (simp only [nx] <;> omega) | fail) only [hd, hQr, hQn, c11_0, ↓YA, YB, YC, YE, YF, YZ, ↓reduceIte, Nat.reduceEqDiff, Nat.reduceAdd, Nat.reduceMul, Nat.reduceLeDiff, Int.reduceToNat, Int.reduceLE, Int.reduceLT, Int.reduceGT, Int.reduceGE, Int.reduceAdd, Int.reduceSub, Int.reduceNeg, Int.reduceBEq, Int.reduceBNe, List.length_map, d0])) <;> (try (have hd_ : True := hd; clear hd_ hd)))
  refine AW_for [0, 1, 12] (σ := Unit) (fun (k : Nat) s => ∀ j (h1 : j < fs.length) (h2 : j < gs.length), j < k → fs[j] = gs[j]) (fun k s => []) (fun k s => []) () (GStep.refl _ _) (by simp only [keep_nil, keep_cons, Fr.put, Fr.get, ↓reduceIte, Nat.reduceEqDiff]; rfl) (by intro k s; rfl) (by intro k s; rfl) (by rfl) (by unfold maxLen; omega) ?_ (by simp only [FrL_nil]) (by simp only [ObjL_nil]) ?_ ?_
  ·intro j h1 h2 h; omega
  ·(rintro k s G hk1 ht hG hn1; try simp only [nx] at hn1)
   have hk2 : k < gs.length := by omega
   have e0 : ((eFct fs[k]).drop 1).take 10 = eAg fs[k].2 := rfl
   have e1 : (eFct fs[k]).length = 11 := rfl
   have e2 : (eFct fs[k]).take 11 = eFct fs[k] := rfl
   have f0 : ((eFct gs[k]).drop 1).take 10 = eAg gs[k].2 := rfl
   have f1 : (eFct gs[k]).length = 11 := rfl
   have f2 : (eFct gs[k]).take 11 = eFct gs[k] := rfl
   have hL1 := fun H => less_sound fs[k] gs[k] H (hk _ (List.getElem_mem hk1)) (hm _ (List.getElem_mem hk2))
   have hL2 := fun H => less_sound gs[k] fs[k] H (hm _ (List.getElem_mem hk2)) (hk _ (List.getElem_mem hk1))
   by_cases c1 : fs[k].2 = gs[k].2
   ·have d1 : decide (fs[k].2 = gs[k].2) = true := decide_eq_true c1
    by_cases c2 : fs[k].1 < gs[k].1
    ·have d2 : decide (fs[k].1 < gs[k].1) = true := decide_eq_true c2
     have hv := fct_ne hk1 hk2 (fun e => by rw [e] at c2; exact List.lt_irrefl _ c2)
     simp only [d2] at hL1
     ((have hd := trivial; repeat' (first | ((first | apply GdK_st | apply GdK_sf | apply CondK_s) <;> intro hd <;> (try simp only [hd])) | simp (disch := first | assumption | omega | (simp only [nx] <;> omega) | fail) only [hd, hQr, hQn, c11_0, ↓YA, YB, YC, YE, YF, YZ, ↓reduceIte, Nat.reduceEqDiff, Nat.reduceAdd, Nat.reduceMul, Nat.reduceLeDiff, Int.reduceToNat, Int.reduceLE, Int.reduceLT, Int.reduceGT, Int.reduceGE, Int.reduceAdd, Int.reduceSub, Int.reduceNeg, Int.reduceBEq, Int.reduceBNe, e0, e1, e2, f0, f1, f2, d1, hk1, hk2])) <;> (try (have hd_ : True := hd; clear hd_ hd)))
     (refine CallK.use (hL1 _) ?_; rintro _ _ ⟨rfl, k1, rfl⟩)
     ((have hd := trivial; repeat' (first | ((first | apply GdK_st | apply GdK_sf | apply CondK_s) <;> intro hd <;> (try simp only [hd])) | simp (disch := first | assumption | omega | (simp only [nx] <;> omega) | fail) only [hd, hQr, hQn, c11_0, ↓YA, YB, YC, YE, YF, YZ, ↓reduceIte, Nat.reduceEqDiff, Nat.reduceAdd, Nat.reduceMul, Nat.reduceLeDiff, Int.reduceToNat, Int.reduceLE, Int.reduceLT, Int.reduceGT, Int.reduceGE, Int.reduceAdd, Int.reduceSub, Int.reduceNeg, Int.reduceBEq, Int.reduceBNe])) <;> (try (have hd_ : True := hd; clear hd_ hd)))
     refine fin_bA (by exact hv.symm)
    ·have d2 : decide (fs[k].1 < gs[k].1) = false := decide_eq_false c2
     simp only [d2] at hL1
     by_cases c3 : gs[k].1 < fs[k].1
     ·have d3 : decide (gs[k].1 < fs[k].1) = true := decide_eq_true c3
      have hv := fct_ne hk1 hk2 (fun e => by rw [e] at c3; exact List.lt_irrefl _ c3)
      simp only [d3] at hL2
      ((have hd := trivial; repeat' (first | ((first | apply GdK_st | apply GdK_sf | apply CondK_s) <;> intro hd <;> (try simp only [hd])) | simp (disch := first | assumption | omega | (simp only [nx] <;> omega) | fail) only [hd, hQr, hQn, c11_0, ↓YA, YB, YC, YE, YF, YZ, ↓reduceIte, Nat.reduceEqDiff, Nat.reduceAdd, Nat.reduceMul, Nat.reduceLeDiff, Int.reduceToNat, Int.reduceLE, Int.reduceLT, Int.reduceGT, Int.reduceGE, Int.reduceAdd, Int.reduceSub, Int.reduceNeg, Int.reduceBEq, Int.reduceBNe, e0, e1, e2, f0, f1, f2, d1, hk1, hk2])) <;> (try (have hd_ : True := hd; clear hd_ hd)))
      (refine CallK.use (hL1 _) ?_; rintro _ _ ⟨rfl, k1, rfl⟩)
      ((have hd := trivial; repeat' (first | ((first | apply GdK_st | apply GdK_sf | apply CondK_s) <;> intro hd <;> (try simp only [hd])) | simp (disch := first | assumption | omega | (simp only [nx] <;> omega) | fail) only [hd, hQr, hQn, c11_0, ↓YA, YB, YC, YE, YF, YZ, ↓reduceIte, Nat.reduceEqDiff, Nat.reduceAdd, Nat.reduceMul, Nat.reduceLeDiff, Int.reduceToNat, Int.reduceLE, Int.reduceLT, Int.reduceGT, Int.reduceGE, Int.reduceAdd, Int.reduceSub, Int.reduceNeg, Int.reduceBEq, Int.reduceBNe, e0, e1, e2, f0, f1, f2, d1, hk1, hk2])) <;> (try (have hd_ : True := hd; clear hd_ hd)))
      (refine CallK.use (hL2 _) ?_; rintro _ _ ⟨rfl, k2, rfl⟩)
      ((have hd := trivial; repeat' (first | ((first | apply GdK_st | apply GdK_sf | apply CondK_s) <;> intro hd <;> (try simp only [hd])) | simp (disch := first | assumption | omega | (simp only [nx] <;> omega) | fail) only [hd, hQr, hQn, c11_0, ↓YA, YB, YC, YE, YF, YZ, ↓reduceIte, Nat.reduceEqDiff, Nat.reduceAdd, Nat.reduceMul, Nat.reduceLeDiff, Int.reduceToNat, Int.reduceLE, Int.reduceLT, Int.reduceGT, Int.reduceGE, Int.reduceAdd, Int.reduceSub, Int.reduceNeg, Int.reduceBEq, Int.reduceBNe])) <;> (try (have hd_ : True := hd; clear hd_ hd)))
      refine fin_bA (by exact hv.symm)
     ·have d3 : decide (gs[k].1 < fs[k].1) = false := decide_eq_false c3
      simp only [d3] at hL2
      have he : fs[k] = gs[k] := Prod.ext (keys_eq c2 c3) c1
      ((have hd := trivial; repeat' (first | ((first | apply GdK_st | apply GdK_sf | apply CondK_s) <;> intro hd <;> (try simp only [hd])) | simp (disch := first | assumption | omega | (simp only [nx] <;> omega) | fail) only [hd, hQr, hQn, c11_0, ↓YA, YB, YC, YE, YF, YZ, ↓reduceIte, Nat.reduceEqDiff, Nat.reduceAdd, Nat.reduceMul, Nat.reduceLeDiff, Int.reduceToNat, Int.reduceLE, Int.reduceLT, Int.reduceGT, Int.reduceGE, Int.reduceAdd, Int.reduceSub, Int.reduceNeg, Int.reduceBEq, Int.reduceBNe, e0, e1, e2, f0, f1, f2, d1, hk1, hk2])) <;> (try (have hd_ : True := hd; clear hd_ hd)))
      (refine CallK.use (hL1 _) ?_; rintro _ _ ⟨rfl, k1, rfl⟩)
      ((have hd := trivial; repeat' (first | ((first | apply GdK_st | apply GdK_sf | apply CondK_s) <;> intro hd <;> (try simp only [hd])) | simp (disch := first | assumption | omega | (simp only [nx] <;> omega) | fail) only [hd, hQr, hQn, c11_0, ↓YA, YB, YC, YE, YF, YZ, ↓reduceIte, Nat.reduceEqDiff, Nat.reduceAdd, Nat.reduceMul, Nat.reduceLeDiff, Int.reduceToNat, Int.reduceLE, Int.reduceLT, Int.reduceGT, Int.reduceGE, Int.reduceAdd, Int.reduceSub, Int.reduceNeg, Int.reduceBEq, Int.reduceBNe, e0, e1, e2, f0, f1, f2, d1, hk1, hk2])) <;> (try (have hd_ : True := hd; clear hd_ hd)))
      (refine CallK.use (hL2 _) ?_; rintro _ _ ⟨rfl, k2, rfl⟩)
      ((have hd := trivial; repeat' (first | ((first | apply GdK_st | apply GdK_sf | apply CondK_s) <;> intro hd <;> (try simp only [hd])) | simp (disch := first | assumption | omega | (simp only [nx] <;> omega) | fail) only [hd, hQr, hQn, c11_0, ↓YA, YB, YC, YE, YF, YZ, ↓reduceIte, Nat.reduceEqDiff, Nat.reduceAdd, Nat.reduceMul, Nat.reduceLeDiff, Int.reduceToNat, Int.reduceLE, Int.reduceLT, Int.reduceGT, Int.reduceGE, Int.reduceAdd, Int.reduceSub, Int.reduceNeg, Int.reduceBEq, Int.reduceBNe])) <;> (try (have hd_ : True := hd; clear hd_ hd)))
      refine ⟨(), fun j h1 h2 h => ?_, by exact HXT⟩
      by_cases hj : j = k
      ·subst hj; exact he
      ·exact ht j h1 h2 (by omega)
   ·have d1 : decide (fs[k].2 = gs[k].2) = false := decide_eq_false c1
    have hv := fct_ne hk1 hk2 (fun e => c1 (by rw [e]))
    ((have hd := trivial; repeat' (first | ((first | apply GdK_st | apply GdK_sf | apply CondK_s) <;> intro hd <;> (try simp only [hd])) | simp (disch := first | assumption | omega | (simp only [nx] <;> omega) | fail) only [hd, hQr, hQn, c11_0, ↓YA, YB, YC, YE, YF, YZ, ↓reduceIte, Nat.reduceEqDiff, Nat.reduceAdd, Nat.reduceMul, Nat.reduceLeDiff, Int.reduceToNat, Int.reduceLE, Int.reduceLT, Int.reduceGT, Int.reduceGE, Int.reduceAdd, Int.reduceSub, Int.reduceNeg, Int.reduceBEq, Int.reduceBNe, e0, e1, e2, f0, f1, f2, d1, hk1, hk2])) <;> (try (have hd_ : True := hd; clear hd_ hd)))
    refine fin_bA (by exact hv.symm)
  ·(rintro s G ht hG hn1; try simp only [nx] at hn1)
   have hv := fct_all hlen fun j h1 h2 => ht j h1 h2 h1
   ((have hd := trivial; repeat' (first | ((first | apply GdK_st | apply GdK_sf | apply CondK_s) <;> intro hd <;> (try simp only [hd])) | simp (disch := first | assumption | omega | (simp only [nx] <;> omega) | fail) only [hd, hQr, hQn, c11_0, ↓YA, YB, YC, YE, YF, YZ, ↓reduceIte, Nat.reduceEqDiff, Nat.reduceAdd, Nat.reduceMul, Nat.reduceLeDiff, Int.reduceToNat, Int.reduceLE, Int.reduceLT, Int.reduceGT, Int.reduceGE, Int.reduceAdd, Int.reduceSub, Int.reduceNeg, Int.reduceBEq, Int.reduceBNe])) <;> (try (have hd_ : True := hd; clear hd_ hd)))
   refine fin_bA (by exact hv.symm)
 ·have d0 : ((fs.length : Int) != (gs.length : Int)) = true := by simp; omega
  have hv : decide (fs = gs) = false := decide_eq_false fun e => hlen (by rw [e])
  ((have hd := trivial; repeat' (first | ((first | apply GdK_st | apply GdK_sf | apply CondK_s) <;> intro hd <;> (try simp only [hd])) | simp (disch := first | assumption | omega | (simp only [nx] <;> omega) | fail) only [hd, hQr, hQn, c11_0, ↓YA, YB, YC, YE, YF, YZ, ↓reduceIte, Nat.reduceEqDiff, Nat.reduceAdd, Nat.reduceMul, Nat.reduceLeDiff, Int.reduceToNat, Int.reduceLE, Int.reduceLT, Int.reduceGT, Int.reduceGE, Int.reduceAdd, Int.reduceSub, Int.reduceNeg, Int.reduceBEq, Int.reduceBNe, List.length_map, d0])) <;> (try (have hd_ : True := hd; clear hd_ hd)))
  refine fin_bA (by exact hv.symm)
def FewQ (most : Nat) (l : List Fct) (H : AHeap) (r : AV) (H' : AHeap) : Prop := HX [] H H' ∧ ∃ b, r = .b b ∧ (b = true → l.length ≤ most)
set_option maxHeartbeats 1000000 in
theorem few19_sound (t : Tok) (l : List Fct) (most : Nat) (H : AHeap) (hm : most ≤ 1000) : Sound Try.prog 6 [.sl t (rF l), .i (most : Int)] H (FewQ most l H) := by
 refine fn_soundQ hE cf6 (Nat.le_of_ble_eq_true rfl) fun Q hQr hQn => ?_
 ((have hd := trivial; repeat' (first | ((first | apply GdK_st | apply GdK_sf | apply CondK_s) <;> intro hd <;> (try simp only [hd])) | simp (disch := first | assumption | omega | (simp only [nx] <;> omega) | fail) only [hd, hQr, hQn, c6_0, ↓YA, YB, YC, YE, YF, YZ, ↓reduceIte, Nat.reduceEqDiff, Nat.reduceAdd, Nat.reduceMul, Nat.reduceLeDiff, Int.reduceToNat, Int.reduceLE, Int.reduceLT, Int.reduceGT, Int.reduceGE, Int.reduceAdd, Int.reduceSub, Int.reduceNeg, Int.reduceBEq, Int.reduceBNe])) <;> (try (have hd_ : True := hd; clear hd_ hd)))
 refine AW_lop [0, 1] (σ := Nat × Nat) (fun s => s.1 ≤ l.length ∧ s.1 ≤ most + 1 ∧ s.2 ≤ s.1 * 1000) (fun s => l.length - s.1) (fun s => [(5, .i (s.2 : Int)), (6, .i (s.1 : Int))]) (fun s => []) (0, 0) (GStep.refl _ _) (by simp only [keep_nil, keep_cons, Fr.put, Fr.get, ↓reduceIte, Nat.reduceEqDiff]; rfl) ?_ (by simp only [FrL_nil, FrL_cons, Fr.put, Fr.get, ↓reduceIte, Nat.reduceEqDiff, and_self] <;> simp) (by simp only [ObjL_nil]) ?_
 ·exact ⟨by simp, by simp, by simp⟩
 ·(rintro ⟨i, n⟩ G ⟨h1, h2, h3⟩ hG hn; try simp only [nx] at hn)
  simp only at h1 h2 h3
  by_cases c1 : i < l.length
  ·have d1 : decide ((i : Int) < (l.length : Int)) = true := by simp; omega
   by_cases c2 : i ≤ most
   ·have d2 : decide ((i : Int) ≤ (most : Int)) = true := by simp; omega
    have e0 : (eFct l[i])[0]? = some (.sl .no (rI l[i].1)) := rfl
    have h0 : (0 : Int) ≤ (i : Int) := by omega
    have e1 : (eFct l[i]).length = 11 := rfl
    have hmin : (if (1000 : Int) < (l[i].1.length : Int) then (1000 : Int) else (l[i].1.length : Int)) = ((min l[i].1.length 1000 : Nat) : Int) := by split <;> omega
    ((have hd := trivial; repeat' (first | ((first | apply GdK_st | apply GdK_sf | apply CondK_s) <;> intro hd <;> (try simp only [hd])) | simp (disch := first | assumption | omega | (simp only [nx] <;> omega) | fail) only [hd, hQr, hQn, c6_0, ↓YA, YB, YC, YE, YF, YZ, ↓reduceIte, Nat.reduceEqDiff, Nat.reduceAdd, Nat.reduceMul, Nat.reduceLeDiff, Int.reduceToNat, Int.reduceLE, Int.reduceLT, Int.reduceGT, Int.reduceGE, Int.reduceAdd, Int.reduceSub, Int.reduceNeg, Int.reduceBEq, Int.reduceBNe, d1, d2, e0, e1, List.length_map, h0, c1, hmin])) <;> (try (have hd_ : True := hd; clear hd_ hd)))
    refine ⟨(i + 1, n + min l[i].1.length 1000), ⟨by simp only; omega, by simp only; omega, by simp only; omega⟩, by simp only; omega, ⟨AV_i (by push_cast; rfl), AV_i (by push_cast; rfl)⟩, by exact HXT⟩
   ·have d2 : decide ((i : Int) ≤ (most : Int)) = false := by simp; omega
    ((have hd := trivial; repeat' (first | ((first | apply GdK_st | apply GdK_sf | apply CondK_s) <;> intro hd <;> (try simp only [hd])) | simp (disch := first | assumption | omega | (simp only [nx] <;> omega) | fail) only [hd, hQr, hQn, c6_0, ↓YA, YB, YC, YE, YF, YZ, ↓reduceIte, Nat.reduceEqDiff, Nat.reduceAdd, Nat.reduceMul, Nat.reduceLeDiff, Int.reduceToNat, Int.reduceLE, Int.reduceLT, Int.reduceGT, Int.reduceGE, Int.reduceAdd, Int.reduceSub, Int.reduceNeg, Int.reduceBEq, Int.reduceBNe, d1, d2, List.length_map])) <;> (try (have hd_ : True := hd; clear hd_ hd)))
    ·exact fin_keep ⟨hG, _, rfl, fun e => by simp at hd; omega⟩
    ·exact fin_keep ⟨hG, _, rfl, fun e => by cases e⟩
  ·have d1 : decide ((i : Int) < (l.length : Int)) = false := by simp; omega
   ((have hd := trivial; repeat' (first | ((first | apply GdK_st | apply GdK_sf | apply CondK_s) <;> intro hd <;> (try simp only [hd])) | simp (disch := first | assumption | omega | (simp only [nx] <;> omega) | fail) only [hd, hQr, hQn, c6_0, ↓YA, YB, YC, YE, YF, YZ, ↓reduceIte, Nat.reduceEqDiff, Nat.reduceAdd, Nat.reduceMul, Nat.reduceLeDiff, Int.reduceToNat, Int.reduceLE, Int.reduceLT, Int.reduceGT, Int.reduceGE, Int.reduceAdd, Int.reduceSub, Int.reduceNeg, Int.reduceBEq, Int.reduceBNe, d1, List.length_map])) <;> (try (have hd_ : True := hd; clear hd_ hd)))
   ·exact fin_keep ⟨hG, _, rfl, fun e => by simp at hd; omega⟩
   ·exact fin_keep ⟨hG, _, rfl, fun e => by cases e⟩
def posF (f : Fct) (out : List Fct) : Nat → Nat
 | 0 => 0
 | n + 1 => match out[n]? with
  | some g => if f.1 < g.1 then posF f out n else n + 1
  | none => n + 1
def insF (out : List Fct) (f : Fct) : List Fct := out.take (posF f out out.length) ++ f :: out.drop (posF f out out.length)
def sortF (l : List Fct) : List Fct := l.foldl insF []
abbrev RiseF (l : List Fct) : Prop := l.Pairwise fun a b => a.1 < b.1
theorem posF_le (f : Fct) (out : List Fct) : ∀ n, posF f out n ≤ n
 | 0 => Nat.le_refl _
 | n + 1 => by
  rw [posF]
  split
  ·split
   ·exact Nat.le_succ_of_le (posF_le f out n)
   ·exact Nat.le_refl _
  ·exact Nat.le_refl _
theorem insF_mem {f : Fct} {out : List Fct} (x : Fct) : x ∈ insF out f ↔ x = f ∨ x ∈ out := by
 rw [insF, List.mem_append, List.mem_cons]
 constructor
 ·rintro (h | h | h)
  ·exact .inr (List.mem_of_mem_take h)
  ·exact .inl h
  ·exact .inr (List.mem_of_mem_drop h)
 ·rintro (h | h)
  ·exact .inr (.inl h)
  ·rw [← List.take_append_drop (posF f out out.length) out, List.mem_append] at h
   rcases h with h | h
   ·exact .inl h
   ·exact .inr (.inr h)
theorem insF_length (f : Fct) (out : List Fct) : (insF out f).length = out.length + 1 := by
 have hle := posF_le f out out.length
 rw [insF, List.length_append, List.length_cons, List.length_take, List.length_drop]; omega
theorem allLen_rF (l : List Fct) : allLen 11 (rF l) = true := allLen_map (f := eFct) (fun _ => rfl) l
theorem sortF_take {l : List Fct} {k : Nat} (h : k < l.length) : sortF (l.take (k + 1)) = insF (sortF (l.take k)) l[k] := by
 rw [List.take_succ_eq_append_getElem h, sortF, List.foldl_append]; rfl
theorem sortF_len (l : List Fct) : ∀ k, k ≤ l.length → (sortF (l.take k)).length = k
 | 0, _ => by simp [sortF]
 | k + 1, h => by rw [sortF_take (by omega), insF_length, sortF_len l k (by omega)]
theorem insF_sub {f : Fct} {out : List Fct} {P : Fct → Prop} (hf : P f) (h : ∀ g ∈ out, P g) : ∀ g ∈ insF out f, P g := fun g hg => by
 rcases (insF_mem g).1 hg with rfl | hg
 ·exact hf
 ·exact h g hg
theorem sortF_sub {l : List Fct} {P : Fct → Prop} (h : ∀ g ∈ l, P g) : ∀ k, k ≤ l.length → ∀ g ∈ sortF (l.take k), P g
 | 0, _ => by simp [sortF]
 | k + 1, hk => by
  rw [sortF_take (by omega)]
  exact insF_sub (h _ (List.getElem_mem _)) (sortF_sub h k (by omega))
theorem rF_take (l : List Fct) (k : Nat) : rF (l.take k) = (rF l).take k := List.map_take
theorem rF_drop (l : List Fct) (k : Nat) : rF (l.drop k) = (rF l).drop k := List.map_drop
theorem HX.thn {O : List (Nat × AObj)} {H H1 G : AHeap} (h : HX O H H1) (k : HX [] H1 G) : HX O H G :=
 ⟨Nat.le_trans h.n k.n, fun p hp => by
  have := h.o p hp
  rw [k.get _ (AHeap.lt this)]; exact this, fun i hi hn => by rw [k.get _ (Nat.lt_of_lt_of_le hi h.n)]; exact h.g i hi hn⟩
theorem lens19 {r q o : Nat} (h : r = q) (ho : o ≤ 1000000) (hq : q < o) : r + 1 ≤ maxLen ∧ (r + 1) * 104 ≤ 140737488355328 ∧ r + 1 + 1 ≤ maxLen ∧ (r + 1 + 1) * 104 ≤ 140737488355328 ∧ r + 1 + 1 + (o - (q + 1)) ≤ maxLen ∧ (r + 1 + 1 + (o - (q + 1))) * 104 ≤ 140737488355328 := by
 unfold maxLen
 refine ⟨?_, ?_, ?_, ?_, ?_, ?_⟩ <;> omega
@[simp] theorem sortF_nil : sortF [] = [] := rfl
set_option maxHeartbeats 4000000 in
theorem sort19_sound (t : Tok) (l : List Fct) (H : AHeap) (hl : l.length ≤ 1000000) (hk : ∀ f ∈ l, f.1.length ≤ 1000000) : Sound Try.prog 24 [.sl t (rF l)] H (Pure H (.sl .no (rF (sortF l)))) := by
 refine fn_soundQ hE cf24 (Nat.le_of_ble_eq_true rfl) fun Q hQr hQn => ?_
 ((have hd := trivial; repeat' (first | ((first | apply GdK_st | apply GdK_sf | apply CondK_s) <;> intro hd <;> (try simp only [hd])) | simp (disch := first | assumption | omega | (simp only [nx] <;> omega) | fail) only [hd, hQr, hQn, c24_0, ↓YA, YB, YC, YE, YF, YZ, ↓reduceIte, Nat.reduceEqDiff, Nat.reduceAdd, Nat.reduceMul, Nat.reduceLeDiff, Int.reduceToNat, Int.reduceLE, Int.reduceLT, Int.reduceGT, Int.reduceGE, Int.reduceAdd, Int.reduceSub, Int.reduceNeg, Int.reduceBEq, Int.reduceBNe, List.length_map])) <;> (try (have hd_ : True := hd; clear hd_ hd)))
 refine AW_for [8, 9] (σ := Tok) (fun (k : Nat) s => True) (fun k s => [(3, .sl s (rF (sortF (l.take k))))]) (fun k s => []) Tok.full (GStep.refl _ _) (by simp only [keep_nil, keep_cons, Fr.put, Fr.get, ↓reduceIte, Nat.reduceEqDiff]; rfl) (by intro k s; rfl) (by intro k s; rfl) (by rfl) (by unfold maxLen; omega) ?_ (by simp only [FrL_nil, FrL_cons, Fr.put, Fr.get, ↓reduceIte, Nat.reduceEqDiff, and_self] <;> simp) (by simp only [ObjL_nil]) ?_ ?_
 ·trivial
 ·(rintro k s G hk1 ht hG hn1; try simp only [nx] at hn1)
  have hlen := sortF_len l k (by omega)
  have hsub := sortF_sub hk k (by omega)
  have hkf := hk _ (List.getElem_mem hk1)
  have hnx := sortF_take hk1
  generalize sortF (l.take k) = out at *
  have e1 : (eFct l[k]).length = 11 := rfl
  have hlf : allLen 11 [eFct l[k]] = true := rfl
  have e2 : (eFct l[k]).take 11 = eFct l[k] := rfl
  generalize hfk : l[k] = f at *
  ((have hd := trivial; repeat' (first | ((first | apply GdK_st | apply GdK_sf | apply CondK_s) <;> intro hd <;> (try simp only [hd])) | simp (disch := first | assumption | omega | (simp only [nx] <;> omega) | fail) only [hd, hQr, hQn, c24_0, ↓YA, YB, YC, YE, YF, YZ, ↓reduceIte, Nat.reduceEqDiff, Nat.reduceAdd, Nat.reduceMul, Nat.reduceLeDiff, Int.reduceToNat, Int.reduceLE, Int.reduceLT, Int.reduceGT, Int.reduceGE, Int.reduceAdd, Int.reduceSub, Int.reduceNeg, Int.reduceBEq, Int.reduceBNe, hfk, e1, e2, hk1, List.length_map])) <;> (try (have hd_ : True := hd; clear hd_ hd)))
  have g1 : (G.alloc (.cells (eFct f) 38)).get G.next = some (.cells (eFct f) 38) := AHeap.get_alloc_self
  have hG1 : HX [] H (G.alloc (.cells (eFct f) 38)) := hG.alloc
  have l1 : G.next < (G.alloc (.cells (eFct f) 38)).next := AHeap.lt g1
  generalize G.next = n1 at *
  generalize G.alloc (.cells (eFct f) 38) = G1 at *
  refine AW_lop [3, 5, 8, 9, 10] (σ := Nat) (fun s => s ≤ out.length ∧ posF f out out.length = posF f out s) (fun s => s) (fun s => [(6, .i (s : Int))]) (fun s => []) out.length (GStep.refl _ _) (by simp only [keep_nil, keep_cons, Fr.put, Fr.get, ↓reduceIte, Nat.reduceEqDiff]; rfl) ?_ (by simp only [FrL_nil, FrL_cons, Fr.put, Fr.get, ↓reduceIte, Nat.reduceEqDiff, and_self] <;> simp) (by simp only [ObjL_nil]) ?_
  ·exact ⟨Nat.le_refl _, rfl⟩
  ·(rintro p G2 ⟨hp1, hp2⟩ hG2 hn2; try simp only [nx] at hn2)
   have g2 : G2.get n1 = _ := (hG2.get _ l1).trans g1
   have hx2 := hG2.ext
   cases p with
   | zero =>
    have d1 : decide (((0 : Nat) : Int) > 0) = false := rfl
    have h0 : (0 : Int) ≤ ((0 : Nat) : Int) := Int.le_refl _
    have hs0 : (0 ≤ 0 ∧ 0 ≤ out.length ∧ out.length ≤ out.length ∧ ((0 : Nat) = 0 ∨ allLen 11 (rF out) = true)) := ⟨Nat.le_refl _, Nat.zero_le _, Nat.le_refl _, .inl rfl⟩
    have hal := allLen_rF out
    have htk : List.take out.length (rF out) = rF out := List.take_of_length_le (by simp)
    have m3 : (1 : Nat) ≤ maxLen := by unfold maxLen; omega
    have m4 : (104 : Nat) ≤ 140737488355328 := by omega
    have m5 : (1 + out.length : Nat) ≤ maxLen := by unfold maxLen; omega
    have m6 : (1 + out.length) * 104 ≤ 140737488355328 := by omega
    have a0 : (allLen 11 [] = true ∧ 0 ≤ maxLen ∧ 0 ≤ 140737488355328 ∧ allLen 11 [] = true) := ⟨rfl, Nat.zero_le _, Nat.zero_le _, rfl⟩
    ((have hd := trivial; repeat' (first | ((first | apply GdK_st | apply GdK_sf | apply CondK_s) <;> intro hd <;> (try simp only [hd])) | simp (disch := first | assumption | omega | (simp only [nx] <;> omega) | fail) only [hd, hQr, hQn, c24_0, ↓YA, YB, YC, YE, YF, YZ, ↓reduceIte, Nat.reduceEqDiff, Nat.reduceAdd, Nat.reduceMul, Nat.reduceLeDiff, Int.reduceToNat, Int.reduceLE, Int.reduceLT, Int.reduceGT, Int.reduceGE, Int.reduceAdd, Int.reduceSub, Int.reduceNeg, Int.reduceBEq, Int.reduceBNe, g2, d1, e1, e2, bndA, sliceTok, if_pos h0, Int.toNat_natCast, if_pos hs0, List.drop_zero, List.take_zero, htk, hal, rowsIn, List.length_nil, Nat.zero_le, true_and, and_true, or_true, if_true, allLen_nil, hlf, m3, m4, m5, m6])) <;> (try (have hd_ : True := hd; clear hd_ hd)))
    have hpz : posF f out out.length = 0 := hp2
    exact ⟨.own G2.next, congrArg (AV.sl _) (show eFct f :: rF out = rF (sortF (l.take (k + 1))) by rw [hnx, insF, hpz]; rfl), hG1.thn hG2.alloc⟩
   | succ q =>
    have d1 : decide (((q + 1 : Nat) : Int) > 0) = true := by simp
    have h0 : (0 : Int) ≤ ((q + 1 : Nat) : Int) := by omega
    have hs0 : (0 ≤ q + 1 ∧ q + 1 ≤ out.length ∧ out.length ≤ out.length ∧ ((0 : Nat) = 0 ∨ allLen 11 (rF out) = true)) := ⟨Nat.zero_le _, hp1, Nat.le_refl _, .inl rfl⟩
    have hq : q < out.length := by omega
    have hal := allLen_rF out
    have htk : List.take out.length (rF out) = rF out := List.take_of_length_le (by simp)
    have d2 : ((q + 1 : Nat) : Int) - 1 = (q : Int) := by omega
    have h1 : (0 : Int) ≤ (q : Int) := by omega
    have f1 : (eFct out[q]).length = 11 := rfl
    have f2 : (eFct out[q]).take 11 = eFct out[q] := rfl
    have hL := fun H => less_sound f out[q] H hkf (hsub _ (List.getElem_mem hq))
    obtain ⟨r, rs, hA⟩ : ∃ r rs, List.take (q + 1) (rF out) = r :: rs := by
     cases hc : rF out with
     | nil => exact absurd (congrArg List.length hc) (by rw [List.length_map]; simp only [List.length_nil]; omega)
     | cons r rs => exact ⟨r, rs.take q, rfl⟩
    have hlA : allLen 11 (r :: rs) = true := by
     have := allLen_rF (out.take (q + 1))
     rw [rF_take, hA] at this; exact this
    have hlr : rs.length = q := by
     have := congrArg List.length hA
     rw [List.length_take, List.length_map, List.length_cons] at this; omega
    have hd1 : allLen 11 (List.drop (q + 1) (rF out)) = true := by
     have := allLen_rF (out.drop (q + 1))
     rw [rF_drop] at this; exact this
    have hall : allLen 11 (r :: (rs ++ [eFct f])) = true := by
     rw [← List.cons_append, allLen, List.all_append]
     rw [allLen] at hlA; rw [hlA]; rfl
    obtain ⟨m1, m2, m3, m4, m5, m6⟩ := lens19 (r := rs.length) (q := q) (o := out.length) hlr (by omega) hq
    by_cases c : f.1 < out[q].1
    ·simp only [decide_eq_true c] at hL
     ((have hd := trivial; repeat' (first | ((first | apply GdK_st | apply GdK_sf | apply CondK_s) <;> intro hd <;> (try simp only [hd])) | simp (disch := first | assumption | omega | (simp only [nx] <;> omega) | fail) only [hd, hQr, hQn, c24_0, ↓YA, YB, YC, YE, YF, YZ, ↓reduceIte, Nat.reduceEqDiff, Nat.reduceAdd, Nat.reduceMul, Nat.reduceLeDiff, Int.reduceToNat, Int.reduceLE, Int.reduceLT, Int.reduceGT, Int.reduceGE, Int.reduceAdd, Int.reduceSub, Int.reduceNeg, Int.reduceBEq, Int.reduceBNe, g2, d1, e1, e2, List.length_map, d2, h1, hq, f1, f2])) <;> (try (have hd_ : True := hd; clear hd_ hd)))
     (refine CallK.use (hL _) ?_; rintro _ _ ⟨rfl, k1, rfl⟩)
     ((have hd := trivial; repeat' (first | ((first | apply GdK_st | apply GdK_sf | apply CondK_s) <;> intro hd <;> (try simp only [hd])) | simp (disch := first | assumption | omega | (simp only [nx] <;> omega) | fail) only [hd, hQr, hQn, c24_0, ↓YA, YB, YC, YE, YF, YZ, ↓reduceIte, Nat.reduceEqDiff, Nat.reduceAdd, Nat.reduceMul, Nat.reduceLeDiff, Int.reduceToNat, Int.reduceLE, Int.reduceLT, Int.reduceGT, Int.reduceGE, Int.reduceAdd, Int.reduceSub, Int.reduceNeg, Int.reduceBEq, Int.reduceBNe])) <;> (try (have hd_ : True := hd; clear hd_ hd)))
     refine ⟨q, ⟨by omega, hp2.trans ?_⟩, by omega, AV_i d2, by exact HXT⟩
     rw [posF, List.getElem?_eq_getElem hq]
     exact if_pos c
    ·simp only [decide_eq_false c] at hL
     ((have hd := trivial; repeat' (first | ((first | apply GdK_st | apply GdK_sf | apply CondK_s) <;> intro hd <;> (try simp only [hd])) | simp (disch := first | assumption | omega | (simp only [nx] <;> omega) | fail) only [hd, hQr, hQn, c24_0, ↓YA, YB, YC, YE, YF, YZ, ↓reduceIte, Nat.reduceEqDiff, Nat.reduceAdd, Nat.reduceMul, Nat.reduceLeDiff, Int.reduceToNat, Int.reduceLE, Int.reduceLT, Int.reduceGT, Int.reduceGE, Int.reduceAdd, Int.reduceSub, Int.reduceNeg, Int.reduceBEq, Int.reduceBNe, g2, d1, e1, e2, List.length_map, d2, h1, hq, f1, f2])) <;> (try (have hd_ : True := hd; clear hd_ hd)))
     (refine CallK.use (hL _) ?_; rintro _ _ ⟨rfl, k1, rfl⟩)
     ((have hd := trivial; repeat' (first | ((first | apply GdK_st | apply GdK_sf | apply CondK_s) <;> intro hd <;> (try simp only [hd])) | simp (disch := first | assumption | omega | (simp only [nx] <;> omega) | fail) only [hd, hQr, hQn, c24_0, ↓YA, YB, YC, YE, YF, YZ, ↓reduceIte, Nat.reduceEqDiff, Nat.reduceAdd, Nat.reduceMul, Nat.reduceLeDiff, Int.reduceToNat, Int.reduceLE, Int.reduceLT, Int.reduceGT, Int.reduceGE, Int.reduceAdd, Int.reduceSub, Int.reduceNeg, Int.reduceBEq, Int.reduceBNe, bndA, g2, e1, e2, sliceTok, if_pos h0, Int.toNat_natCast, if_pos hs0, List.drop_zero, htk, hal, rowsIn, List.length_nil, hp1, or_true, true_and, and_true, if_true, hA, hlA, m1, m2, m3, m4, m5, m6, hd1, hlf, allLen_nil, hall, List.length_append, List.length_drop, List.length_map, List.length_cons])) <;> (try (have hd_ : True := hd; clear hd_ hd)))
     refine ⟨.own (G2.next + k1), congrArg (AV.sl _) ?_, hG1.thn hG2.bump.alloc⟩
     have hpz : posF f out out.length = q + 1 := by
      rw [hp2, posF, List.getElem?_eq_getElem hq]; exact if_neg c
     rw [hnx, insF, hpz]
     simp only [rF, List.map_append, List.map_cons, List.map_take, List.map_drop] at hA ⊢
     rw [hA]; simp
 ·(rintro s G ht hG hn1; try simp only [nx] at hn1)
  rw [List.take_length] at *
  ((have hd := trivial; repeat' (first | ((first | apply GdK_st | apply GdK_sf | apply CondK_s) <;> intro hd <;> (try simp only [hd])) | simp (disch := first | assumption | omega | (simp only [nx] <;> omega) | fail) only [hd, hQr, hQn, c24_0, ↓YA, YB, YC, YE, YF, YZ, ↓reduceIte, Nat.reduceEqDiff, Nat.reduceAdd, Nat.reduceMul, Nat.reduceLeDiff, Int.reduceToNat, Int.reduceLE, Int.reduceLT, Int.reduceGT, Int.reduceGE, Int.reduceAdd, Int.reduceSub, Int.reduceNeg, Int.reduceBEq, Int.reduceBNe])) <;> (try (have hd_ : True := hd; clear hd_ hd)))
  refine fin_pA (by rfl)
section
variable {K V : Type} [DecidableEq K] {kf : K → Value} {vf : V → AV}
def aGet (k : K) : List (K × V) → Option V
 | [] => none
 | (k', v) :: M => if k = k' then some v else aGet k M
def aSet (k : K) (v : V) : List (K × V) → List (K × V)
 | [] => [(k, v)]
 | (k', u) :: M => if k = k' then (k, v) :: M else (k', u) :: aSet k v M
def eMap (kf : K → Value) (vf : V → AV) (M : List (K × V)) : List (Value × AV) := M.map fun p => (kf p.1, vf p.2)
theorem mFind_map (hk : ∀ a b, kEq (kf a) (kf b) = decide (a = b)) (k : K) : ∀ M : List (K × V), mFind (kf k) (eMap kf vf M) = (aGet k M).map vf
 | [] => rfl
 | (k', v) :: M => by
  have ih := mFind_map hk k M
  unfold eMap at ih ⊢
  simp only [List.map_cons, mFind, hk, aGet]
  by_cases h : k = k' <;> simp [h, ih]
theorem mSet_map (hk : ∀ a b, kEq (kf a) (kf b) = decide (a = b)) (k : K) (v : V) : ∀ M : List (K × V), mSet (kf k) (vf v) (eMap kf vf M) = eMap kf vf (aSet k v M)
 | [] => rfl
 | (k', u) :: M => by
  have ih := mSet_map hk k v M
  unfold eMap at ih ⊢
  simp only [List.map_cons, mSet, hk, aSet]
  by_cases h : k = k' <;> simp [h, ih]
theorem aGet_set (k j : K) (v : V) : ∀ M : List (K × V), aGet j (aSet k v M) = if j = k then some v else aGet j M
 | [] => by simp [aSet, aGet]
 | (k', u) :: M => by
  have ih := aGet_set k j v M
  unfold aSet
  by_cases h : k = k'
  ·subst h
   rw [if_pos rfl]
   simp only [aGet]
   by_cases h2 : j = k <;> simp [h2]
  ·rw [if_neg h]
   simp only [aGet, ih]
   by_cases h2 : j = k
   ·subst h2; simp [h]
   ·simp [h2]
theorem aSet_len (k : K) (v : V) : ∀ M : List (K × V), (aSet k v M).length = if (aGet k M).isSome then M.length else M.length + 1
 | [] => by simp [aSet, aGet]
 | (k', u) :: M => by
  have ih := aSet_len k v M
  unfold aSet aGet
  by_cases h : k = k'
  ·simp [h]
  ·simp only [h, if_false, List.length_cons, ih]
   split <;> omega
end
def kS (l : List UInt8) : Value := .string ⟨l.toArray⟩
theorem kS_inj {a b : List UInt8} (h : (⟨a.toArray⟩ : ByteArray) = ⟨b.toArray⟩) : a = b := by
 injection h with h
 simpa using congrArg Array.toList h
theorem kS_eq (a b : List UInt8) : kEq (kS a) (kS b) = decide (a = b) := by
 rw [Bool.eq_iff_iff, decide_eq_true_eq]
 show (a.toArray == b.toArray) = true ↔ _
 rw [beq_iff_eq]
 exact ⟨fun h => by simpa using congrArg Array.toList h, fun h => by rw [h]⟩
theorem kS_of (l : List UInt8) : KK.of (.one .str) (eS l) = some (kS l) := rfl
abbrev eF (f : Fct) : AV := .agg (eFct f)
abbrev Tbl := List (List UInt8 × Fct)
abbrev eTbl (M : Tbl) : AObj := .map (.one .str) (eMap kS eF M) false
def putM (w m : Int) (M : Tbl) (ks : List Int) (a : Ag) : Tbl × Int :=
 if (ks.length : Int) ≠ w ∨ (ks.any fun k => decide (k < 0)) = true ∨ a.n < 1 then (M, 2)
 else match aGet (nmB ks) M with
  | none => if (M.length : Int) ≥ m then (M, 6) else (aSet (nmB ks) (ks, a) M, 0)
  | some f => match joinA f.2 a with
   | none => (M, 12)
   | some s => (aSet (nmB ks) (ks, s) M, 0)
def PutQ (mid : Nat) (q : Tbl × Int) (H : AHeap) (r : AV) (H' : AHeap) : Prop := r = .i q.2 ∧ HX [(mid, eTbl q.1)] H H'
theorem bfo {α : Type} (o : Option α) : o = none ∨ ∃ a, o = some a := by cases o with
 | none => exact .inl rfl
 | some a => exact .inr ⟨a, rfl⟩
theorem HX.putE {id : Nat} {o o' o'' : AObj} {H G : AHeap} (h : HX [(id, o)] H G) (e : o' = o'') : HX [(id, o'')] H (G.set id o') := e ▸ h.put
theorem ag0_in : AgIn ag0 := ⟨⟨by decide, by decide⟩, ⟨by decide, by decide⟩, ⟨by decide, by decide⟩, ⟨by decide, by decide⟩⟩
set_option maxHeartbeats 4000000 in
theorem put_tab (t : Tok) {id mid : Nat} {w m : Int} {M : Tbl} {ks : List Int} {a : Ag} {H : AHeap} (hg : H.get id = some (tab w m mid)) (hm : H.get mid = some (eTbl M)) (hne : id ≠ mid) (hw : w ≤ 16)
  (hk : ∀ x ∈ ks, x < 9223372036854775808) (ha : AgIn a) (hM : ∀ f, aGet (nmB ks) M = some f → AgIn f.2) : Sound Try.prog 10 [.ptr id 0, .sl t (rI ks), .agg (eAg a)] H (PutQ mid (putM w m M ks a) H) := by
 have hl := AHeap.lt hg
 have hl2 := AHeap.lt hm
 have hini : HX [(mid, eTbl M)] H H := HX.ini (by rw [ObjL_cons]; exact ⟨hm, by simp [ObjL]⟩)
 refine fn_soundQ hE cf10 (Nat.le_of_ble_eq_true rfl) fun Q hQr hQn => ?_
 by_cases c1 : (ks.length : Int) = w
 ·have d1 : ((ks.length : Int) != w) = false := by simp [c1]
  have hC := fun H => contains_sound t ks (by omega) H
  have c2 := bfe (ks.any fun k => decide (k < 0))
  rcases c2 with c2 | c2
  ·rw [c2] at hC
   by_cases c3 : a.n < 1
   ·have d3 : decide (a.n < 1) = true := decide_eq_true c3
    have hp : putM w m M ks a = (M, 2) := by unfold putM; rw [if_pos (.inr (.inr c3))]
    rw [hp] at hQr hQn
    ((have hd := trivial; repeat' (first | ((first | apply GdK_st | apply GdK_sf | apply CondK_s) <;> intro hd <;> (try simp only [hd])) | simp (disch := first | assumption | omega | (simp only [nx] <;> omega) | fail) only [hd, hQr, hQn, c10_0, ↓YA, YB, YC, YE, YF, YZ, ↓reduceIte, Nat.reduceEqDiff, Nat.reduceAdd, Nat.reduceMul, Nat.reduceLeDiff, Int.reduceToNat, Int.reduceLE, Int.reduceLT, Int.reduceGT, Int.reduceGE, Int.reduceAdd, Int.reduceSub, Int.reduceNeg, Int.reduceBEq, Int.reduceBNe, hg, d1, List.length_map])) <;> (try (have hd_ : True := hd; clear hd_ hd)))
    (refine CallK.use (hC _) ?_; rintro _ _ ⟨rfl, k1, rfl⟩)
    ((have hd := trivial; repeat' (first | ((first | apply GdK_st | apply GdK_sf | apply CondK_s) <;> intro hd <;> (try simp only [hd])) | simp (disch := first | assumption | omega | (simp only [nx] <;> omega) | fail) only [hd, hQr, hQn, c10_0, ↓YA, YB, YC, YE, YF, YZ, ↓reduceIte, Nat.reduceEqDiff, Nat.reduceAdd, Nat.reduceMul, Nat.reduceLeDiff, Int.reduceToNat, Int.reduceLE, Int.reduceLT, Int.reduceGT, Int.reduceGE, Int.reduceAdd, Int.reduceSub, Int.reduceNeg, Int.reduceBEq, Int.reduceBNe, hg, d1, d3, List.length_map])) <;> (try (have hd_ : True := hd; clear hd_ hd)))
    exact fin_keep ⟨rfl, hini.alloc.bump⟩
   ·have d3 : decide (a.n < 1) = false := decide_eq_false c3
    have hb : putM w m M ks a = match aGet (nmB ks) M with
      | none => if (M.length : Int) ≥ m then (M, 6) else (aSet (nmB ks) (ks, a) M, 0)
      | some f => match joinA f.2 a with
       | none => (M, 12)
       | some s => (aSet (nmB ks) (ks, s) M, 0) := by
     unfold putM
     rw [if_neg (by rw [c2]; simp; omega)]
    have hpos : ∀ x ∈ ks, 0 ≤ x ∧ x < 9223372036854775808 := fun x hx => ⟨by
     have := List.any_eq_false.1 c2 x hx
     simp at this; omega, hk x hx⟩
    have hN := fun H => name_sound t ks (by omega) hpos H
    have hfind := mFind_map (vf := eF) kS_eq (nmB ks) M
    have hset : ∀ f : Fct, mSet (kS (nmB ks)) (eF f) (eMap kS eF M) = eMap kS eF (aSet (nmB ks) f M) := fun f => mSet_map kS_eq (nmB ks) f M
    have hof := kS_of (nmB ks)
    have hlen : (eMap kS eF M).length = M.length := by rw [eMap, List.length_map]
    have hcl := fun H => clone_sound t ks H (by omega)
    have hop := bfo (aGet (nmB ks) M)
    rcases hop with hop | ⟨f, hop⟩
    ·rw [hop] at hfind hb
     simp only [Option.map_none] at hfind
     by_cases c4 : (M.length : Int) ≥ m
     ·have d4 : decide ((M.length : Int) ≥ m) = true := decide_eq_true c4
      have hp : putM w m M ks a = (M, 6) := hb.trans (if_pos c4)
      rw [hp] at hQr hQn
      ((have hd := trivial; repeat' (first | ((first | apply GdK_st | apply GdK_sf | apply CondK_s) <;> intro hd <;> (try simp only [hd])) | simp (disch := first | assumption | omega | (simp only [nx] <;> omega) | fail) only [hd, hQr, hQn, c10_0, ↓YA, YB, YC, YE, YF, YZ, ↓reduceIte, Nat.reduceEqDiff, Nat.reduceAdd, Nat.reduceMul, Nat.reduceLeDiff, Int.reduceToNat, Int.reduceLE, Int.reduceLT, Int.reduceGT, Int.reduceGE, Int.reduceAdd, Int.reduceSub, Int.reduceNeg, Int.reduceBEq, Int.reduceBNe, hg, d1, List.length_map])) <;> (try (have hd_ : True := hd; clear hd_ hd)))
      (refine CallK.use (hC _) ?_; rintro _ _ ⟨rfl, k1, rfl⟩)
      ((have hd := trivial; repeat' (first | ((first | apply GdK_st | apply GdK_sf | apply CondK_s) <;> intro hd <;> (try simp only [hd])) | simp (disch := first | assumption | omega | (simp only [nx] <;> omega) | fail) only [hd, hQr, hQn, c10_0, ↓YA, YB, YC, YE, YF, YZ, ↓reduceIte, Nat.reduceEqDiff, Nat.reduceAdd, Nat.reduceMul, Nat.reduceLeDiff, Int.reduceToNat, Int.reduceLE, Int.reduceLT, Int.reduceGT, Int.reduceGE, Int.reduceAdd, Int.reduceSub, Int.reduceNeg, Int.reduceBEq, Int.reduceBNe, hg, d1, d3, List.length_map])) <;> (try (have hd_ : True := hd; clear hd_ hd)))
      (refine CallK.use (hN _) ?_; rintro _ _ ⟨rfl, k2, rfl⟩)
      ((have hd := trivial; repeat' (first | ((first | apply GdK_st | apply GdK_sf | apply CondK_s) <;> intro hd <;> (try simp only [hd])) | simp (disch := first | assumption | omega | (simp only [nx] <;> omega) | fail) only [hd, hQr, hQn, c10_0, ↓YA, YB, YC, YE, YF, YZ, ↓reduceIte, Nat.reduceEqDiff, Nat.reduceAdd, Nat.reduceMul, Nat.reduceLeDiff, Int.reduceToNat, Int.reduceLE, Int.reduceLT, Int.reduceGT, Int.reduceGE, Int.reduceAdd, Int.reduceSub, Int.reduceNeg, Int.reduceBEq, Int.reduceBNe, hg, hm, hof, hfind, hlen, d4])) <;> (try (have hd_ : True := hd; clear hd_ hd)))
      exact fin_keep ⟨rfl, hini.alloc.bump.bump.alloc⟩
     ·have d4 : decide ((M.length : Int) ≥ m) = false := decide_eq_false c4
      have hp : putM w m M ks a = (aSet (nmB ks) (ks, a) M, 0) := hb.trans (if_neg c4)
      have hJ : ∀ H, Sound Try.prog 18 [.agg (eAg ag0), .agg (eAg a)] H (Pure H (.tup [.agg (eAg a), .b true])) := fun H => (ajoin_sound ag0 a H ag0_in ha).mono fun r H' h => by
       rw [joinA, if_pos (show ag0.n = 0 from rfl)] at h; exact h
      rw [hp] at hQr hQn
      ((have hd := trivial; repeat' (first | ((first | apply GdK_st | apply GdK_sf | apply CondK_s) <;> intro hd <;> (try simp only [hd])) | simp (disch := first | assumption | omega | (simp only [nx] <;> omega) | fail) only [hd, hQr, hQn, c10_0, ↓YA, YB, YC, YE, YF, YZ, ↓reduceIte, Nat.reduceEqDiff, Nat.reduceAdd, Nat.reduceMul, Nat.reduceLeDiff, Int.reduceToNat, Int.reduceLE, Int.reduceLT, Int.reduceGT, Int.reduceGE, Int.reduceAdd, Int.reduceSub, Int.reduceNeg, Int.reduceBEq, Int.reduceBNe, hg, d1, List.length_map])) <;> (try (have hd_ : True := hd; clear hd_ hd)))
      (refine CallK.use (hC _) ?_; rintro _ _ ⟨rfl, k1, rfl⟩)
      ((have hd := trivial; repeat' (first | ((first | apply GdK_st | apply GdK_sf | apply CondK_s) <;> intro hd <;> (try simp only [hd])) | simp (disch := first | assumption | omega | (simp only [nx] <;> omega) | fail) only [hd, hQr, hQn, c10_0, ↓YA, YB, YC, YE, YF, YZ, ↓reduceIte, Nat.reduceEqDiff, Nat.reduceAdd, Nat.reduceMul, Nat.reduceLeDiff, Int.reduceToNat, Int.reduceLE, Int.reduceLT, Int.reduceGT, Int.reduceGE, Int.reduceAdd, Int.reduceSub, Int.reduceNeg, Int.reduceBEq, Int.reduceBNe, hg, d1, d3, List.length_map])) <;> (try (have hd_ : True := hd; clear hd_ hd)))
      (refine CallK.use (hN _) ?_; rintro _ _ ⟨rfl, k2, rfl⟩)
      ((have hd := trivial; repeat' (first | ((first | apply GdK_st | apply GdK_sf | apply CondK_s) <;> intro hd <;> (try simp only [hd])) | simp (disch := first | assumption | omega | (simp only [nx] <;> omega) | fail) only [hd, hQr, hQn, c10_0, ↓YA, YB, YC, YE, YF, YZ, ↓reduceIte, Nat.reduceEqDiff, Nat.reduceAdd, Nat.reduceMul, Nat.reduceLeDiff, Int.reduceToNat, Int.reduceLE, Int.reduceLT, Int.reduceGT, Int.reduceGE, Int.reduceAdd, Int.reduceSub, Int.reduceNeg, Int.reduceBEq, Int.reduceBNe, hg, hm, hof, hfind, hlen, d4])) <;> (try (have hd_ : True := hd; clear hd_ hd)))
      (refine CallK.use (hJ _) ?_; rintro _ _ ⟨rfl, k3, rfl⟩)
      ((have hd := trivial; repeat' (first | ((first | apply GdK_st | apply GdK_sf | apply CondK_s) <;> intro hd <;> (try simp only [hd])) | simp (disch := first | assumption | omega | (simp only [nx] <;> omega) | fail) only [hd, hQr, hQn, c10_0, ↓YA, YB, YC, YE, YF, YZ, ↓reduceIte, Nat.reduceEqDiff, Nat.reduceAdd, Nat.reduceMul, Nat.reduceLeDiff, Int.reduceToNat, Int.reduceLE, Int.reduceLT, Int.reduceGT, Int.reduceGE, Int.reduceAdd, Int.reduceSub, Int.reduceNeg, Int.reduceBEq, Int.reduceBNe, hg, hm, hof, hfind, hlen, d4])) <;> (try (have hd_ : True := hd; clear hd_ hd)))
      (refine CallK.use (hcl _) ?_; rintro _ _ ⟨rfl, k4, rfl⟩)
      ((have hd := trivial; repeat' (first | ((first | apply GdK_st | apply GdK_sf | apply CondK_s) <;> intro hd <;> (try simp only [hd])) | simp (disch := first | assumption | omega | (simp only [nx] <;> omega) | fail) only [hd, hQr, hQn, c10_0, ↓YA, YB, YC, YE, YF, YZ, ↓reduceIte, Nat.reduceEqDiff, Nat.reduceAdd, Nat.reduceMul, Nat.reduceLeDiff, Int.reduceToNat, Int.reduceLE, Int.reduceLT, Int.reduceGT, Int.reduceGE, Int.reduceAdd, Int.reduceSub, Int.reduceNeg, Int.reduceBEq, Int.reduceBNe, hg, hm, hof, hfind, hlen, d4])) <;> (try (have hd_ : True := hd; clear hd_ hd)))
      exact fin_keep ⟨rfl, (hini.alloc.bump.bump.alloc.bump.alloc.bump).putE (congrArg (fun e => AObj.map (.one .str) e false) (hset (ks, a)))⟩
    ·rw [hop] at hfind hb
     simp only [Option.map_some] at hfind
     have hin := hM f hop
     have hoj := bfo (joinA f.2 a)
     rcases hoj with hoj | ⟨s, hoj⟩
     ·have hp : putM w m M ks a = (M, 12) := by rw [hb]; simp only [hoj]
      have hJ : ∀ H, Sound Try.prog 18 [.agg (eAg f.2), .agg (eAg a)] H (Pure H (.tup [.agg (eAg ag0), .b false])) := fun H => (ajoin_sound f.2 a H hin ha).mono fun r H' h => by
       rw [hoj] at h; exact h
      rw [hp] at hQr hQn
      ((have hd := trivial; repeat' (first | ((first | apply GdK_st | apply GdK_sf | apply CondK_s) <;> intro hd <;> (try simp only [hd])) | simp (disch := first | assumption | omega | (simp only [nx] <;> omega) | fail) only [hd, hQr, hQn, c10_0, ↓YA, YB, YC, YE, YF, YZ, ↓reduceIte, Nat.reduceEqDiff, Nat.reduceAdd, Nat.reduceMul, Nat.reduceLeDiff, Int.reduceToNat, Int.reduceLE, Int.reduceLT, Int.reduceGT, Int.reduceGE, Int.reduceAdd, Int.reduceSub, Int.reduceNeg, Int.reduceBEq, Int.reduceBNe, hg, d1, List.length_map])) <;> (try (have hd_ : True := hd; clear hd_ hd)))
      (refine CallK.use (hC _) ?_; rintro _ _ ⟨rfl, k1, rfl⟩)
      ((have hd := trivial; repeat' (first | ((first | apply GdK_st | apply GdK_sf | apply CondK_s) <;> intro hd <;> (try simp only [hd])) | simp (disch := first | assumption | omega | (simp only [nx] <;> omega) | fail) only [hd, hQr, hQn, c10_0, ↓YA, YB, YC, YE, YF, YZ, ↓reduceIte, Nat.reduceEqDiff, Nat.reduceAdd, Nat.reduceMul, Nat.reduceLeDiff, Int.reduceToNat, Int.reduceLE, Int.reduceLT, Int.reduceGT, Int.reduceGE, Int.reduceAdd, Int.reduceSub, Int.reduceNeg, Int.reduceBEq, Int.reduceBNe, hg, d1, d3, List.length_map])) <;> (try (have hd_ : True := hd; clear hd_ hd)))
      (refine CallK.use (hN _) ?_; rintro _ _ ⟨rfl, k2, rfl⟩)
      ((have hd := trivial; repeat' (first | ((first | apply GdK_st | apply GdK_sf | apply CondK_s) <;> intro hd <;> (try simp only [hd])) | simp (disch := first | assumption | omega | (simp only [nx] <;> omega) | fail) only [hd, hQr, hQn, c10_0, ↓YA, YB, YC, YE, YF, YZ, ↓reduceIte, Nat.reduceEqDiff, Nat.reduceAdd, Nat.reduceMul, Nat.reduceLeDiff, Int.reduceToNat, Int.reduceLE, Int.reduceLT, Int.reduceGT, Int.reduceGE, Int.reduceAdd, Int.reduceSub, Int.reduceNeg, Int.reduceBEq, Int.reduceBNe, hg, hm, hof, hfind, hlen, eFct])) <;> (try (have hd_ : True := hd; clear hd_ hd)))
      (refine CallK.use (hJ _) ?_; rintro _ _ ⟨rfl, k3, rfl⟩)
      ((have hd := trivial; repeat' (first | ((first | apply GdK_st | apply GdK_sf | apply CondK_s) <;> intro hd <;> (try simp only [hd])) | simp (disch := first | assumption | omega | (simp only [nx] <;> omega) | fail) only [hd, hQr, hQn, c10_0, ↓YA, YB, YC, YE, YF, YZ, ↓reduceIte, Nat.reduceEqDiff, Nat.reduceAdd, Nat.reduceMul, Nat.reduceLeDiff, Int.reduceToNat, Int.reduceLE, Int.reduceLT, Int.reduceGT, Int.reduceGE, Int.reduceAdd, Int.reduceSub, Int.reduceNeg, Int.reduceBEq, Int.reduceBNe, hg, hm, hof, hfind, hlen])) <;> (try (have hd_ : True := hd; clear hd_ hd)))
      exact fin_keep ⟨rfl, hini.alloc.bump.bump.alloc.bump.alloc⟩
     ·have hp : putM w m M ks a = (aSet (nmB ks) (ks, s) M, 0) := by rw [hb]; simp only [hoj]
      have hJ : ∀ H, Sound Try.prog 18 [.agg (eAg f.2), .agg (eAg a)] H (Pure H (.tup [.agg (eAg s), .b true])) := fun H => (ajoin_sound f.2 a H hin ha).mono fun r H' h => by
       rw [hoj] at h; exact h
      rw [hp] at hQr hQn
      ((have hd := trivial; repeat' (first | ((first | apply GdK_st | apply GdK_sf | apply CondK_s) <;> intro hd <;> (try simp only [hd])) | simp (disch := first | assumption | omega | (simp only [nx] <;> omega) | fail) only [hd, hQr, hQn, c10_0, ↓YA, YB, YC, YE, YF, YZ, ↓reduceIte, Nat.reduceEqDiff, Nat.reduceAdd, Nat.reduceMul, Nat.reduceLeDiff, Int.reduceToNat, Int.reduceLE, Int.reduceLT, Int.reduceGT, Int.reduceGE, Int.reduceAdd, Int.reduceSub, Int.reduceNeg, Int.reduceBEq, Int.reduceBNe, hg, d1, List.length_map])) <;> (try (have hd_ : True := hd; clear hd_ hd)))
      (refine CallK.use (hC _) ?_; rintro _ _ ⟨rfl, k1, rfl⟩)
      ((have hd := trivial; repeat' (first | ((first | apply GdK_st | apply GdK_sf | apply CondK_s) <;> intro hd <;> (try simp only [hd])) | simp (disch := first | assumption | omega | (simp only [nx] <;> omega) | fail) only [hd, hQr, hQn, c10_0, ↓YA, YB, YC, YE, YF, YZ, ↓reduceIte, Nat.reduceEqDiff, Nat.reduceAdd, Nat.reduceMul, Nat.reduceLeDiff, Int.reduceToNat, Int.reduceLE, Int.reduceLT, Int.reduceGT, Int.reduceGE, Int.reduceAdd, Int.reduceSub, Int.reduceNeg, Int.reduceBEq, Int.reduceBNe, hg, d1, d3, List.length_map])) <;> (try (have hd_ : True := hd; clear hd_ hd)))
      (refine CallK.use (hN _) ?_; rintro _ _ ⟨rfl, k2, rfl⟩)
      ((have hd := trivial; repeat' (first | ((first | apply GdK_st | apply GdK_sf | apply CondK_s) <;> intro hd <;> (try simp only [hd])) | simp (disch := first | assumption | omega | (simp only [nx] <;> omega) | fail) only [hd, hQr, hQn, c10_0, ↓YA, YB, YC, YE, YF, YZ, ↓reduceIte, Nat.reduceEqDiff, Nat.reduceAdd, Nat.reduceMul, Nat.reduceLeDiff, Int.reduceToNat, Int.reduceLE, Int.reduceLT, Int.reduceGT, Int.reduceGE, Int.reduceAdd, Int.reduceSub, Int.reduceNeg, Int.reduceBEq, Int.reduceBNe, hg, hm, hof, hfind, hlen, eFct])) <;> (try (have hd_ : True := hd; clear hd_ hd)))
      (refine CallK.use (hJ _) ?_; rintro _ _ ⟨rfl, k3, rfl⟩)
      ((have hd := trivial; repeat' (first | ((first | apply GdK_st | apply GdK_sf | apply CondK_s) <;> intro hd <;> (try simp only [hd])) | simp (disch := first | assumption | omega | (simp only [nx] <;> omega) | fail) only [hd, hQr, hQn, c10_0, ↓YA, YB, YC, YE, YF, YZ, ↓reduceIte, Nat.reduceEqDiff, Nat.reduceAdd, Nat.reduceMul, Nat.reduceLeDiff, Int.reduceToNat, Int.reduceLE, Int.reduceLT, Int.reduceGT, Int.reduceGE, Int.reduceAdd, Int.reduceSub, Int.reduceNeg, Int.reduceBEq, Int.reduceBNe, hg, hm, hof, hfind, hlen])) <;> (try (have hd_ : True := hd; clear hd_ hd)))
      (refine CallK.use (hcl _) ?_; rintro _ _ ⟨rfl, k4, rfl⟩)
      ((have hd := trivial; repeat' (first | ((first | apply GdK_st | apply GdK_sf | apply CondK_s) <;> intro hd <;> (try simp only [hd])) | simp (disch := first | assumption | omega | (simp only [nx] <;> omega) | fail) only [hd, hQr, hQn, c10_0, ↓YA, YB, YC, YE, YF, YZ, ↓reduceIte, Nat.reduceEqDiff, Nat.reduceAdd, Nat.reduceMul, Nat.reduceLeDiff, Int.reduceToNat, Int.reduceLE, Int.reduceLT, Int.reduceGT, Int.reduceGE, Int.reduceAdd, Int.reduceSub, Int.reduceNeg, Int.reduceBEq, Int.reduceBNe, hg, hm, hof, hfind, hlen])) <;> (try (have hd_ : True := hd; clear hd_ hd)))
      exact fin_keep ⟨rfl, (hini.alloc.bump.bump.alloc.bump.alloc.bump).putE (congrArg (fun e => AObj.map (.one .str) e false) (hset (ks, s)))⟩
  ·rw [c2] at hC
   have hp : putM w m M ks a = (M, 2) := by unfold putM; rw [if_pos (.inr (.inl c2))]
   rw [hp] at hQr hQn
   ((have hd := trivial; repeat' (first | ((first | apply GdK_st | apply GdK_sf | apply CondK_s) <;> intro hd <;> (try simp only [hd])) | simp (disch := first | assumption | omega | (simp only [nx] <;> omega) | fail) only [hd, hQr, hQn, c10_0, ↓YA, YB, YC, YE, YF, YZ, ↓reduceIte, Nat.reduceEqDiff, Nat.reduceAdd, Nat.reduceMul, Nat.reduceLeDiff, Int.reduceToNat, Int.reduceLE, Int.reduceLT, Int.reduceGT, Int.reduceGE, Int.reduceAdd, Int.reduceSub, Int.reduceNeg, Int.reduceBEq, Int.reduceBNe, hg, d1, List.length_map])) <;> (try (have hd_ : True := hd; clear hd_ hd)))
   (refine CallK.use (hC _) ?_; rintro _ _ ⟨rfl, k1, rfl⟩)
   ((have hd := trivial; repeat' (first | ((first | apply GdK_st | apply GdK_sf | apply CondK_s) <;> intro hd <;> (try simp only [hd])) | simp (disch := first | assumption | omega | (simp only [nx] <;> omega) | fail) only [hd, hQr, hQn, c10_0, ↓YA, YB, YC, YE, YF, YZ, ↓reduceIte, Nat.reduceEqDiff, Nat.reduceAdd, Nat.reduceMul, Nat.reduceLeDiff, Int.reduceToNat, Int.reduceLE, Int.reduceLT, Int.reduceGT, Int.reduceGE, Int.reduceAdd, Int.reduceSub, Int.reduceNeg, Int.reduceBEq, Int.reduceBNe, hg, d1, List.length_map])) <;> (try (have hd_ : True := hd; clear hd_ hd)))
   exact fin_keep ⟨rfl, hini.alloc.bump⟩
 ·have d1 : ((ks.length : Int) != w) = true := by simp [c1]
  have hp : putM w m M ks a = (M, 2) := by unfold putM; rw [if_pos (.inl c1)]
  rw [hp] at hQr hQn
  ((have hd := trivial; repeat' (first | ((first | apply GdK_st | apply GdK_sf | apply CondK_s) <;> intro hd <;> (try simp only [hd])) | simp (disch := first | assumption | omega | (simp only [nx] <;> omega) | fail) only [hd, hQr, hQn, c10_0, ↓YA, YB, YC, YE, YF, YZ, ↓reduceIte, Nat.reduceEqDiff, Nat.reduceAdd, Nat.reduceMul, Nat.reduceLeDiff, Int.reduceToNat, Int.reduceLE, Int.reduceLT, Int.reduceGT, Int.reduceGE, Int.reduceAdd, Int.reduceSub, Int.reduceNeg, Int.reduceBEq, Int.reduceBNe, hg, d1, List.length_map])) <;> (try (have hd_ : True := hd; clear hd_ hd)))
  exact fin_keep ⟨rfl, hini.alloc⟩
end Go.Proofs.Ytafbdhoaoileiaa
