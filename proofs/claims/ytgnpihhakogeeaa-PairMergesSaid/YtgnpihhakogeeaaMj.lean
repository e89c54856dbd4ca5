/- Texts of the walk, joined: U1 U2 U3 U4. -/
import Derived.Test.YtgnpihhakogeeaaMi
namespace Go.Proofs.Ytgnpihhakogeeaa
set_option linter.unusedSimpArgs false
set_option linter.unusedVariables false
open Go.RowKit
theorem eqlen_ne {a b : Nat} (h : ((a : Int) != (b : Int)) = true) : a ≠ b := by intro e; subst e; simp at h
theorem eqlen_eq {a b : Nat} (h : ((a : Int) != (b : Int)) = false) : a = b := by simp at h; omega
def allZip {α : Type} (e : α → α → Bool) : List α → List α → Bool
 | [], [] => true
 | a :: l, b :: m => e a b && allZip e l m
 | _, _ => false
theorem allZip_ne {α : Type} {e : α → α → Bool} : ∀ {l m : List α}, l.length ≠ m.length → allZip e l m = false
 | [], [], h => absurd rfl h
 | [], _ :: _, _ => rfl
 | _ :: _, [], _ => rfl
 | a :: l, b :: m, h => by
  simp only [allZip, allZip_ne (l := l) (m := m) (by simpa using h), Bool.and_false]
theorem allZip_drop {α : Type} {e : α → α → Bool} {l m : List α} {k : Nat} (h : k < l.length) (h2 : k < m.length) : allZip e (l.drop k) (m.drop k) = (e l[k] m[k] && allZip e (l.drop (k + 1)) (m.drop (k + 1))) := by
 rw [List.drop_eq_getElem_cons h, List.drop_eq_getElem_cons h2]; rfl
theorem allZip_end {α : Type} {e : α → α → Bool} {l m : List α} {k : Nat} (h : l.length ≤ k) (h2 : m.length ≤ k) : allZip e (l.drop k) (m.drop k) = true := by
 rw [List.drop_of_length_le h, List.drop_of_length_le h2]; rfl
theorem allZip_eq {α : Type} [DecidableEq α] : ∀ {l m : List α}, allZip (fun a b => decide (a = b)) l m = decide (l = m)
 | [], [] => by simp [allZip]
 | [], _ :: _ => by simp [allZip]
 | _ :: _, [] => by simp [allZip]
 | a :: l, b :: m => by rw [Bool.eq_iff_iff]; simp [allZip, allZip_eq (l := l) (m := m)]
theorem sleq_sound (t u : Tok) (a b : List Int) (H : AHeap) (hl : a.length ≤ 1000000) : Sound Try.prog 80 [.sl t (rI a), .sl u (rI b)] H (Pure H (.b (allZip (fun x y => decide (x = y)) a b))) := by
 refine fn_soundQ hE cf80 (Nat.le_of_ble_eq_true rfl) fun Q hQr hQn => ?_
 ((have hd := trivial; repeat' (first | ((first | apply GdK_st | apply GdK_sf | apply CondK_s) <;> intro hd <;> (try simp only [hd])) | simp (disch := first | assumption | omega | (simp only [nx] <;> omega) | fail) only [hd, hQr, hQn, c80_0, ↓YA, YB, YC, YE, YF, YZ, ↓reduceIte, Nat.reduceEqDiff, Nat.reduceAdd, Nat.reduceMul, Nat.reduceLeDiff, Int.reduceToNat, Int.reduceLE, Int.reduceLT, Int.reduceGT, Int.reduceGE, Int.reduceAdd, Int.reduceSub, Int.reduceNeg, Int.reduceBEq, Int.reduceBNe])) <;> (try (have hd_ : True := hd; clear hd_ hd)))
 ·refine fin_bA (by rw [allZip_ne (eqlen_ne hd)])
 ·have hab := eqlen_eq hd
  generalize hT : allZip (fun x y => decide (x = y)) a b = T at *
  refine AW_for [0, 1, 12] (σ := Unit) (fun (k : Nat) s => T = allZip (fun x y => decide (x = y)) (a.drop k) (b.drop k)) (fun k s => []) (fun k s => []) () (GStep.refl _ _) (by simp only [keep_nil, keep_cons, Fr.put, Fr.get, ↓reduceIte, Nat.reduceEqDiff]; rfl) (by intro k s; rfl) (by intro k s; rfl) (by rfl) (by unfold maxLen; omega) ?_ (by simp only [FrL_nil]) (by simp only [ObjL_nil]) ?_ ?_
  ·exact hT.symm
  ·(rintro k s G hk ht hG hn; try simp only [nx] at hn)
   have hk2 : k < b.length := hab ▸ hk
   rw [allZip_drop hk hk2] at ht
   ((have hd := trivial; repeat' (first | ((first | apply GdK_st | apply GdK_sf | apply CondK_s) <;> intro hd <;> (try simp only [hd])) | simp (disch := first | assumption | omega | (simp only [nx] <;> omega) | fail) only [hd, hQr, hQn, c80_0, ↓YA, YB, YC, YE, YF, YZ, ↓reduceIte, Nat.reduceEqDiff, Nat.reduceAdd, Nat.reduceMul, Nat.reduceLeDiff, Int.reduceToNat, Int.reduceLE, Int.reduceLT, Int.reduceGT, Int.reduceGE, Int.reduceAdd, Int.reduceSub, Int.reduceNeg, Int.reduceBEq, Int.reduceBNe])) <;> (try (have hd_ : True := hd; clear hd_ hd)))
   ·refine fin_bA (by grind)
   ·refine ⟨(), by grind, by exact HXT⟩
  ·(rintro s G ht hG hn; try simp only [nx] at hn)
   ((have hd := trivial; repeat' (first | ((first | apply GdK_st | apply GdK_sf | apply CondK_s) <;> intro hd <;> (try simp only [hd])) | simp (disch := first | assumption | omega | (simp only [nx] <;> omega) | fail) only [hd, hQr, hQn, c80_0, ↓YA, YB, YC, YE, YF, YZ, ↓reduceIte, Nat.reduceEqDiff, Nat.reduceAdd, Nat.reduceMul, Nat.reduceLeDiff, Int.reduceToNat, Int.reduceLE, Int.reduceLT, Int.reduceGT, Int.reduceGE, Int.reduceAdd, Int.reduceSub, Int.reduceNeg, Int.reduceBEq, Int.reduceBNe])) <;> (try (have hd_ : True := hd; clear hd_ hd)))
   refine fin_bA (by rw [ht, allZip_end (Nat.le_refl _) (by omega)])
theorem eqf_ints {f : FuncId} {e : List Int → List Int → Bool} (t u : Tok) (a b : List (List Int)) (H : AHeap) (hl : a.length ≤ 1000000) (hf : ∀ x ∈ a, ∀ (y : List Int) G, Sound Try.prog f [.sl .no (rI x), .sl .no (rI y)] G (Pure G (.b (e x y)))) :
  Sound Try.prog 78 [.sl t (rII a), .sl u (rII b), .fn f [] []] H (Pure H (.b (allZip e a b))) := by
 refine fn_soundQ hE cf78 (Nat.le_of_ble_eq_true rfl) fun Q hQr hQn => ?_
 ((have hd := trivial; repeat' (first | ((first | apply GdK_st | apply GdK_sf | apply CondK_s) <;> intro hd <;> (try simp only [hd])) | simp (disch := first | assumption | omega | (simp only [nx] <;> omega) | fail) only [hd, hQr, hQn, c78_0, ↓YA, YB, YC, YE, YF, YZ, ↓reduceIte, Nat.reduceEqDiff, Nat.reduceAdd, Nat.reduceMul, Nat.reduceLeDiff, Int.reduceToNat, Int.reduceLE, Int.reduceLT, Int.reduceGT, Int.reduceGE, Int.reduceAdd, Int.reduceSub, Int.reduceNeg, Int.reduceBEq, Int.reduceBNe])) <;> (try (have hd_ : True := hd; clear hd_ hd)))
 ·refine fin_bA (by rw [allZip_ne (eqlen_ne hd)])
 ·have hab := eqlen_eq hd
  generalize hT : allZip e a b = T at *
  refine AW_for [1, 2, 15, 16] (σ := Unit) (fun (k : Nat) s => T = allZip e (a.drop k) (b.drop k)) (fun k s => []) (fun k s => []) () (GStep.refl _ _) (by simp only [keep_nil, keep_cons, Fr.put, Fr.get, ↓reduceIte, Nat.reduceEqDiff]; rfl) (by intro k s; rfl) (by intro k s; rfl) (by rfl) (by unfold maxLen; omega) ?_ (by simp only [FrL_nil]) (by simp only [ObjL_nil]) ?_ ?_
  ·exact hT.symm
  ·(rintro k s G hk ht hG hn; try simp only [nx] at hn)
   have hk2 : k < b.length := hab ▸ hk
   rw [allZip_drop hk hk2] at ht
   ((have hd := trivial; repeat' (first | ((first | apply GdK_st | apply GdK_sf | apply CondK_s) <;> intro hd <;> (try simp only [hd])) | simp (disch := first | assumption | omega | (simp only [nx] <;> omega) | fail) only [hd, hQr, hQn, c78_0, ↓YA, YB, YC, YE, YF, YZ, ↓reduceIte, Nat.reduceEqDiff, Nat.reduceAdd, Nat.reduceMul, Nat.reduceLeDiff, Int.reduceToNat, Int.reduceLE, Int.reduceLT, Int.reduceGT, Int.reduceGE, Int.reduceAdd, Int.reduceSub, Int.reduceNeg, Int.reduceBEq, Int.reduceBNe])) <;> (try (have hd_ : True := hd; clear hd_ hd)))
   (refine CallK.use (hf a[k] (List.getElem_mem hk) b[k] _) ?_; rintro _ _ ⟨rfl, k1, rfl⟩)
   ((have hd := trivial; repeat' (first | ((first | apply GdK_st | apply GdK_sf | apply CondK_s) <;> intro hd <;> (try simp only [hd])) | simp (disch := first | assumption | omega | (simp only [nx] <;> omega) | fail) only [hd, hQr, hQn, c78_0, ↓YA, YB, YC, YE, YF, YZ, ↓reduceIte, Nat.reduceEqDiff, Nat.reduceAdd, Nat.reduceMul, Nat.reduceLeDiff, Int.reduceToNat, Int.reduceLE, Int.reduceLT, Int.reduceGT, Int.reduceGE, Int.reduceAdd, Int.reduceSub, Int.reduceNeg, Int.reduceBEq, Int.reduceBNe])) <;> (try (have hd_ : True := hd; clear hd_ hd)))
   ·refine fin_bA (by grind)
   ·refine ⟨(), by grind, by exact HXT⟩
  ·(rintro s G ht hG hn; try simp only [nx] at hn)
   ((have hd := trivial; repeat' (first | ((first | apply GdK_st | apply GdK_sf | apply CondK_s) <;> intro hd <;> (try simp only [hd])) | simp (disch := first | assumption | omega | (simp only [nx] <;> omega) | fail) only [hd, hQr, hQn, c78_0, ↓YA, YB, YC, YE, YF, YZ, ↓reduceIte, Nat.reduceEqDiff, Nat.reduceAdd, Nat.reduceMul, Nat.reduceLeDiff, Int.reduceToNat, Int.reduceLE, Int.reduceLT, Int.reduceGT, Int.reduceGE, Int.reduceAdd, Int.reduceSub, Int.reduceNeg, Int.reduceBEq, Int.reduceBNe])) <;> (try (have hd_ : True := hd; clear hd_ hd)))
   refine fin_bA (by rw [ht, allZip_end (Nat.le_refl _) (by omega)])
theorem nod_eq {a b : Nod} : decide (a = b) = (decide (a.dim = b.dim) && (decide (a.all = b.all) && decide (a.lists = b.lists))) := by
 obtain ⟨d, l, c⟩ := a
 obtain ⟨d', l', c'⟩ := b
 rw [Bool.eq_iff_iff]
 simp
 grind
theorem shp_eq {a b : Shp} : decide (a = b) = (decide (a.measures = b.measures) && decide (a.sizes = b.sizes)) := by
 obtain ⟨s, m⟩ := a
 obtain ⟨s', m'⟩ := b
 rw [Bool.eq_iff_iff]
 simp
 grind
theorem rsame_sound (t u : Tok) (a b : Nod) (H : AHeap) (ha : smallN a) : Sound Try.prog 17 [.agg (eNod t a), .agg (eNod u b)] H (Pure H (.b (decide (a = b)))) := by
 rw [nod_eq, ← allZip_eq]
 refine fn_soundQ hE cf17 (Nat.le_of_ble_eq_true rfl) fun Q hQr hQn => ?_
 ((have hd := trivial; repeat' (first | ((first | apply GdK_st | apply GdK_sf | apply CondK_s) <;> intro hd <;> (try simp only [hd])) | simp (disch := first | assumption | omega | (simp only [nx] <;> omega) | fail) only [hd, hQr, hQn, c17_0, ↓YA, YB, YC, YE, YF, YZ, ↓reduceIte, Nat.reduceEqDiff, Nat.reduceAdd, Nat.reduceMul, Nat.reduceLeDiff, Int.reduceToNat, Int.reduceLE, Int.reduceLT, Int.reduceGT, Int.reduceGE, Int.reduceAdd, Int.reduceSub, Int.reduceNeg, Int.reduceBEq, Int.reduceBNe])) <;> (try (have hd_ : True := hd; clear hd_ hd)))
 ·refine fin_bA (by rw [allZip_ne (eqlen_ne hd)]; simp)
 ·rename_i h1 h2
  have hab := eqlen_eq hd
  have h1 : decide (a.dim = b.dim) = true := by simp at h1; simp [h1]
  have h2 : decide (a.all = b.all) = true := by simpa using h2
  rw [h1, h2, Bool.true_and, Bool.true_and] at hQr hQn
  have hl := ha.1
  generalize hT : allZip (fun x y => decide (x = y)) a.lists b.lists = T at *
  refine AW_for [2, 3, 30] (σ := Unit) (fun (k : Nat) s => T = allZip (fun x y => decide (x = y)) (a.lists.drop k) (b.lists.drop k)) (fun k s => []) (fun k s => []) () (GStep.refl _ _) (by simp only [keep_nil, keep_cons, Fr.put, Fr.get, ↓reduceIte, Nat.reduceEqDiff]; rfl) (by intro k s; rfl) (by intro k s; rfl) (by rfl) (by unfold maxLen; omega) ?_ (by simp only [FrL_nil]) (by simp only [ObjL_nil]) ?_ ?_
  ·exact hT.symm
  ·(rintro i s G hk ht hG hn; try simp only [nx] at hn)
   have hk2 : i < b.lists.length := hab ▸ hk
   rw [allZip_drop hk hk2, ← allZip_eq] at ht
   have hak := ha.2.2 _ (List.getElem_mem hk)
   ((have hd := trivial; repeat' (first | ((first | apply GdK_st | apply GdK_sf | apply CondK_s) <;> intro hd <;> (try simp only [hd])) | simp (disch := first | assumption | omega | (simp only [nx] <;> omega) | fail) only [hd, hQr, hQn, c17_0, ↓YA, YB, YC, YE, YF, YZ, ↓reduceIte, Nat.reduceEqDiff, Nat.reduceAdd, Nat.reduceMul, Nat.reduceLeDiff, Int.reduceToNat, Int.reduceLE, Int.reduceLT, Int.reduceGT, Int.reduceGE, Int.reduceAdd, Int.reduceSub, Int.reduceNeg, Int.reduceBEq, Int.reduceBNe, hG.get])) <;> (try (have hd_ : True := hd; clear hd_ hd)))
   ·refine fin_bA (by rw [ht, allZip_ne (eqlen_ne hd)]; rfl)
   ·have hab2 := eqlen_eq hd
    generalize hR : allZip (fun x y => decide (x = y)) (a.lists.drop (i + 1)) (b.lists.drop (i + 1)) = R at *
    refine AW_for [2, 3, 5, 30, 31, 52] (σ := Unit) (fun (k : Nat) s => T = (allZip (fun x y => decide (x = y)) (a.lists[i].drop k) (b.lists[i].drop k) && R)) (fun k s => []) (fun k s => []) () (GStep.refl _ _) (by simp only [keep_nil, keep_cons, Fr.put, Fr.get, ↓reduceIte, Nat.reduceEqDiff]; rfl) (by intro k s; rfl) (by intro k s; rfl) (by rfl) (by unfold maxLen; omega) ?_ (by simp only [FrL_nil]) (by simp only [ObjL_nil]) ?_ ?_
    ·exact ht
    ·(rintro j s2 G2 hj ht2 hG2 hn2; try simp only [nx] at hn2)
     have hj2 : j < b.lists[i].length := hab2 ▸ hj
     rw [allZip_drop hj hj2] at ht2
     ((have hd := trivial; repeat' (first | ((first | apply GdK_st | apply GdK_sf | apply CondK_s) <;> intro hd <;> (try simp only [hd])) | simp (disch := first | assumption | omega | (simp only [nx] <;> omega) | fail) only [hd, hQr, hQn, c17_0, ↓YA, YB, YC, YE, YF, YZ, ↓reduceIte, Nat.reduceEqDiff, Nat.reduceAdd, Nat.reduceMul, Nat.reduceLeDiff, Int.reduceToNat, Int.reduceLE, Int.reduceLT, Int.reduceGT, Int.reduceGE, Int.reduceAdd, Int.reduceSub, Int.reduceNeg, Int.reduceBEq, Int.reduceBNe, hG2.get, hG.get])) <;> (try (have hd_ : True := hd; clear hd_ hd)))
     ·refine fin_bA (by grind)
     ·refine ⟨(), by grind, by exact HXT⟩
    ·(rintro s2 G2 ht2 hG2 hn2; try simp only [nx] at hn2)
     rw [allZip_end (Nat.le_refl _) (by omega), Bool.true_and] at ht2
     ((have hd := trivial; repeat' (first | ((first | apply GdK_st | apply GdK_sf | apply CondK_s) <;> intro hd <;> (try simp only [hd])) | simp (disch := first | assumption | omega | (simp only [nx] <;> omega) | fail) only [hd, hQr, hQn, c17_0, ↓YA, YB, YC, YE, YF, YZ, ↓reduceIte, Nat.reduceEqDiff, Nat.reduceAdd, Nat.reduceMul, Nat.reduceLeDiff, Int.reduceToNat, Int.reduceLE, Int.reduceLT, Int.reduceGT, Int.reduceGE, Int.reduceAdd, Int.reduceSub, Int.reduceNeg, Int.reduceBEq, Int.reduceBNe])) <;> (try (have hd_ : True := hd; clear hd_ hd)))
     refine ⟨(), ht2.trans hR.symm, hG.trans0 hG2⟩
  ·(rintro s G ht hG hn; try simp only [nx] at hn)
   ((have hd := trivial; repeat' (first | ((first | apply GdK_st | apply GdK_sf | apply CondK_s) <;> intro hd <;> (try simp only [hd])) | simp (disch := first | assumption | omega | (simp only [nx] <;> omega) | fail) only [hd, hQr, hQn, c17_0, ↓YA, YB, YC, YE, YF, YZ, ↓reduceIte, Nat.reduceEqDiff, Nat.reduceAdd, Nat.reduceMul, Nat.reduceLeDiff, Int.reduceToNat, Int.reduceLE, Int.reduceLT, Int.reduceGT, Int.reduceGE, Int.reduceAdd, Int.reduceSub, Int.reduceNeg, Int.reduceBEq, Int.reduceBNe])) <;> (try (have hd_ : True := hd; clear hd_ hd)))
   refine fin_bA (by rw [ht, allZip_end (Nat.le_refl _) (by omega)])
 ·refine fin_bA (by grind)
 ·refine fin_bA (by grind)
theorem rall_sound (t u : Tok) (a b : List Nod) (H : AHeap) (hl : a.length ≤ 1000000) (ha : ∀ n ∈ a, smallN n) : Sound Try.prog 24 [.sl t (rN a), .sl u (rN b)] H (Pure H (.b (decide (a = b)))) := by
 rw [← allZip_eq]
 refine fn_soundQ hE cf24 (Nat.le_of_ble_eq_true rfl) fun Q hQr hQn => ?_
 ((have hd := trivial; repeat' (first | ((first | apply GdK_st | apply GdK_sf | apply CondK_s) <;> intro hd <;> (try simp only [hd])) | simp (disch := first | assumption | omega | (simp only [nx] <;> omega) | fail) only [hd, hQr, hQn, c24_0, ↓YA, YB, YC, YE, YF, YZ, ↓reduceIte, Nat.reduceEqDiff, Nat.reduceAdd, Nat.reduceMul, Nat.reduceLeDiff, Int.reduceToNat, Int.reduceLE, Int.reduceLT, Int.reduceGT, Int.reduceGE, Int.reduceAdd, Int.reduceSub, Int.reduceNeg, Int.reduceBEq, Int.reduceBNe])) <;> (try (have hd_ : True := hd; clear hd_ hd)))
 ·refine fin_bA (by rw [allZip_ne (eqlen_ne hd)])
 ·have hab := eqlen_eq hd
  generalize hT : allZip (fun x y => decide (x = y)) a b = T at *
  refine AW_for [0, 1, 12] (σ := Unit) (fun (k : Nat) s => T = allZip (fun x y => decide (x = y)) (a.drop k) (b.drop k)) (fun k s => []) (fun k s => []) () (GStep.refl _ _) (by simp only [keep_nil, keep_cons, Fr.put, Fr.get, ↓reduceIte, Nat.reduceEqDiff]; rfl) (by intro k s; rfl) (by intro k s; rfl) (by rfl) (by unfold maxLen; omega) ?_ (by simp only [FrL_nil]) (by simp only [ObjL_nil]) ?_ ?_
  ·exact hT.symm
  ·(rintro k s G hk ht hG hn; try simp only [nx] at hn)
   have hk2 : k < b.length := hab ▸ hk
   rw [allZip_drop hk hk2] at ht
   ((have hd := trivial; repeat' (first | ((first | apply GdK_st | apply GdK_sf | apply CondK_s) <;> intro hd <;> (try simp only [hd])) | simp (disch := first | assumption | omega | (simp only [nx] <;> omega) | fail) only [hd, hQr, hQn, c24_0, ↓YA, YB, YC, YE, YF, YZ, ↓reduceIte, Nat.reduceEqDiff, Nat.reduceAdd, Nat.reduceMul, Nat.reduceLeDiff, Int.reduceToNat, Int.reduceLE, Int.reduceLT, Int.reduceGT, Int.reduceGE, Int.reduceAdd, Int.reduceSub, Int.reduceNeg, Int.reduceBEq, Int.reduceBNe])) <;> (try (have hd_ : True := hd; clear hd_ hd)))
   (refine CallK.use (rsame_sound .no .no a[k] b[k] _ (ha _ (List.getElem_mem hk))) ?_; rintro _ _ ⟨rfl, k1, rfl⟩)
   ((have hd := trivial; repeat' (first | ((first | apply GdK_st | apply GdK_sf | apply CondK_s) <;> intro hd <;> (try simp only [hd])) | simp (disch := first | assumption | omega | (simp only [nx] <;> omega) | fail) only [hd, hQr, hQn, c24_0, ↓YA, YB, YC, YE, YF, YZ, ↓reduceIte, Nat.reduceEqDiff, Nat.reduceAdd, Nat.reduceMul, Nat.reduceLeDiff, Int.reduceToNat, Int.reduceLE, Int.reduceLT, Int.reduceGT, Int.reduceGE, Int.reduceAdd, Int.reduceSub, Int.reduceNeg, Int.reduceBEq, Int.reduceBNe])) <;> (try (have hd_ : True := hd; clear hd_ hd)))
   ·refine fin_bA (by grind)
   ·refine ⟨(), by grind, by exact HXT⟩
  ·(rintro s G ht hG hn; try simp only [nx] at hn)
   ((have hd := trivial; repeat' (first | ((first | apply GdK_st | apply GdK_sf | apply CondK_s) <;> intro hd <;> (try simp only [hd])) | simp (disch := first | assumption | omega | (simp only [nx] <;> omega) | fail) only [hd, hQr, hQn, c24_0, ↓YA, YB, YC, YE, YF, YZ, ↓reduceIte, Nat.reduceEqDiff, Nat.reduceAdd, Nat.reduceMul, Nat.reduceLeDiff, Int.reduceToNat, Int.reduceLE, Int.reduceLT, Int.reduceGT, Int.reduceGE, Int.reduceAdd, Int.reduceSub, Int.reduceNeg, Int.reduceBEq, Int.reduceBNe])) <;> (try (have hd_ : True := hd; clear hd_ hd)))
   refine fin_bA (by rw [ht, allZip_end (Nat.le_refl _) (by omega)])
theorem AV_i {a b : Int} (h : a = b) : AV.i a = AV.i b := by rw [h]
def FewNods (most : Nat) (l : List Nod) : Prop := l.length ≤ most ∧ ∀ n ∈ l, n.lists.length ≤ 10 ∧ n.lists.flatten.length ≤ 2000
def capC (ls : List (List Cel)) : Nat := (ls.map fun l => min l.length 10000).sum
theorem capC_le : ∀ (ls : List (List Cel)), capC ls ≤ ls.length * 10000
 | [] => by simp [capC]
 | l :: ls => by
  have := capC_le ls
  unfold capC at *
  rw [List.map_cons, List.sum_cons, List.length_cons]
  omega
theorem capC_flat : ∀ {ls : List (List Cel)}, capC ls ≤ 2000 → ls.flatten.length ≤ capC ls
 | [], _ => by simp
 | l :: ls, h => by
  have h' : capC (l :: ls) = min l.length 10000 + capC ls := by simp [capC]
  have := capC_flat (ls := ls) (by omega)
  rw [List.flatten_cons, List.length_append]
  omega
theorem capC_snoc {ls : List (List Cel)} {k : Nat} (h : k < ls.length) : capC (ls.take (k + 1)) = capC (ls.take k) + min ls[k].length 10000 := by
 unfold capC
 rw [List.take_succ_eq_append_getElem h, List.map_append, List.sum_append, List.map_singleton, List.sum_singleton]
def capN (l : List Nod) : Nat := (l.map fun n => capC n.lists).sum
theorem capN_snoc {l : List Nod} {k : Nat} (h : k < l.length) : capN (l.take (k + 1)) = capN (l.take k) + capC l[k].lists := by
 unfold capN
 rw [List.take_succ_eq_append_getElem h, List.map_append, List.sum_append, List.map_singleton, List.sum_singleton]
theorem capN_mem {l : List Nod} {n : Nod} (h : n ∈ l) : capC n.lists ≤ capN l := by
 induction l with
 | nil => cases h
 | cons m l ih =>
  have : capN (m :: l) = capC m.lists + capN l := by simp [capN]
  rcases List.mem_cons.1 h with rfl | h
  ·omega
  ·have := ih h; omega
def FewQ (most : Nat) (l : List Nod) (H : AHeap) (r : AV) (H' : AHeap) : Prop := HX [] H H' ∧ ∃ b, r = .b b ∧ (b = true → FewNods most l)
set_option maxHeartbeats 1000000 in
theorem few_sound (t : Tok) (l : List Nod) (most : Nat) (H : AHeap) (hm : most ≤ 1000) : Sound Try.prog 12 [.sl t (rN l), .i (most : Int)] H (FewQ most l H) := by
 refine fn_soundQ hE cf12 (Nat.le_of_ble_eq_true rfl) fun Q hQr hQn => ?_
 ((have hd := trivial; repeat' (first | ((first | apply GdK_st | apply GdK_sf | apply CondK_s) <;> intro hd <;> (try simp only [hd])) | simp (disch := first | assumption | omega | (simp only [nx] <;> omega) | fail) only [hd, hQr, hQn, c12_0, ↓YA, YB, YC, YE, YF, YZ, ↓reduceIte, Nat.reduceEqDiff, Nat.reduceAdd, Nat.reduceMul, Nat.reduceLeDiff, Int.reduceToNat, Int.reduceLE, Int.reduceLT, Int.reduceGT, Int.reduceGE, Int.reduceAdd, Int.reduceSub, Int.reduceNeg, Int.reduceBEq, Int.reduceBNe])) <;> (try (have hd_ : True := hd; clear hd_ hd)))
 refine AW_lop [0, 1] (σ := Nat × Nat) (fun s => s.1 ≤ l.length ∧ s.1 ≤ most + 1 ∧ s.2 = capN (l.take s.1) ∧ s.2 ≤ s.1 * 110000 ∧ ∀ n ∈ l.take s.1, n.lists.length ≤ 10) (fun s => l.length - s.1) (fun s => [(5, .i (s.2 : Int)), (6, .i (s.1 : Int))]) (fun s => []) (0, 0) (GStep.refl _ _) (by simp only [keep_nil, keep_cons, Fr.put, Fr.get, ↓reduceIte, Nat.reduceEqDiff]; rfl) ?_ (by simp only [FrL_nil, FrL_cons, Fr.put, Fr.get, ↓reduceIte, Nat.reduceEqDiff, and_self] <;> simp) (by simp only [ObjL_nil]) ?_
 ·refine ⟨by simp, by simp, rfl, by simp, by simp⟩
 ·(rintro ⟨i, n⟩ G ⟨h1, h2, h3, h4, h5⟩ hG hn; try simp only [nx] at hn)
  simp only at h1 h2 h3 h4 h5
  have hend : decide ((l.length : Int) ≤ (most : Int)) = true → decide ((n : Int) ≤ 2000) = true → (i = l.length) → FewNods most l := by
   intro e1 e2 e3
   simp at e1 e2
   subst e3
   rw [List.take_length] at h3 h5
   exact ⟨e1, fun m hm => ⟨h5 m hm, by have := capN_mem hm; have := capC_flat (ls := m.lists) (by omega); omega⟩⟩
  by_cases hi : i < l.length
  ·have d1 : decide ((i : Int) < (l.length : Int)) = true := by simp; omega
   by_cases hi2 : i ≤ most
   ·have d2 : decide ((i : Int) ≤ (most : Int)) = true := by simp; omega
    ((have hd := trivial; repeat' (first | ((first | apply GdK_st | apply GdK_sf | apply CondK_s) <;> intro hd <;> (try simp only [hd])) | simp (disch := first | assumption | omega | (simp only [nx] <;> omega) | fail) only [hd, hQr, hQn, c12_0, ↓YA, YB, YC, YE, YF, YZ, ↓reduceIte, Nat.reduceEqDiff, Nat.reduceAdd, Nat.reduceMul, Nat.reduceLeDiff, Int.reduceToNat, Int.reduceLE, Int.reduceLT, Int.reduceGT, Int.reduceGE, Int.reduceAdd, Int.reduceSub, Int.reduceNeg, Int.reduceBEq, Int.reduceBNe, d1, d2])) <;> (try (have hd_ : True := hd; clear hd_ hd)))
    refine AW_lop [0, 1, 6] (σ := Nat × Nat) (fun s => s.1 ≤ l[i].lists.length ∧ s.1 ≤ 11 ∧ s.2 = n + capC (l[i].lists.take s.1)) (fun s => l[i].lists.length - s.1) (fun s => [(5, .i (s.2 : Int)), (7, .i (s.1 : Int))]) (fun s => []) (0, n) (GStep.refl _ _) (by simp only [keep_nil, keep_cons, Fr.put, Fr.get, ↓reduceIte, Nat.reduceEqDiff]; rfl) ?_ (by simp only [FrL_nil, FrL_cons, Fr.put, Fr.get, ↓reduceIte, Nat.reduceEqDiff, and_self] <;> simp) (by simp only [ObjL_nil]) ?_
    ·refine ⟨by simp, by simp, rfl⟩
    ·(rintro ⟨k, m⟩ G2 ⟨g1, g2, g3⟩ hG2 hn2; try simp only [nx] at hn2)
     simp only at g1 g2 g3
     have hcl := capC_le (l[i].lists.take k)
     rw [List.length_take] at hcl
     have hw1 : (k : Int) + 1 < 9223372036854775808 := by omega
     by_cases hk : k < l[i].lists.length
     ·have e1 : decide ((k : Int) < (l[i].lists.length : Int)) = true := by simp; omega
      by_cases hk2 : k ≤ 10
      ·have e2 : decide ((k : Int) ≤ 10) = true := by simp; omega
       have hmin : (if (10000 : Int) < (l[i].lists[k].length : Int) then (10000 : Int) else (l[i].lists[k].length : Int)) = ((min l[i].lists[k].length 10000 : Nat) : Int) := by split <;> omega
       ((have hd := trivial; repeat' (first | ((first | apply GdK_st | apply GdK_sf | apply CondK_s) <;> intro hd <;> (try simp only [hd])) | simp (disch := first | assumption | omega | (simp only [nx] <;> omega) | fail) only [hd, hQr, hQn, c12_0, ↓YA, YB, YC, YE, YF, YZ, ↓reduceIte, Nat.reduceEqDiff, Nat.reduceAdd, Nat.reduceMul, Nat.reduceLeDiff, Int.reduceToNat, Int.reduceLE, Int.reduceLT, Int.reduceGT, Int.reduceGE, Int.reduceAdd, Int.reduceSub, Int.reduceNeg, Int.reduceBEq, Int.reduceBNe, e1, e2, hmin])) <;> (try (have hd_ : True := hd; clear hd_ hd)))
       refine ⟨(k + 1, m + min l[i].lists[k].length 10000), ⟨hk, by omega, ?_⟩, by simp only; omega, ⟨AV_i (by push_cast; rfl), AV_i (by push_cast; rfl)⟩, by exact HXT⟩
       rw [capC_snoc hk]; simp only; omega
      ·have e2 : decide ((k : Int) ≤ 10) = false := by simp; omega
       have e3 : decide ((l[i].lists.length : Int) > 10) = true := by simp; omega
       ((have hd := trivial; repeat' (first | ((first | apply GdK_st | apply GdK_sf | apply CondK_s) <;> intro hd <;> (try simp only [hd])) | simp (disch := first | assumption | omega | (simp only [nx] <;> omega) | fail) only [hd, hQr, hQn, c12_0, ↓YA, YB, YC, YE, YF, YZ, ↓reduceIte, Nat.reduceEqDiff, Nat.reduceAdd, Nat.reduceMul, Nat.reduceLeDiff, Int.reduceToNat, Int.reduceLE, Int.reduceLT, Int.reduceGT, Int.reduceGE, Int.reduceAdd, Int.reduceSub, Int.reduceNeg, Int.reduceBEq, Int.reduceBNe, e1, e2, e3])) <;> (try (have hd_ : True := hd; clear hd_ hd)))
       exact fin_keep ⟨hG.trans0 hG2, false, rfl, by simp⟩
     ·have e1 : decide ((k : Int) < (l[i].lists.length : Int)) = false := by simp; omega
      obtain rfl : k = l[i].lists.length := by omega
      rw [List.take_length] at g3
      ((have hd := trivial; repeat' (first | ((first | apply GdK_st | apply GdK_sf | apply CondK_s) <;> intro hd <;> (try simp only [hd])) | simp (disch := first | assumption | omega | (simp only [nx] <;> omega) | fail) only [hd, hQr, hQn, c12_0, ↓YA, YB, YC, YE, YF, YZ, ↓reduceIte, Nat.reduceEqDiff, Nat.reduceAdd, Nat.reduceMul, Nat.reduceLeDiff, Int.reduceToNat, Int.reduceLE, Int.reduceLT, Int.reduceGT, Int.reduceGE, Int.reduceAdd, Int.reduceSub, Int.reduceNeg, Int.reduceBEq, Int.reduceBNe, e1])) <;> (try (have hd_ : True := hd; clear hd_ hd)))
      ·exact fin_keep ⟨hG.trans0 hG2, false, rfl, by simp⟩
      ·have hle : l[i].lists.length ≤ 10 := by simp at hd; omega
       refine ⟨(i + 1, m), ⟨hi, by simp only; omega, ?_, ?_, ?_⟩, by simp only; omega, ⟨rfl, AV_i (by push_cast; rfl)⟩, hG.trans0 hG2⟩
       ·rw [capN_snoc hi]; simp only; omega
       ·have := capC_le l[i].lists
        simp only; omega
       ·intro x hx
        simp only [List.take_succ_eq_append_getElem hi, List.mem_append, List.mem_singleton] at hx
        rcases hx with hx | rfl
        ·exact h5 x hx
        ·exact hle
   ·have d2 : decide ((i : Int) ≤ (most : Int)) = false := by simp; omega
    have d3 : decide ((l.length : Int) ≤ (most : Int)) = false := by simp; omega
    ((have hd := trivial; repeat' (first | ((first | apply GdK_st | apply GdK_sf | apply CondK_s) <;> intro hd <;> (try simp only [hd])) | simp (disch := first | assumption | omega | (simp only [nx] <;> omega) | fail) only [hd, hQr, hQn, c12_0, ↓YA, YB, YC, YE, YF, YZ, ↓reduceIte, Nat.reduceEqDiff, Nat.reduceAdd, Nat.reduceMul, Nat.reduceLeDiff, Int.reduceToNat, Int.reduceLE, Int.reduceLT, Int.reduceGT, Int.reduceGE, Int.reduceAdd, Int.reduceSub, Int.reduceNeg, Int.reduceBEq, Int.reduceBNe, d1, d2, d3])) <;> (try (have hd_ : True := hd; clear hd_ hd)))
    exact fin_keep ⟨hG, false, rfl, by simp⟩
  ·have d1 : decide ((i : Int) < (l.length : Int)) = false := by simp; omega
   obtain rfl : i = l.length := by omega
   ((have hd := trivial; repeat' (first | ((first | apply GdK_st | apply GdK_sf | apply CondK_s) <;> intro hd <;> (try simp only [hd])) | simp (disch := first | assumption | omega | (simp only [nx] <;> omega) | fail) only [hd, hQr, hQn, c12_0, ↓YA, YB, YC, YE, YF, YZ, ↓reduceIte, Nat.reduceEqDiff, Nat.reduceAdd, Nat.reduceMul, Nat.reduceLeDiff, Int.reduceToNat, Int.reduceLE, Int.reduceLT, Int.reduceGT, Int.reduceGE, Int.reduceAdd, Int.reduceSub, Int.reduceNeg, Int.reduceBEq, Int.reduceBNe, d1])) <;> (try (have hd_ : True := hd; clear hd_ hd)))
   ·refine fin_keep ⟨hG, _, rfl, fun e => hend hd e rfl⟩
   ·exact fin_keep ⟨hG, false, rfl, by simp⟩
structure Wk (w a b m : Nat) (x : Shp) (l k : List Nod) (M : List ((Int × Int) × Int)) (H : AHeap) : Prop where
 gw : H.get w = some (.cells [.ptr a 0, .ptr b 0, .mp m] 94)
 ga : ArA H a x l
 gb : ArA H b x k
 gm : H.get m = some (.map (.row [.int .i64, .int .i64]) (eMap k2 AV.i M) false)
 one : ∀ p v, aGet p M = some v → v = 1
 nw : w ≠ m
 na : a ≠ m
 nb : b ≠ m
theorem Wk.ext {w a b m : Nat} {x : Shp} {l k : List Nod} {M : List ((Int × Int) × Int)} {H H' : AHeap} (h : Wk w a b m x l k M H) (hx : AHeap.Ext H H') : Wk w a b m x l k M H' :=
 ⟨hx.get _ _ h.gw, h.ga.ext hx, h.gb.ext hx, hx.get _ _ h.gm, h.one, h.nw, h.na, h.nb⟩
def has (M : List ((Int × Int) × Int)) (p : Int × Int) : Prop := (aGet p M).isSome = true
def tails (l : List Cel) : List (Int × Ag) := l.map fun c => (c.key, c.agg)
def locT (p q : Nod) : Bool := decide (p.dim = q.dim) && (decide (p.lists.map List.length = q.lists.map List.length) && decide (tails (each p) = tails (each q)))
def chl (x : Shp) (p q : Nod) : List (Int × Int) := if lastB x p.dim = true then [] else ((each p).map Cel.child).zip ((each q).map Cel.child)
def good (x : Shp) (l k : List Nod) (M : List ((Int × Int) × Int)) (p : Int × Int) : Prop := locT (nodAt l p.1) (nodAt k p.2) = true ∧ ∀ q ∈ chl x (nodAt l p.1) (nodAt k p.2), has M q
structure Grow (x : Shp) (l k : List Nod) (M M' : List ((Int × Int) × Int)) : Prop where
 sub : ∀ p, has M p → has M' p
 new : ∀ p, has M' p → has M p ∨ good x l k M' p
theorem good.mono {x : Shp} {l k : List Nod} {M M' : List ((Int × Int) × Int)} {p : Int × Int} (h : good x l k M p) (hs : ∀ p, has M p → has M' p) : good x l k M' p := ⟨h.1, fun q hq => hs q (h.2 q hq)⟩
theorem Grow.refl (x : Shp) (l k : List Nod) (M : List ((Int × Int) × Int)) : Grow x l k M M := ⟨fun _ h => h, fun _ h => .inl h⟩
theorem Grow.trans {x : Shp} {l k : List Nod} {M M' M'' : List ((Int × Int) × Int)} (h : Grow x l k M M') (g : Grow x l k M' M'') : Grow x l k M M'' := ⟨fun p hp => g.sub p (h.sub p hp), fun p hp => by
 rcases g.new p hp with h1 | h1
 ·rcases h.new p h1 with h2 | h2
  ·exact .inl h2
  ·exact .inr (h2.mono g.sub)
 ·exact .inr h1⟩
theorem ExtB.lt {m i : Nat} {H H' : AHeap} (h : ExtB m H H') (hi : i < H.next) : i < H'.next := Nat.lt_of_lt_of_le hi h.next
section
variable {w a b m : Nat} {x : Shp} {l k : List Nod} {M : List ((Int × Int) × Int)} {H : AHeap}
structure CelJ (w a b m il iw : Nat) (x : Shp) (l k : List Nod) (last : Bool) (M : List ((Int × Int) × Int)) (p q : List Cel) (H : AHeap) (n : Nat) (G : AHeap) : Prop where
 ext : ExtB m H G
 hl : G.get il = some (.cells [.b last] 4)
 hw : G.get iw = some (.cells [.ptr w 0] 91)
 ex : ∃ M', Wk w a b m x l k M' G ∧ Grow x l k M M' ∧ (∀ j (h1 : j < p.length) (h2 : j < q.length), j < n → p[j].key = q[j].key ∧ p[j].agg = q[j].agg ∧ (last = false → has M' (p[j].child, q[j].child)))
end
def Down (x : Shp) (l : List Nod) : Prop := ∀ i : Nat, i < l.length → lastB x (nodAt l i).dim = false → ∀ c ∈ each (nodAt l i), 0 ≤ c.child ∧ c.child < i
end Go.Proofs.Ytgnpihhakogeeaa
