/- Texts of the walk, joined: U1 U2 U3 U4. -/
import Derived.Test.YtgnpihhakogeeaaMi
namespace Go.Proofs.Ytgnpihhakogeeaa
set_option linter.unusedSimpArgs false
set_option linter.unusedVariables false
open Go.RowKit

theorem eqlen_ne {a b : Nat} (h : ((a : Int) != (b : Int)) = true) : a ≠ b := by intro e; subst e; simp at h
theorem eqlen_eq {a b : Nat} (h : ((a : Int) != (b : Int)) = false) : a = b := by simp at h; omega
/-- two lists, held against each other -/
def allZip {α : Type} (e : α → α → Bool) : List α → List α → Bool
  | [], [] => true
  | a :: l, b :: m => e a b && allZip e l m
  | _, _ => false
theorem allZip_ne {α : Type} {e : α → α → Bool} : ∀ {l m : List α}, l.length ≠ m.length → allZip e l m = false
  | [], [], h => absurd rfl h
  | [], _ :: _, _ => rfl
  | _ :: _, [], _ => rfl
  | a :: l, b :: m, h => by
    simp only [allZip, allZip_ne (l := l) (m := m) (by simpa using h), Bool.and_false]
theorem allZip_drop {α : Type} {e : α → α → Bool} {l m : List α} {k : Nat} (h : k < l.length) (h2 : k < m.length) : allZip e (l.drop k) (m.drop k) = (e l[k] m[k] && allZip e (l.drop (k + 1)) (m.drop (k + 1))) := by
  rw [List.drop_eq_getElem_cons h, List.drop_eq_getElem_cons h2]; rfl
theorem allZip_end {α : Type} {e : α → α → Bool} {l m : List α} {k : Nat} (h : l.length ≤ k) (h2 : m.length ≤ k) : allZip e (l.drop k) (m.drop k) = true := by
  rw [List.drop_of_length_le h, List.drop_of_length_le h2]; rfl
theorem allZip_eq {α : Type} [DecidableEq α] : ∀ {l m : List α}, allZip (fun a b => decide (a = b)) l m = decide (l = m)
  | [], [] => by simp [allZip]
  | [], _ :: _ => by simp [allZip]
  | _ :: _, [] => by simp [allZip]
  | a :: l, b :: m => by rw [Bool.eq_iff_iff]; simp [allZip, allZip_eq (l := l) (m := m)]
theorem sleq_sound (t u : Tok) (a b : List Int) (H : AHeap) (hl : a.length ≤ 1000000) : Sound Try.prog 80 [.sl t (rI a), .sl u (rI b)] H (Pure H (.b (allZip (fun x y => decide (x = y)) a b))) := by
  refine fn_soundQ hE cf80 (Nat.le_of_ble_eq_true rfl) fun Q hQr hQn => ?_
  ((have hd := trivial; repeat' (first | ((first | refine GdK_st (fun hd => ?_) (fun hd => ?_) | refine GdK_sf (fun hd => ?_) (fun hd => ?_) | refine CondK_s (fun hd => ?_) (fun hd => ?_)) <;> (try simp only [hd])) | simp (disch := first | assumption | omega | (simp only [nx] <;> omega) | fail) only [hd, hQr, hQn, c80_0, ↓YA, YB, YC, YE, YF, YZ, ↓reduceIte, Nat.reduceEqDiff, Nat.reduceAdd, Nat.reduceMul, Nat.reduceLeDiff, Int.reduceToNat, Int.reduceLE, Int.reduceLT, Int.reduceGT, Int.reduceGE, Int.reduceAdd, Int.reduceSub, Int.reduceNeg, Int.reduceBEq, Int.reduceBNe])) <;> (try (have hd_ : True := hd; clear hd_ hd)))
  · refine fin_bA (by rw [allZip_ne (eqlen_ne hd)])
  · have hab := eqlen_eq hd
    generalize hT : allZip (fun x y => decide (x = y)) a b = T at *
    refine AW_for [0, 1, 12] (σ := Unit) (fun (k : Nat) s => T = allZip (fun x y => decide (x = y)) (a.drop k) (b.drop k)) (fun k s => []) (fun k s => []) () (GStep.refl _ _) (by simp only [keep_nil, keep_cons, Fr.get, ↓reduceIte, Nat.reduceEqDiff]; rfl) (by intro k s; rfl) (by intro k s; rfl) (by rfl) (by unfold maxLen; omega) ?_ (by simp only [FrL_nil]) (by simp only [ObjL_nil]) ?_ ?_
    · exact hT.symm
    · (rintro k s G hk ht hG hn; try simp only [nx] at hn)
      have hk2 : k < b.length := hab ▸ hk
      rw [allZip_drop hk hk2] at ht
      ((have hd := trivial; repeat' (first | ((first | refine GdK_st (fun hd => ?_) (fun hd => ?_) | refine GdK_sf (fun hd => ?_) (fun hd => ?_) | refine CondK_s (fun hd => ?_) (fun hd => ?_)) <;> (try simp only [hd])) | simp (disch := first | assumption | omega | (simp only [nx] <;> omega) | fail) only [hd, hQr, hQn, c80_0, ↓YA, YB, YC, YE, YF, YZ, ↓reduceIte, Nat.reduceEqDiff, Nat.reduceAdd, Nat.reduceMul, Nat.reduceLeDiff, Int.reduceToNat, Int.reduceLE, Int.reduceLT, Int.reduceGT, Int.reduceGE, Int.reduceAdd, Int.reduceSub, Int.reduceNeg, Int.reduceBEq, Int.reduceBNe])) <;> (try (have hd_ : True := hd; clear hd_ hd)))
      · refine fin_bA (by grind)
      · refine ⟨(), by grind, by exact HXT⟩
    · (rintro s G ht hG hn; try simp only [nx] at hn)
      ((have hd := trivial; repeat' (first | ((first | refine GdK_st (fun hd => ?_) (fun hd => ?_) | refine GdK_sf (fun hd => ?_) (fun hd => ?_) | refine CondK_s (fun hd => ?_) (fun hd => ?_)) <;> (try simp only [hd])) | simp (disch := first | assumption | omega | (simp only [nx] <;> omega) | fail) only [hd, hQr, hQn, c80_0, ↓YA, YB, YC, YE, YF, YZ, ↓reduceIte, Nat.reduceEqDiff, Nat.reduceAdd, Nat.reduceMul, Nat.reduceLeDiff, Int.reduceToNat, Int.reduceLE, Int.reduceLT, Int.reduceGT, Int.reduceGE, Int.reduceAdd, Int.reduceSub, Int.reduceNeg, Int.reduceBEq, Int.reduceBNe])) <;> (try (have hd_ : True := hd; clear hd_ hd)))
      refine fin_bA (by rw [ht, allZip_end (Nat.le_refl _) (by omega)])
theorem sleqc_sound (t u : Tok) (a b : List Cel) (H : AHeap) (hl : a.length ≤ 1000000) : Sound Try.prog 81 [.sl t (rC a), .sl u (rC b)] H (Pure H (.b (allZip (fun x y => decide (x = y)) a b))) := by
  refine fn_soundQ hE cf81 (Nat.le_of_ble_eq_true rfl) fun Q hQr hQn => ?_
  ((have hd := trivial; repeat' (first | ((first | refine GdK_st (fun hd => ?_) (fun hd => ?_) | refine GdK_sf (fun hd => ?_) (fun hd => ?_) | refine CondK_s (fun hd => ?_) (fun hd => ?_)) <;> (try simp only [hd])) | simp (disch := first | assumption | omega | (simp only [nx] <;> omega) | fail) only [hd, hQr, hQn, c81_0, ↓YA, YB, YC, YE, YF, YZ, ↓reduceIte, Nat.reduceEqDiff, Nat.reduceAdd, Nat.reduceMul, Nat.reduceLeDiff, Int.reduceToNat, Int.reduceLE, Int.reduceLT, Int.reduceGT, Int.reduceGE, Int.reduceAdd, Int.reduceSub, Int.reduceNeg, Int.reduceBEq, Int.reduceBNe])) <;> (try (have hd_ : True := hd; clear hd_ hd)))
  · refine fin_bA (by rw [allZip_ne (eqlen_ne hd)])
  · have hab := eqlen_eq hd
    generalize hT : allZip (fun x y => decide (x = y)) a b = T at *
    refine AW_for [0, 1, 12] (σ := Unit) (fun (k : Nat) s => T = allZip (fun x y => decide (x = y)) (a.drop k) (b.drop k)) (fun k s => []) (fun k s => []) () (GStep.refl _ _) (by simp only [keep_nil, keep_cons, Fr.get, ↓reduceIte, Nat.reduceEqDiff]; rfl) (by intro k s; rfl) (by intro k s; rfl) (by rfl) (by unfold maxLen; omega) ?_ (by simp only [FrL_nil]) (by simp only [ObjL_nil]) ?_ ?_
    · exact hT.symm
    · (rintro k s G hk ht hG hn; try simp only [nx] at hn)
      have hk2 : k < b.length := hab ▸ hk
      rw [allZip_drop hk hk2] at ht
      ((have hd := trivial; repeat' (first | ((first | refine GdK_st (fun hd => ?_) (fun hd => ?_) | refine GdK_sf (fun hd => ?_) (fun hd => ?_) | refine CondK_s (fun hd => ?_) (fun hd => ?_)) <;> (try simp only [hd])) | simp (disch := first | assumption | omega | (simp only [nx] <;> omega) | fail) only [hd, hQr, hQn, c81_0, ↓YA, YB, YC, YE, YF, YZ, ↓reduceIte, Nat.reduceEqDiff, Nat.reduceAdd, Nat.reduceMul, Nat.reduceLeDiff, Int.reduceToNat, Int.reduceLE, Int.reduceLT, Int.reduceGT, Int.reduceGE, Int.reduceAdd, Int.reduceSub, Int.reduceNeg, Int.reduceBEq, Int.reduceBNe])) <;> (try (have hd_ : True := hd; clear hd_ hd)))
      · refine fin_bA (by grind)
      · refine ⟨(), by grind, by exact HXT⟩
    · (rintro s G ht hG hn; try simp only [nx] at hn)
      ((have hd := trivial; repeat' (first | ((first | refine GdK_st (fun hd => ?_) (fun hd => ?_) | refine GdK_sf (fun hd => ?_) (fun hd => ?_) | refine CondK_s (fun hd => ?_) (fun hd => ?_)) <;> (try simp only [hd])) | simp (disch := first | assumption | omega | (simp only [nx] <;> omega) | fail) only [hd, hQr, hQn, c81_0, ↓YA, YB, YC, YE, YF, YZ, ↓reduceIte, Nat.reduceEqDiff, Nat.reduceAdd, Nat.reduceMul, Nat.reduceLeDiff, Int.reduceToNat, Int.reduceLE, Int.reduceLT, Int.reduceGT, Int.reduceGE, Int.reduceAdd, Int.reduceSub, Int.reduceNeg, Int.reduceBEq, Int.reduceBNe])) <;> (try (have hd_ : True := hd; clear hd_ hd)))
      refine fin_bA (by rw [ht, allZip_end (Nat.le_refl _) (by omega)])
theorem eqf_ints {f : FuncId} {e : List Int → List Int → Bool} (t u : Tok) (a b : List (List Int)) (H : AHeap) (hl : a.length ≤ 1000000) (hf : ∀ x ∈ a, ∀ (y : List Int) G, Sound Try.prog f [.sl .no (rI x), .sl .no (rI y)] G (Pure G (.b (e x y)))) :
    Sound Try.prog 78 [.sl t (rII a), .sl u (rII b), .fn f [] []] H (Pure H (.b (allZip e a b))) := by
  refine fn_soundQ hE cf78 (Nat.le_of_ble_eq_true rfl) fun Q hQr hQn => ?_
  ((have hd := trivial; repeat' (first | ((first | refine GdK_st (fun hd => ?_) (fun hd => ?_) | refine GdK_sf (fun hd => ?_) (fun hd => ?_) | refine CondK_s (fun hd => ?_) (fun hd => ?_)) <;> (try simp only [hd])) | simp (disch := first | assumption | omega | (simp only [nx] <;> omega) | fail) only [hd, hQr, hQn, c78_0, ↓YA, YB, YC, YE, YF, YZ, ↓reduceIte, Nat.reduceEqDiff, Nat.reduceAdd, Nat.reduceMul, Nat.reduceLeDiff, Int.reduceToNat, Int.reduceLE, Int.reduceLT, Int.reduceGT, Int.reduceGE, Int.reduceAdd, Int.reduceSub, Int.reduceNeg, Int.reduceBEq, Int.reduceBNe])) <;> (try (have hd_ : True := hd; clear hd_ hd)))
  · refine fin_bA (by rw [allZip_ne (eqlen_ne hd)])
  · have hab := eqlen_eq hd
    generalize hT : allZip e a b = T at *
    refine AW_for [1, 2, 15, 16] (σ := Unit) (fun (k : Nat) s => T = allZip e (a.drop k) (b.drop k)) (fun k s => []) (fun k s => []) () (GStep.refl _ _) (by simp only [keep_nil, keep_cons, Fr.get, ↓reduceIte, Nat.reduceEqDiff]; rfl) (by intro k s; rfl) (by intro k s; rfl) (by rfl) (by unfold maxLen; omega) ?_ (by simp only [FrL_nil]) (by simp only [ObjL_nil]) ?_ ?_
    · exact hT.symm
    · (rintro k s G hk ht hG hn; try simp only [nx] at hn)
      have hk2 : k < b.length := hab ▸ hk
      rw [allZip_drop hk hk2] at ht
      ((have hd := trivial; repeat' (first | ((first | refine GdK_st (fun hd => ?_) (fun hd => ?_) | refine GdK_sf (fun hd => ?_) (fun hd => ?_) | refine CondK_s (fun hd => ?_) (fun hd => ?_)) <;> (try simp only [hd])) | simp (disch := first | assumption | omega | (simp only [nx] <;> omega) | fail) only [hd, hQr, hQn, c78_0, ↓YA, YB, YC, YE, YF, YZ, ↓reduceIte, Nat.reduceEqDiff, Nat.reduceAdd, Nat.reduceMul, Nat.reduceLeDiff, Int.reduceToNat, Int.reduceLE, Int.reduceLT, Int.reduceGT, Int.reduceGE, Int.reduceAdd, Int.reduceSub, Int.reduceNeg, Int.reduceBEq, Int.reduceBNe])) <;> (try (have hd_ : True := hd; clear hd_ hd)))
      (refine CallK.use (hf a[k] (List.getElem_mem hk) b[k] _) ?_; rintro _ _ ⟨rfl, k1, rfl⟩)
      ((have hd := trivial; repeat' (first | ((first | refine GdK_st (fun hd => ?_) (fun hd => ?_) | refine GdK_sf (fun hd => ?_) (fun hd => ?_) | refine CondK_s (fun hd => ?_) (fun hd => ?_)) <;> (try simp only [hd])) | simp (disch := first | assumption | omega | (simp only [nx] <;> omega) | fail) only [hd, hQr, hQn, c78_0, ↓YA, YB, YC, YE, YF, YZ, ↓reduceIte, Nat.reduceEqDiff, Nat.reduceAdd, Nat.reduceMul, Nat.reduceLeDiff, Int.reduceToNat, Int.reduceLE, Int.reduceLT, Int.reduceGT, Int.reduceGE, Int.reduceAdd, Int.reduceSub, Int.reduceNeg, Int.reduceBEq, Int.reduceBNe])) <;> (try (have hd_ : True := hd; clear hd_ hd)))
      · refine fin_bA (by grind)
      · refine ⟨(), by grind, by exact HXT⟩
    · (rintro s G ht hG hn; try simp only [nx] at hn)
      ((have hd := trivial; repeat' (first | ((first | refine GdK_st (fun hd => ?_) (fun hd => ?_) | refine GdK_sf (fun hd => ?_) (fun hd => ?_) | refine CondK_s (fun hd => ?_) (fun hd => ?_)) <;> (try simp only [hd])) | simp (disch := first | assumption | omega | (simp only [nx] <;> omega) | fail) only [hd, hQr, hQn, c78_0, ↓YA, YB, YC, YE, YF, YZ, ↓reduceIte, Nat.reduceEqDiff, Nat.reduceAdd, Nat.reduceMul, Nat.reduceLeDiff, Int.reduceToNat, Int.reduceLE, Int.reduceLT, Int.reduceGT, Int.reduceGE, Int.reduceAdd, Int.reduceSub, Int.reduceNeg, Int.reduceBEq, Int.reduceBNe])) <;> (try (have hd_ : True := hd; clear hd_ hd)))
      refine fin_bA (by rw [ht, allZip_end (Nat.le_refl _) (by omega)])
theorem eqf_lists {f : FuncId} {e : List Cel → List Cel → Bool} (t u : Tok) (a b : List (List Cel)) (H : AHeap) (hl : a.length ≤ 1000000) (hf : ∀ x ∈ a, ∀ (y : List Cel) G, Sound Try.prog f [.sl .no (rC x), .sl .no (rC y)] G (Pure G (.b (e x y)))) :
    Sound Try.prog 82 [.sl t (rL a), .sl u (rL b), .fn f [] []] H (Pure H (.b (allZip e a b))) := by
  refine fn_soundQ hE cf82 (Nat.le_of_ble_eq_true rfl) fun Q hQr hQn => ?_
  ((have hd := trivial; repeat' (first | ((first | refine GdK_st (fun hd => ?_) (fun hd => ?_) | refine GdK_sf (fun hd => ?_) (fun hd => ?_) | refine CondK_s (fun hd => ?_) (fun hd => ?_)) <;> (try simp only [hd])) | simp (disch := first | assumption | omega | (simp only [nx] <;> omega) | fail) only [hd, hQr, hQn, c82_0, ↓YA, YB, YC, YE, YF, YZ, ↓reduceIte, Nat.reduceEqDiff, Nat.reduceAdd, Nat.reduceMul, Nat.reduceLeDiff, Int.reduceToNat, Int.reduceLE, Int.reduceLT, Int.reduceGT, Int.reduceGE, Int.reduceAdd, Int.reduceSub, Int.reduceNeg, Int.reduceBEq, Int.reduceBNe])) <;> (try (have hd_ : True := hd; clear hd_ hd)))
  · refine fin_bA (by rw [allZip_ne (eqlen_ne hd)])
  · have hab := eqlen_eq hd
    generalize hT : allZip e a b = T at *
    refine AW_for [1, 2, 15, 16] (σ := Unit) (fun (k : Nat) s => T = allZip e (a.drop k) (b.drop k)) (fun k s => []) (fun k s => []) () (GStep.refl _ _) (by simp only [keep_nil, keep_cons, Fr.get, ↓reduceIte, Nat.reduceEqDiff]; rfl) (by intro k s; rfl) (by intro k s; rfl) (by rfl) (by unfold maxLen; omega) ?_ (by simp only [FrL_nil]) (by simp only [ObjL_nil]) ?_ ?_
    · exact hT.symm
    · (rintro k s G hk ht hG hn; try simp only [nx] at hn)
      have hk2 : k < b.length := hab ▸ hk
      rw [allZip_drop hk hk2] at ht
      ((have hd := trivial; repeat' (first | ((first | refine GdK_st (fun hd => ?_) (fun hd => ?_) | refine GdK_sf (fun hd => ?_) (fun hd => ?_) | refine CondK_s (fun hd => ?_) (fun hd => ?_)) <;> (try simp only [hd])) | simp (disch := first | assumption | omega | (simp only [nx] <;> omega) | fail) only [hd, hQr, hQn, c82_0, ↓YA, YB, YC, YE, YF, YZ, ↓reduceIte, Nat.reduceEqDiff, Nat.reduceAdd, Nat.reduceMul, Nat.reduceLeDiff, Int.reduceToNat, Int.reduceLE, Int.reduceLT, Int.reduceGT, Int.reduceGE, Int.reduceAdd, Int.reduceSub, Int.reduceNeg, Int.reduceBEq, Int.reduceBNe])) <;> (try (have hd_ : True := hd; clear hd_ hd)))
      (refine CallK.use (hf a[k] (List.getElem_mem hk) b[k] _) ?_; rintro _ _ ⟨rfl, k1, rfl⟩)
      ((have hd := trivial; repeat' (first | ((first | refine GdK_st (fun hd => ?_) (fun hd => ?_) | refine GdK_sf (fun hd => ?_) (fun hd => ?_) | refine CondK_s (fun hd => ?_) (fun hd => ?_)) <;> (try simp only [hd])) | simp (disch := first | assumption | omega | (simp only [nx] <;> omega) | fail) only [hd, hQr, hQn, c82_0, ↓YA, YB, YC, YE, YF, YZ, ↓reduceIte, Nat.reduceEqDiff, Nat.reduceAdd, Nat.reduceMul, Nat.reduceLeDiff, Int.reduceToNat, Int.reduceLE, Int.reduceLT, Int.reduceGT, Int.reduceGE, Int.reduceAdd, Int.reduceSub, Int.reduceNeg, Int.reduceBEq, Int.reduceBNe])) <;> (try (have hd_ : True := hd; clear hd_ hd)))
      · refine fin_bA (by grind)
      · refine ⟨(), by grind, by exact HXT⟩
    · (rintro s G ht hG hn; try simp only [nx] at hn)
      ((have hd := trivial; repeat' (first | ((first | refine GdK_st (fun hd => ?_) (fun hd => ?_) | refine GdK_sf (fun hd => ?_) (fun hd => ?_) | refine CondK_s (fun hd => ?_) (fun hd => ?_)) <;> (try simp only [hd])) | simp (disch := first | assumption | omega | (simp only [nx] <;> omega) | fail) only [hd, hQr, hQn, c82_0, ↓YA, YB, YC, YE, YF, YZ, ↓reduceIte, Nat.reduceEqDiff, Nat.reduceAdd, Nat.reduceMul, Nat.reduceLeDiff, Int.reduceToNat, Int.reduceLE, Int.reduceLT, Int.reduceGT, Int.reduceGE, Int.reduceAdd, Int.reduceSub, Int.reduceNeg, Int.reduceBEq, Int.reduceBNe])) <;> (try (have hd_ : True := hd; clear hd_ hd)))
      refine fin_bA (by rw [ht, allZip_end (Nat.le_refl _) (by omega)])
theorem eqf_nodes {f : FuncId} {e : Nod → Nod → Bool} (t u : Tok) (a b : List Nod) (H : AHeap) (hl : a.length ≤ 1000000) (hf : ∀ x ∈ a, ∀ y ∈ b, ∀ G, Sound Try.prog f [.agg (eNod .no x), .agg (eNod .no y)] G (Pure G (.b (e x y)))) :
    Sound Try.prog 53 [.sl t (rN a), .sl u (rN b), .fn f [] []] H (Pure H (.b (allZip e a b))) := by
  refine fn_soundQ hE cf53 (Nat.le_of_ble_eq_true rfl) fun Q hQr hQn => ?_
  ((have hd := trivial; repeat' (first | ((first | refine GdK_st (fun hd => ?_) (fun hd => ?_) | refine GdK_sf (fun hd => ?_) (fun hd => ?_) | refine CondK_s (fun hd => ?_) (fun hd => ?_)) <;> (try simp only [hd])) | simp (disch := first | assumption | omega | (simp only [nx] <;> omega) | fail) only [hd, hQr, hQn, c53_0, ↓YA, YB, YC, YE, YF, YZ, ↓reduceIte, Nat.reduceEqDiff, Nat.reduceAdd, Nat.reduceMul, Nat.reduceLeDiff, Int.reduceToNat, Int.reduceLE, Int.reduceLT, Int.reduceGT, Int.reduceGE, Int.reduceAdd, Int.reduceSub, Int.reduceNeg, Int.reduceBEq, Int.reduceBNe])) <;> (try (have hd_ : True := hd; clear hd_ hd)))
  · refine fin_bA (by rw [allZip_ne (eqlen_ne hd)])
  · have hab := eqlen_eq hd
    generalize hT : allZip e a b = T at *
    refine AW_for [1, 2, 15, 16] (σ := Unit) (fun (k : Nat) s => T = allZip e (a.drop k) (b.drop k)) (fun k s => []) (fun k s => []) () (GStep.refl _ _) (by simp only [keep_nil, keep_cons, Fr.get, ↓reduceIte, Nat.reduceEqDiff]; rfl) (by intro k s; rfl) (by intro k s; rfl) (by rfl) (by unfold maxLen; omega) ?_ (by simp only [FrL_nil]) (by simp only [ObjL_nil]) ?_ ?_
    · exact hT.symm
    · (rintro k s G hk ht hG hn; try simp only [nx] at hn)
      have hk2 : k < b.length := hab ▸ hk
      rw [allZip_drop hk hk2] at ht
      ((have hd := trivial; repeat' (first | ((first | refine GdK_st (fun hd => ?_) (fun hd => ?_) | refine GdK_sf (fun hd => ?_) (fun hd => ?_) | refine CondK_s (fun hd => ?_) (fun hd => ?_)) <;> (try simp only [hd])) | simp (disch := first | assumption | omega | (simp only [nx] <;> omega) | fail) only [hd, hQr, hQn, c53_0, ↓YA, YB, YC, YE, YF, YZ, ↓reduceIte, Nat.reduceEqDiff, Nat.reduceAdd, Nat.reduceMul, Nat.reduceLeDiff, Int.reduceToNat, Int.reduceLE, Int.reduceLT, Int.reduceGT, Int.reduceGE, Int.reduceAdd, Int.reduceSub, Int.reduceNeg, Int.reduceBEq, Int.reduceBNe])) <;> (try (have hd_ : True := hd; clear hd_ hd)))
      (refine CallK.use (hf a[k] (List.getElem_mem hk) b[k] (List.getElem_mem hk2) _) ?_; rintro _ _ ⟨rfl, k1, rfl⟩)
      ((have hd := trivial; repeat' (first | ((first | refine GdK_st (fun hd => ?_) (fun hd => ?_) | refine GdK_sf (fun hd => ?_) (fun hd => ?_) | refine CondK_s (fun hd => ?_) (fun hd => ?_)) <;> (try simp only [hd])) | simp (disch := first | assumption | omega | (simp only [nx] <;> omega) | fail) only [hd, hQr, hQn, c53_0, ↓YA, YB, YC, YE, YF, YZ, ↓reduceIte, Nat.reduceEqDiff, Nat.reduceAdd, Nat.reduceMul, Nat.reduceLeDiff, Int.reduceToNat, Int.reduceLE, Int.reduceLT, Int.reduceGT, Int.reduceGE, Int.reduceAdd, Int.reduceSub, Int.reduceNeg, Int.reduceBEq, Int.reduceBNe])) <;> (try (have hd_ : True := hd; clear hd_ hd)))
      · refine fin_bA (by grind)
      · refine ⟨(), by grind, by exact HXT⟩
    · (rintro s G ht hG hn; try simp only [nx] at hn)
      ((have hd := trivial; repeat' (first | ((first | refine GdK_st (fun hd => ?_) (fun hd => ?_) | refine GdK_sf (fun hd => ?_) (fun hd => ?_) | refine CondK_s (fun hd => ?_) (fun hd => ?_)) <;> (try simp only [hd])) | simp (disch := first | assumption | omega | (simp only [nx] <;> omega) | fail) only [hd, hQr, hQn, c53_0, ↓YA, YB, YC, YE, YF, YZ, ↓reduceIte, Nat.reduceEqDiff, Nat.reduceAdd, Nat.reduceMul, Nat.reduceLeDiff, Int.reduceToNat, Int.reduceLE, Int.reduceLT, Int.reduceGT, Int.reduceGE, Int.reduceAdd, Int.reduceSub, Int.reduceNeg, Int.reduceBEq, Int.reduceBNe])) <;> (try (have hd_ : True := hd; clear hd_ hd)))
      refine fin_bA (by rw [ht, allZip_end (Nat.le_refl _) (by omega)])
/-- slices.EqualFunc of cells by a test that may change memory: J: what holds of memory ahead of each place -/
theorem eqf_cells {f : FuncId} {first caps : List AV} {Rf : AHeap → Prop} (J : Nat → AHeap → Prop) (hJ : ∀ k G G', J k G → HX [] G G' → J k G') (t u : Tok) (a b : List Cel) (H : AHeap) (hl : a.length ≤ 1000000) (h0 : J 0 H)
    (hR : a.length ≠ b.length → Rf H) (hf : ∀ k (hk : k < a.length) (hk2 : k < b.length) G, J k G → Sound Try.prog f (first ++ [.agg (eCel a[k]), .agg (eCel b[k])] ++ caps) G fun r G' => (r = .b true ∧ J (k + 1) G') ∨ (r = .b false ∧ Rf G')) :
    Sound Try.prog 104 [.sl t (rC a), .sl u (rC b), .fn f first caps] H fun r G => (r = .b true ∧ a.length = b.length ∧ J a.length G) ∨ (r = .b false ∧ Rf G) := by
  refine fn_soundQ hE cf104 (Nat.le_of_ble_eq_true rfl) fun Q hQr hQn => ?_
  ((have hd := trivial; repeat' (first | ((first | refine GdK_st (fun hd => ?_) (fun hd => ?_) | refine GdK_sf (fun hd => ?_) (fun hd => ?_) | refine CondK_s (fun hd => ?_) (fun hd => ?_)) <;> (try simp only [hd])) | simp (disch := first | assumption | omega | (simp only [nx] <;> omega) | fail) only [hd, hQr, hQn, c104_0, ↓YA, YB, YC, YE, YF, YZ, ↓reduceIte, Nat.reduceEqDiff, Nat.reduceAdd, Nat.reduceMul, Nat.reduceLeDiff, Int.reduceToNat, Int.reduceLE, Int.reduceLT, Int.reduceGT, Int.reduceGE, Int.reduceAdd, Int.reduceSub, Int.reduceNeg, Int.reduceBEq, Int.reduceBNe])) <;> (try (have hd_ : True := hd; clear hd_ hd)))
  · exact fin_keep (.inr ⟨rfl, hR (eqlen_ne hd)⟩)
  · have hab := eqlen_eq hd
    refine AW_forI (N := a.length) (fun k F G => Fr.get F 17 = .i (k : Int) ∧ Fr.get F 16 = .i (a.length : Int) ∧ Fr.get F 15 = .sl t (rC a) ∧ Fr.get F 1 = .sl u (rC b) ∧ Fr.get F 2 = .fn f first caps ∧ J k G) (by unfold maxLen; omega) (fun k F G h => ⟨h.1, h.2.1⟩) (GStep.refl _ _) ⟨rfl, rfl, rfl, rfl, rfl, h0⟩ ?_ ?_
    · rintro k F G hk ⟨f17, f16, f15, f1, f2, hj⟩
      have hk2 : k < b.length := hab ▸ hk
      ((have hd := trivial; repeat' (first | ((first | refine GdK_st (fun hd => ?_) (fun hd => ?_) | refine GdK_sf (fun hd => ?_) (fun hd => ?_) | refine CondK_s (fun hd => ?_) (fun hd => ?_)) <;> (try simp only [hd])) | simp (disch := first | assumption | omega | (simp only [nx] <;> omega) | fail) only [hd, hQr, hQn, c104_0, ↓YA, YB, YC, YE, YF, YZ, ↓reduceIte, Nat.reduceEqDiff, Nat.reduceAdd, Nat.reduceMul, Nat.reduceLeDiff, Int.reduceToNat, Int.reduceLE, Int.reduceLT, Int.reduceGT, Int.reduceGE, Int.reduceAdd, Int.reduceSub, Int.reduceNeg, Int.reduceBEq, Int.reduceBNe, f17, f15, f1, f2])) <;> (try (have hd_ : True := hd; clear hd_ hd)))
      refine CallK.use (hf k hk hk2 _ (hJ k G _ hj ?_)) ?_
      · exact HXT
      rintro r G' (⟨rfl, hr⟩ | ⟨rfl, hr⟩)
      · ((have hd := trivial; repeat' (first | ((first | refine GdK_st (fun hd => ?_) (fun hd => ?_) | refine GdK_sf (fun hd => ?_) (fun hd => ?_) | refine CondK_s (fun hd => ?_) (fun hd => ?_)) <;> (try simp only [hd])) | simp (disch := first | assumption | omega | (simp only [nx] <;> omega) | fail) only [hd, hQr, hQn, c104_0, ↓YA, YB, YC, YE, YF, YZ, ↓reduceIte, Nat.reduceEqDiff, Nat.reduceAdd, Nat.reduceMul, Nat.reduceLeDiff, Int.reduceToNat, Int.reduceLE, Int.reduceLT, Int.reduceGT, Int.reduceGE, Int.reduceAdd, Int.reduceSub, Int.reduceNeg, Int.reduceBEq, Int.reduceBNe, f17, f16, f15, f1, f2])) <;> (try (have hd_ : True := hd; clear hd_ hd)))
        exact hr
      · ((have hd := trivial; repeat' (first | ((first | refine GdK_st (fun hd => ?_) (fun hd => ?_) | refine GdK_sf (fun hd => ?_) (fun hd => ?_) | refine CondK_s (fun hd => ?_) (fun hd => ?_)) <;> (try simp only [hd])) | simp (disch := first | assumption | omega | (simp only [nx] <;> omega) | fail) only [hd, hQr, hQn, c104_0, ↓YA, YB, YC, YE, YF, YZ, ↓reduceIte, Nat.reduceEqDiff, Nat.reduceAdd, Nat.reduceMul, Nat.reduceLeDiff, Int.reduceToNat, Int.reduceLE, Int.reduceLT, Int.reduceGT, Int.reduceGE, Int.reduceAdd, Int.reduceSub, Int.reduceNeg, Int.reduceBEq, Int.reduceBNe])) <;> (try (have hd_ : True := hd; clear hd_ hd)))
        exact fin_keep (.inr ⟨rfl, hr⟩)
    · rintro F G ⟨f17, f16, f15, f1, f2, hj⟩
      ((have hd := trivial; repeat' (first | ((first | refine GdK_st (fun hd => ?_) (fun hd => ?_) | refine GdK_sf (fun hd => ?_) (fun hd => ?_) | refine CondK_s (fun hd => ?_) (fun hd => ?_)) <;> (try simp only [hd])) | simp (disch := first | assumption | omega | (simp only [nx] <;> omega) | fail) only [hd, hQr, hQn, c104_0, ↓YA, YB, YC, YE, YF, YZ, ↓reduceIte, Nat.reduceEqDiff, Nat.reduceAdd, Nat.reduceMul, Nat.reduceLeDiff, Int.reduceToNat, Int.reduceLE, Int.reduceLT, Int.reduceGT, Int.reduceGE, Int.reduceAdd, Int.reduceSub, Int.reduceNeg, Int.reduceBEq, Int.reduceBNe])) <;> (try (have hd_ : True := hd; clear hd_ hd)))
      exact fin_keep (.inl ⟨rfl, hab, hj⟩)
end Go.Proofs.Ytgnpihhakogeeaa

namespace Go.Proofs.Ytgnpihhakogeeaa
set_option linter.unusedSimpArgs false
set_option linter.unusedVariables false
open Go.RowKit

theorem nod_eq {a b : Nod} : decide (a = b) = (decide (a.dim = b.dim) && (decide (a.all = b.all) && decide (a.lists = b.lists))) := by
  obtain ⟨d, l, c⟩ := a
  obtain ⟨d', l', c'⟩ := b
  rw [Bool.eq_iff_iff]
  simp
  grind
theorem shp_eq {a b : Shp} : decide (a = b) = (decide (a.measures = b.measures) && decide (a.sizes = b.sizes)) := by
  obtain ⟨s, m⟩ := a
  obtain ⟨s', m'⟩ := b
  rw [Bool.eq_iff_iff]
  simp
  grind
/-- node.Same -/
theorem nsame_sound (t u : Tok) (a b : Nod) (H : AHeap) (ha : smallN a) : Sound Try.prog 54 [.agg (eNod t a), .agg (eNod u b)] H (Pure H (.b (decide (a = b)))) := by
  rw [nod_eq]
  refine fn_soundQ hE cf54 (Nat.le_of_ble_eq_true rfl) fun Q hQr hQn => ?_
  ((have hd := trivial; repeat' (first | ((first | refine GdK_st (fun hd => ?_) (fun hd => ?_) | refine GdK_sf (fun hd => ?_) (fun hd => ?_) | refine CondK_s (fun hd => ?_) (fun hd => ?_)) <;> (try simp only [hd])) | simp (disch := first | assumption | omega | (simp only [nx] <;> omega) | fail) only [hd, hQr, hQn, c54_0, ↓YA, YB, YC, YE, YF, YZ, ↓reduceIte, Nat.reduceEqDiff, Nat.reduceAdd, Nat.reduceMul, Nat.reduceLeDiff, Int.reduceToNat, Int.reduceLE, Int.reduceLT, Int.reduceGT, Int.reduceGE, Int.reduceAdd, Int.reduceSub, Int.reduceNeg, Int.reduceBEq, Int.reduceBNe])) <;> (try (have hd_ : True := hd; clear hd_ hd)))
  · (refine CallK.use (eqf_lists (e := fun x y => allZip (fun x y => decide (x = y)) x y) t u a.lists b.lists _ ha.1 (fun x hx y G => sleqc_sound .no .no x y G (ha.2.2 x hx))) ?_; rintro _ _ ⟨rfl, k1, rfl⟩)
    ((have hd := trivial; repeat' (first | ((first | refine GdK_st (fun hd => ?_) (fun hd => ?_) | refine GdK_sf (fun hd => ?_) (fun hd => ?_) | refine CondK_s (fun hd => ?_) (fun hd => ?_)) <;> (try simp only [hd])) | simp (disch := first | assumption | omega | (simp only [nx] <;> omega) | fail) only [hd, hQr, hQn, c54_0, ↓YA, YB, YC, YE, YF, YZ, ↓reduceIte, Nat.reduceEqDiff, Nat.reduceAdd, Nat.reduceMul, Nat.reduceLeDiff, Int.reduceToNat, Int.reduceLE, Int.reduceLT, Int.reduceGT, Int.reduceGE, Int.reduceAdd, Int.reduceSub, Int.reduceNeg, Int.reduceBEq, Int.reduceBNe])) <;> (try (have hd_ : True := hd; clear hd_ hd)))
    refine fin_b (by exact AXT) ?_
    simp only [allZip_eq]
    simp at hd
    grind
  · refine fin_bA (by grind)
  · refine fin_bA (by grind)
/-- plain.Ints -/
theorem ints_sound (t u : Tok) (a b : List Int) (H : AHeap) (hl : a.length ≤ 1000000) : Sound Try.prog 33 [.sl t (rI a), .sl u (rI b)] H (Pure H (.b (decide (a = b)))) := by
  rw [← allZip_eq]
  refine fn_soundQ hE cf33 (Nat.le_of_ble_eq_true rfl) fun Q hQr hQn => ?_
  ((have hd := trivial; repeat' (first | ((first | refine GdK_st (fun hd => ?_) (fun hd => ?_) | refine GdK_sf (fun hd => ?_) (fun hd => ?_) | refine CondK_s (fun hd => ?_) (fun hd => ?_)) <;> (try simp only [hd])) | simp (disch := first | assumption | omega | (simp only [nx] <;> omega) | fail) only [hd, hQr, hQn, c33_0, ↓YA, YB, YC, YE, YF, YZ, ↓reduceIte, Nat.reduceEqDiff, Nat.reduceAdd, Nat.reduceMul, Nat.reduceLeDiff, Int.reduceToNat, Int.reduceLE, Int.reduceLT, Int.reduceGT, Int.reduceGE, Int.reduceAdd, Int.reduceSub, Int.reduceNeg, Int.reduceBEq, Int.reduceBNe])) <;> (try (have hd_ : True := hd; clear hd_ hd)))
  · refine fin_bA (by rw [allZip_ne (eqlen_ne hd)])
  · have hab := eqlen_eq hd
    generalize hT : allZip (fun x y => decide (x = y)) a b = T at *
    refine AW_for [0, 1, 12] (σ := Unit) (fun (k : Nat) s => T = allZip (fun x y => decide (x = y)) (a.drop k) (b.drop k)) (fun k s => []) (fun k s => []) () (GStep.refl _ _) (by simp only [keep_nil, keep_cons, Fr.get, ↓reduceIte, Nat.reduceEqDiff]; rfl) (by intro k s; rfl) (by intro k s; rfl) (by rfl) (by unfold maxLen; omega) ?_ (by simp only [FrL_nil]) (by simp only [ObjL_nil]) ?_ ?_
    · exact hT.symm
    · (rintro k s G hk ht hG hn; try simp only [nx] at hn)
      have hk2 : k < b.length := hab ▸ hk
      rw [allZip_drop hk hk2] at ht
      ((have hd := trivial; repeat' (first | ((first | refine GdK_st (fun hd => ?_) (fun hd => ?_) | refine GdK_sf (fun hd => ?_) (fun hd => ?_) | refine CondK_s (fun hd => ?_) (fun hd => ?_)) <;> (try simp only [hd])) | simp (disch := first | assumption | omega | (simp only [nx] <;> omega) | fail) only [hd, hQr, hQn, c33_0, ↓YA, YB, YC, YE, YF, YZ, ↓reduceIte, Nat.reduceEqDiff, Nat.reduceAdd, Nat.reduceMul, Nat.reduceLeDiff, Int.reduceToNat, Int.reduceLE, Int.reduceLT, Int.reduceGT, Int.reduceGE, Int.reduceAdd, Int.reduceSub, Int.reduceNeg, Int.reduceBEq, Int.reduceBNe])) <;> (try (have hd_ : True := hd; clear hd_ hd)))
      · refine fin_bA (by grind)
      · refine ⟨(), by grind, by exact HXT⟩
    · (rintro s G ht hG hn; try simp only [nx] at hn)
      ((have hd := trivial; repeat' (first | ((first | refine GdK_st (fun hd => ?_) (fun hd => ?_) | refine GdK_sf (fun hd => ?_) (fun hd => ?_) | refine CondK_s (fun hd => ?_) (fun hd => ?_)) <;> (try simp only [hd])) | simp (disch := first | assumption | omega | (simp only [nx] <;> omega) | fail) only [hd, hQr, hQn, c33_0, ↓YA, YB, YC, YE, YF, YZ, ↓reduceIte, Nat.reduceEqDiff, Nat.reduceAdd, Nat.reduceMul, Nat.reduceLeDiff, Int.reduceToNat, Int.reduceLE, Int.reduceLT, Int.reduceGT, Int.reduceGE, Int.reduceAdd, Int.reduceSub, Int.reduceNeg, Int.reduceBEq, Int.reduceBNe])) <;> (try (have hd_ : True := hd; clear hd_ hd)))
      refine fin_bA (by rw [ht, allZip_end (Nat.le_refl _) (by omega)])
theorem shcl_sound (t u : Tok) (a b : List Int) (H : AHeap) (hl : a.length ≤ 1000000) : Sound Try.prog 79 [.sl t (rI a), .sl u (rI b)] H (Pure H (.b (decide (a = b)))) := by
  refine fn_soundQ hE cf79 (Nat.le_of_ble_eq_true rfl) fun Q hQr hQn => ?_
  ((have hd := trivial; repeat' (first | ((first | refine GdK_st (fun hd => ?_) (fun hd => ?_) | refine GdK_sf (fun hd => ?_) (fun hd => ?_) | refine CondK_s (fun hd => ?_) (fun hd => ?_)) <;> (try simp only [hd])) | simp (disch := first | assumption | omega | (simp only [nx] <;> omega) | fail) only [hd, hQr, hQn, c79_0, ↓YA, YB, YC, YE, YF, YZ, ↓reduceIte, Nat.reduceEqDiff, Nat.reduceAdd, Nat.reduceMul, Nat.reduceLeDiff, Int.reduceToNat, Int.reduceLE, Int.reduceLT, Int.reduceGT, Int.reduceGE, Int.reduceAdd, Int.reduceSub, Int.reduceNeg, Int.reduceBEq, Int.reduceBNe])) <;> (try (have hd_ : True := hd; clear hd_ hd)))
  (refine CallK.use (sleq_sound t u a b _ hl) ?_; rintro _ _ ⟨rfl, k1, rfl⟩)
  ((have hd := trivial; repeat' (first | ((first | refine GdK_st (fun hd => ?_) (fun hd => ?_) | refine GdK_sf (fun hd => ?_) (fun hd => ?_) | refine CondK_s (fun hd => ?_) (fun hd => ?_)) <;> (try simp only [hd])) | simp (disch := first | assumption | omega | (simp only [nx] <;> omega) | fail) only [hd, hQr, hQn, c79_0, ↓YA, YB, YC, YE, YF, YZ, ↓reduceIte, Nat.reduceEqDiff, Nat.reduceAdd, Nat.reduceMul, Nat.reduceLeDiff, Int.reduceToNat, Int.reduceLE, Int.reduceLT, Int.reduceGT, Int.reduceGE, Int.reduceAdd, Int.reduceSub, Int.reduceNeg, Int.reduceBEq, Int.reduceBNe])) <;> (try (have hd_ : True := hd; clear hd_ hd)))
  refine fin_bA (by rw [allZip_eq])
/-- same.shapes -/
theorem sshapes_sound (t u : Tok) (x y : Shp) (H : AHeap) (hx : x.sizes.length ≤ 1000000) (hs : ∀ s ∈ x.sizes, s.length ≤ 1000000) :
    Sound Try.prog 51 [.agg [.sl t (rII x.sizes), .i x.measures], .agg [.sl u (rII y.sizes), .i y.measures]] H (Pure H (.b (decide (x = y)))) := by
  rw [shp_eq]
  refine fn_soundQ hE cf51 (Nat.le_of_ble_eq_true rfl) fun Q hQr hQn => ?_
  ((have hd := trivial; repeat' (first | ((first | refine GdK_st (fun hd => ?_) (fun hd => ?_) | refine GdK_sf (fun hd => ?_) (fun hd => ?_) | refine CondK_s (fun hd => ?_) (fun hd => ?_)) <;> (try simp only [hd])) | simp (disch := first | assumption | omega | (simp only [nx] <;> omega) | fail) only [hd, hQr, hQn, c51_0, ↓YA, YB, YC, YE, YF, YZ, ↓reduceIte, Nat.reduceEqDiff, Nat.reduceAdd, Nat.reduceMul, Nat.reduceLeDiff, Int.reduceToNat, Int.reduceLE, Int.reduceLT, Int.reduceGT, Int.reduceGE, Int.reduceAdd, Int.reduceSub, Int.reduceNeg, Int.reduceBEq, Int.reduceBNe])) <;> (try (have hd_ : True := hd; clear hd_ hd)))
  · (refine CallK.use (eqf_ints (e := fun x y => decide (x = y)) t u x.sizes y.sizes _ hx (fun a ha b G => shcl_sound .no .no a b G (hs a ha))) ?_; rintro _ _ ⟨rfl, k1, rfl⟩)
    ((have hd := trivial; repeat' (first | ((first | refine GdK_st (fun hd => ?_) (fun hd => ?_) | refine GdK_sf (fun hd => ?_) (fun hd => ?_) | refine CondK_s (fun hd => ?_) (fun hd => ?_)) <;> (try simp only [hd])) | simp (disch := first | assumption | omega | (simp only [nx] <;> omega) | fail) only [hd, hQr, hQn, c51_0, ↓YA, YB, YC, YE, YF, YZ, ↓reduceIte, Nat.reduceEqDiff, Nat.reduceAdd, Nat.reduceMul, Nat.reduceLeDiff, Int.reduceToNat, Int.reduceLE, Int.reduceLT, Int.reduceGT, Int.reduceGE, Int.reduceAdd, Int.reduceSub, Int.reduceNeg, Int.reduceBEq, Int.reduceBNe])) <;> (try (have hd_ : True := hd; clear hd_ hd)))
    refine fin_b (by exact AXT) ?_
    simp only [allZip_eq]
    simp at hd
    grind
  · refine fin_bA (by grind)
/-- law31.shapes -/
theorem lshapes_sound (t u : Tok) (x y : Shp) (H : AHeap) (hx : x.sizes.length ≤ 1000000) (hs : ∀ s ∈ x.sizes, s.length ≤ 1000000) :
    Sound Try.prog 23 [.agg [.sl t (rII x.sizes), .i x.measures], .agg [.sl u (rII y.sizes), .i y.measures]] H (Pure H (.b (decide (x = y)))) := by
  rw [shp_eq, ← allZip_eq]
  refine fn_soundQ hE cf23 (Nat.le_of_ble_eq_true rfl) fun Q hQr hQn => ?_
  ((have hd := trivial; repeat' (first | ((first | refine GdK_st (fun hd => ?_) (fun hd => ?_) | refine GdK_sf (fun hd => ?_) (fun hd => ?_) | refine CondK_s (fun hd => ?_) (fun hd => ?_)) <;> (try simp only [hd])) | simp (disch := first | assumption | omega | (simp only [nx] <;> omega) | fail) only [hd, hQr, hQn, c23_0, ↓YA, YB, YC, YE, YF, YZ, ↓reduceIte, Nat.reduceEqDiff, Nat.reduceAdd, Nat.reduceMul, Nat.reduceLeDiff, Int.reduceToNat, Int.reduceLE, Int.reduceLT, Int.reduceGT, Int.reduceGE, Int.reduceAdd, Int.reduceSub, Int.reduceNeg, Int.reduceBEq, Int.reduceBNe])) <;> (try (have hd_ : True := hd; clear hd_ hd)))
  · refine fin_bA (by rw [allZip_ne (eqlen_ne hd)]; simp)
  · rename_i hm
    have hab := eqlen_eq hd
    have hm : decide (x.measures = y.measures) = true := by simp at hm; simp [hm]
    rw [hm, Bool.true_and] at hQr hQn
    generalize hT : allZip (fun x y => decide (x = y)) x.sizes y.sizes = T at *
    refine AW_for [2, 3, 22] (σ := Unit) (fun (k : Nat) s => T = allZip (fun x y => decide (x = y)) (x.sizes.drop k) (y.sizes.drop k)) (fun k s => []) (fun k s => []) () (GStep.refl _ _) (by simp only [keep_nil, keep_cons, Fr.get, ↓reduceIte, Nat.reduceEqDiff]; rfl) (by intro k s; rfl) (by intro k s; rfl) (by rfl) (by unfold maxLen; omega) ?_ (by simp only [FrL_nil]) (by simp only [ObjL_nil]) ?_ ?_
    · exact hT.symm
    · (rintro k s G hk ht hG hn; try simp only [nx] at hn)
      have hk2 : k < y.sizes.length := hab ▸ hk
      rw [allZip_drop hk hk2] at ht
      ((have hd := trivial; repeat' (first | ((first | refine GdK_st (fun hd => ?_) (fun hd => ?_) | refine GdK_sf (fun hd => ?_) (fun hd => ?_) | refine CondK_s (fun hd => ?_) (fun hd => ?_)) <;> (try simp only [hd])) | simp (disch := first | assumption | omega | (simp only [nx] <;> omega) | fail) only [hd, hQr, hQn, c23_0, ↓YA, YB, YC, YE, YF, YZ, ↓reduceIte, Nat.reduceEqDiff, Nat.reduceAdd, Nat.reduceMul, Nat.reduceLeDiff, Int.reduceToNat, Int.reduceLE, Int.reduceLT, Int.reduceGT, Int.reduceGE, Int.reduceAdd, Int.reduceSub, Int.reduceNeg, Int.reduceBEq, Int.reduceBNe, hG.get])) <;> (try (have hd_ : True := hd; clear hd_ hd)))
      (refine CallK.use (ints_sound .no .no x.sizes[k] y.sizes[k] _ (hs _ (List.getElem_mem hk))) ?_; rintro _ _ ⟨rfl, k1, rfl⟩)
      ((have hd := trivial; repeat' (first | ((first | refine GdK_st (fun hd => ?_) (fun hd => ?_) | refine GdK_sf (fun hd => ?_) (fun hd => ?_) | refine CondK_s (fun hd => ?_) (fun hd => ?_)) <;> (try simp only [hd])) | simp (disch := first | assumption | omega | (simp only [nx] <;> omega) | fail) only [hd, hQr, hQn, c23_0, ↓YA, YB, YC, YE, YF, YZ, ↓reduceIte, Nat.reduceEqDiff, Nat.reduceAdd, Nat.reduceMul, Nat.reduceLeDiff, Int.reduceToNat, Int.reduceLE, Int.reduceLT, Int.reduceGT, Int.reduceGE, Int.reduceAdd, Int.reduceSub, Int.reduceNeg, Int.reduceBEq, Int.reduceBNe])) <;> (try (have hd_ : True := hd; clear hd_ hd)))
      · refine fin_bA (by grind)
      · refine ⟨(), by grind, by exact HXT⟩
    · (rintro s G ht hG hn; try simp only [nx] at hn)
      ((have hd := trivial; repeat' (first | ((first | refine GdK_st (fun hd => ?_) (fun hd => ?_) | refine GdK_sf (fun hd => ?_) (fun hd => ?_) | refine CondK_s (fun hd => ?_) (fun hd => ?_)) <;> (try simp only [hd])) | simp (disch := first | assumption | omega | (simp only [nx] <;> omega) | fail) only [hd, hQr, hQn, c23_0, ↓YA, YB, YC, YE, YF, YZ, ↓reduceIte, Nat.reduceEqDiff, Nat.reduceAdd, Nat.reduceMul, Nat.reduceLeDiff, Int.reduceToNat, Int.reduceLE, Int.reduceLT, Int.reduceGT, Int.reduceGE, Int.reduceAdd, Int.reduceSub, Int.reduceNeg, Int.reduceBEq, Int.reduceBNe])) <;> (try (have hd_ : True := hd; clear hd_ hd)))
      refine fin_bA (by rw [ht, allZip_end (Nat.le_refl _) (by omega)])
  · refine fin_bA (by grind)
/-- ref24.Same -/
theorem rsame_sound (t u : Tok) (a b : Nod) (H : AHeap) (ha : smallN a) : Sound Try.prog 17 [.agg (eNod t a), .agg (eNod u b)] H (Pure H (.b (decide (a = b)))) := by
  rw [nod_eq, ← allZip_eq]
  refine fn_soundQ hE cf17 (Nat.le_of_ble_eq_true rfl) fun Q hQr hQn => ?_
  ((have hd := trivial; repeat' (first | ((first | refine GdK_st (fun hd => ?_) (fun hd => ?_) | refine GdK_sf (fun hd => ?_) (fun hd => ?_) | refine CondK_s (fun hd => ?_) (fun hd => ?_)) <;> (try simp only [hd])) | simp (disch := first | assumption | omega | (simp only [nx] <;> omega) | fail) only [hd, hQr, hQn, c17_0, ↓YA, YB, YC, YE, YF, YZ, ↓reduceIte, Nat.reduceEqDiff, Nat.reduceAdd, Nat.reduceMul, Nat.reduceLeDiff, Int.reduceToNat, Int.reduceLE, Int.reduceLT, Int.reduceGT, Int.reduceGE, Int.reduceAdd, Int.reduceSub, Int.reduceNeg, Int.reduceBEq, Int.reduceBNe])) <;> (try (have hd_ : True := hd; clear hd_ hd)))
  · refine fin_bA (by rw [allZip_ne (eqlen_ne hd)]; simp)
  · rename_i h1 h2
    have hab := eqlen_eq hd
    have h1 : decide (a.dim = b.dim) = true := by simp at h1; simp [h1]
    have h2 : decide (a.all = b.all) = true := by simpa using h2
    rw [h1, h2, Bool.true_and, Bool.true_and] at hQr hQn
    have hl := ha.1
    generalize hT : allZip (fun x y => decide (x = y)) a.lists b.lists = T at *
    refine AW_for [2, 3, 30] (σ := Unit) (fun (k : Nat) s => T = allZip (fun x y => decide (x = y)) (a.lists.drop k) (b.lists.drop k)) (fun k s => []) (fun k s => []) () (GStep.refl _ _) (by simp only [keep_nil, keep_cons, Fr.get, ↓reduceIte, Nat.reduceEqDiff]; rfl) (by intro k s; rfl) (by intro k s; rfl) (by rfl) (by unfold maxLen; omega) ?_ (by simp only [FrL_nil]) (by simp only [ObjL_nil]) ?_ ?_
    · exact hT.symm
    · (rintro i s G hk ht hG hn; try simp only [nx] at hn)
      have hk2 : i < b.lists.length := hab ▸ hk
      rw [allZip_drop hk hk2, ← allZip_eq] at ht
      have hak := ha.2.2 _ (List.getElem_mem hk)
      ((have hd := trivial; repeat' (first | ((first | refine GdK_st (fun hd => ?_) (fun hd => ?_) | refine GdK_sf (fun hd => ?_) (fun hd => ?_) | refine CondK_s (fun hd => ?_) (fun hd => ?_)) <;> (try simp only [hd])) | simp (disch := first | assumption | omega | (simp only [nx] <;> omega) | fail) only [hd, hQr, hQn, c17_0, ↓YA, YB, YC, YE, YF, YZ, ↓reduceIte, Nat.reduceEqDiff, Nat.reduceAdd, Nat.reduceMul, Nat.reduceLeDiff, Int.reduceToNat, Int.reduceLE, Int.reduceLT, Int.reduceGT, Int.reduceGE, Int.reduceAdd, Int.reduceSub, Int.reduceNeg, Int.reduceBEq, Int.reduceBNe, hG.get])) <;> (try (have hd_ : True := hd; clear hd_ hd)))
      · refine fin_bA (by rw [ht, allZip_ne (eqlen_ne hd)]; rfl)
      · have hab2 := eqlen_eq hd
        generalize hR : allZip (fun x y => decide (x = y)) (a.lists.drop (i + 1)) (b.lists.drop (i + 1)) = R at *
        refine AW_for [2, 3, 5, 30, 31, 52] (σ := Unit) (fun (k : Nat) s => T = (allZip (fun x y => decide (x = y)) (a.lists[i].drop k) (b.lists[i].drop k) && R)) (fun k s => []) (fun k s => []) () (GStep.refl _ _) (by simp only [keep_nil, keep_cons, Fr.get, ↓reduceIte, Nat.reduceEqDiff]; rfl) (by intro k s; rfl) (by intro k s; rfl) (by rfl) (by unfold maxLen; omega) ?_ (by simp only [FrL_nil]) (by simp only [ObjL_nil]) ?_ ?_
        · exact ht
        · (rintro j s2 G2 hj ht2 hG2 hn2; try simp only [nx] at hn2)
          have hj2 : j < b.lists[i].length := hab2 ▸ hj
          rw [allZip_drop hj hj2] at ht2
          ((have hd := trivial; repeat' (first | ((first | refine GdK_st (fun hd => ?_) (fun hd => ?_) | refine GdK_sf (fun hd => ?_) (fun hd => ?_) | refine CondK_s (fun hd => ?_) (fun hd => ?_)) <;> (try simp only [hd])) | simp (disch := first | assumption | omega | (simp only [nx] <;> omega) | fail) only [hd, hQr, hQn, c17_0, ↓YA, YB, YC, YE, YF, YZ, ↓reduceIte, Nat.reduceEqDiff, Nat.reduceAdd, Nat.reduceMul, Nat.reduceLeDiff, Int.reduceToNat, Int.reduceLE, Int.reduceLT, Int.reduceGT, Int.reduceGE, Int.reduceAdd, Int.reduceSub, Int.reduceNeg, Int.reduceBEq, Int.reduceBNe, hG2.get, hG.get])) <;> (try (have hd_ : True := hd; clear hd_ hd)))
          · refine fin_bA (by grind)
          · refine ⟨(), by grind, by exact HXT⟩
        · (rintro s2 G2 ht2 hG2 hn2; try simp only [nx] at hn2)
          rw [allZip_end (Nat.le_refl _) (by omega), Bool.true_and] at ht2
          ((have hd := trivial; repeat' (first | ((first | refine GdK_st (fun hd => ?_) (fun hd => ?_) | refine GdK_sf (fun hd => ?_) (fun hd => ?_) | refine CondK_s (fun hd => ?_) (fun hd => ?_)) <;> (try simp only [hd])) | simp (disch := first | assumption | omega | (simp only [nx] <;> omega) | fail) only [hd, hQr, hQn, c17_0, ↓YA, YB, YC, YE, YF, YZ, ↓reduceIte, Nat.reduceEqDiff, Nat.reduceAdd, Nat.reduceMul, Nat.reduceLeDiff, Int.reduceToNat, Int.reduceLE, Int.reduceLT, Int.reduceGT, Int.reduceGE, Int.reduceAdd, Int.reduceSub, Int.reduceNeg, Int.reduceBEq, Int.reduceBNe])) <;> (try (have hd_ : True := hd; clear hd_ hd)))
          refine ⟨(), ht2.trans hR.symm, hG.trans0 hG2⟩
    · (rintro s G ht hG hn; try simp only [nx] at hn)
      ((have hd := trivial; repeat' (first | ((first | refine GdK_st (fun hd => ?_) (fun hd => ?_) | refine GdK_sf (fun hd => ?_) (fun hd => ?_) | refine CondK_s (fun hd => ?_) (fun hd => ?_)) <;> (try simp only [hd])) | simp (disch := first | assumption | omega | (simp only [nx] <;> omega) | fail) only [hd, hQr, hQn, c17_0, ↓YA, YB, YC, YE, YF, YZ, ↓reduceIte, Nat.reduceEqDiff, Nat.reduceAdd, Nat.reduceMul, Nat.reduceLeDiff, Int.reduceToNat, Int.reduceLE, Int.reduceLT, Int.reduceGT, Int.reduceGE, Int.reduceAdd, Int.reduceSub, Int.reduceNeg, Int.reduceBEq, Int.reduceBNe])) <;> (try (have hd_ : True := hd; clear hd_ hd)))
      refine fin_bA (by rw [ht, allZip_end (Nat.le_refl _) (by omega)])
  · refine fin_bA (by grind)
  · refine fin_bA (by grind)
/-- ref24.All -/
theorem rall_sound (t u : Tok) (a b : List Nod) (H : AHeap) (hl : a.length ≤ 1000000) (ha : ∀ n ∈ a, smallN n) : Sound Try.prog 24 [.sl t (rN a), .sl u (rN b)] H (Pure H (.b (decide (a = b)))) := by
  rw [← allZip_eq]
  refine fn_soundQ hE cf24 (Nat.le_of_ble_eq_true rfl) fun Q hQr hQn => ?_
  ((have hd := trivial; repeat' (first | ((first | refine GdK_st (fun hd => ?_) (fun hd => ?_) | refine GdK_sf (fun hd => ?_) (fun hd => ?_) | refine CondK_s (fun hd => ?_) (fun hd => ?_)) <;> (try simp only [hd])) | simp (disch := first | assumption | omega | (simp only [nx] <;> omega) | fail) only [hd, hQr, hQn, c24_0, ↓YA, YB, YC, YE, YF, YZ, ↓reduceIte, Nat.reduceEqDiff, Nat.reduceAdd, Nat.reduceMul, Nat.reduceLeDiff, Int.reduceToNat, Int.reduceLE, Int.reduceLT, Int.reduceGT, Int.reduceGE, Int.reduceAdd, Int.reduceSub, Int.reduceNeg, Int.reduceBEq, Int.reduceBNe])) <;> (try (have hd_ : True := hd; clear hd_ hd)))
  · refine fin_bA (by rw [allZip_ne (eqlen_ne hd)])
  · have hab := eqlen_eq hd
    generalize hT : allZip (fun x y => decide (x = y)) a b = T at *
    refine AW_for [0, 1, 12] (σ := Unit) (fun (k : Nat) s => T = allZip (fun x y => decide (x = y)) (a.drop k) (b.drop k)) (fun k s => []) (fun k s => []) () (GStep.refl _ _) (by simp only [keep_nil, keep_cons, Fr.get, ↓reduceIte, Nat.reduceEqDiff]; rfl) (by intro k s; rfl) (by intro k s; rfl) (by rfl) (by unfold maxLen; omega) ?_ (by simp only [FrL_nil]) (by simp only [ObjL_nil]) ?_ ?_
    · exact hT.symm
    · (rintro k s G hk ht hG hn; try simp only [nx] at hn)
      have hk2 : k < b.length := hab ▸ hk
      rw [allZip_drop hk hk2] at ht
      ((have hd := trivial; repeat' (first | ((first | refine GdK_st (fun hd => ?_) (fun hd => ?_) | refine GdK_sf (fun hd => ?_) (fun hd => ?_) | refine CondK_s (fun hd => ?_) (fun hd => ?_)) <;> (try simp only [hd])) | simp (disch := first | assumption | omega | (simp only [nx] <;> omega) | fail) only [hd, hQr, hQn, c24_0, ↓YA, YB, YC, YE, YF, YZ, ↓reduceIte, Nat.reduceEqDiff, Nat.reduceAdd, Nat.reduceMul, Nat.reduceLeDiff, Int.reduceToNat, Int.reduceLE, Int.reduceLT, Int.reduceGT, Int.reduceGE, Int.reduceAdd, Int.reduceSub, Int.reduceNeg, Int.reduceBEq, Int.reduceBNe])) <;> (try (have hd_ : True := hd; clear hd_ hd)))
      (refine CallK.use (rsame_sound .no .no a[k] b[k] _ (ha _ (List.getElem_mem hk))) ?_; rintro _ _ ⟨rfl, k1, rfl⟩)
      ((have hd := trivial; repeat' (first | ((first | refine GdK_st (fun hd => ?_) (fun hd => ?_) | refine GdK_sf (fun hd => ?_) (fun hd => ?_) | refine CondK_s (fun hd => ?_) (fun hd => ?_)) <;> (try simp only [hd])) | simp (disch := first | assumption | omega | (simp only [nx] <;> omega) | fail) only [hd, hQr, hQn, c24_0, ↓YA, YB, YC, YE, YF, YZ, ↓reduceIte, Nat.reduceEqDiff, Nat.reduceAdd, Nat.reduceMul, Nat.reduceLeDiff, Int.reduceToNat, Int.reduceLE, Int.reduceLT, Int.reduceGT, Int.reduceGE, Int.reduceAdd, Int.reduceSub, Int.reduceNeg, Int.reduceBEq, Int.reduceBNe])) <;> (try (have hd_ : True := hd; clear hd_ hd)))
      · refine fin_bA (by grind)
      · refine ⟨(), by grind, by exact HXT⟩
    · (rintro s G ht hG hn; try simp only [nx] at hn)
      ((have hd := trivial; repeat' (first | ((first | refine GdK_st (fun hd => ?_) (fun hd => ?_) | refine GdK_sf (fun hd => ?_) (fun hd => ?_) | refine CondK_s (fun hd => ?_) (fun hd => ?_)) <;> (try simp only [hd])) | simp (disch := first | assumption | omega | (simp only [nx] <;> omega) | fail) only [hd, hQr, hQn, c24_0, ↓YA, YB, YC, YE, YF, YZ, ↓reduceIte, Nat.reduceEqDiff, Nat.reduceAdd, Nat.reduceMul, Nat.reduceLeDiff, Int.reduceToNat, Int.reduceLE, Int.reduceLT, Int.reduceGT, Int.reduceGE, Int.reduceAdd, Int.reduceSub, Int.reduceNeg, Int.reduceBEq, Int.reduceBNe])) <;> (try (have hd_ : True := hd; clear hd_ hd)))
      refine fin_bA (by rw [ht, allZip_end (Nat.le_refl _) (by omega)])
end Go.Proofs.Ytgnpihhakogeeaa

namespace Go.Proofs.Ytgnpihhakogeeaa
set_option linter.unusedSimpArgs false
set_option linter.unusedVariables false
open Go.RowKit

theorem AV_i {a b : Int} (h : a = b) : AV.i a = AV.i b := by rw [h]
theorem AV_b {a b : Bool} (h : a = b) : AV.b a = AV.b b := by rw [h]
def FewNods (most : Nat) (l : List Nod) : Prop := l.length ≤ most ∧ ∀ n ∈ l, n.lists.length ≤ 10 ∧ n.lists.flatten.length ≤ 2000
def capC (ls : List (List Cel)) : Nat := (ls.map fun l => min l.length 10000).sum
theorem capC_le : ∀ (ls : List (List Cel)), capC ls ≤ ls.length * 10000
  | [] => by simp [capC]
  | l :: ls => by
    have := capC_le ls
    unfold capC at *
    rw [List.map_cons, List.sum_cons, List.length_cons]
    omega
theorem capC_flat : ∀ {ls : List (List Cel)}, capC ls ≤ 2000 → ls.flatten.length ≤ capC ls
  | [], _ => by simp
  | l :: ls, h => by
    have h' : capC (l :: ls) = min l.length 10000 + capC ls := by simp [capC]
    have := capC_flat (ls := ls) (by omega)
    rw [List.flatten_cons, List.length_append]
    omega
theorem capC_snoc {ls : List (List Cel)} {k : Nat} (h : k < ls.length) : capC (ls.take (k + 1)) = capC (ls.take k) + min ls[k].length 10000 := by
  unfold capC
  rw [List.take_succ_eq_append_getElem h, List.map_append, List.sum_append, List.map_singleton, List.sum_singleton]
def capN (l : List Nod) : Nat := (l.map fun n => capC n.lists).sum
theorem capN_snoc {l : List Nod} {k : Nat} (h : k < l.length) : capN (l.take (k + 1)) = capN (l.take k) + capC l[k].lists := by
  unfold capN
  rw [List.take_succ_eq_append_getElem h, List.map_append, List.sum_append, List.map_singleton, List.sum_singleton]
theorem capN_mem {l : List Nod} {n : Nod} (h : n ∈ l) : capC n.lists ≤ capN l := by
  induction l with
  | nil => cases h
  | cons m l ih =>
    have : capN (m :: l) = capC m.lists + capN l := by simp [capN]
    rcases List.mem_cons.1 h with rfl | h
    · omega
    · have := ih h; omega
def FewQ (most : Nat) (l : List Nod) (H : AHeap) (r : AV) (H' : AHeap) : Prop := HX [] H H' ∧ ∃ b, r = .b b ∧ (b = true → FewNods most l)
set_option maxHeartbeats 1000000 in
theorem few_sound (t : Tok) (l : List Nod) (most : Nat) (H : AHeap) (hm : most ≤ 1000) : Sound Try.prog 12 [.sl t (rN l), .i (most : Int)] H (FewQ most l H) := by
  refine fn_soundQ hE cf12 (Nat.le_of_ble_eq_true rfl) fun Q hQr hQn => ?_
  ((have hd := trivial; repeat' (first | ((first | refine GdK_st (fun hd => ?_) (fun hd => ?_) | refine GdK_sf (fun hd => ?_) (fun hd => ?_) | refine CondK_s (fun hd => ?_) (fun hd => ?_)) <;> (try simp only [hd])) | simp (disch := first | assumption | omega | (simp only [nx] <;> omega) | fail) only [hd, hQr, hQn, c12_0, ↓YA, YB, YC, YE, YF, YZ, ↓reduceIte, Nat.reduceEqDiff, Nat.reduceAdd, Nat.reduceMul, Nat.reduceLeDiff, Int.reduceToNat, Int.reduceLE, Int.reduceLT, Int.reduceGT, Int.reduceGE, Int.reduceAdd, Int.reduceSub, Int.reduceNeg, Int.reduceBEq, Int.reduceBNe])) <;> (try (have hd_ : True := hd; clear hd_ hd)))
  refine AW_lop [0, 1] (σ := Nat × Nat) (fun s => s.1 ≤ l.length ∧ s.1 ≤ most + 1 ∧ s.2 = capN (l.take s.1) ∧ s.2 ≤ s.1 * 110000 ∧ ∀ n ∈ l.take s.1, n.lists.length ≤ 10) (fun s => l.length - s.1) (fun s => [(5, .i (s.2 : Int)), (6, .i (s.1 : Int))]) (fun s => []) (0, 0) (GStep.refl _ _) (by simp only [keep_nil, keep_cons, Fr.get, ↓reduceIte, Nat.reduceEqDiff]; rfl) ?_ (by simp only [FrL_nil, FrL_cons, Fr.get, ↓reduceIte, Nat.reduceEqDiff, and_self] <;> simp) (by simp only [ObjL_nil]) ?_
  · refine ⟨by simp, by simp, rfl, by simp, by simp⟩
  · (rintro ⟨i, n⟩ G ⟨h1, h2, h3, h4, h5⟩ hG hn; try simp only [nx] at hn)
    simp only at h1 h2 h3 h4 h5
    have hend : decide ((l.length : Int) ≤ (most : Int)) = true → decide ((n : Int) ≤ 2000) = true → (i = l.length) → FewNods most l := by
      intro e1 e2 e3
      simp at e1 e2
      subst e3
      rw [List.take_length] at h3 h5
      exact ⟨e1, fun m hm => ⟨h5 m hm, by have := capN_mem hm; have := capC_flat (ls := m.lists) (by omega); omega⟩⟩
    by_cases hi : i < l.length
    · have d1 : decide ((i : Int) < (l.length : Int)) = true := by simp; omega
      by_cases hi2 : i ≤ most
      · have d2 : decide ((i : Int) ≤ (most : Int)) = true := by simp; omega
        ((have hd := trivial; repeat' (first | ((first | refine GdK_st (fun hd => ?_) (fun hd => ?_) | refine GdK_sf (fun hd => ?_) (fun hd => ?_) | refine CondK_s (fun hd => ?_) (fun hd => ?_)) <;> (try simp only [hd])) | simp (disch := first | assumption | omega | (simp only [nx] <;> omega) | fail) only [hd, hQr, hQn, c12_0, ↓YA, YB, YC, YE, YF, YZ, ↓reduceIte, Nat.reduceEqDiff, Nat.reduceAdd, Nat.reduceMul, Nat.reduceLeDiff, Int.reduceToNat, Int.reduceLE, Int.reduceLT, Int.reduceGT, Int.reduceGE, Int.reduceAdd, Int.reduceSub, Int.reduceNeg, Int.reduceBEq, Int.reduceBNe, d1, d2])) <;> (try (have hd_ : True := hd; clear hd_ hd)))
        refine AW_lop [0, 1, 6] (σ := Nat × Nat) (fun s => s.1 ≤ l[i].lists.length ∧ s.1 ≤ 11 ∧ s.2 = n + capC (l[i].lists.take s.1)) (fun s => l[i].lists.length - s.1) (fun s => [(5, .i (s.2 : Int)), (7, .i (s.1 : Int))]) (fun s => []) (0, n) (GStep.refl _ _) (by simp only [keep_nil, keep_cons, Fr.get, ↓reduceIte, Nat.reduceEqDiff]; rfl) ?_ (by simp only [FrL_nil, FrL_cons, Fr.get, ↓reduceIte, Nat.reduceEqDiff, and_self] <;> simp) (by simp only [ObjL_nil]) ?_
        · refine ⟨by simp, by simp, rfl⟩
        · (rintro ⟨k, m⟩ G2 ⟨g1, g2, g3⟩ hG2 hn2; try simp only [nx] at hn2)
          simp only at g1 g2 g3
          have hcl := capC_le (l[i].lists.take k)
          rw [List.length_take] at hcl
          have hw1 : (k : Int) + 1 < 9223372036854775808 := by omega
          by_cases hk : k < l[i].lists.length
          · have e1 : decide ((k : Int) < (l[i].lists.length : Int)) = true := by simp; omega
            by_cases hk2 : k ≤ 10
            · have e2 : decide ((k : Int) ≤ 10) = true := by simp; omega
              have hmin : (if (10000 : Int) < (l[i].lists[k].length : Int) then (10000 : Int) else (l[i].lists[k].length : Int)) = ((min l[i].lists[k].length 10000 : Nat) : Int) := by split <;> omega
              ((have hd := trivial; repeat' (first | ((first | refine GdK_st (fun hd => ?_) (fun hd => ?_) | refine GdK_sf (fun hd => ?_) (fun hd => ?_) | refine CondK_s (fun hd => ?_) (fun hd => ?_)) <;> (try simp only [hd])) | simp (disch := first | assumption | omega | (simp only [nx] <;> omega) | fail) only [hd, hQr, hQn, c12_0, ↓YA, YB, YC, YE, YF, YZ, ↓reduceIte, Nat.reduceEqDiff, Nat.reduceAdd, Nat.reduceMul, Nat.reduceLeDiff, Int.reduceToNat, Int.reduceLE, Int.reduceLT, Int.reduceGT, Int.reduceGE, Int.reduceAdd, Int.reduceSub, Int.reduceNeg, Int.reduceBEq, Int.reduceBNe, e1, e2, hmin])) <;> (try (have hd_ : True := hd; clear hd_ hd)))
              refine ⟨(k + 1, m + min l[i].lists[k].length 10000), ⟨hk, by omega, ?_⟩, by simp only; omega, ⟨AV_i (by push_cast; rfl), AV_i (by push_cast; rfl)⟩, by exact HXT⟩
              rw [capC_snoc hk]; simp only; omega
            · have e2 : decide ((k : Int) ≤ 10) = false := by simp; omega
              have e3 : decide ((l[i].lists.length : Int) > 10) = true := by simp; omega
              ((have hd := trivial; repeat' (first | ((first | refine GdK_st (fun hd => ?_) (fun hd => ?_) | refine GdK_sf (fun hd => ?_) (fun hd => ?_) | refine CondK_s (fun hd => ?_) (fun hd => ?_)) <;> (try simp only [hd])) | simp (disch := first | assumption | omega | (simp only [nx] <;> omega) | fail) only [hd, hQr, hQn, c12_0, ↓YA, YB, YC, YE, YF, YZ, ↓reduceIte, Nat.reduceEqDiff, Nat.reduceAdd, Nat.reduceMul, Nat.reduceLeDiff, Int.reduceToNat, Int.reduceLE, Int.reduceLT, Int.reduceGT, Int.reduceGE, Int.reduceAdd, Int.reduceSub, Int.reduceNeg, Int.reduceBEq, Int.reduceBNe, e1, e2, e3])) <;> (try (have hd_ : True := hd; clear hd_ hd)))
              exact fin_keep ⟨hG.trans0 hG2, false, rfl, by simp⟩
          · have e1 : decide ((k : Int) < (l[i].lists.length : Int)) = false := by simp; omega
            obtain rfl : k = l[i].lists.length := by omega
            rw [List.take_length] at g3
            ((have hd := trivial; repeat' (first | ((first | refine GdK_st (fun hd => ?_) (fun hd => ?_) | refine GdK_sf (fun hd => ?_) (fun hd => ?_) | refine CondK_s (fun hd => ?_) (fun hd => ?_)) <;> (try simp only [hd])) | simp (disch := first | assumption | omega | (simp only [nx] <;> omega) | fail) only [hd, hQr, hQn, c12_0, ↓YA, YB, YC, YE, YF, YZ, ↓reduceIte, Nat.reduceEqDiff, Nat.reduceAdd, Nat.reduceMul, Nat.reduceLeDiff, Int.reduceToNat, Int.reduceLE, Int.reduceLT, Int.reduceGT, Int.reduceGE, Int.reduceAdd, Int.reduceSub, Int.reduceNeg, Int.reduceBEq, Int.reduceBNe, e1])) <;> (try (have hd_ : True := hd; clear hd_ hd)))
            · exact fin_keep ⟨hG.trans0 hG2, false, rfl, by simp⟩
            · have hle : l[i].lists.length ≤ 10 := by simp at hd; omega
              refine ⟨(i + 1, m), ⟨hi, by simp only; omega, ?_, ?_, ?_⟩, by simp only; omega, ⟨rfl, AV_i (by push_cast; rfl)⟩, hG.trans0 hG2⟩
              · rw [capN_snoc hi]; simp only; omega
              · have := capC_le l[i].lists
                simp only; omega
              · intro x hx
                simp only [List.take_succ_eq_append_getElem hi, List.mem_append, List.mem_singleton] at hx
                rcases hx with hx | rfl
                · exact h5 x hx
                · exact hle
      · have d2 : decide ((i : Int) ≤ (most : Int)) = false := by simp; omega
        have d3 : decide ((l.length : Int) ≤ (most : Int)) = false := by simp; omega
        ((have hd := trivial; repeat' (first | ((first | refine GdK_st (fun hd => ?_) (fun hd => ?_) | refine GdK_sf (fun hd => ?_) (fun hd => ?_) | refine CondK_s (fun hd => ?_) (fun hd => ?_)) <;> (try simp only [hd])) | simp (disch := first | assumption | omega | (simp only [nx] <;> omega) | fail) only [hd, hQr, hQn, c12_0, ↓YA, YB, YC, YE, YF, YZ, ↓reduceIte, Nat.reduceEqDiff, Nat.reduceAdd, Nat.reduceMul, Nat.reduceLeDiff, Int.reduceToNat, Int.reduceLE, Int.reduceLT, Int.reduceGT, Int.reduceGE, Int.reduceAdd, Int.reduceSub, Int.reduceNeg, Int.reduceBEq, Int.reduceBNe, d1, d2, d3])) <;> (try (have hd_ : True := hd; clear hd_ hd)))
        exact fin_keep ⟨hG, false, rfl, by simp⟩
    · have d1 : decide ((i : Int) < (l.length : Int)) = false := by simp; omega
      obtain rfl : i = l.length := by omega
      ((have hd := trivial; repeat' (first | ((first | refine GdK_st (fun hd => ?_) (fun hd => ?_) | refine GdK_sf (fun hd => ?_) (fun hd => ?_) | refine CondK_s (fun hd => ?_) (fun hd => ?_)) <;> (try simp only [hd])) | simp (disch := first | assumption | omega | (simp only [nx] <;> omega) | fail) only [hd, hQr, hQn, c12_0, ↓YA, YB, YC, YE, YF, YZ, ↓reduceIte, Nat.reduceEqDiff, Nat.reduceAdd, Nat.reduceMul, Nat.reduceLeDiff, Int.reduceToNat, Int.reduceLE, Int.reduceLT, Int.reduceGT, Int.reduceGE, Int.reduceAdd, Int.reduceSub, Int.reduceNeg, Int.reduceBEq, Int.reduceBNe, d1])) <;> (try (have hd_ : True := hd; clear hd_ hd)))
      · refine fin_keep ⟨hG, _, rfl, fun e => hend hd e rfl⟩
      · exact fin_keep ⟨hG, false, rfl, by simp⟩
end Go.Proofs.Ytgnpihhakogeeaa

namespace Go.Proofs.Ytgnpihhakogeeaa
set_option linter.unusedSimpArgs false
set_option linter.unusedVariables false
open Go.RowKit

structure Wk (w a b m : Nat) (x : Shp) (l k : List Nod) (M : List ((Int × Int) × Int)) (H : AHeap) : Prop where
  gw : H.get w = some (.cells [.ptr a 0, .ptr b 0, .mp m] 94)
  ga : ArA H a x l
  gb : ArA H b x k
  gm : H.get m = some (.map (.row [.int .i64, .int .i64]) (eMap k2 AV.i M) false)
  one : ∀ p v, aGet p M = some v → v = 1
  nw : w ≠ m
  na : a ≠ m
  nb : b ≠ m
theorem ArA.extB {m : Nat} {H H' : AHeap} {id : Nat} {x : Shp} {l : List Nod} (h : ArA H id x l) (hx : ExtB m H H') (hn : id ≠ m) : ArA H' id x l := by
  obtain ⟨tok, nt, most, h⟩ := h
  exact ⟨tok, nt, most, hx.get _ _ hn h⟩
theorem Wk.ext {w a b m : Nat} {x : Shp} {l k : List Nod} {M : List ((Int × Int) × Int)} {H H' : AHeap} (h : Wk w a b m x l k M H) (hx : AHeap.Ext H H') : Wk w a b m x l k M H' :=
  ⟨hx.get _ _ h.gw, h.ga.ext hx, h.gb.ext hx, hx.get _ _ h.gm, h.one, h.nw, h.na, h.nb⟩
def has (M : List ((Int × Int) × Int)) (p : Int × Int) : Prop := (aGet p M).isSome = true
def tails (l : List Cel) : List (Int × Ag) := l.map fun c => (c.key, c.agg)
def locT (p q : Nod) : Bool := decide (p.dim = q.dim) && (decide (p.lists.map List.length = q.lists.map List.length) && decide (tails (each p) = tails (each q)))
def chl (x : Shp) (p q : Nod) : List (Int × Int) := if lastB x p.dim = true then [] else ((each p).map Cel.child).zip ((each q).map Cel.child)
def toldF (x : Shp) (l k : List Nod) : Nat → Int × Int → Bool
  | 0, _ => false
  | f + 1, p => locT (nodAt l p.1) (nodAt k p.2) && (chl x (nodAt l p.1) (nodAt k p.2)).all fun q => toldF x l k f q
/-- a pair that tells the same at hand, and whose pairs below were all met -/
def good (x : Shp) (l k : List Nod) (M : List ((Int × Int) × Int)) (p : Int × Int) : Prop := locT (nodAt l p.1) (nodAt k p.2) = true ∧ ∀ q ∈ chl x (nodAt l p.1) (nodAt k p.2), has M q
structure Grow (x : Shp) (l k : List Nod) (M M' : List ((Int × Int) × Int)) : Prop where
  sub : ∀ p, has M p → has M' p
  new : ∀ p, has M' p → has M p ∨ good x l k M' p
theorem good.mono {x : Shp} {l k : List Nod} {M M' : List ((Int × Int) × Int)} {p : Int × Int} (h : good x l k M p) (hs : ∀ p, has M p → has M' p) : good x l k M' p := ⟨h.1, fun q hq => hs q (h.2 q hq)⟩
theorem Grow.refl (x : Shp) (l k : List Nod) (M : List ((Int × Int) × Int)) : Grow x l k M M := ⟨fun _ h => h, fun _ h => .inl h⟩
theorem Grow.trans {x : Shp} {l k : List Nod} {M M' M'' : List ((Int × Int) × Int)} (h : Grow x l k M M') (g : Grow x l k M' M'') : Grow x l k M M'' := ⟨fun p hp => g.sub p (h.sub p hp), fun p hp => by
  rcases g.new p hp with h1 | h1
  · rcases h.new p h1 with h2 | h2
    · exact .inl h2
    · exact .inr (h2.mono g.sub)
  · exact .inr h1⟩
def WalkQ (w a b m : Nat) (x : Shp) (l k : List Nod) (M : List ((Int × Int) × Int)) (p : Int × Int) (H : AHeap) (r : AV) (H' : AHeap) : Prop := ExtB m H H' ∧
  ((r = .b true ∧ ∃ M', Wk w a b m x l k M' H' ∧ Grow x l k M M' ∧ has M' p) ∨ (r = .b false ∧ ∀ f, toldF x l k f p = false))
theorem lens_sound (t u : Tok) (p q : List Cel) (H : AHeap) : Sound Try.prog 87 [.sl t (rC p), .sl u (rC q)] H (Pure H (.b (decide (p.length = q.length)))) := by
  refine fn_soundQ hE cf87 (Nat.le_of_ble_eq_true rfl) fun Q hQr hQn => ?_
  ((have hd := trivial; repeat' (first | ((first | refine GdK_st (fun hd => ?_) (fun hd => ?_) | refine GdK_sf (fun hd => ?_) (fun hd => ?_) | refine CondK_s (fun hd => ?_) (fun hd => ?_)) <;> (try simp only [hd])) | simp (disch := first | assumption | omega | (simp only [nx] <;> omega) | fail) only [hd, hQr, hQn, c87_0, ↓YA, YB, YC, YE, YF, YZ, ↓reduceIte, Nat.reduceEqDiff, Nat.reduceAdd, Nat.reduceMul, Nat.reduceLeDiff, Int.reduceToNat, Int.reduceLE, Int.reduceLT, Int.reduceGT, Int.reduceGE, Int.reduceAdd, Int.reduceSub, Int.reduceNeg, Int.reduceBEq, Int.reduceBNe])) <;> (try (have hd_ : True := hd; clear hd_ hd)))
  refine fin_bA (by rw [Bool.eq_iff_iff]; simp; omega)
theorem allZip_len {l m : List (List Cel)} : allZip (fun a b => decide (a.length = b.length)) l m = decide (l.map List.length = m.map List.length) := by
  induction l generalizing m with
  | nil => cases m <;> simp [allZip]
  | cons a l ih => cases m with
    | nil => simp [allZip]
    | cons b m => rw [Bool.eq_iff_iff]; simp [allZip, ih]
theorem ExtB.lt {m i : Nat} {H H' : AHeap} (h : ExtB m H H') (hi : i < H.next) : i < H'.next := Nat.lt_of_lt_of_le hi h.next
/-- what two cells' test tells -/
def CelQ (w a b m : Nat) (x : Shp) (l k : List Nod) (last : Bool) (M : List ((Int × Int) × Int)) (p q : Cel) (H : AHeap) (r : AV) (H' : AHeap) : Prop := ExtB m H H' ∧
  ((r = .b true ∧ p.key = q.key ∧ p.agg = q.agg ∧ ∃ M', Wk w a b m x l k M' H' ∧ Grow x l k M M' ∧ (last = false → has M' (p.child, q.child))) ∨
   (r = .b false ∧ (p.key = q.key → p.agg = q.agg → last = false ∧ ∀ f, toldF x l k f (p.child, q.child) = false)))
section
variable {w a b m : Nat} {x : Shp} {l k : List Nod} {M : List ((Int × Int) × Int)} {H : AHeap}
set_option maxHeartbeats 1000000 in
theorem cel_step {il iw : Nat} {last : Bool} (p q : Cel) (hW : Wk w a b m x l k M H) (hl : H.get il = some (.cells [.b last] 4)) (hw : H.get iw = some (.cells [.ptr w 0] 91))
    (IH : last = false → ∀ G, Wk w a b m x l k M G → Sound Try.prog 57 [.ptr w 0, .agg [.i p.child, .i q.child]] G (WalkQ w a b m x l k M (p.child, q.child) G)) :
    Sound Try.prog 105 ([] ++ [.agg (eCel p), .agg (eCel q)] ++ [.ptr il 0, .ptr iw 0]) H (CelQ w a b m x l k last M p q H) := by
  refine fn_soundQ hE cf105 (Nat.le_of_ble_eq_true rfl) fun Q hQr hQn => ?_
  have l1 := AHeap.lt hl
  have l2 := AHeap.lt hw
  cases last with
  | true =>
    ((have hd := trivial; repeat' (first | ((first | refine GdK_st (fun hd => ?_) (fun hd => ?_) | refine GdK_sf (fun hd => ?_) (fun hd => ?_) | refine CondK_s (fun hd => ?_) (fun hd => ?_)) <;> (try simp only [hd])) | simp (disch := first | assumption | omega | (simp only [nx] <;> omega) | fail) only [hd, hQr, hQn, c105_0, ↓YA, YB, YC, YE, YF, YZ, ↓reduceIte, Nat.reduceEqDiff, Nat.reduceAdd, Nat.reduceMul, Nat.reduceLeDiff, Int.reduceToNat, Int.reduceLE, Int.reduceLT, Int.reduceGT, Int.reduceGE, Int.reduceAdd, Int.reduceSub, Int.reduceNeg, Int.reduceBEq, Int.reduceBNe, hl, hw])) <;> (try (have hd_ : True := hd; clear hd_ hd)))
    · exact fin_keep ⟨.of (by exact AXT), .inr ⟨rfl, fun e1 e2 => by simp [e1, e2] at hd⟩⟩
    · rename_i hd2
      simp at hd hd2
      exact fin_keep ⟨.of (by exact AXT), .inl ⟨rfl, by first | exact hd | exact hd2, by first | exact hd | exact hd2, M, hW.ext (by exact AXT), .refl _ _ _ _, by simp⟩⟩
    · exact fin_keep ⟨.of (by exact AXT), .inr ⟨rfl, fun e1 e2 => by simp [e1, e2] at hd⟩⟩
  | false =>
    ((have hd := trivial; repeat' (first | ((first | refine GdK_st (fun hd => ?_) (fun hd => ?_) | refine GdK_sf (fun hd => ?_) (fun hd => ?_) | refine CondK_s (fun hd => ?_) (fun hd => ?_)) <;> (try simp only [hd])) | simp (disch := first | assumption | omega | (simp only [nx] <;> omega) | fail) only [hd, hQr, hQn, c105_0, ↓YA, YB, YC, YE, YF, YZ, ↓reduceIte, Nat.reduceEqDiff, Nat.reduceAdd, Nat.reduceMul, Nat.reduceLeDiff, Int.reduceToNat, Int.reduceLE, Int.reduceLT, Int.reduceGT, Int.reduceGE, Int.reduceAdd, Int.reduceSub, Int.reduceNeg, Int.reduceBEq, Int.reduceBNe, hl, hw])) <;> (try (have hd_ : True := hd; clear hd_ hd)))
    · exact fin_keep ⟨.of (by exact AXT), .inr ⟨rfl, fun e1 e2 => by simp [e1, e2] at hd⟩⟩
    · rename_i hd2
      simp at hd hd2
      have hx : AHeap.Ext H ((H.alloc (.cells (eCel p) 43)).alloc (.cells (eCel q) 43)) := by exact AXT
      refine CallK.use (IH rfl _ (hW.ext hx)) ?_
      rintro r G ⟨hB, ⟨rfl, M', hW', hG, hh⟩ | ⟨rfl, hf⟩⟩
      · ((have hd := trivial; repeat' (first | ((first | refine GdK_st (fun hd => ?_) (fun hd => ?_) | refine GdK_sf (fun hd => ?_) (fun hd => ?_) | refine CondK_s (fun hd => ?_) (fun hd => ?_)) <;> (try simp only [hd])) | simp (disch := first | assumption | omega | (simp only [nx] <;> omega) | fail) only [hd, hQr, hQn, c105_0, ↓YA, YB, YC, YE, YF, YZ, ↓reduceIte, Nat.reduceEqDiff, Nat.reduceAdd, Nat.reduceMul, Nat.reduceLeDiff, Int.reduceToNat, Int.reduceLE, Int.reduceLT, Int.reduceGT, Int.reduceGE, Int.reduceAdd, Int.reduceSub, Int.reduceNeg, Int.reduceBEq, Int.reduceBNe])) <;> (try (have hd_ : True := hd; clear hd_ hd)))
        exact fin_keep ⟨(ExtB.of hx).trans hB, .inl ⟨rfl, by first | exact hd | exact hd2, by first | exact hd | exact hd2, M', hW', hG, fun _ => hh⟩⟩
      · ((have hd := trivial; repeat' (first | ((first | refine GdK_st (fun hd => ?_) (fun hd => ?_) | refine GdK_sf (fun hd => ?_) (fun hd => ?_) | refine CondK_s (fun hd => ?_) (fun hd => ?_)) <;> (try simp only [hd])) | simp (disch := first | assumption | omega | (simp only [nx] <;> omega) | fail) only [hd, hQr, hQn, c105_0, ↓YA, YB, YC, YE, YF, YZ, ↓reduceIte, Nat.reduceEqDiff, Nat.reduceAdd, Nat.reduceMul, Nat.reduceLeDiff, Int.reduceToNat, Int.reduceLE, Int.reduceLT, Int.reduceGT, Int.reduceGE, Int.reduceAdd, Int.reduceSub, Int.reduceNeg, Int.reduceBEq, Int.reduceBNe])) <;> (try (have hd_ : True := hd; clear hd_ hd)))
        exact fin_keep ⟨(ExtB.of hx).trans hB, .inr ⟨rfl, fun _ _ => ⟨rfl, hf⟩⟩⟩
    · exact fin_keep ⟨.of (by exact AXT), .inr ⟨rfl, fun e1 e2 => by simp [e1, e2] at hd⟩⟩
def CellsQ (w a b m : Nat) (x : Shp) (l k : List Nod) (last : Bool) (M : List ((Int × Int) × Int)) (p q : List Cel) (H : AHeap) (r : AV) (H' : AHeap) : Prop := ExtB m H H' ∧
  ((r = .b true ∧ tails p = tails q ∧ ∃ M', Wk w a b m x l k M' H' ∧ Grow x l k M M' ∧ (last = false → ∀ e ∈ (p.map Cel.child).zip (q.map Cel.child), has M' e)) ∨
   (r = .b false ∧ (tails p = tails q → last = false ∧ ∃ e ∈ (p.map Cel.child).zip (q.map Cel.child), ∀ f, toldF x l k f e = false)))
structure CelJ (w a b m il iw : Nat) (x : Shp) (l k : List Nod) (last : Bool) (M : List ((Int × Int) × Int)) (p q : List Cel) (H : AHeap) (n : Nat) (G : AHeap) : Prop where
  ext : ExtB m H G
  hl : G.get il = some (.cells [.b last] 4)
  hw : G.get iw = some (.cells [.ptr w 0] 91)
  ex : ∃ M', Wk w a b m x l k M' G ∧ Grow x l k M M' ∧ (∀ j (h1 : j < p.length) (h2 : j < q.length), j < n → p[j].key = q[j].key ∧ p[j].agg = q[j].agg ∧ (last = false → has M' (p[j].child, q[j].child)))
set_option maxHeartbeats 1000000 in
theorem cells_step {last : Bool} (t u : Tok) (p q : List Cel) (hp : p.length ≤ 1000000) (hW : Wk w a b m x l k M H)
    (IH : last = false → ∀ e ∈ (p.map Cel.child).zip (q.map Cel.child), ∀ M G, Wk w a b m x l k M G → Sound Try.prog 57 [.ptr w 0, .agg [.i e.1, .i e.2]] G (WalkQ w a b m x l k M e G)) :
    Sound Try.prog 86 [.ptr w 0, .b last, .sl t (rC p), .sl u (rC q)] H (CellsQ w a b m x l k last M p q H) := by
  refine fn_soundQ hE cf86 (Nat.le_of_ble_eq_true rfl) fun Q hQr hQn => ?_
  have hx : AHeap.Ext H ((H.alloc (.cells [.ptr w 0] 91)).alloc (.cells [.b last] 4)) := by exact AXT
  have hlm := AHeap.lt hW.gm
  ((have hd := trivial; repeat' (first | ((first | refine GdK_st (fun hd => ?_) (fun hd => ?_) | refine GdK_sf (fun hd => ?_) (fun hd => ?_) | refine CondK_s (fun hd => ?_) (fun hd => ?_)) <;> (try simp only [hd])) | simp (disch := first | assumption | omega | (simp only [nx] <;> omega) | fail) only [hd, hQr, hQn, c86_0, ↓YA, YB, YC, YE, YF, YZ, ↓reduceIte, Nat.reduceEqDiff, Nat.reduceAdd, Nat.reduceMul, Nat.reduceLeDiff, Int.reduceToNat, Int.reduceLE, Int.reduceLT, Int.reduceGT, Int.reduceGE, Int.reduceAdd, Int.reduceSub, Int.reduceNeg, Int.reduceBEq, Int.reduceBNe])) <;> (try (have hd_ : True := hd; clear hd_ hd)))
  have hf := eqf_cells (f := 105) (first := []) (caps := [.ptr (H.next + 1) 0, .ptr H.next 0]) (Rf := fun G => ExtB m H G ∧ (tails p = tails q → last = false ∧ ∃ e ∈ (p.map Cel.child).zip (q.map Cel.child), ∀ f, toldF x l k f e = false))
    (CelJ w a b m (H.next + 1) H.next x l k last M p q H) (fun n G G' h hx => ⟨h.ext.trans (.of hx.ext), hx.ext.get _ _ h.hl, hx.ext.get _ _ h.hw, by
      obtain ⟨M', h1, h2⟩ := h.ex
      exact ⟨M', h1.ext hx.ext, h2⟩⟩) t u p q ((H.alloc (.cells [.ptr w 0] 91)).alloc (.cells [.b last] 4)) hp
    ⟨.of hx, AHeap.get_alloc_self (H := H.alloc _), by rw [AHeap.get_alloc_ne (by simp)]; exact AHeap.get_alloc_self, M, hW.ext hx, .refl _ _ _ _, fun j _ _ h => by omega⟩
    (fun hne => ⟨.of hx, fun e => absurd (by simpa [tails] using congrArg List.length e) hne⟩)
    (fun n h1 h2 G hJ => by
      obtain ⟨M', hW', hG, hall⟩ := hJ.ex
      have hz : (p[n].child, q[n].child) ∈ (p.map Cel.child).zip (q.map Cel.child) := by
        refine List.mem_iff_getElem.2 ⟨n, by simp; omega, by simp⟩
      refine (cel_step p[n] q[n] hW' hJ.hl hJ.hw (fun e G hG => IH e _ hz M' G hG)).mono ?_
      rintro r G' ⟨hB, ⟨rfl, e1, e2, M2, hW2, hG2, hh⟩ | ⟨rfl, hf⟩⟩
      · refine .inl ⟨rfl, hJ.ext.trans hB, hB.get _ _ (by omega) hJ.hl, hB.get _ _ (by omega) hJ.hw, M2, hW2, hG.trans hG2, fun j g1 g2 hj => ?_⟩
        rcases Nat.lt_or_ge j n with h | h
        · obtain ⟨a1, a2, a3⟩ := hall j g1 g2 h
          exact ⟨a1, a2, fun e => hG2.sub _ (a3 e)⟩
        · obtain rfl : j = n := by omega
          exact ⟨e1, e2, hh⟩
      · refine .inr ⟨rfl, hJ.ext.trans hB, fun e => ?_⟩
        have hk : (tails p)[n]'(by simp [tails]; omega) = (tails q)[n]'(by simp [tails]; omega) := by simp only [e]
        simp only [tails, List.getElem_map, Prod.mk.injEq] at hk
        obtain ⟨f1, f2⟩ := hf hk.1 hk.2
        exact ⟨f1, _, hz, f2⟩)
  refine CallK.use hf ?_
  rintro r G (⟨rfl, hlen, hJ⟩ | ⟨rfl, hB, hr⟩)
  · ((have hd := trivial; repeat' (first | ((first | refine GdK_st (fun hd => ?_) (fun hd => ?_) | refine GdK_sf (fun hd => ?_) (fun hd => ?_) | refine CondK_s (fun hd => ?_) (fun hd => ?_)) <;> (try simp only [hd])) | simp (disch := first | assumption | omega | (simp only [nx] <;> omega) | fail) only [hd, hQr, hQn, c86_0, ↓YA, YB, YC, YE, YF, YZ, ↓reduceIte, Nat.reduceEqDiff, Nat.reduceAdd, Nat.reduceMul, Nat.reduceLeDiff, Int.reduceToNat, Int.reduceLE, Int.reduceLT, Int.reduceGT, Int.reduceGE, Int.reduceAdd, Int.reduceSub, Int.reduceNeg, Int.reduceBEq, Int.reduceBNe])) <;> (try (have hd_ : True := hd; clear hd_ hd)))
    obtain ⟨M', hW', hG, hall⟩ := hJ.ex
    refine fin_keep ⟨hJ.ext, .inl ⟨rfl, ?_, M', hW', hG, fun e z hz => ?_⟩⟩
    · refine List.ext_getElem (by simpa [tails] using hlen) fun j h1 h2 => ?_
      simp only [tails, List.length_map] at h1 h2
      simp only [tails, List.getElem_map, Prod.mk.injEq]
      exact ⟨(hall j h1 h2 h1).1, (hall j h1 h2 h1).2.1⟩
    · obtain ⟨j, hj, rfl⟩ := List.mem_iff_getElem.1 hz
      simp only [List.length_zip, List.length_map] at hj
      simp only [List.getElem_zip, List.getElem_map]
      exact (hall j (by omega) (by omega) (by omega)).2.2 e
  · ((have hd := trivial; repeat' (first | ((first | refine GdK_st (fun hd => ?_) (fun hd => ?_) | refine GdK_sf (fun hd => ?_) (fun hd => ?_) | refine CondK_s (fun hd => ?_) (fun hd => ?_)) <;> (try simp only [hd])) | simp (disch := first | assumption | omega | (simp only [nx] <;> omega) | fail) only [hd, hQr, hQn, c86_0, ↓YA, YB, YC, YE, YF, YZ, ↓reduceIte, Nat.reduceEqDiff, Nat.reduceAdd, Nat.reduceMul, Nat.reduceLeDiff, Int.reduceToNat, Int.reduceLE, Int.reduceLT, Int.reduceGT, Int.reduceGE, Int.reduceAdd, Int.reduceSub, Int.reduceNeg, Int.reduceBEq, Int.reduceBNe])) <;> (try (have hd_ : True := hd; clear hd_ hd)))
    exact fin_keep ⟨hB, .inr ⟨rfl, hr⟩⟩
end
theorem nodAt_small {l : List Nod} (i : Int) (h : ∀ n ∈ l, smallN n) : smallN (nodAt l i) := by
  have h0 : smallN ⟨0, [], ⟨0, 0, ⟨0, 0, 0, 0, 0, 0, 0, 0, 0, 0⟩⟩⟩ := by unfold smallN; simp
  unfold nodAt
  split
  · cases he : l[i.toNat]? with
    | none => exact h0
    | some n => exact h n (List.mem_of_getElem? he)
  · exact h0
set_option maxHeartbeats 4000000 in
theorem walk_step {w a b m : Nat} {x : Shp} {l k : List Nod} {M : List ((Int × Int) × Int)} {H : AHeap} (p : Int × Int) (hW : Wk w a b m x l k M H)
    (hx : 1 ≤ x.sizes.length) (hx2 : x.sizes.length ≤ 1000) (hm : shpMay x = true) (hn : ∀ n ∈ l, smallN n) (hk : ∀ n ∈ k, smallN n)
    (IH : ∀ e ∈ chl x (nodAt l p.1) (nodAt k p.2), ∀ M G, Wk w a b m x l k M G → Sound Try.prog 57 [.ptr w 0, .agg [.i e.1, .i e.2]] G (WalkQ w a b m x l k M e G)) :
    Sound Try.prog 57 [.ptr w 0, .agg [.i p.1, .i p.2]] H (WalkQ w a b m x l k M p H) := by
  obtain ⟨i, j⟩ := p
  refine fn_soundQ hE cf57 (Nat.le_of_ble_eq_true rfl) fun Q hQr hQn => ?_
  obtain ⟨h1, h2, h3, h4, h5, n1, n2, n3⟩ := hW
  have l1 := AHeap.lt h1
  have l4 := AHeap.lt h4
  have hf := mFind_map (vf := AV.i) k2_eq (i, j) M
  cases hg : aGet (i, j) M with
  | some v =>
    obtain rfl := h5 _ _ hg
    rw [hg] at hf
    ((have hd := trivial; repeat' (first | ((first | refine GdK_st (fun hd => ?_) (fun hd => ?_) | refine GdK_sf (fun hd => ?_) (fun hd => ?_) | refine CondK_s (fun hd => ?_) (fun hd => ?_)) <;> (try simp only [hd])) | simp (disch := first | assumption | omega | (simp only [nx] <;> omega) | fail) only [hd, hQr, hQn, c57_0, ↓YA, YB, YC, YE, YF, YZ, ↓reduceIte, Nat.reduceEqDiff, Nat.reduceAdd, Nat.reduceMul, Nat.reduceLeDiff, Int.reduceToNat, Int.reduceLE, Int.reduceLT, Int.reduceGT, Int.reduceGE, Int.reduceAdd, Int.reduceSub, Int.reduceNeg, Int.reduceBEq, Int.reduceBNe, h1, h4, k2_of, hf])) <;> (try (have hd_ : True := hd; clear hd_ hd)))
    refine fin_keep ⟨.of (by exact AXT), .inl ⟨rfl, M, Wk.ext ⟨h1, h2, h3, h4, h5, n1, n2, n3⟩ (by exact AXT), .refl _ _ _ _, by unfold has; rw [hg]; rfl⟩⟩
  | none =>
    rw [hg] at hf
    have hs0 := mSet_map (vf := AV.i) k2_eq (i, j) 0 M
    have hf1 := mFind_map (vf := AV.i) k2_eq (i, j) (aSet (i, j) 0 M)
    have hs1 := mSet_map (vf := AV.i) k2_eq (i, j) 1 (aSet (i, j) 0 M)
    rw [aGet_same] at hf1
    rw [aSet_set] at hs1
    have hw1 : Wk w a b m x l k (aSet (i, j) 1 M) (((H.alloc (.cells [.i i, .i j] 97)).set m (.map (.row [.int .i64, .int .i64]) (eMap k2 AV.i (aSet (i, j) 0 M)) false)).set m (.map (.row [.int .i64, .int .i64]) (eMap k2 AV.i (aSet (i, j) 1 M)) false)) := by
      have hx1 : ExtB m H (((H.alloc (.cells [.i i, .i j] 97)).set m (.map (.row [.int .i64, .int .i64]) (eMap k2 AV.i (aSet (i, j) 0 M)) false)).set m (.map (.row [.int .i64, .int .i64]) (eMap k2 AV.i (aSet (i, j) 1 M)) false)) := (ExtB.refl m H).alloc.set.set
      refine ⟨hx1.get _ _ n1 h1, h2.extB hx1 n2, h3.extB hx1 n3, AHeap.get_set_self (by simp; omega), fun p v hp => ?_, n1, n2, n3⟩
      rw [aGet_set] at hp
      split at hp
      · injection hp with hp; exact hp.symm
      · exact h5 p v hp
    have hb : (((H.alloc (.cells [.i i, .i j] 97)).set m (.map (.row [.int .i64, .int .i64]) (eMap k2 AV.i (aSet (i, j) 0 M)) false)).set m (.map (.row [.int .i64, .int .i64]) (eMap k2 AV.i (aSet (i, j) 1 M)) false)).get H.next = some (.cells [.i i, .i j] 97) := by
      rw [AHeap.get_set_ne (by omega), AHeap.get_set_ne (by omega)]; exact AHeap.get_alloc_self
    have hB : ExtB m H (((H.alloc (.cells [.i i, .i j] 97)).set m (.map (.row [.int .i64, .int .i64]) (eMap k2 AV.i (aSet (i, j) 0 M)) false)).set m (.map (.row [.int .i64, .int .i64]) (eMap k2 AV.i (aSet (i, j) 1 M)) false)) := (ExtB.refl m H).alloc.set.set
    ((have hd := trivial; repeat' (first | ((first | refine GdK_st (fun hd => ?_) (fun hd => ?_) | refine GdK_sf (fun hd => ?_) (fun hd => ?_) | refine CondK_s (fun hd => ?_) (fun hd => ?_)) <;> (try simp only [hd])) | simp (disch := first | assumption | omega | (simp only [nx] <;> omega) | fail) only [hd, hQr, hQn, c57_0, ↓YA, YB, YC, YE, YF, YZ, ↓reduceIte, Nat.reduceEqDiff, Nat.reduceAdd, Nat.reduceMul, Nat.reduceLeDiff, Int.reduceToNat, Int.reduceLE, Int.reduceLT, Int.reduceGT, Int.reduceGE, Int.reduceAdd, Int.reduceSub, Int.reduceNeg, Int.reduceBEq, Int.reduceBNe, h1, h4, k2_of, hf, hs0, hf1, hs1])) <;> (try (have hd_ : True := hd; clear hd_ hd)))
    generalize ((H.alloc (.cells [.i i, .i j] 97)).set m (.map (.row [.int .i64, .int .i64]) (eMap k2 AV.i (aSet (i, j) 0 M)) false)).set m (.map (.row [.int .i64, .int .i64]) (eMap k2 AV.i (aSet (i, j) 1 M)) false) = G at *
    refine CallK.use (anode_sound i hw1.ga hx hn) ?_
    rintro r G1 ⟨hx1, t1, rfl⟩
    have a1 := hx1.get _ _ hw1.gw
    have a2 := hx1.get _ _ hb
    have b1 := AHeap.lt a1
    have b2 := AHeap.lt a2
    ((have hd := trivial; repeat' (first | ((first | refine GdK_st (fun hd => ?_) (fun hd => ?_) | refine GdK_sf (fun hd => ?_) (fun hd => ?_) | refine CondK_s (fun hd => ?_) (fun hd => ?_)) <;> (try simp only [hd])) | simp (disch := first | assumption | omega | (simp only [nx] <;> omega) | fail) only [hd, hQr, hQn, c57_0, ↓YA, YB, YC, YE, YF, YZ, ↓reduceIte, Nat.reduceEqDiff, Nat.reduceAdd, Nat.reduceMul, Nat.reduceLeDiff, Int.reduceToNat, Int.reduceLE, Int.reduceLT, Int.reduceGT, Int.reduceGE, Int.reduceAdd, Int.reduceSub, Int.reduceNeg, Int.reduceBEq, Int.reduceBNe, a1, a2])) <;> (try (have hd_ : True := hd; clear hd_ hd)))
    have hw2 := hw1.ext (hx1.trans (AHeap.Ext.alloc (AHeap.Ext.refl G1) (o := .cells (eNod t1 (nodAt l i)) 45)))
    refine CallK.use (anode_sound j hw2.gb hx hk) ?_
    rintro r G2 ⟨hx2', t2, rfl⟩
    have hXs := nodAt_small i hn
    have hYs := nodAt_small j hk
    have hT0 : ∀ f, toldF x l k f (i, j) = true → locT (nodAt l i) (nodAt k j) = true ∧ ∃ g, ∀ e ∈ chl x (nodAt l i) (nodAt k j), toldF x l k g e = true := by
      intro f hf
      cases f with
      | zero => cases hf
      | succ f =>
        simp only [toldF, Bool.and_eq_true, List.all_eq_true] at hf
        exact ⟨hf.1, f, hf.2⟩
    have hloc : locT (nodAt l i) (nodAt k j) = (decide ((nodAt l i).dim = (nodAt k j).dim) && (decide ((nodAt l i).lists.map List.length = (nodAt k j).lists.map List.length) && decide (tails (each (nodAt l i)) = tails (each (nodAt k j))))) := rfl
    have hchl : chl x (nodAt l i) (nodAt k j) = if lastB x (nodAt l i).dim = true then [] else ((each (nodAt l i)).map Cel.child).zip ((each (nodAt k j)).map Cel.child) := rfl
    simp only at IH
    have a3 := hx2'.get _ _ (AHeap.get_alloc_self (H := G1))
    generalize hXe : nodAt l i = X at *
    generalize hYe : nodAt k j = Y at *
    have a4 := (hw2.ext hx2').gw
    have b3 := AHeap.lt a3
    have b4 := AHeap.lt a4
    have hE2 : AHeap.Ext G G2 := (hx1.trans (AHeap.Ext.refl G1).alloc).trans hx2'
    have nope : ∀ G', AHeap.Ext G G' → locT X Y = false → WalkQ w a b m x l k M (i, j) H (.b false) G' := fun G' hx hl => ⟨hB.trans (.of hx), .inr ⟨rfl, fun f => by
      cases h : toldF x l k f (i, j) with
      | false => rfl
      | true => have := (hT0 f h).1; rw [hl] at this; cases this⟩⟩
    ((have hd := trivial; repeat' (first | ((first | refine GdK_st (fun hd => ?_) (fun hd => ?_) | refine GdK_sf (fun hd => ?_) (fun hd => ?_) | refine CondK_s (fun hd => ?_) (fun hd => ?_)) <;> (try simp only [hd])) | simp (disch := first | assumption | omega | (simp only [nx] <;> omega) | fail) only [hd, hQr, hQn, c57_0, ↓YA, YB, YC, YE, YF, YZ, ↓reduceIte, Nat.reduceEqDiff, Nat.reduceAdd, Nat.reduceMul, Nat.reduceLeDiff, Int.reduceToNat, Int.reduceLE, Int.reduceLT, Int.reduceGT, Int.reduceGE, Int.reduceAdd, Int.reduceSub, Int.reduceNeg, Int.reduceBEq, Int.reduceBNe, a3])) <;> (try (have hd_ : True := hd; clear hd_ hd)))
    · refine fin_keep (nope _ (hE2.trans (by exact AXT)) ?_)
      rw [hloc]
      have : ¬ X.lists.map List.length = Y.lists.map List.length := fun e => eqlen_ne hd (by simpa using congrArg List.length e)
      simp [this]
    · rename_i hd1
      have hXd : X.dim = Y.dim := by simpa using hd1
      have hw3 := (hw2.ext hx2').ext (AHeap.Ext.alloc (AHeap.Ext.refl G2) (o := .cells (eNod t2 Y) 45))
      have a5 := hw3.gw
      ((have hd := trivial; repeat' (first | ((first | refine GdK_st (fun hd => ?_) (fun hd => ?_) | refine GdK_sf (fun hd => ?_) (fun hd => ?_) | refine CondK_s (fun hd => ?_) (fun hd => ?_)) <;> (try simp only [hd])) | simp (disch := first | assumption | omega | (simp only [nx] <;> omega) | fail) only [hd, hQr, hQn, c57_0, ↓YA, YB, YC, YE, YF, YZ, ↓reduceIte, Nat.reduceEqDiff, Nat.reduceAdd, Nat.reduceMul, Nat.reduceLeDiff, Int.reduceToNat, Int.reduceLE, Int.reduceLT, Int.reduceGT, Int.reduceGE, Int.reduceAdd, Int.reduceSub, Int.reduceNeg, Int.reduceBEq, Int.reduceBNe, a3, a4])) <;> (try (have hd_ : True := hd; clear hd_ hd)))
      obtain ⟨tk, nt, mo, hga⟩ := hw3.ga
      refine CallK.use (shape_yes hga hm) ?_
      rintro r G3 ⟨hx3, t3, rfl⟩
      have c1 := hx3.get _ _ (AHeap.get_alloc_self (H := G2))
      have c2 := hx3.get _ _ ((AHeap.Ext.refl G2).alloc.get _ _ a3)
      have e1 := AHeap.lt c1
      have e2 := AHeap.lt c2
      have hw4 := hw3.ext hx3
      have hE3 : AHeap.Ext G G3 := (hE2.trans (AHeap.Ext.refl G2).alloc).trans hx3
      ((have hd := trivial; repeat' (first | ((first | refine GdK_st (fun hd => ?_) (fun hd => ?_) | refine GdK_sf (fun hd => ?_) (fun hd => ?_) | refine CondK_s (fun hd => ?_) (fun hd => ?_)) <;> (try simp only [hd])) | simp (disch := first | assumption | omega | (simp only [nx] <;> omega) | fail) only [hd, hQr, hQn, c57_0, ↓YA, YB, YC, YE, YF, YZ, ↓reduceIte, Nat.reduceEqDiff, Nat.reduceAdd, Nat.reduceMul, Nat.reduceLeDiff, Int.reduceToNat, Int.reduceLE, Int.reduceLT, Int.reduceGT, Int.reduceGE, Int.reduceAdd, Int.reduceSub, Int.reduceNeg, Int.reduceBEq, Int.reduceBNe, c1, c2])) <;> (try (have hd_ : True := hd; clear hd_ hd)))
      (refine CallK.use (last_sound t3 x X.dim _ (by omega)) ?_; rintro _ _ ⟨rfl, q1, rfl⟩)
      ((have hd := trivial; repeat' (first | ((first | refine GdK_st (fun hd => ?_) (fun hd => ?_) | refine GdK_sf (fun hd => ?_) (fun hd => ?_) | refine CondK_s (fun hd => ?_) (fun hd => ?_)) <;> (try simp only [hd])) | simp (disch := first | assumption | omega | (simp only [nx] <;> omega) | fail) only [hd, hQr, hQn, c57_0, ↓YA, YB, YC, YE, YF, YZ, ↓reduceIte, Nat.reduceEqDiff, Nat.reduceAdd, Nat.reduceMul, Nat.reduceLeDiff, Int.reduceToNat, Int.reduceLE, Int.reduceLT, Int.reduceGT, Int.reduceGE, Int.reduceAdd, Int.reduceSub, Int.reduceNeg, Int.reduceBEq, Int.reduceBNe, c1, c2])) <;> (try (have hd_ : True := hd; clear hd_ hd)))
      (refine CallK.use (each_sound t1 X _ hXs.1 (by have := hXs.2.1; omega)) ?_; rintro _ _ ⟨rfl, q2, rfl⟩)
      ((have hd := trivial; repeat' (first | ((first | refine GdK_st (fun hd => ?_) (fun hd => ?_) | refine GdK_sf (fun hd => ?_) (fun hd => ?_) | refine CondK_s (fun hd => ?_) (fun hd => ?_)) <;> (try simp only [hd])) | simp (disch := first | assumption | omega | (simp only [nx] <;> omega) | fail) only [hd, hQr, hQn, c57_0, ↓YA, YB, YC, YE, YF, YZ, ↓reduceIte, Nat.reduceEqDiff, Nat.reduceAdd, Nat.reduceMul, Nat.reduceLeDiff, Int.reduceToNat, Int.reduceLE, Int.reduceLT, Int.reduceGT, Int.reduceGE, Int.reduceAdd, Int.reduceSub, Int.reduceNeg, Int.reduceBEq, Int.reduceBNe, c1, c2])) <;> (try (have hd_ : True := hd; clear hd_ hd)))
      (refine CallK.use (each_sound t2 Y _ hYs.1 (by have := hYs.2.1; omega)) ?_; rintro _ _ ⟨rfl, q3, rfl⟩)
      ((have hd := trivial; repeat' (first | ((first | refine GdK_st (fun hd => ?_) (fun hd => ?_) | refine GdK_sf (fun hd => ?_) (fun hd => ?_) | refine CondK_s (fun hd => ?_) (fun hd => ?_)) <;> (try simp only [hd])) | simp (disch := first | assumption | omega | (simp only [nx] <;> omega) | fail) only [hd, hQr, hQn, c57_0, ↓YA, YB, YC, YE, YF, YZ, ↓reduceIte, Nat.reduceEqDiff, Nat.reduceAdd, Nat.reduceMul, Nat.reduceLeDiff, Int.reduceToNat, Int.reduceLE, Int.reduceLT, Int.reduceGT, Int.reduceGE, Int.reduceAdd, Int.reduceSub, Int.reduceNeg, Int.reduceBEq, Int.reduceBNe, c1, c2])) <;> (try (have hd_ : True := hd; clear hd_ hd)))
      refine CallK.use (cells_step .no .no (each X) (each Y) (each_len hXs) (hw4.ext (by exact AXT)) (fun hl e he M G hM => IH e (by rw [hchl, hl]; exact he) M G hM)) ?_
      rintro r G4 ⟨hB4, ⟨rfl, ht, M', hW', hG', hh⟩ | ⟨rfl, hr⟩⟩
      · have c3 := hB4.get _ _ (by have := AHeap.lt hw1.gm; have := hE2.next; omega) c1
        have c4 := hB4.get _ _ (by have := AHeap.lt hw1.gm; have := hx1.next; omega) c2
        ((have hd := trivial; repeat' (first | ((first | refine GdK_st (fun hd => ?_) (fun hd => ?_) | refine GdK_sf (fun hd => ?_) (fun hd => ?_) | refine CondK_s (fun hd => ?_) (fun hd => ?_)) <;> (try simp only [hd])) | simp (disch := first | assumption | omega | (simp only [nx] <;> omega) | fail) only [hd, hQr, hQn, c57_0, ↓YA, YB, YC, YE, YF, YZ, ↓reduceIte, Nat.reduceEqDiff, Nat.reduceAdd, Nat.reduceMul, Nat.reduceLeDiff, Int.reduceToNat, Int.reduceLE, Int.reduceLT, Int.reduceGT, Int.reduceGE, Int.reduceAdd, Int.reduceSub, Int.reduceNeg, Int.reduceBEq, Int.reduceBNe, c3, c4])) <;> (try (have hd_ : True := hd; clear hd_ hd)))
        (refine CallK.use (eqf_lists (e := fun a b => decide (a.length = b.length)) t1 t2 X.lists Y.lists _ hXs.1 (fun p hp q G => lens_sound .no .no p q G)) ?_; rintro _ _ ⟨rfl, q4, rfl⟩)
        ((have hd := trivial; repeat' (first | ((first | refine GdK_st (fun hd => ?_) (fun hd => ?_) | refine GdK_sf (fun hd => ?_) (fun hd => ?_) | refine CondK_s (fun hd => ?_) (fun hd => ?_)) <;> (try simp only [hd])) | simp (disch := first | assumption | omega | (simp only [nx] <;> omega) | fail) only [hd, hQr, hQn, c57_0, ↓YA, YB, YC, YE, YF, YZ, ↓reduceIte, Nat.reduceEqDiff, Nat.reduceAdd, Nat.reduceMul, Nat.reduceLeDiff, Int.reduceToNat, Int.reduceLE, Int.reduceLT, Int.reduceGT, Int.reduceGE, Int.reduceAdd, Int.reduceSub, Int.reduceNeg, Int.reduceBEq, Int.reduceBNe])) <;> (try (have hd_ : True := hd; clear hd_ hd)))
        rw [allZip_len]
        have hBB : ExtB m H (G4.bump q4) := (hB.trans (.of hE3)).trans ((ExtB.bump (ExtB.bump (ExtB.bump (ExtB.refl m G3)))).trans hB4).bump
        cases hlen : decide (X.lists.map List.length = Y.lists.map List.length) with
        | false =>
          refine fin_keep ⟨hBB, .inr ⟨rfl, fun f => ?_⟩⟩
          cases h : toldF x l k f (i, j) with
          | false => rfl
          | true => have := (hT0 f h).1; rw [hloc, hlen] at this; simp at this
        | true =>
          have hlocT : locT X Y = true := by rw [hloc, hlen, hXd, ht]; simp
          refine fin_keep ⟨hBB, .inl ⟨rfl, M', hW'.ext (by exact AXT), ⟨fun p hp => hG'.sub p ?_, fun p hp => ?_⟩, hG'.sub _ (by unfold has; rw [aGet_same]; rfl)⟩⟩
          · unfold has at hp ⊢
            rw [aGet_set]; split <;> simp [hp]
          · rcases hG'.new p hp with h | h
            · unfold has at h
              rw [aGet_set] at h
              split at h
              · rename_i e
                subst e
                refine .inr ⟨by simp only [hXe, hYe]; exact hlocT, fun e he => ?_⟩
                simp only [hXe, hYe] at he
                rw [hchl] at he
                cases hl : lastB x X.dim with
                | true => rw [hl] at he; cases he
                | false => rw [hl] at he; exact hh hl e he
              · exact .inl h
            · exact .inr h
      · ((have hd := trivial; repeat' (first | ((first | refine GdK_st (fun hd => ?_) (fun hd => ?_) | refine GdK_sf (fun hd => ?_) (fun hd => ?_) | refine CondK_s (fun hd => ?_) (fun hd => ?_)) <;> (try simp only [hd])) | simp (disch := first | assumption | omega | (simp only [nx] <;> omega) | fail) only [hd, hQr, hQn, c57_0, ↓YA, YB, YC, YE, YF, YZ, ↓reduceIte, Nat.reduceEqDiff, Nat.reduceAdd, Nat.reduceMul, Nat.reduceLeDiff, Int.reduceToNat, Int.reduceLE, Int.reduceLT, Int.reduceGT, Int.reduceGE, Int.reduceAdd, Int.reduceSub, Int.reduceNeg, Int.reduceBEq, Int.reduceBNe])) <;> (try (have hd_ : True := hd; clear hd_ hd)))
        refine fin_keep ⟨(hB.trans (.of hE3)).trans ((ExtB.bump (ExtB.bump (ExtB.bump (ExtB.refl m G3)))).trans hB4), .inr ⟨rfl, fun f => ?_⟩⟩
        cases h : toldF x l k f (i, j) with
        | false => rfl
        | true =>
          obtain ⟨g1, g, g2⟩ := hT0 f h
          rw [hloc] at g1
          simp only [Bool.and_eq_true, decide_eq_true_eq] at g1
          obtain ⟨f1, e, he, f2⟩ := hr g1.2.2
          have := g2 e (by rw [hchl, f1]; exact he)
          rw [f2 g] at this; cases this
    · refine fin_keep (nope _ (hE2.trans (by exact AXT)) ?_)
      rw [hloc]
      have : ¬ X.dim = Y.dim := by simpa using hd
      simp [this]
/-- a node leads to earlier ones -/
def Down (x : Shp) (l : List Nod) : Prop := ∀ i : Nat, i < l.length → lastB x (nodAt l i).dim = false → ∀ c ∈ each (nodAt l i), 0 ≤ c.child ∧ c.child < i
theorem chl_down {x : Shp} {l k : List Nod} (h : Down x l) {i j : Int} (hi : 0 ≤ i) (hi2 : i < l.length) {e : Int × Int} (he : e ∈ chl x (nodAt l i) (nodAt k j)) : 0 ≤ e.1 ∧ e.1 < i := by
  unfold chl at he
  split at he
  · cases he
  · rename_i hl
    obtain ⟨n, rfl⟩ : ∃ n : Nat, i = n := ⟨i.toNat, by omega⟩
    have hm := (List.of_mem_zip (a := e.1) (b := e.2) he).1
    obtain ⟨c, hc, he1⟩ := List.mem_map.1 hm
    rw [← he1]
    exact h n (by omega) (by simpa using hl) c hc
theorem walk_sound {w a b m : Nat} {x : Shp} {l k : List Nod} (hx : 1 ≤ x.sizes.length) (hx2 : x.sizes.length ≤ 1000) (hm : shpMay x = true) (hn : ∀ n ∈ l, smallN n) (hk : ∀ n ∈ k, smallN n) (hd : Down x l) :
    ∀ n : Nat, ∀ p : Int × Int, 0 ≤ p.1 → p.1 < l.length → p.1 < n → ∀ M H, Wk w a b m x l k M H → Sound Try.prog 57 [.ptr w 0, .agg [.i p.1, .i p.2]] H (WalkQ w a b m x l k M p H)
  | 0, p, h1, h2, h3, M, H, hW => by omega
  | n + 1, p, h1, h2, h3, M, H, hW => walk_step p hW hx hx2 hm hn hk fun e he M G hG => by
    have := chl_down hd h1 h2 he
    exact walk_sound hx hx2 hm hn hk hd n e this.1 (by omega) (by omega) M G hG
/-- pairs that are all good tell the same -/
theorem told_good {x : Shp} {l k : List Nod} {M : List ((Int × Int) × Int)} (hd : Down x l) (hg : ∀ p, has M p → good x l k M p) : ∀ n : Nat, ∀ p : Int × Int, 0 ≤ p.1 → p.1 < l.length → p.1 < n → has M p → toldF x l k n p = true
  | 0, p, h1, h2, h3, hp => by omega
  | n + 1, p, h1, h2, h3, hp => by
    have h := hg p hp
    simp only [toldF, Bool.and_eq_true, List.all_eq_true]
    refine ⟨h.1, fun e he => ?_⟩
    have := chl_down hd h1 h2 he
    exact told_good hd hg n e this.1 (by omega) (by omega) (h.2 e he)
end Go.Proofs.Ytgnpihhakogeeaa
