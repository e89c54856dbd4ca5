/- Texts of the walk, joined: Gn Go Gp Gq. -/
import Derived.Test.YtafbdhoaoileiaaMi
import Derived.Test.YtafbdhoaoileiaaMd
namespace Go.Proofs.Ytafbdhoaoileiaa
set_option linter.unusedSimpArgs false
set_option linter.unusedVariables false
open Go.RowKit
def rowsM (M : Tbl) : List Fct := (keyS M).filterMap fun s => aGet s M
def rowsK (M : Tbl) (k : Nat) : List Fct := ((keyS M).take k).filterMap fun s => aGet s M
@[simp] theorem rowsK_zero (M : Tbl) : rowsK M 0 = [] := by simp [rowsK]
theorem rowsK_all (M : Tbl) : rowsK M (keyS M).length = rowsM M := by rw [rowsK, List.take_length, rowsM]
theorem aGet_mem : ∀ {M : Tbl} {s : List UInt8}, s ∈ M.map (·.1) → ∃ f, aGet s M = some f ∧ (s, f) ∈ M
 | [], s, h => by simp at h
 | (t, f) :: M, s, h => by
  by_cases e : s = t
  ·subst e; exact ⟨f, by simp [aGet], by simp⟩
  ·have : s ∈ M.map (·.1) := by simpa [e] using h
   obtain ⟨g, h1, h2⟩ := aGet_mem this
   exact ⟨g, by simp [aGet, e, h1], List.mem_cons_of_mem _ h2⟩
theorem keyS_mem {M : Tbl} {s : List UInt8} : s ∈ keyS M ↔ s ∈ M.map (·.1) := (List.mergeSort_perm _ _).mem_iff
theorem keyS_len (M : Tbl) : (keyS M).length = M.length := by rw [keyS, List.length_mergeSort, List.length_map]
theorem rowsK_step {M : Tbl} {k : Nat} (h : k < (keyS M).length) : ∃ f, aGet (keyS M)[k] M = some f ∧ ((keyS M)[k], f) ∈ M ∧ rowsK M (k + 1) = rowsK M k ++ [f] := by
 obtain ⟨f, h1, h2⟩ := aGet_mem (keyS_mem.1 (List.getElem_mem h))
 refine ⟨f, h1, h2, ?_⟩
 rw [rowsK, List.take_succ_eq_append_getElem h, List.filterMap_append, rowsK]
 congr 1
 simp [h1]
theorem rowsK_len {M : Tbl} : ∀ k, k ≤ (keyS M).length → (rowsK M k).length = k
 | 0, _ => by simp
 | k + 1, h => by
  obtain ⟨f, _, _, e⟩ := rowsK_step (M := M) (k := k) (by omega)
  rw [e, List.length_append, rowsK_len k (by omega)]; rfl
theorem keys_sound (v : AV) (hv : (∃ mid, v = .mp mid) ∨ v = .sc (.map none)) (H : AHeap) : Sound Try.prog 22 [v] H fun r H' => r = .fn 31 [] [.ptr H.next 0] ∧ H' = H.alloc (.cells [v] 46) := by
 rcases hv with ⟨mid, rfl⟩ | rfl
 ·refine fn_soundQ hE cf22 (Nat.le_of_ble_eq_true rfl) fun Q hQr hQn => ?_
  ((have hd := trivial; repeat' (first | ((first | apply GdK_st | apply GdK_sf | apply CondK_s) <;> intro hd <;> (try simp only [hd])) | simp (disch := first | assumption | omega | (simp only [nx] <;> omega) | fail) only [hd, hQr, hQn, c22_0, ↓YA, YB, YC, YE, YF, YZ, ↓reduceIte, Nat.reduceEqDiff, Nat.reduceAdd, Nat.reduceMul, Nat.reduceLeDiff, Int.reduceToNat, Int.reduceLE, Int.reduceLT, Int.reduceGT, Int.reduceGE, Int.reduceAdd, Int.reduceSub, Int.reduceNeg, Int.reduceBEq, Int.reduceBNe])) <;> (try (have hd_ : True := hd; clear hd_ hd)))
  exact fin_keep ⟨rfl, rfl⟩
 ·refine fn_soundQ hE cf22 (Nat.le_of_ble_eq_true rfl) fun Q hQr hQn => ?_
  ((have hd := trivial; repeat' (first | ((first | apply GdK_st | apply GdK_sf | apply CondK_s) <;> intro hd <;> (try simp only [hd])) | simp (disch := first | assumption | omega | (simp only [nx] <;> omega) | fail) only [hd, hQr, hQn, c22_0, ↓YA, YB, YC, YE, YF, YZ, ↓reduceIte, Nat.reduceEqDiff, Nat.reduceAdd, Nat.reduceMul, Nat.reduceLeDiff, Int.reduceToNat, Int.reduceLE, Int.reduceLT, Int.reduceGT, Int.reduceGE, Int.reduceAdd, Int.reduceSub, Int.reduceNeg, Int.reduceBEq, Int.reduceBNe])) <;> (try (have hd_ : True := hd; clear hd_ hd)))
  exact fin_keep ⟨rfl, rfl⟩
set_option maxHeartbeats 4000000 in
theorem rows_tab {id mid : Nat} {w m : Int} {M : Tbl} {H : AHeap} (hg : H.get id = some (tab w m mid)) (hm : H.get mid = some (eTbl M)) (hlen : M.length ≤ 1000000) (hk : ∀ p ∈ M, p.1.length ≤ 1000) (hnd : (M.map (·.1)).Nodup) (hl : ∀ p ∈ M, p.2.1.length ≤ 16) :
  Sound Try.prog 12 [.ptr id 0] H (Pure H (.sl .no (rF (rowsM M)))) := by
 have l1 := AHeap.lt hg
 have l2 := AHeap.lt hm
 have hK := fun H => keys_sound (.mp mid) (.inl ⟨_, rfl⟩) H
 have hS : ∀ G : AHeap, AHeap.Ext H G → Sound Try.prog 21 [.fn 31 [] [.ptr G.next 0]] (G.alloc (.cells [.mp mid] 46)) fun r H' => r = .sl .no (rS (keyS M)) ∧ H' = G.alloc (.cells [.mp mid] 46) := fun G hG =>
  sorted_sound AHeap.get_alloc_self ((hG.alloc).get _ _ hm) hlen hk hnd
 have hkl := keyS_len M
 refine fn_soundQ hE cf12 (Nat.le_of_ble_eq_true rfl) fun Q hQr hQn => ?_
 ((have hd := trivial; repeat' (first | ((first | apply GdK_st | apply GdK_sf | apply CondK_s) <;> intro hd <;> (try simp only [hd])) | simp (disch := first | assumption | omega | (simp only [nx] <;> omega) | fail) only [hd, hQr, hQn, c12_0, ↓YA, YB, YC, YE, YF, YZ, ↓reduceIte, Nat.reduceEqDiff, Nat.reduceAdd, Nat.reduceMul, Nat.reduceLeDiff, Int.reduceToNat, Int.reduceLE, Int.reduceLT, Int.reduceGT, Int.reduceGE, Int.reduceAdd, Int.reduceSub, Int.reduceNeg, Int.reduceBEq, Int.reduceBNe, hg])) <;> (try (have hd_ : True := hd; clear hd_ hd)))
 refine CallK.use (hK _) ?_
 rintro _ _ ⟨rfl, rfl⟩
 ((have hd := trivial; repeat' (first | ((first | apply GdK_st | apply GdK_sf | apply CondK_s) <;> intro hd <;> (try simp only [hd])) | simp (disch := first | assumption | omega | (simp only [nx] <;> omega) | fail) only [hd, hQr, hQn, c12_0, ↓YA, YB, YC, YE, YF, YZ, ↓reduceIte, Nat.reduceEqDiff, Nat.reduceAdd, Nat.reduceMul, Nat.reduceLeDiff, Int.reduceToNat, Int.reduceLE, Int.reduceLT, Int.reduceGT, Int.reduceGE, Int.reduceAdd, Int.reduceSub, Int.reduceNeg, Int.reduceBEq, Int.reduceBNe])) <;> (try (have hd_ : True := hd; clear hd_ hd)))
 refine CallK.use (hS _ (.refl _)) ?_
 rintro _ _ ⟨rfl, rfl⟩
 ((have hd := trivial; repeat' (first | ((first | apply GdK_st | apply GdK_sf | apply CondK_s) <;> intro hd <;> (try simp only [hd])) | simp (disch := first | assumption | omega | (simp only [nx] <;> omega) | fail) only [hd, hQr, hQn, c12_0, ↓YA, YB, YC, YE, YF, YZ, ↓reduceIte, Nat.reduceEqDiff, Nat.reduceAdd, Nat.reduceMul, Nat.reduceLeDiff, Int.reduceToNat, Int.reduceLE, Int.reduceLT, Int.reduceGT, Int.reduceGE, Int.reduceAdd, Int.reduceSub, Int.reduceNeg, Int.reduceBEq, Int.reduceBNe, List.length_map])) <;> (try (have hd_ : True := hd; clear hd_ hd)))
 have hx0 : AHeap.Ext H (H.alloc (.cells [.mp mid] 46)) := (AHeap.Ext.refl _).alloc
 generalize H.alloc (.cells [.mp mid] 46) = G0 at *
 have g1 := hx0.get _ _ hg
 have g2 := hx0.get _ _ hm
 have l3 := AHeap.lt g1
 have l4 := AHeap.lt g2
 refine AW_for [0, 14, 15] (σ := Unit) (fun (k : Nat) s => True) (fun k s => [(3, .sl (.own G0.next) (rF (rowsK M k)))]) (fun k s => [(G0.next, .tok k 38 11)]) () (GStep.tok 3 38 11 rfl) (by simp only [keep_nil, keep_cons, Fr.put, Fr.get, ↓reduceIte, Nat.reduceEqDiff]; rfl) (by intro k s; rfl) (by intro k s; rfl) (by rfl) (by unfold maxLen; omega) ?_ (by simp only [FrL_nil, FrL_cons, Fr.put, Fr.get, ↓reduceIte, Nat.reduceEqDiff, and_self] <;> simp) ?_ ?_ ?_
 ·trivial
 ·rw [ObjL_cons]
  exact ⟨AHeap.get_alloc_self (H := G0), by simp [ObjL]⟩
 ·(rintro k s G hk1 ht hG hn1; try simp only [nx] at hn1)
  have e1 : G.get id = some (tab w m mid) := (hG.g id (by simp only [nx]; omega) (by simp; omega)).trans ((AHeap.get_alloc_lt l3).trans g1)
  have e2 : G.get mid = some (eTbl M) := (hG.g mid (by simp only [nx]; omega) (by simp; omega)).trans ((AHeap.get_alloc_lt l4).trans g2)
  have e3 : G.get G0.next = some (.tok k 38 11) := hG.o (_, _) (List.mem_singleton.2 rfl)
  have m1 := AHeap.lt e1
  have m2 := AHeap.lt e2
  have m3 := AHeap.lt e3
  obtain ⟨f, hf1, hf2, hf3⟩ := rowsK_step hk1
  have hkl2 := rowsK_len (M := M) k (by omega)
  have hfind := mFind_map (vf := eF) kS_eq (keyS M)[k] M
  rw [hf1] at hfind
  simp only [Option.map_some] at hfind
  have hof := kS_of (keyS M)[k]
  have hcl := fun H => clone_sound .no f.1 H (Nat.le_trans (hl _ hf2) (by omega))
  have hgs : ∀ h : k < (keyS M).length, (keyS M)[k]'h = (keyS M)[k] := fun _ => rfl
  have a1 := allLen_rF (rowsK M k)
  have a2 : allLen 11 [AV.sl Tok.no (rI f.1) :: eAg f.2] = true := rfl
  have n1 : k + 1 ≤ maxLen := by unfold maxLen; omega
  have n2 : (k + 1) * 104 ≤ 140737488355328 := by omega
  generalize hsk : (keyS M)[k] = s at *
  ((have hd := trivial; repeat' (first | ((first | apply GdK_st | apply GdK_sf | apply CondK_s) <;> intro hd <;> (try simp only [hd])) | simp (disch := first | assumption | omega | (simp only [nx] <;> omega) | fail) only [hd, hQr, hQn, c12_0, ↓YA, YB, YC, YE, YF, YZ, ↓reduceIte, Nat.reduceEqDiff, Nat.reduceAdd, Nat.reduceMul, Nat.reduceLeDiff, Int.reduceToNat, Int.reduceLE, Int.reduceLT, Int.reduceGT, Int.reduceGE, Int.reduceAdd, Int.reduceSub, Int.reduceNeg, Int.reduceBEq, Int.reduceBNe, hk1, hsk, e1, e2, e3, hof, hfind, eFct])) <;> (try (have hd_ : True := hd; clear hd_ hd)))
  (refine CallK.use (hcl _) ?_; rintro _ _ ⟨rfl, k1, rfl⟩)
  ((have hd := trivial; repeat' (first | ((first | apply GdK_st | apply GdK_sf | apply CondK_s) <;> intro hd <;> (try simp only [hd])) | simp (disch := first | assumption | omega | (simp only [nx] <;> omega) | fail) only [hd, hQr, hQn, c12_0, ↓YA, YB, YC, YE, YF, YZ, ↓reduceIte, Nat.reduceEqDiff, Nat.reduceAdd, Nat.reduceMul, Nat.reduceLeDiff, Int.reduceToNat, Int.reduceLE, Int.reduceLT, Int.reduceGT, Int.reduceGE, Int.reduceAdd, Int.reduceSub, Int.reduceNeg, Int.reduceBEq, Int.reduceBNe, hk1, hsk, e1, e2, e3, hof, hfind, a1, a2, n1, n2, hkl2])) <;> (try (have hd_ : True := hd; clear hd_ hd)))
  exact ⟨(), congrArg (AV.sl _) (show rF (rowsK M k) ++ [eFct f] = _ by rw [hf3, rF, rF, List.map_append]; rfl), hG.alloc.bump.put⟩
 ·(rintro s G ht hG hn1; try simp only [nx] at hn1)
  have hall := rowsK_all M
  ((have hd := trivial; repeat' (first | ((first | apply GdK_st | apply GdK_sf | apply CondK_s) <;> intro hd <;> (try simp only [hd])) | simp (disch := first | assumption | omega | (simp only [nx] <;> omega) | fail) only [hd, hQr, hQn, c12_0, ↓YA, YB, YC, YE, YF, YZ, ↓reduceIte, Nat.reduceEqDiff, Nat.reduceAdd, Nat.reduceMul, Nat.reduceLeDiff, Int.reduceToNat, Int.reduceLE, Int.reduceLT, Int.reduceGT, Int.reduceGE, Int.reduceAdd, Int.reduceSub, Int.reduceNeg, Int.reduceBEq, Int.reduceBNe])) <;> (try (have hd_ : True := hd; clear hd_ hd)))
  refine fin_pA (by rw [hall]; rfl) (hx0.trans ?_)
  exact hG.extO (AHeap.Ext.refl _).alloc (by simp)
open Go.Maps Go.Sort Go.Shelf in
def ag1 (n : Int) : Ag := ⟨n, 0, 0, 0, 0, 0, 0, 0, 0, 0⟩
theorem ag1_in {n : Int} (h : In64 n) : AgIn (ag1 n) := ⟨h, show In64 0 by decide, show In64 0 by decide, show In64 0 by decide⟩
theorem aw_put1 : putM 0 9 [] [] (ag1 1) = ([([], ([], ag1 1))], 0) := rfl
theorem aw_put2 : putM 0 9 [([], ([], ag1 1))] [] (ag1 2) = ([([], ([], ag1 3))], 0) := by decide +kernel
theorem aw_rows : rowsM [([], ([], ag1 3))] = [([], ag1 3)] := by
 rw [rowsM, show keyS [([], ([], ag1 3))] = [[]] by simp [keyS]]; rfl
theorem awake_sound (H : AHeap) : Sound Try.prog 8 [] H (Pure H (.b true)) := by
 have hN := fun H => new_good 0 9 (by omega) H
 have hP1 : ∀ G, G.get (H.next + 1) = some (tab 0 9 H.next) → G.get H.next = some (eTbl []) → Sound Try.prog 10 [.ptr (H.next + 1) 0, .sl .full [], .agg (eAg (ag1 1))] G (PutQ H.next ([([], ([], ag1 1))], 0) G) := fun G h1 h2 => by
  have := put_tab (t := .full) (ks := []) (a := ag1 1) h1 h2 (by omega) (by omega) (by simp) (ag1_in ⟨by decide, by decide⟩) (by simp [aGet])
  rw [aw_put1] at this
  exact this
 have hP2 : ∀ G, G.get (H.next + 1) = some (tab 0 9 H.next) → G.get H.next = some (eTbl [([], ([], ag1 1))]) → Sound Try.prog 10 [.ptr (H.next + 1) 0, .sl .full [], .agg (eAg (ag1 2))] G (PutQ H.next ([([], ([], ag1 3))], 0) G) := fun G h1 h2 => by
  have := put_tab (t := .full) (ks := []) (a := ag1 2) h1 h2 (by omega) (by omega) (by simp) (ag1_in ⟨by decide, by decide⟩) (fun f hf => by
   have : f = ([], ag1 1) := by simpa [aGet, nmB] using hf.symm
   subst this
   exact ag1_in ⟨by decide, by decide⟩)
  rw [aw_put2] at this
  exact this
 have hR : ∀ G, G.get (H.next + 1) = some (tab 0 9 H.next) → G.get H.next = some (eTbl [([], ([], ag1 3))]) → Sound Try.prog 12 [.ptr (H.next + 1) 0] G (Pure G (.sl .no (rF [([], ag1 3)]))) := fun G h1 h2 => by
  have := rows_tab h1 h2 (by simp) (by simp) (by simp) (by simp)
  rw [aw_rows] at this
  exact this
 refine fn_soundQ hE cf8 (Nat.le_of_ble_eq_true rfl) fun Q hQr hQn => ?_
 ((have hd := trivial; repeat' (first | ((first | apply GdK_st | apply GdK_sf | apply CondK_s) <;> intro hd <;> (try simp only [hd])) | simp (disch := first | assumption | omega | (simp only [nx] <;> omega) | fail) only [hd, hQr, hQn, c8_0, ↓YA, YB, YC, YE, YF, YZ, ↓reduceIte, Nat.reduceEqDiff, Nat.reduceAdd, Nat.reduceMul, Nat.reduceLeDiff, Int.reduceToNat, Int.reduceLE, Int.reduceLT, Int.reduceGT, Int.reduceGE, Int.reduceAdd, Int.reduceSub, Int.reduceNeg, Int.reduceBEq, Int.reduceBNe])) <;> (try (have hd_ : True := hd; clear hd_ hd)))
 refine CallK.use (hN _) ?_
 rintro _ _ ⟨rfl, rfl⟩
 ((have hd := trivial; repeat' (first | ((first | apply GdK_st | apply GdK_sf | apply CondK_s) <;> intro hd <;> (try simp only [hd])) | simp (disch := first | assumption | omega | (simp only [nx] <;> omega) | fail) only [hd, hQr, hQn, c8_0, ↓YA, YB, YC, YE, YF, YZ, ↓reduceIte, Nat.reduceEqDiff, Nat.reduceAdd, Nat.reduceMul, Nat.reduceLeDiff, Int.reduceToNat, Int.reduceLE, Int.reduceLT, Int.reduceGT, Int.reduceGE, Int.reduceAdd, Int.reduceSub, Int.reduceNeg, Int.reduceBEq, Int.reduceBNe])) <;> (try (have hd_ : True := hd; clear hd_ hd)))
 have g1 : ((H.alloc (.map (.one .str) [] false)).alloc (tab 0 9 H.next)).get (H.next + 1) = some (tab 0 9 H.next) := AHeap.get_alloc_self (H := H.alloc _)
 have g2 : ((H.alloc (.map (.one .str) [] false)).alloc (tab 0 9 H.next)).get H.next = some (eTbl []) := by
  rw [AHeap.get_alloc_ne (by simp only [nx]; omega)]; exact AHeap.get_alloc_self
 have hx0 : AHeap.Ext H ((H.alloc (.map (.one .str) [] false)).alloc (tab 0 9 H.next)) := by exact AXT
 have hn : ((H.alloc (.map (.one .str) [] false)).alloc (tab 0 9 H.next)).next = H.next + 2 := rfl
 generalize (H.alloc (.map (.one .str) [] false)).alloc (tab 0 9 H.next) = G0 at *
 refine CallK.use (hP1 _ g1 g2) ?_
 rintro _ G1 ⟨rfl, hG1⟩
 ((have hd := trivial; repeat' (first | ((first | apply GdK_st | apply GdK_sf | apply CondK_s) <;> intro hd <;> (try simp only [hd])) | simp (disch := first | assumption | omega | (simp only [nx] <;> omega) | fail) only [hd, hQr, hQn, c8_0, ↓YA, YB, YC, YE, YF, YZ, ↓reduceIte, Nat.reduceEqDiff, Nat.reduceAdd, Nat.reduceMul, Nat.reduceLeDiff, Int.reduceToNat, Int.reduceLE, Int.reduceLT, Int.reduceGT, Int.reduceGE, Int.reduceAdd, Int.reduceSub, Int.reduceNeg, Int.reduceBEq, Int.reduceBNe])) <;> (try (have hd_ : True := hd; clear hd_ hd)))
 have h1 := (hG1.g (H.next + 1) (by omega) (by simp)).trans g1
 have h2 : G1.get H.next = _ := hG1.o (_, _) (List.mem_singleton.2 rfl)
 refine CallK.use (hP2 _ h1 h2) ?_
 rintro _ G2 ⟨rfl, hG2⟩
 ((have hd := trivial; repeat' (first | ((first | apply GdK_st | apply GdK_sf | apply CondK_s) <;> intro hd <;> (try simp only [hd])) | simp (disch := first | assumption | omega | (simp only [nx] <;> omega) | fail) only [hd, hQr, hQn, c8_0, ↓YA, YB, YC, YE, YF, YZ, ↓reduceIte, Nat.reduceEqDiff, Nat.reduceAdd, Nat.reduceMul, Nat.reduceLeDiff, Int.reduceToNat, Int.reduceLE, Int.reduceLT, Int.reduceGT, Int.reduceGE, Int.reduceAdd, Int.reduceSub, Int.reduceNeg, Int.reduceBEq, Int.reduceBNe])) <;> (try (have hd_ : True := hd; clear hd_ hd)))
 have i1 := (hG2.g (H.next + 1) (by have := hG1.n; omega) (by simp)).trans h1
 have i2 : G2.get H.next = _ := hG2.o (_, _) (List.mem_singleton.2 rfl)
 (refine CallK.use (hR _ i1 i2) ?_; rintro _ _ ⟨rfl, k1, rfl⟩)
 have c1 : (((1 : Nat) : Int) == 1) = true := rfl
 have c2 : (eFct ([], ag1 3)).length = 11 := rfl
 have c3 : (eFct ([], ag1 3))[1]? = some (.i 3) := rfl
 ((have hd := trivial; repeat' (first | ((first | apply GdK_st | apply GdK_sf | apply CondK_s) <;> intro hd <;> (try simp only [hd])) | simp (disch := first | assumption | omega | (simp only [nx] <;> omega) | fail) only [hd, hQr, hQn, c8_0, ↓YA, YB, YC, YE, YF, YZ, ↓reduceIte, Nat.reduceEqDiff, Nat.reduceAdd, Nat.reduceMul, Nat.reduceLeDiff, Int.reduceToNat, Int.reduceLE, Int.reduceLT, Int.reduceGT, Int.reduceGE, Int.reduceAdd, Int.reduceSub, Int.reduceNeg, Int.reduceBEq, Int.reduceBNe, c1, c2, c3])) <;> (try (have hd_ : True := hd; clear hd_ hd)))
 refine fin_bA rfl ?_
 exact (hG2.extO (hG1.extO hx0 (by simp)) (by simp)).bump
def i64Sh : Sh := .int .i64
def partSh : Sh := .pair i64Sh (.pair i64Sh (.pair i64Sh .unit))
def agSh : Sh := .pair i64Sh (.pair (.arr 3 partSh) .unit)
def fctSh : Sh := .pair (.slice i64Sh) (.pair agSh .unit)
theorem fits_ints : (Sh.slice i64Sh).Fits Try.prog (.inl 31) := ⟨3, Try.underlying31, by kernel_rfl, by decide, Try.underlying3⟩
theorem fits_part : partSh.Fits Try.prog (.inl 33) :=
 ⟨_, _, Try.underlying33, by kernel_rfl, rfl, by kernel_rfl, Try.underlying2, _, _, rfl, rfl, by kernel_rfl, Try.underlying2, _, _, rfl, rfl, by kernel_rfl, Try.underlying2, rfl⟩
theorem fits_ag : agSh.Fits Try.prog (.inl 36) :=
 ⟨_, _, Try.underlying36, by kernel_rfl, rfl, by kernel_rfl, Try.underlying2, _, _, rfl, rfl, by kernel_rfl, ⟨_, Try.underlying34, by kernel_rfl, by kernel_rfl, fits_part⟩, rfl⟩
theorem fits_fct : fctSh.Fits Try.prog (.inl 38) :=
 ⟨_, _, Try.underlying38, by kernel_rfl, rfl, by kernel_rfl, fits_ints, _, _, rfl, rfl, by kernel_rfl, fits_ag, rfl⟩
theorem fits_fcts : (Sh.slice fctSh).Fits Try.prog (.inl 22) := ⟨38, Try.underlying22, by kernel_rfl, by decide, fits_fct⟩
theorem in64_of {n : Int} (h : (Lit.int .i64 n).wf = true) : In64 n := by
 simp [Lit.wf, IntKind.min, IntKind.max, IntKind.signed, IntKind.bits] at h
 exact h
structure FctIn (f : Fct) : Prop where
 k : ∀ x ∈ f.1, In64 x
 a : AgIn f.2
section
variable {w : World} {F : Nat → Prop}
theorem enc_sliceP {s : Sh} {α : Type} {f : α → List AV} {p : α → Prop} (he : ∀ cs x, s.Is w F cs x → ∃ a, s.enc x = f a ∧ p a) {cs : List Value} {x : (Sh.slice s).D} (h : (Sh.slice s).Is w F cs x) : ∃ l : List α, l.length ≤ maxLen ∧ (Sh.slice s).enc x = [.sl .no (l.map f)] ∧ ∀ a ∈ l, p a := by
 obtain ⟨A, c, css, _, h1, h2, h3, _, h5⟩ := h
 have : ∀ (y : List s.D), (∀ z ∈ y, ∃ a, s.enc z = f a ∧ p a) → ∃ m : List α, m.length = y.length ∧ y.map s.enc = m.map f ∧ ∀ a ∈ m, p a := by
  intro y
  induction y with
  | nil => intro _; exact ⟨[], rfl, rfl, by simp⟩
  | cons z y ih =>
   intro hz
   obtain ⟨a, ha, hp⟩ := hz z List.mem_cons_self
   obtain ⟨m, hm, e, hq⟩ := ih fun u hu => hz u (List.mem_cons_of_mem _ hu)
   exact ⟨a :: m, by simp [hm], by simp [ha, e], fun b hb => by
    rcases List.mem_cons.1 hb with rfl | hb
    ·exact hp
    ·exact hq b hb⟩
 obtain ⟨m, hm, e, hq⟩ := this x fun y hy => by
  obtain ⟨i, hi, rfl⟩ := List.getElem_of_mem hy
  have hi2 : i < css.length := by rw [h3]; exact hi
  exact he css[i] _ (h5 i _ _ (List.getElem?_eq_getElem hi2) (List.getElem?_eq_getElem hi))
 refine ⟨m, by rw [hm]; exact Nat.le_trans h1 h2, ?_, hq⟩
 show [AV.sl .no (List.map s.enc x)] = _
 rw [e]
theorem part_in {cs : List Value} {x : partSh.D} (h : partSh.Is w F cs x) : In64 x.1 ∧ In64 x.2.1 ∧ In64 x.2.2.1 := by
 obtain ⟨_, _, _, ⟨_, h1⟩, _, _, _, ⟨_, h2⟩, _, _, _, ⟨_, h3⟩, _⟩ := h
 exact ⟨in64_of h1, in64_of h2, in64_of h3⟩
theorem enc_agI {cs : List Value} {x : agSh.D} (h : agSh.Is w F cs x) : ∃ a : Ag, agSh.enc x = eAg a ∧ AgIn a := by
 obtain ⟨n, ps, u⟩ := x
 obtain ⟨c1, c2, _, ⟨_, hn⟩, c3, c4, _, ⟨css, _, hcl, hl, _, hel⟩, _⟩ := h
 match ps, hl, hel with
 | [(s0, l0, h0, _), (s1, l1, h1, _), (s2, l2, h2, _)], _, hel =>
  have hg : ∀ i, i < 3 → ∃ r, css[i]? = some r := fun i hi => ⟨css[i]'(by omega), List.getElem?_eq_getElem _⟩
  obtain ⟨r0, e0⟩ := hg 0 (by omega)
  obtain ⟨r1, e1⟩ := hg 1 (by omega)
  obtain ⟨r2, e2⟩ := hg 2 (by omega)
  obtain ⟨a0, a1, a2⟩ := part_in (hel 0 _ _ e0 rfl)
  obtain ⟨b0, b1, b2⟩ := part_in (hel 1 _ _ e1 rfl)
  obtain ⟨d0, d1, d2⟩ := part_in (hel 2 _ _ e2 rfl)
  exact ⟨⟨n, s0, l0, h0, s1, l1, h1, s2, l2, h2⟩, rfl, ⟨in64_of hn, a0, b0, d0⟩⟩
theorem enc_ints {cs : List Value} {x : (Sh.slice i64Sh).D} (h : (Sh.slice i64Sh).Is w F cs x) : ∃ l : List Int, l.length ≤ maxLen ∧ (Sh.slice i64Sh).enc x = [.sl .no (rI l)] ∧ ∀ a ∈ l, In64 a :=
 enc_sliceP (s := i64Sh) (f := fun n => [AV.i n]) (p := In64) (fun cs x hx => ⟨x, rfl, in64_of hx.2⟩) h
theorem enc_fct {cs : List Value} {x : fctSh.D} (h : fctSh.Is w F cs x) : ∃ f : Fct, fctSh.enc x = eFct f ∧ FctIn f := by
 obtain ⟨ks, g, u⟩ := x
 obtain ⟨_, _, _, hk, _, _, _, hg, _⟩ := h
 obtain ⟨l, _, el, il⟩ := enc_ints hk
 obtain ⟨a, ea, ia⟩ := enc_agI hg
 refine ⟨(l, a), ?_, il, ia⟩
 show (Sh.slice i64Sh).enc ks ++ (agSh.enc g ++ []) = _
 rw [el, ea]; rfl
end
section
variable {W : World}
theorem arg_fcts {v : Value} {y : (Sh.slice fctSh).D} (h : (Sh.slice fctSh).Is W (· < W.heap.size) [v] y) : ∃ l : List Fct, VR (Gh.ro (allRO W)) W (.sl .no (rF l)) v ∧ ∀ f ∈ l, FctIn f := by
 obtain ⟨l, _, e, hi⟩ := enc_sliceP (f := eFct) (p := FctIn) (fun cs x hx => enc_fct hx) h
 exact ⟨l, arg_one (by simp [fctSh, agSh, partSh, i64Sh, Sh.pos, Sh.size]) h e, hi⟩
end
end Go.Proofs.Ytafbdhoaoileiaa
