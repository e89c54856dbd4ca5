/- Texts of the walk, joined: Hc Hd. -/
import Derived.Test.YtaapiigfmdhobaaMo
namespace Go.Proofs.Ytaapiigfmdhobaa
set_option linter.unusedSimpArgs false
set_option linter.unusedVariables false
open Go.RowKit
def newE (x : Shp) (most : Int) : Int := if shpMay x = true ∧ 0 ≤ most ∧ most ≤ 131072 then 0 else 2
def bldN (S : Sc) (most : Int) (facts : List Fct) : BSt := (nodeB (shpS S) (liftsS S) facts most (liftsS S).length ⟨[], [], 0⟩ (List.range facts.length)).1
def bldE (S : Sc) (most : Int) (facts : List Fct) : Int :=
 if scE S ≠ 0 then scE S else if rowF (shpS S) none facts ≠ 0 then rowF (shpS S) none facts else if (facts.length : Int) > 4000 then 6 else if newE (shpS S) most ≠ 0 then 2 else if facts = [] then 0 else (bldN S most facts).e
def bldL (S : Sc) (most : Int) (facts : List Fct) : List Nod := if facts = [] then [] else (bldN S most facts).N
def BuildQ (S : Sc) (most : Int) (facts : List Fct) (H : AHeap) (r : AV) (H' : AHeap) : Prop :=
 AHeap.Ext H H' ∧ ((bldE S most facts ≠ 0 ∧ r = .tup [.sc (.pointer none), .i (bldE S most facts)]) ∨ (bldE S most facts = 0 ∧ ∃ id, r = .tup [.ptr id 0, .i 0] ∧ ArA H' id (shpS S) (bldL S most facts)))
theorem dimsF_zero : ∀ {l : List Dm} {seen : List Tx}, dimsF seen l = 0 → ∀ d ∈ l, dimE d = 0
 | [], _, _, d, h => by cases h
 | c :: r, seen, h, d, hd => by
  unfold dimsF at h
  split at h
  ·rename_i h1; exact absurd h h1
  ·rename_i h1
   split at h
   ·omega
   ·rcases List.mem_cons.1 hd with rfl | hd
    ·exact Classical.not_not.1 h1
    ·exact dimsF_zero h d hd
theorem scE_zero {S : Sc} (h : scE S = 0) : 1 ≤ S.dims.length ∧ S.dims.length ≤ 16 ∧ (∀ d ∈ S.dims, dimE d = 0) ∧ measE S.meas = 0 := by
 unfold scE at h
 split at h
 ·omega
 ·rename_i h1
  split at h
  ·rename_i h2; exact absurd h h2
  ·rename_i h2
   exact ⟨by omega, by omega, dimsF_zero (Classical.not_not.1 h2), h⟩
theorem dimF_zero : ∀ {l : List Tr} {seen : List Tx}, dimF seen l = 0 → ∀ k (h : k < l.length), tierE l[k] (aboveL (l.drop (k + 1))) = 0
 | [], _, _, k, h => by simp at h
 | t :: r, seen, h, k, hk => by
  unfold dimF at h
  split at h
  ·rename_i h1; exact absurd h h1
  ·rename_i h1
   split at h
   ·omega
   ·cases k with
    | zero => simpa using Classical.not_not.1 h1
    | succ k => simpa using dimF_zero h k (by simpa using hk)
theorem dimE_zero {d : Dm} (h : dimE d = 0) : 1 ≤ d.tiers.length ∧ d.tiers.length ≤ 4 ∧ ∀ k (h : k < d.tiers.length), tierE d.tiers[k] (aboveL (d.tiers.drop (k + 1))) = 0 := by
 unfold dimE at h
 split at h
 ·omega
 ·split at h
  ·omega
  ·exact ⟨by omega, by omega, dimF_zero h⟩
theorem tierE_zero {t : Tr} {a : Int} (h : tierE t a = 0) : 1 ≤ t.terms.length ∧ t.terms.length ≤ 200 ∧ treeB t.up t.terms.length a = true := by
 unfold tierE at h
 split at h
 ·omega
 ·split at h
  ·omega
  ·rename_i h2
   split at h
   ·rename_i h1; exact absurd h h1
   ·split at h
    ·omega
    ·rename_i h3
     exact ⟨by omega, by omega, by simpa using h3⟩
theorem scE_tiers {S : Sc} (h : scE S = 0) : ∀ d ∈ S.dims, d.tiers.length ≤ 1000000 ∧ n0 d ≤ 1000000 := fun d hd => by
 obtain ⟨h1, h2, h3⟩ := dimE_zero ((scE_zero h).2.2.1 d hd)
 refine ⟨by omega, ?_⟩
 have := tierE_zero (h3 0 (by omega))
 unfold n0
 rw [List.getElem?_eq_getElem (by omega)]
 simp only [Option.map_some, Option.getD_some]
 omega
set_option maxHeartbeats 4000000 in
theorem build_sound (t : Tok) (S : Sc) (most : Int) (facts : List Fct) (H : AHeap) (hS : smallS S) (hl : facts.length ≤ 1000000) (hF : scE S = 0 → rowF (shpS S) none facts = 0 → facts.length ≤ 4000 → shpMay (shpS S) = true → FactsOk (shpS S) (liftsS S) facts) :
  Sound Try.prog 9 [.agg (eSc S), .i most, .sl t (rF facts)] H (BuildQ S most facts H) := by
 obtain ⟨f0, f1, f2, f3⟩ := eSc_facts S
 obtain ⟨x0, x1, x2, x3⟩ := eShp_facts (shpS S)
 have xd : (eShp (shpS S)).drop 2 = [] := rfl
 by_cases h1 : scE S = 0
 ·obtain ⟨b1, b2, b3, b4⟩ := scE_zero h1
  have hxl : (shpS S).sizes.length ≤ 1000000 := by unfold shpS; simp; omega
  have hT := scE_tiers h1
  have hshp : ∀ G, Sound Try.prog 28 [.agg (eSc S)] G (Pure G (.agg (eShp (shpS S)))) := fun G => shape_sound S G (by omega) (fun d hd => (hT d hd).1)
  by_cases h2 : rowF (shpS S) none facts = 0
  ·by_cases h3 : (facts.length : Int) > 4000
   ·have hv : bldE S most facts = 6 := by unfold bldE; rw [if_neg (by simp [h1]), if_neg (by simp [h2]), if_pos h3]
    have d3 : decide ((facts.length : Int) > 4000) = true := decide_eq_true h3
    unfold BuildQ
    rw [hv]
    refine fn_soundQ hE cf9 (Nat.le_of_ble_eq_true rfl) fun Q hQr hQn => ?_
    ((have hd := trivial; repeat' (first | ((first | apply GdK_st | apply GdK_sf | apply CondK_s) <;> intro hd <;> (try simp only [hd])) | simp (disch := first | assumption | omega | (simp only [nx] <;> omega) | fail) only [hd, hQr, hQn, c9_0, ↓YA, YB, YC, YE, YF, YZ, ↓reduceIte, Nat.reduceEqDiff, Nat.reduceAdd, Nat.reduceMul, Nat.reduceLeDiff, Int.reduceToNat, Int.reduceLE, Int.reduceLT, Int.reduceGT, Int.reduceGE, Int.reduceAdd, Int.reduceSub, Int.reduceNeg, Int.reduceBEq, Int.reduceBNe, f0, f3])) <;> (try (have hd_ : True := hd; clear hd_ hd)))
    (refine CallK.use (sch_sound S _ hS) ?_; rintro _ _ ⟨rfl, k1, rfl⟩)
    ((have hd := trivial; repeat' (first | ((first | apply GdK_st | apply GdK_sf | apply CondK_s) <;> intro hd <;> (try simp only [hd])) | simp (disch := first | assumption | omega | (simp only [nx] <;> omega) | fail) only [hd, hQr, hQn, c9_0, ↓YA, YB, YC, YE, YF, YZ, ↓reduceIte, Nat.reduceEqDiff, Nat.reduceAdd, Nat.reduceMul, Nat.reduceLeDiff, Int.reduceToNat, Int.reduceLE, Int.reduceLT, Int.reduceGT, Int.reduceGE, Int.reduceAdd, Int.reduceSub, Int.reduceNeg, Int.reduceBEq, Int.reduceBNe, f0, f3, h1])) <;> (try (have hd_ : True := hd; clear hd_ hd)))
    (refine CallK.use (hshp _) ?_; rintro _ _ ⟨rfl, k2, rfl⟩)
    ((have hd := trivial; repeat' (first | ((first | apply GdK_st | apply GdK_sf | apply CondK_s) <;> intro hd <;> (try simp only [hd])) | simp (disch := first | assumption | omega | (simp only [nx] <;> omega) | fail) only [hd, hQr, hQn, c9_0, ↓YA, YB, YC, YE, YF, YZ, ↓reduceIte, Nat.reduceEqDiff, Nat.reduceAdd, Nat.reduceMul, Nat.reduceLeDiff, Int.reduceToNat, Int.reduceLE, Int.reduceLT, Int.reduceGT, Int.reduceGE, Int.reduceAdd, Int.reduceSub, Int.reduceNeg, Int.reduceBEq, Int.reduceBNe, x0, x3, xd, List.append_nil])) <;> (try (have hd_ : True := hd; clear hd_ hd)))
    (refine CallK.use (frow_sound t (shpS S) facts _ hl hxl) ?_; rintro _ _ ⟨rfl, k3, rfl⟩)
    ((have hd := trivial; repeat' (first | ((first | apply GdK_st | apply GdK_sf | apply CondK_s) <;> intro hd <;> (try simp only [hd])) | simp (disch := first | assumption | omega | (simp only [nx] <;> omega) | fail) only [hd, hQr, hQn, c9_0, ↓YA, YB, YC, YE, YF, YZ, ↓reduceIte, Nat.reduceEqDiff, Nat.reduceAdd, Nat.reduceMul, Nat.reduceLeDiff, Int.reduceToNat, Int.reduceLE, Int.reduceLT, Int.reduceGT, Int.reduceGE, Int.reduceAdd, Int.reduceSub, Int.reduceNeg, Int.reduceBEq, Int.reduceBNe, h2, d3, List.length_map])) <;> (try (have hd_ : True := hd; clear hd_ hd)))
    exact fin_keep ⟨by exact AXT, .inl ⟨by decide, rfl⟩⟩
   ·have d3 : decide ((facts.length : Int) > 4000) = false := decide_eq_false h3
    have hH : ∀ k1 k2 k3, AHeap.Ext H ((((((H.alloc (.cells (eSc S) 25)).bump k1).bump k2).alloc (.cells (eShp (shpS S)) 44)).bump k3)) := fun k1 k2 k3 => by exact AXT
    by_cases h4 : shpMay (shpS S) = true ∧ 0 ≤ most ∧ most ≤ 131072
    ·have hn : newE (shpS S) most = 0 := if_pos h4
     by_cases h5 : facts = []
     ·have hv : bldE S most facts = 0 := by unfold bldE; rw [if_neg (by simp [h1]), if_neg (by simp [h2]), if_neg h3, if_neg (by simp [hn]), if_pos h5]
      have hw : bldL S most facts = [] := by unfold bldL; rw [if_pos h5]
      have d5 : ((facts.length : Int) == 0) = true := by rw [h5]; rfl
      unfold BuildQ
      rw [hv, hw]
      refine fn_soundQ hE cf9 (Nat.le_of_ble_eq_true rfl) fun Q hQr hQn => ?_
      ((have hd := trivial; repeat' (first | ((first | apply GdK_st | apply GdK_sf | apply CondK_s) <;> intro hd <;> (try simp only [hd])) | simp (disch := first | assumption | omega | (simp only [nx] <;> omega) | fail) only [hd, hQr, hQn, c9_0, ↓YA, YB, YC, YE, YF, YZ, ↓reduceIte, Nat.reduceEqDiff, Nat.reduceAdd, Nat.reduceMul, Nat.reduceLeDiff, Int.reduceToNat, Int.reduceLE, Int.reduceLT, Int.reduceGT, Int.reduceGE, Int.reduceAdd, Int.reduceSub, Int.reduceNeg, Int.reduceBEq, Int.reduceBNe, f0, f3])) <;> (try (have hd_ : True := hd; clear hd_ hd)))
      (refine CallK.use (sch_sound S _ hS) ?_; rintro _ _ ⟨rfl, k1, rfl⟩)
      ((have hd := trivial; repeat' (first | ((first | apply GdK_st | apply GdK_sf | apply CondK_s) <;> intro hd <;> (try simp only [hd])) | simp (disch := first | assumption | omega | (simp only [nx] <;> omega) | fail) only [hd, hQr, hQn, c9_0, ↓YA, YB, YC, YE, YF, YZ, ↓reduceIte, Nat.reduceEqDiff, Nat.reduceAdd, Nat.reduceMul, Nat.reduceLeDiff, Int.reduceToNat, Int.reduceLE, Int.reduceLT, Int.reduceGT, Int.reduceGE, Int.reduceAdd, Int.reduceSub, Int.reduceNeg, Int.reduceBEq, Int.reduceBNe, f0, f3, h1])) <;> (try (have hd_ : True := hd; clear hd_ hd)))
      (refine CallK.use (hshp _) ?_; rintro _ _ ⟨rfl, k2, rfl⟩)
      ((have hd := trivial; repeat' (first | ((first | apply GdK_st | apply GdK_sf | apply CondK_s) <;> intro hd <;> (try simp only [hd])) | simp (disch := first | assumption | omega | (simp only [nx] <;> omega) | fail) only [hd, hQr, hQn, c9_0, ↓YA, YB, YC, YE, YF, YZ, ↓reduceIte, Nat.reduceEqDiff, Nat.reduceAdd, Nat.reduceMul, Nat.reduceLeDiff, Int.reduceToNat, Int.reduceLE, Int.reduceLT, Int.reduceGT, Int.reduceGE, Int.reduceAdd, Int.reduceSub, Int.reduceNeg, Int.reduceBEq, Int.reduceBNe, x0, x3, xd, List.append_nil])) <;> (try (have hd_ : True := hd; clear hd_ hd)))
      (refine CallK.use (frow_sound t (shpS S) facts _ hl hxl) ?_; rintro _ _ ⟨rfl, k3, rfl⟩)
      ((have hd := trivial; repeat' (first | ((first | apply GdK_st | apply GdK_sf | apply CondK_s) <;> intro hd <;> (try simp only [hd])) | simp (disch := first | assumption | omega | (simp only [nx] <;> omega) | fail) only [hd, hQr, hQn, c9_0, ↓YA, YB, YC, YE, YF, YZ, ↓reduceIte, Nat.reduceEqDiff, Nat.reduceAdd, Nat.reduceMul, Nat.reduceLeDiff, Int.reduceToNat, Int.reduceLE, Int.reduceLT, Int.reduceGT, Int.reduceGE, Int.reduceAdd, Int.reduceSub, Int.reduceNeg, Int.reduceBEq, Int.reduceBNe, h2, d3, x0, x3, List.length_map])) <;> (try (have hd_ : True := hd; clear hd_ hd)))
      refine CallK.use (new_sound (shpS S) most _) ?_
      rintro r G ⟨hx, hr⟩
      rw [if_pos h4] at hr
      obtain ⟨oid, tok, rfl, ho1, ho2⟩ := hr
      ((have hd := trivial; repeat' (first | ((first | apply GdK_st | apply GdK_sf | apply CondK_s) <;> intro hd <;> (try simp only [hd])) | simp (disch := first | assumption | omega | (simp only [nx] <;> omega) | fail) only [hd, hQr, hQn, c9_0, ↓YA, YB, YC, YE, YF, YZ, ↓reduceIte, Nat.reduceEqDiff, Nat.reduceAdd, Nat.reduceMul, Nat.reduceLeDiff, Int.reduceToNat, Int.reduceLE, Int.reduceLT, Int.reduceGT, Int.reduceGE, Int.reduceAdd, Int.reduceSub, Int.reduceNeg, Int.reduceBEq, Int.reduceBNe, d5, List.length_map])) <;> (try (have hd_ : True := hd; clear hd_ hd)))
      exact fin_keep ⟨(hH k1 k2 k3).trans hx, .inr ⟨oid, rfl, tok, .full, most, ho2⟩⟩
     ·have d5 : ((facts.length : Int) == 0) = false := by
       have : facts.length ≠ 0 := fun h => h5 (List.eq_nil_of_length_eq_zero h)
       simp only [beq_eq_false_iff_ne]; omega
      have hv : bldE S most facts = (bldN S most facts).e := by unfold bldE; rw [if_neg (by simp [h1]), if_neg (by simp [h2]), if_neg h3, if_neg (by simp [hn]), if_neg h5]
      have hw : bldL S most facts = (bldN S most facts).N := by unfold bldL; rw [if_neg h5]
      have hok := hF h1 h2 (by omega) h4.1
      unfold BuildQ
      rw [hv, hw]
      have hlf : ∀ G, Sound Try.prog 31 [.agg (eSc S)] G (Pure G (.sl .no (rIII (liftsS S)))) := fun G => lifts_sound S G (by omega) hT
      have hbn : bldN S most facts = (nodeB (shpS S) (liftsS S) facts most (liftsS S).length ⟨[], [], 0⟩ (List.range facts.length)).1 := rfl
      have hLl : (liftsS S).length = S.dims.length := by unfold liftsS; rw [List.length_map]
      generalize liftsS S = L at *
      have hnode : ∀ mg oid tk mid tok tf tl, NodK mg oid tk mid (shpS S) tok tf tl L facts most (nodeB (shpS S) L facts most L.length) 0 := fun mg oid tk mid tok tf tl => by
       have := bnode_sound (mg := mg) (oid := oid) (tk := tk) (mid := mid) (tok := tok) (tf := tf) (tl := tl) (most := most) hok h4.1 (L.length - 1) (by omega)
       rw [show L.length - 1 + 1 = L.length by omega, Nat.sub_self] at this
       exact this
      have hpo : PartOk facts (List.range facts.length) := ⟨by simp; exact h5, by simp, fun i hi => by simpa using hi⟩
      refine fn_soundQ hE cf9 (Nat.le_of_ble_eq_true rfl) fun Q hQr hQn => ?_
      ((have hd := trivial; repeat' (first | ((first | apply GdK_st | apply GdK_sf | apply CondK_s) <;> intro hd <;> (try simp only [hd])) | simp (disch := first | assumption | omega | (simp only [nx] <;> omega) | fail) only [hd, hQr, hQn, c9_0, ↓YA, YB, YC, YE, YF, YZ, ↓reduceIte, Nat.reduceEqDiff, Nat.reduceAdd, Nat.reduceMul, Nat.reduceLeDiff, Int.reduceToNat, Int.reduceLE, Int.reduceLT, Int.reduceGT, Int.reduceGE, Int.reduceAdd, Int.reduceSub, Int.reduceNeg, Int.reduceBEq, Int.reduceBNe, f0, f3])) <;> (try (have hd_ : True := hd; clear hd_ hd)))
      (refine CallK.use (sch_sound S _ hS) ?_; rintro _ _ ⟨rfl, k1, rfl⟩)
      ((have hd := trivial; repeat' (first | ((first | apply GdK_st | apply GdK_sf | apply CondK_s) <;> intro hd <;> (try simp only [hd])) | simp (disch := first | assumption | omega | (simp only [nx] <;> omega) | fail) only [hd, hQr, hQn, c9_0, ↓YA, YB, YC, YE, YF, YZ, ↓reduceIte, Nat.reduceEqDiff, Nat.reduceAdd, Nat.reduceMul, Nat.reduceLeDiff, Int.reduceToNat, Int.reduceLE, Int.reduceLT, Int.reduceGT, Int.reduceGE, Int.reduceAdd, Int.reduceSub, Int.reduceNeg, Int.reduceBEq, Int.reduceBNe, f0, f3, h1])) <;> (try (have hd_ : True := hd; clear hd_ hd)))
      (refine CallK.use (hshp _) ?_; rintro _ _ ⟨rfl, k2, rfl⟩)
      ((have hd := trivial; repeat' (first | ((first | apply GdK_st | apply GdK_sf | apply CondK_s) <;> intro hd <;> (try simp only [hd])) | simp (disch := first | assumption | omega | (simp only [nx] <;> omega) | fail) only [hd, hQr, hQn, c9_0, ↓YA, YB, YC, YE, YF, YZ, ↓reduceIte, Nat.reduceEqDiff, Nat.reduceAdd, Nat.reduceMul, Nat.reduceLeDiff, Int.reduceToNat, Int.reduceLE, Int.reduceLT, Int.reduceGT, Int.reduceGE, Int.reduceAdd, Int.reduceSub, Int.reduceNeg, Int.reduceBEq, Int.reduceBNe, x0, x3, xd, List.append_nil])) <;> (try (have hd_ : True := hd; clear hd_ hd)))
      (refine CallK.use (frow_sound t (shpS S) facts _ hl hxl) ?_; rintro _ _ ⟨rfl, k3, rfl⟩)
      ((have hd := trivial; repeat' (first | ((first | apply GdK_st | apply GdK_sf | apply CondK_s) <;> intro hd <;> (try simp only [hd])) | simp (disch := first | assumption | omega | (simp only [nx] <;> omega) | fail) only [hd, hQr, hQn, c9_0, ↓YA, YB, YC, YE, YF, YZ, ↓reduceIte, Nat.reduceEqDiff, Nat.reduceAdd, Nat.reduceMul, Nat.reduceLeDiff, Int.reduceToNat, Int.reduceLE, Int.reduceLT, Int.reduceGT, Int.reduceGE, Int.reduceAdd, Int.reduceSub, Int.reduceNeg, Int.reduceBEq, Int.reduceBNe, h2, d3, x0, x3, List.length_map])) <;> (try (have hd_ : True := hd; clear hd_ hd)))
      refine CallK.use (new_sound (shpS S) most _) ?_
      rintro r G ⟨hx, hr⟩
      rw [if_pos h4] at hr
      obtain ⟨oid, tok, rfl, ho1, ho2⟩ := hr
      have hs3 : G.get H.next = some (.cells (eSc S) 25) := hx.get _ _ (by
       rw [AHeap.get_bump, AHeap.get_alloc_ne (by simp only [nx]; omega), AHeap.get_bump, AHeap.get_bump]
       exact AHeap.get_alloc_self)
      ((have hd := trivial; repeat' (first | ((first | apply GdK_st | apply GdK_sf | apply CondK_s) <;> intro hd <;> (try simp only [hd])) | simp (disch := first | assumption | omega | (simp only [nx] <;> omega) | fail) only [hd, hQr, hQn, c9_0, ↓YA, YB, YC, YE, YF, YZ, ↓reduceIte, Nat.reduceEqDiff, Nat.reduceAdd, Nat.reduceMul, Nat.reduceLeDiff, Int.reduceToNat, Int.reduceLE, Int.reduceLT, Int.reduceGT, Int.reduceGE, Int.reduceAdd, Int.reduceSub, Int.reduceNeg, Int.reduceBEq, Int.reduceBNe, d5, hs3, f0, f3, List.length_map])) <;> (try (have hd_ : True := hd; clear hd_ hd)))
      (refine CallK.use (hlf _) ?_; rintro _ _ ⟨rfl, k4, rfl⟩)
      ((have hd := trivial; repeat' (first | ((first | apply GdK_st | apply GdK_sf | apply CondK_s) <;> intro hd <;> (try simp only [hd])) | simp (disch := first | assumption | omega | (simp only [nx] <;> omega) | fail) only [hd, hQr, hQn, c9_0, ↓YA, YB, YC, YE, YF, YZ, ↓reduceIte, Nat.reduceEqDiff, Nat.reduceAdd, Nat.reduceMul, Nat.reduceLeDiff, Int.reduceToNat, Int.reduceLE, Int.reduceLT, Int.reduceGT, Int.reduceGE, Int.reduceAdd, Int.reduceSub, Int.reduceNeg, Int.reduceBEq, Int.reduceBNe, d5, hs3, f0, f3, List.length_map])) <;> (try (have hd_ : True := hd; clear hd_ hd)))
      have hgo := AHeap.lt ho2
      have hHG := ((hH k1 k2 k3).trans hx).next
      refine AW_forI (N := facts.length) (fun k F S2 => Fr.get F 54 = .i (k : Int) ∧ Fr.get F 53 = .i (facts.length : Int) ∧ Fr.get F 11 = .ptr oid 0 ∧ Fr.get F 13 = .ptr (G.next + k4 + 1) 0 ∧ Fr.get F 14 = .sl (.own (G.next + k4 + 1 + 1 + 1)) (rP (List.range k)) ∧
       Bld (G.next + k4 + 1) oid (G.next + k4 + 1 + 1) (G.next + k4) (shpS S) tok t .no L facts most ⟨[], [], 0⟩ S2 ∧ S2.get (G.next + k4 + 1 + 1 + 1) = some (.tok k 3 1) ∧ AHeap.Ext H S2) (by unfold maxLen; omega) (fun k F G h => ⟨h.1, h.2.1⟩)
       (((GStep.tokCell oid 2 93 60 14 (cs := eAr (shpS S) tok (.sl .full []) most) (by rw [AHeap.get_alloc_ne (by simp only [nx]; omega), AHeap.get_alloc_ne (by simp only [nx]; omega), AHeap.get_bump]; exact ho2) rfl).trans (GStep.tok 14 3 1 rfl)).trans (GStep.fr (F' := [(54, .i ((0 : Nat) : Int)), (53, .i (facts.length : Int)), (11, .ptr oid 0), (13, .ptr (G.next + k4 + 1) 0), (14, .sl (.own (G.next + k4 + 1 + 1 + 1)) [])]) (by simp [Fr.get, Fr.put, nx]))) ?_ ?_ ?_
      ·refine ⟨rfl, rfl, rfl, rfl, rfl, ⟨?_, ⟨by omega, ?_, ?_⟩, ?_, ?_, h4.2.2⟩, AHeap.get_alloc_self, ?_⟩
       ·rw [AHeap.get_alloc_ne (by simp only [nx]; omega), AHeap.get_alloc_ne (by simp only [nx]; omega), AHeap.get_set_ne (by omega)]
        exact AHeap.get_alloc_self (H := (G.bump k4).alloc _)
       ·rw [AHeap.get_alloc_ne (by simp only [nx]; omega), AHeap.get_alloc_ne (by simp only [nx]; omega), AHeap.get_set_self (by simp only [nx]; omega)]
        rfl
       ·rw [AHeap.get_alloc_ne (by simp only [nx]; omega)]
        exact AHeap.get_alloc_self (H := AHeap.set _ _ _)
       ·rw [AHeap.get_alloc_ne (by simp only [nx]; omega), AHeap.get_alloc_ne (by simp only [nx]; omega), AHeap.get_set_ne (by omega), AHeap.get_alloc_ne (by simp only [nx]; omega)]
        exact AHeap.get_alloc_self (H := G.bump k4)
       ·exact h4.2.1
       ·have hxG := (hH k1 k2 k3).trans hx
        have hxn := (hH k1 k2 k3).next
        exact (((((hxG.bump).alloc).alloc).set (by omega)).alloc).alloc
      ·rintro k F S2 hk ⟨f54, f53, f11, f13, f14, hB, ht, hx2⟩
       have lt := AHeap.lt ht
       have la1 : allLen 1 (rP (List.range k)) = true := allLen_map (f := fun i : Nat => [AV.i (i : Int)]) (fun _ => rfl) _
       have la2 : allLen 1 [[AV.i (k : Int)]] = true := rfl
       have lm1 : k + 1 ≤ maxLen := by unfold maxLen; omega
       have lm2 : (k + 1) * 8 ≤ 140737488355328 := by omega
       have hrl : (rP (List.range k)).length = k := by simp
       have hrs : rP (List.range k) ++ [[AV.i (k : Int)]] = rP (List.range (k + 1)) := by rw [List.range_succ]; simp
       ((have hd := trivial; repeat' (first | ((first | apply GdK_st | apply GdK_sf | apply CondK_s) <;> intro hd <;> (try simp only [hd])) | simp (disch := first | assumption | omega | (simp only [nx] <;> omega) | fail) only [hd, hQr, hQn, c9_0, ↓YA, YB, YC, YE, YF, YZ, ↓reduceIte, Nat.reduceEqDiff, Nat.reduceAdd, Nat.reduceMul, Nat.reduceLeDiff, Int.reduceToNat, Int.reduceLE, Int.reduceLT, Int.reduceGT, Int.reduceGE, Int.reduceAdd, Int.reduceSub, Int.reduceNeg, Int.reduceBEq, Int.reduceBNe, f54, f53, f11, f13, f14, ht, la1, la2, lm1, lm2, hrl, hrs, rowsIn, rowsOf, List.length_map])) <;> (try (have hd_ : True := hd; clear hd_ hd)))
       exact ⟨⟨by rw [AHeap.get_set_ne (by omega)]; exact hB.o, ⟨hB.out.ne, by rw [AHeap.get_set_ne (by omega)]; exact hB.out.cell, by rw [AHeap.get_set_ne (by omega)]; exact hB.out.row⟩, by rw [AHeap.get_set_ne (by omega)]; exact hB.mp, hB.few, hB.most⟩, hx2.set (by omega)⟩
      ·rintro F S2 ⟨f54, f53, f11, f13, f14, hB, ht, hx2⟩
       ((have hd := trivial; repeat' (first | ((first | apply GdK_st | apply GdK_sf | apply CondK_s) <;> intro hd <;> (try simp only [hd])) | simp (disch := first | assumption | omega | (simp only [nx] <;> omega) | fail) only [hd, hQr, hQn, c9_0, ↓YA, YB, YC, YE, YF, YZ, ↓reduceIte, Nat.reduceEqDiff, Nat.reduceAdd, Nat.reduceMul, Nat.reduceLeDiff, Int.reduceToNat, Int.reduceLE, Int.reduceLT, Int.reduceGT, Int.reduceGE, Int.reduceAdd, Int.reduceSub, Int.reduceNeg, Int.reduceBEq, Int.reduceBNe, f54, f53, f11, f13, f14])) <;> (try (have hd_ : True := hd; clear hd_ hd)))
       refine CallK.use (hnode _ _ _ _ _ _ _ ⟨[], [], 0⟩ _ (.own (G.next + k4 + 1 + 1 + 1)) S2 hpo hB) ?_
       rintro r S3 ⟨rfl, hx3, hB3⟩
       rw [← hbn] at hB3
       have h03 := hB3.o
       have hoid : H.next ≤ oid := Nat.le_trans (hH k1 k2 k3).next ho1
       have hx4 : AHeap.Ext H S3 := ⟨Nat.le_trans hx2.next hx3.next, fun i o hi => hx3.get _ _ (by have := AHeap.lt hi; simp only [List.mem_cons, List.not_mem_nil, or_false]; omega) (hx2.get _ _ hi)⟩
       by_cases h6 : (bldN S most facts).e = 0
       ·have d6 : ((bldN S most facts).e != 0) = false := by simpa using h6
        ((have hd := trivial; repeat' (first | ((first | apply GdK_st | apply GdK_sf | apply CondK_s) <;> intro hd <;> (try simp only [hd])) | simp (disch := first | assumption | omega | (simp only [nx] <;> omega) | fail) only [hd, hQr, hQn, c9_0, ↓YA, YB, YC, YE, YF, YZ, ↓reduceIte, Nat.reduceEqDiff, Nat.reduceAdd, Nat.reduceMul, Nat.reduceLeDiff, Int.reduceToNat, Int.reduceLE, Int.reduceLT, Int.reduceGT, Int.reduceGE, Int.reduceAdd, Int.reduceSub, Int.reduceNeg, Int.reduceBEq, Int.reduceBNe, f54, f53, f11, f13, f14, h03, d6])) <;> (try (have hd_ : True := hd; clear hd_ hd)))
        exact fin_keep ⟨hx4, .inr ⟨h6, oid, rfl, hB3.out.ara⟩⟩
       ·have d6 : ((bldN S most facts).e != 0) = true := by simpa using h6
        ((have hd := trivial; repeat' (first | ((first | apply GdK_st | apply GdK_sf | apply CondK_s) <;> intro hd <;> (try simp only [hd])) | simp (disch := first | assumption | omega | (simp only [nx] <;> omega) | fail) only [hd, hQr, hQn, c9_0, ↓YA, YB, YC, YE, YF, YZ, ↓reduceIte, Nat.reduceEqDiff, Nat.reduceAdd, Nat.reduceMul, Nat.reduceLeDiff, Int.reduceToNat, Int.reduceLE, Int.reduceLT, Int.reduceGT, Int.reduceGE, Int.reduceAdd, Int.reduceSub, Int.reduceNeg, Int.reduceBEq, Int.reduceBNe, f54, f53, f11, f13, f14, h03, d6])) <;> (try (have hd_ : True := hd; clear hd_ hd)))
        exact fin_keep ⟨hx4, .inl ⟨h6, rfl⟩⟩
    ·have hn : newE (shpS S) most = 2 := if_neg h4
     have hv : bldE S most facts = 2 := by unfold bldE; rw [if_neg (by simp [h1]), if_neg (by simp [h2]), if_neg h3, if_pos (by simp [hn])]
     unfold BuildQ
     rw [hv]
     refine fn_soundQ hE cf9 (Nat.le_of_ble_eq_true rfl) fun Q hQr hQn => ?_
     ((have hd := trivial; repeat' (first | ((first | apply GdK_st | apply GdK_sf | apply CondK_s) <;> intro hd <;> (try simp only [hd])) | simp (disch := first | assumption | omega | (simp only [nx] <;> omega) | fail) only [hd, hQr, hQn, c9_0, ↓YA, YB, YC, YE, YF, YZ, ↓reduceIte, Nat.reduceEqDiff, Nat.reduceAdd, Nat.reduceMul, Nat.reduceLeDiff, Int.reduceToNat, Int.reduceLE, Int.reduceLT, Int.reduceGT, Int.reduceGE, Int.reduceAdd, Int.reduceSub, Int.reduceNeg, Int.reduceBEq, Int.reduceBNe, f0, f3])) <;> (try (have hd_ : True := hd; clear hd_ hd)))
     (refine CallK.use (sch_sound S _ hS) ?_; rintro _ _ ⟨rfl, k1, rfl⟩)
     ((have hd := trivial; repeat' (first | ((first | apply GdK_st | apply GdK_sf | apply CondK_s) <;> intro hd <;> (try simp only [hd])) | simp (disch := first | assumption | omega | (simp only [nx] <;> omega) | fail) only [hd, hQr, hQn, c9_0, ↓YA, YB, YC, YE, YF, YZ, ↓reduceIte, Nat.reduceEqDiff, Nat.reduceAdd, Nat.reduceMul, Nat.reduceLeDiff, Int.reduceToNat, Int.reduceLE, Int.reduceLT, Int.reduceGT, Int.reduceGE, Int.reduceAdd, Int.reduceSub, Int.reduceNeg, Int.reduceBEq, Int.reduceBNe, f0, f3, h1])) <;> (try (have hd_ : True := hd; clear hd_ hd)))
     (refine CallK.use (hshp _) ?_; rintro _ _ ⟨rfl, k2, rfl⟩)
     ((have hd := trivial; repeat' (first | ((first | apply GdK_st | apply GdK_sf | apply CondK_s) <;> intro hd <;> (try simp only [hd])) | simp (disch := first | assumption | omega | (simp only [nx] <;> omega) | fail) only [hd, hQr, hQn, c9_0, ↓YA, YB, YC, YE, YF, YZ, ↓reduceIte, Nat.reduceEqDiff, Nat.reduceAdd, Nat.reduceMul, Nat.reduceLeDiff, Int.reduceToNat, Int.reduceLE, Int.reduceLT, Int.reduceGT, Int.reduceGE, Int.reduceAdd, Int.reduceSub, Int.reduceNeg, Int.reduceBEq, Int.reduceBNe, x0, x3, xd, List.append_nil])) <;> (try (have hd_ : True := hd; clear hd_ hd)))
     (refine CallK.use (frow_sound t (shpS S) facts _ hl hxl) ?_; rintro _ _ ⟨rfl, k3, rfl⟩)
     ((have hd := trivial; repeat' (first | ((first | apply GdK_st | apply GdK_sf | apply CondK_s) <;> intro hd <;> (try simp only [hd])) | simp (disch := first | assumption | omega | (simp only [nx] <;> omega) | fail) only [hd, hQr, hQn, c9_0, ↓YA, YB, YC, YE, YF, YZ, ↓reduceIte, Nat.reduceEqDiff, Nat.reduceAdd, Nat.reduceMul, Nat.reduceLeDiff, Int.reduceToNat, Int.reduceLE, Int.reduceLT, Int.reduceGT, Int.reduceGE, Int.reduceAdd, Int.reduceSub, Int.reduceNeg, Int.reduceBEq, Int.reduceBNe, h2, d3, x0, x3, List.length_map])) <;> (try (have hd_ : True := hd; clear hd_ hd)))
     refine CallK.use (new_sound (shpS S) most _) ?_
     rintro r G ⟨hx, hr⟩
     rw [if_neg h4] at hr
     subst hr
     ((have hd := trivial; repeat' (first | ((first | apply GdK_st | apply GdK_sf | apply CondK_s) <;> intro hd <;> (try simp only [hd])) | simp (disch := first | assumption | omega | (simp only [nx] <;> omega) | fail) only [hd, hQr, hQn, c9_0, ↓YA, YB, YC, YE, YF, YZ, ↓reduceIte, Nat.reduceEqDiff, Nat.reduceAdd, Nat.reduceMul, Nat.reduceLeDiff, Int.reduceToNat, Int.reduceLE, Int.reduceLT, Int.reduceGT, Int.reduceGE, Int.reduceAdd, Int.reduceSub, Int.reduceNeg, Int.reduceBEq, Int.reduceBNe])) <;> (try (have hd_ : True := hd; clear hd_ hd)))
     exact fin_keep ⟨(hH k1 k2 k3).trans hx, .inl ⟨by decide, rfl⟩⟩
  ·have hv : bldE S most facts = rowF (shpS S) none facts := by unfold bldE; rw [if_neg (by simp [h1]), if_pos h2]
   have d2 : (rowF (shpS S) none facts != 0) = true := by simpa using h2
   unfold BuildQ
   rw [hv]
   refine fn_soundQ hE cf9 (Nat.le_of_ble_eq_true rfl) fun Q hQr hQn => ?_
   ((have hd := trivial; repeat' (first | ((first | apply GdK_st | apply GdK_sf | apply CondK_s) <;> intro hd <;> (try simp only [hd])) | simp (disch := first | assumption | omega | (simp only [nx] <;> omega) | fail) only [hd, hQr, hQn, c9_0, ↓YA, YB, YC, YE, YF, YZ, ↓reduceIte, Nat.reduceEqDiff, Nat.reduceAdd, Nat.reduceMul, Nat.reduceLeDiff, Int.reduceToNat, Int.reduceLE, Int.reduceLT, Int.reduceGT, Int.reduceGE, Int.reduceAdd, Int.reduceSub, Int.reduceNeg, Int.reduceBEq, Int.reduceBNe, f0, f3])) <;> (try (have hd_ : True := hd; clear hd_ hd)))
   (refine CallK.use (sch_sound S _ hS) ?_; rintro _ _ ⟨rfl, k1, rfl⟩)
   ((have hd := trivial; repeat' (first | ((first | apply GdK_st | apply GdK_sf | apply CondK_s) <;> intro hd <;> (try simp only [hd])) | simp (disch := first | assumption | omega | (simp only [nx] <;> omega) | fail) only [hd, hQr, hQn, c9_0, ↓YA, YB, YC, YE, YF, YZ, ↓reduceIte, Nat.reduceEqDiff, Nat.reduceAdd, Nat.reduceMul, Nat.reduceLeDiff, Int.reduceToNat, Int.reduceLE, Int.reduceLT, Int.reduceGT, Int.reduceGE, Int.reduceAdd, Int.reduceSub, Int.reduceNeg, Int.reduceBEq, Int.reduceBNe, f0, f3, h1])) <;> (try (have hd_ : True := hd; clear hd_ hd)))
   (refine CallK.use (hshp _) ?_; rintro _ _ ⟨rfl, k2, rfl⟩)
   ((have hd := trivial; repeat' (first | ((first | apply GdK_st | apply GdK_sf | apply CondK_s) <;> intro hd <;> (try simp only [hd])) | simp (disch := first | assumption | omega | (simp only [nx] <;> omega) | fail) only [hd, hQr, hQn, c9_0, ↓YA, YB, YC, YE, YF, YZ, ↓reduceIte, Nat.reduceEqDiff, Nat.reduceAdd, Nat.reduceMul, Nat.reduceLeDiff, Int.reduceToNat, Int.reduceLE, Int.reduceLT, Int.reduceGT, Int.reduceGE, Int.reduceAdd, Int.reduceSub, Int.reduceNeg, Int.reduceBEq, Int.reduceBNe, x0, x3, xd, List.append_nil])) <;> (try (have hd_ : True := hd; clear hd_ hd)))
   (refine CallK.use (frow_sound t (shpS S) facts _ hl hxl) ?_; rintro _ _ ⟨rfl, k3, rfl⟩)
   ((have hd := trivial; repeat' (first | ((first | apply GdK_st | apply GdK_sf | apply CondK_s) <;> intro hd <;> (try simp only [hd])) | simp (disch := first | assumption | omega | (simp only [nx] <;> omega) | fail) only [hd, hQr, hQn, c9_0, ↓YA, YB, YC, YE, YF, YZ, ↓reduceIte, Nat.reduceEqDiff, Nat.reduceAdd, Nat.reduceMul, Nat.reduceLeDiff, Int.reduceToNat, Int.reduceLE, Int.reduceLT, Int.reduceGT, Int.reduceGE, Int.reduceAdd, Int.reduceSub, Int.reduceNeg, Int.reduceBEq, Int.reduceBNe, d2])) <;> (try (have hd_ : True := hd; clear hd_ hd)))
   exact fin_keep ⟨by exact AXT, .inl ⟨h2, rfl⟩⟩
 ·have hv : bldE S most facts = scE S := by unfold bldE; rw [if_pos h1]
  have d1 : (scE S != 0) = true := by simpa using h1
  unfold BuildQ
  rw [hv]
  refine fn_soundQ hE cf9 (Nat.le_of_ble_eq_true rfl) fun Q hQr hQn => ?_
  ((have hd := trivial; repeat' (first | ((first | apply GdK_st | apply GdK_sf | apply CondK_s) <;> intro hd <;> (try simp only [hd])) | simp (disch := first | assumption | omega | (simp only [nx] <;> omega) | fail) only [hd, hQr, hQn, c9_0, ↓YA, YB, YC, YE, YF, YZ, ↓reduceIte, Nat.reduceEqDiff, Nat.reduceAdd, Nat.reduceMul, Nat.reduceLeDiff, Int.reduceToNat, Int.reduceLE, Int.reduceLT, Int.reduceGT, Int.reduceGE, Int.reduceAdd, Int.reduceSub, Int.reduceNeg, Int.reduceBEq, Int.reduceBNe, f0, f3])) <;> (try (have hd_ : True := hd; clear hd_ hd)))
  (refine CallK.use (sch_sound S _ hS) ?_; rintro _ _ ⟨rfl, k1, rfl⟩)
  ((have hd := trivial; repeat' (first | ((first | apply GdK_st | apply GdK_sf | apply CondK_s) <;> intro hd <;> (try simp only [hd])) | simp (disch := first | assumption | omega | (simp only [nx] <;> omega) | fail) only [hd, hQr, hQn, c9_0, ↓YA, YB, YC, YE, YF, YZ, ↓reduceIte, Nat.reduceEqDiff, Nat.reduceAdd, Nat.reduceMul, Nat.reduceLeDiff, Int.reduceToNat, Int.reduceLE, Int.reduceLT, Int.reduceGT, Int.reduceGE, Int.reduceAdd, Int.reduceSub, Int.reduceNeg, Int.reduceBEq, Int.reduceBNe, d1])) <;> (try (have hd_ : True := hd; clear hd_ hd)))
  exact fin_keep ⟨by exact AXT, .inl ⟨h1, rfl⟩⟩
theorem treeB_in {t : Tr} {a : Int} (h : treeB t.up t.terms.length a = true) (ha : 1 ≤ a) : t.up.length = t.terms.length ∧ ∀ n ∈ t.up, 0 ≤ n ∧ n < a := by
 unfold treeB at h
 rw [if_neg (by omega)] at h
 split at h
 ·cases h
 ·rename_i h1
  rw [Bool.and_eq_true] at h
  refine ⟨by omega, fun n hn => ?_⟩
  have := List.all_eq_true.1 h.1 n hn
  unfold inU at this
  simp at this
  omega
theorem ups_in : ∀ {l : List Tr}, (∀ k (h : k < l.length), tierE l[k] (aboveL (l.drop (k + 1))) = 0) → ∀ (to : Nat) (h : to < l.length) (i : Int), 0 ≤ i → i < ((l[0]'(by omega)).terms.length : Int) → 0 ≤ ups (l.take to) i ∧ ups (l.take to) i < (l[to].terms.length : Int)
 | [], _, to, h, _, _, _ => by simp at h
 | t :: r, hl, 0, h, i, h1, h2 => ⟨h1, h2⟩
 | t :: r, hl, to + 1, h, i, h1, h2 => by
  have hr : to < r.length := by simpa using h
  have h0 := hl 0 (by simp)
  obtain ⟨_, _, h3⟩ := tierE_zero h0
  have hab : aboveL ((t :: r).drop (0 + 1)) = ((r[0]'(by omega)).terms.length : Int) := by
   cases r with
   | nil => simp at hr
   | cons u r => rfl
  have hr0 := tierE_zero (show tierE (r[0]'(by omega)) (aboveL (r.drop (0 + 1))) = 0 from hl 1 (by simp; omega))
  have h3' : treeB t.up t.terms.length ((r[0]'(by omega)).terms.length : Int) = true := by rw [← hab]; exact h3
  obtain ⟨h4, h5⟩ := treeB_in h3' (by omega)
  have h2' : i < (t.terms.length : Int) := h2
  have hi : i.toNat < t.up.length := by omega
  have h6 := h5 _ (List.getElem_mem hi)
  have hov : overT t i = t.up[i.toNat] := by
   unfold overT
   rw [if_neg (by omega)]
   simp [hi]
  have e : ups ((t :: r).take (to + 1)) i = ups (r.take to) (overT t i) := by
   rw [List.take_succ_cons, ups, if_pos (by omega)]
  rw [e, hov]
  exact ups_in (fun k hk => hl (k + 1) (by simpa using hk)) to hr _ h6.1 h6.2
theorem liftD_in {d : Dm} (h : dimE d = 0) {to i : Nat} (ht : to < d.tiers.length) (hi : i < n0 d) : 0 ≤ liftD d to i ∧ liftD d to i < (d.tiers[to].terms.length : Int) := by
 obtain ⟨h1, h2, h3⟩ := dimE_zero h
 have hn : n0 d = (d.tiers[0]'(by omega)).terms.length := by unfold n0; rw [List.getElem?_eq_getElem (by omega)]; rfl
 have := ups_in h3 to ht i (by omega) (by omega)
 unfold liftD bot
 rw [if_neg (by omega)]
 exact this
theorem rowF_zero {x : Shp} : ∀ {l : List Fct} {w : Option Fct}, rowF x w l = 0 → ∀ f ∈ l, factE x f = 0
 | [], _, _, f, h => by cases h
 | c :: r, w, h, f, hf => by
  rw [rowF_cons] at h
  split at h
  ·rename_i h1; exact absurd h h1
  ·rename_i h1
   split at h
   ·omega
   ·rcases List.mem_cons.1 hf with rfl | hf
    ·exact Classical.not_not.1 h1
    ·exact rowF_zero h f hf
theorem keysF_zero : ∀ {ks : List Int} {ss : List (List Int)}, keysF ks ss = 0 → ∀ (d : Nat) (h : d < ks.length), 0 ≤ ks[d] ∧ ks[d] < (ss.getD d []).headD 0
 | [], _, _, d, h => by simp at h
 | _ :: _, [], h, _, _ => by simp [keysF] at h
 | k :: ks, s :: ss, h, d, hd => by
  unfold keysF at h
  split at h
  ·omega
  ·cases d with
   | zero => simp; simp at *; omega
   | succ d => simpa using keysF_zero h d (by simpa using hd)
theorem factE_zero {x : Shp} {f : Fct} (h : factE x f = 0) : f.1.length = x.sizes.length ∧ keysF f.1 x.sizes = 0 ∧ aggMay x.measures f.2 = true := by
 unfold factE at h
 split at h
 ·omega
 ·rename_i h1
  split at h
  ·rename_i h2; exact absurd h h2
  ·rename_i h2
   split at h
   ·omega
   ·rename_i h3
    exact ⟨by omega, Classical.not_not.1 h2, by simpa using h3⟩
theorem facts_ok {S : Sc} {facts : List Fct} (hs : scE S = 0) (hr : rowF (shpS S) none facts = 0) (hf : facts.length ≤ 4000) (ha : ∀ f ∈ facts, AgIn f.2) : FactsOk (shpS S) (liftsS S) facts := by
 obtain ⟨s1, s2, s3, _⟩ := scE_zero hs
 have hl : (liftsS S).length = S.dims.length := by unfold liftsS; simp
 have hx : (shpS S).sizes.length = S.dims.length := by unfold shpS; simp
 have hsz : ∀ d (h : d < S.dims.length), (shpS S).sizes.getD d [] = S.dims[d].tiers.map szT := fun d h => by unfold shpS; simp [h]
 have hL : ∀ d (h : d < (liftsS S).length), (liftsS S)[d] = liftsD (S.dims[d]'(by omega)) := fun d h => List.getElem_map ..
 have hT : ∀ d (h : d < (liftsS S).length) t (ht : t < (liftsS S)[d].length), (liftsS S)[d][t] = mapD (S.dims[d]'(by omega)) t := fun d h t ht => by simp [hL d h, liftsD]
 have hD : ∀ d (h : d < S.dims.length), dimE S.dims[d] = 0 := fun d h => s3 _ (List.getElem_mem h)
 have hTl : ∀ d (h : d < (liftsS S).length), (liftsS S)[d].length = (S.dims[d]'(by omega)).tiers.length := fun d h => by rw [hL d h]; simp [liftsD]
 have hN : ∀ d (h : d < S.dims.length) t (ht : t < S.dims[d].tiers.length), tierN (shpS S) d t = S.dims[d].tiers[t].terms.length := fun d h t ht => by
  unfold tierN
  rw [hsz d h]
  simp [ht, szT]
 refine ⟨hf, by omega, by omega, ha, fun f hm => ?_, fun d h => ?_, fun f hm d h t ht => ?_, fun d t => ?_⟩
 ·have := (factE_zero (rowF_zero hr f hm)).1; omega
 ·have hd : d < S.dims.length := by omega
  obtain ⟨h1, h2, _⟩ := dimE_zero (hD d hd)
  have := hTl d h
  rw [hsz d hd, List.length_map]
  omega
 ·have hd : d < S.dims.length := by omega
  obtain ⟨k1, k2, k3⟩ := factE_zero (rowF_zero hr f hm)
  obtain ⟨h1, h2, h3⟩ := dimE_zero (hD d hd)
  have hdf : d < f.1.length := by omega
  have hk := keysF_zero k2 d hdf
  rw [hsz d hd] at hk
  have hn : n0 S.dims[d] = (S.dims[d].tiers[0]'(by omega)).terms.length := by unfold n0; rw [List.getElem?_eq_getElem (by omega)]; rfl
  have hh : (S.dims[d].tiers.map szT).headD 0 = (n0 S.dims[d] : Int) := by
   rw [hn]
   have : ∀ l : List Tr, ∀ h : 0 < l.length, (l.map szT).headD 0 = ((l[0]).terms.length : Int) := fun l h => by
    cases l with
    | nil => simp at h
    | cons a r => rfl
   exact this _ (by omega)
  rw [hh] at hk
  have ht' : t < S.dims[d].tiers.length := by have := hTl d h; omega
  have hm1 : (mapD S.dims[d] t).length = n0 S.dims[d] := by unfold mapD; simp
  refine ⟨f.1[d].toNat, by simp [hdf]; omega, ?_⟩
  rw [hN d hd t ht']
  have hlt : f.1[d].toNat < n0 S.dims[d] := by omega
  refine ⟨by rw [hT d h t ht, hm1]; exact hlt, ?_⟩
  have e : (liftsS S)[d][t][f.1[d].toNat]'(by rw [hT d h t ht, hm1]; exact hlt) = liftD S.dims[d] t f.1[d].toNat := by
   simp only [hT d h t ht]
   simp [mapD]
  rw [e]
  exact liftD_in (hD d hd) ht' hlt
 ·by_cases h : d < S.dims.length
  ·by_cases ht : t < S.dims[d].tiers.length
   ·rw [hN d h t ht]
    obtain ⟨_, _, h3⟩ := dimE_zero (hD d h)
    exact (tierE_zero (h3 t ht)).2.1
   ·unfold tierN
    rw [hsz d h]
    simp [Nat.le_of_not_lt ht]
  ·unfold tierN
   have e : (shpS S).sizes.getD d [] = [] := by rw [List.getD_eq_getElem?_getD, List.getElem?_eq_none (by omega)]; rfl
   rw [e]
   simp
end Go.Proofs.Ytaapiigfmdhobaa
