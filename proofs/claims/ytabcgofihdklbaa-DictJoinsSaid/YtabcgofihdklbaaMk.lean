/- Texts of the walk, joined: Jc Jd. -/
import Derived.Test.YtabcgofihdklbaaMj
namespace Go.Proofs.Ytabcgofihdklbaa
set_option linter.unusedSimpArgs false
set_option linter.unusedVariables false
open Go.RowKit
theorem allLen_rI (l : List Int) : allLen 1 (rI l) = true := allLen_map (f := fun n => [AV.i n]) (fun _ => rfl) l
theorem take_map_snoc {α β : Type} {f : α → β} {l : List α} {k : Nat} (h : k < l.length) : (l.take (k + 1)).map f = (l.take k).map f ++ [f l[k]] := by
 rw [List.take_succ_eq_append_getElem h, List.map_append, List.map_singleton]
theorem DictA.ext {T : List Tx} {id : Nat} {H G : AHeap} (h : DictA T id H) (hx : AHeap.Ext H G) : DictA T id G := by
 obtain ⟨t, h⟩ := h
 exact ⟨t, hx.get _ _ h⟩
def plT (T L : List Tx) : List Int := L.map fun s => (belowT T s : Int)
set_option maxHeartbeats 1000000 in
theorem ids_sound {T : List Tx} {id : Nat} (t : Tok) (L : List Tx) (H : AHeap) (hd : DictA T id H) (hT : Rising T) (hTl : T.length ≤ 1000000) (hL : ∀ x ∈ L, x ∈ T) (hLl : L.length ≤ 1000000) :
  Sound Try.prog 19 [.ptr id 0, .sl t (rS L)] H (Pure H (.tup [.sl .no (rI (plT T L)), .i 0])) := by
 have hd2 := hd
 obtain ⟨t1, hg⟩ := hd
 have hlt := AHeap.lt hg
 refine fn_soundQ hE cf19 (Nat.le_of_ble_eq_true rfl) fun Q hQr hQn => ?_
 ((have hd := trivial; repeat' (first | ((first | apply GdK_st | apply GdK_sf | apply CondK_s) <;> intro hd <;> (try simp only [hd])) | simp (disch := first | assumption | omega | (simp only [nx] <;> omega) | fail) only [hd, hQr, hQn, c19_0, ↓YA, YB, YC, YE, YF, YZ, ↓reduceIte, Nat.reduceEqDiff, Nat.reduceAdd, Nat.reduceMul, Nat.reduceLeDiff, Int.reduceToNat, Int.reduceLE, Int.reduceLT, Int.reduceGT, Int.reduceGE, Int.reduceAdd, Int.reduceSub, Int.reduceNeg, Int.reduceBEq, Int.reduceBNe, hg, List.length_map])) <;> (try (have hd_ : True := hd; clear hd_ hd)))
 refine AW_for [6, 23, 24] (σ := Unit) (fun (k : Nat) s => True) (fun k s => [(7, .sl (.own H.next) (rI ((L.take k).map fun s => (belowT T s : Int))))]) (fun k s => [(H.next, .tok k 3 1)]) () (GStep.tok 7 3 1 rfl) (by simp only [keep_nil, keep_cons, Fr.put, Fr.get, ↓reduceIte, Nat.reduceEqDiff]; rfl) (by intro k s; rfl) (by intro k s; rfl) (by rfl) (by unfold maxLen; omega) ?_ (by simp only [FrL_nil, FrL_cons, Fr.put, Fr.get, ↓reduceIte, Nat.reduceEqDiff, and_self] <;> simp) ?_ ?_ ?_
 ·trivial
 ·rw [ObjL_cons]
  exact ⟨AHeap.get_alloc_self (H := H), by simp [ObjL]⟩
 ·(rintro k s G hk ht hG hn; try simp only [nx] at hn)
  have ho := hG.o (_, _) (List.mem_singleton.2 rfl)
  have hlo := AHeap.lt ho
  have hdG : DictA T id G := hd2.ext (hG.extO (AHeap.Ext.refl H).alloc (by simp))
  have hm := hL _ (List.getElem_mem hk)
  have hI : Sound Try.prog 11 [.ptr id 0, eS L[k]] G (Pure G (.tup [.i (belowT T L[k] : Int), .b true])) := by
   have := id_sound L[k] G hdG hTl hT
   rw [if_pos hm, decide_eq_true hm] at this
   exact this
  have hlen : ((L.take k).map fun s => (belowT T s : Int)).length = k := by simp; omega
  have la1 := allLen_rI ((L.take k).map fun s => (belowT T s : Int))
  have la2 : allLen 1 [[AV.i (belowT T L[k] : Int)]] = true := rfl
  have lm1 : k + 1 ≤ maxLen := by unfold maxLen; omega
  have lm2 : (k + 1) * 8 ≤ 140737488355328 := by omega
  have hsn : rI ((L.take k).map fun s => (belowT T s : Int)) ++ [[AV.i (belowT T L[k] : Int)]] = rI ((L.take (k + 1)).map fun s => (belowT T s : Int)) := by rw [take_map_snoc hk]; simp
  generalize ((L.take k).map fun s => (belowT T s : Int)) = D at *
  ((have hd := trivial; repeat' (first | ((first | apply GdK_st | apply GdK_sf | apply CondK_s) <;> intro hd <;> (try simp only [hd])) | simp (disch := first | assumption | omega | (simp only [nx] <;> omega) | fail) only [hd, hQr, hQn, c19_0, ↓YA, YB, YC, YE, YF, YZ, ↓reduceIte, Nat.reduceEqDiff, Nat.reduceAdd, Nat.reduceMul, Nat.reduceLeDiff, Int.reduceToNat, Int.reduceLE, Int.reduceLT, Int.reduceGT, Int.reduceGE, Int.reduceAdd, Int.reduceSub, Int.reduceNeg, Int.reduceBEq, Int.reduceBNe, List.length_map])) <;> (try (have hd_ : True := hd; clear hd_ hd)))
  (refine CallK.use (hI) ?_; rintro _ _ ⟨rfl, k1, rfl⟩)
  ((have hd := trivial; repeat' (first | ((first | apply GdK_st | apply GdK_sf | apply CondK_s) <;> intro hd <;> (try simp only [hd])) | simp (disch := first | assumption | omega | (simp only [nx] <;> omega) | fail) only [hd, hQr, hQn, c19_0, ↓YA, YB, YC, YE, YF, YZ, ↓reduceIte, Nat.reduceEqDiff, Nat.reduceAdd, Nat.reduceMul, Nat.reduceLeDiff, Int.reduceToNat, Int.reduceLE, Int.reduceLT, Int.reduceGT, Int.reduceGE, Int.reduceAdd, Int.reduceSub, Int.reduceNeg, Int.reduceBEq, Int.reduceBNe, ho, la1, la2, lm1, lm2, hlen, List.length_map, rowsIn, rowsOf, List.length_singleton])) <;> (try (have hd_ : True := hd; clear hd_ hd)))
  exact ⟨(), congrArg (AV.sl _) hsn, hG.bump.put⟩
 ·(rintro s G ht hG hn; try simp only [nx] at hn)
  ((have hd := trivial; repeat' (first | ((first | apply GdK_st | apply GdK_sf | apply CondK_s) <;> intro hd <;> (try simp only [hd])) | simp (disch := first | assumption | omega | (simp only [nx] <;> omega) | fail) only [hd, hQr, hQn, c19_0, ↓YA, YB, YC, YE, YF, YZ, ↓reduceIte, Nat.reduceEqDiff, Nat.reduceAdd, Nat.reduceMul, Nat.reduceLeDiff, Int.reduceToNat, Int.reduceLE, Int.reduceLT, Int.reduceGT, Int.reduceGE, Int.reduceAdd, Int.reduceSub, Int.reduceNeg, Int.reduceBEq, Int.reduceBNe])) <;> (try (have hd_ : True := hd; clear hd_ hd)))
  rw [List.take_length]
  exact fin_pure (hG.extO (AHeap.Ext.refl H).alloc (by simp)) rfl
theorem cloneT_nil (tok : Tok) (H : AHeap) : Sound Try.prog 24 [.sl tok []] H fun r H' => r = .sl .full [] ∧ ∃ k, H' = H.bump k := by
 have a0 : allLen 1 ([] : List (List AV)) = true := rfl
 refine fn_soundQ hE cf24 (Nat.le_of_ble_eq_true rfl) fun Q hQr hQn => ?_
 ((have hd := trivial; repeat' (first | ((first | apply GdK_st | apply GdK_sf | apply CondK_s) <;> intro hd <;> (try simp only [hd])) | simp (disch := first | assumption | omega | (simp only [nx] <;> omega) | fail) only [hd, hQr, hQn, c24_0, ↓YA, YB, YC, YE, YF, YZ, ↓reduceIte, Nat.reduceEqDiff, Nat.reduceAdd, Nat.reduceMul, Nat.reduceLeDiff, Int.reduceToNat, Int.reduceLE, Int.reduceLT, Int.reduceGT, Int.reduceGE, Int.reduceAdd, Int.reduceSub, Int.reduceNeg, Int.reduceBEq, Int.reduceBNe, rowsIn, rowsOf, a0, List.length_nil, List.append_nil, Nat.zero_mul, Nat.zero_le])) <;> (try (have hd_ : True := hd; clear hd_ hd)))
 all_goals exact fin_keep ⟨rfl, 0, rfl⟩
theorem cloneT_sound (tok : Tok) (a : Tx) (r : List Tx) (H : AHeap) (hl : (a :: r).length ≤ 1000000) : Sound Try.prog 24 [.sl tok (rS (a :: r))] H fun v H' => v = .sl (.own H.next) (rS (a :: r)) ∧ H' = H.alloc (.tok (r.length + 1) 9 1) := by
 have a0 : allLen 1 ([] : List (List AV)) = true := rfl
 have ms : maxLen = 9223372036854775807 := rfl
 simp only [List.length_cons] at hl
 have a1 : allLen 1 ([eS a] :: List.map (fun s => [eS s]) r) = true := allLen_rS (a :: r)
 have m1 : r.length + 1 ≤ maxLen := by omega
 have m2 : (r.length + 1) * 16 ≤ 140737488355328 := by omega
 refine fn_soundQ hE cf24 (Nat.le_of_ble_eq_true rfl) fun Q hQr hQn => ?_
 ((have hd := trivial; repeat' (first | ((first | apply GdK_st | apply GdK_sf | apply CondK_s) <;> intro hd <;> (try simp only [hd])) | simp (disch := first | assumption | omega | (simp only [nx] <;> omega) | fail) only [hd, hQr, hQn, c24_0, ↓YA, YB, YC, YE, YF, YZ, ↓reduceIte, Nat.reduceEqDiff, Nat.reduceAdd, Nat.reduceMul, Nat.reduceLeDiff, Int.reduceToNat, Int.reduceLE, Int.reduceLT, Int.reduceGT, Int.reduceGE, Int.reduceAdd, Int.reduceSub, Int.reduceNeg, Int.reduceBEq, Int.reduceBNe, List.map_cons, List.length_map, rowsIn, rowsOf, a0, a1, m1, m2, List.length_nil, List.append_nil, List.length_cons])) <;> (try (have hd_ : True := hd; clear hd_ hd)))
 exact fin_keep ⟨rfl, rfl⟩
theorem termsT_nil {id : Nat} (H : AHeap) (hd : DictA [] id H) : Sound Try.prog 14 [.ptr id 0] H fun r H' => r = .sl .full [] ∧ ∃ k, H' = H.bump k := by
 obtain ⟨t, hg⟩ := hd
 have hlt := AHeap.lt hg
 refine fn_soundQ hE cf14 (Nat.le_of_ble_eq_true rfl) fun Q hQr hQn => ?_
 ((have hd := trivial; repeat' (first | ((first | apply GdK_st | apply GdK_sf | apply CondK_s) <;> intro hd <;> (try simp only [hd])) | simp (disch := first | assumption | omega | (simp only [nx] <;> omega) | fail) only [hd, hQr, hQn, c14_0, ↓YA, YB, YC, YE, YF, YZ, ↓reduceIte, Nat.reduceEqDiff, Nat.reduceAdd, Nat.reduceMul, Nat.reduceLeDiff, Int.reduceToNat, Int.reduceLE, Int.reduceLT, Int.reduceGT, Int.reduceGE, Int.reduceAdd, Int.reduceSub, Int.reduceNeg, Int.reduceBEq, Int.reduceBNe, hg])) <;> (try (have hd_ : True := hd; clear hd_ hd)))
 refine CallK.use (cloneT_nil t _) ?_
 rintro _ _ ⟨rfl, k, rfl⟩
 ((have hd := trivial; repeat' (first | ((first | apply GdK_st | apply GdK_sf | apply CondK_s) <;> intro hd <;> (try simp only [hd])) | simp (disch := first | assumption | omega | (simp only [nx] <;> omega) | fail) only [hd, hQr, hQn, c14_0, ↓YA, YB, YC, YE, YF, YZ, ↓reduceIte, Nat.reduceEqDiff, Nat.reduceAdd, Nat.reduceMul, Nat.reduceLeDiff, Int.reduceToNat, Int.reduceLE, Int.reduceLT, Int.reduceGT, Int.reduceGE, Int.reduceAdd, Int.reduceSub, Int.reduceNeg, Int.reduceBEq, Int.reduceBNe])) <;> (try (have hd_ : True := hd; clear hd_ hd)))
 exact fin_keep ⟨rfl, k, rfl⟩
theorem termsT_sound {a : Tx} {q : List Tx} {id : Nat} (H : AHeap) (hd : DictA (a :: q) id H) (hl : (a :: q).length ≤ 1000000) : Sound Try.prog 14 [.ptr id 0] H fun r H' => r = .sl (.own H.next) (rS (a :: q)) ∧ H' = H.alloc (.tok (q.length + 1) 9 1) := by
 obtain ⟨t, hg⟩ := hd
 have hlt := AHeap.lt hg
 refine fn_soundQ hE cf14 (Nat.le_of_ble_eq_true rfl) fun Q hQr hQn => ?_
 ((have hd := trivial; repeat' (first | ((first | apply GdK_st | apply GdK_sf | apply CondK_s) <;> intro hd <;> (try simp only [hd])) | simp (disch := first | assumption | omega | (simp only [nx] <;> omega) | fail) only [hd, hQr, hQn, c14_0, ↓YA, YB, YC, YE, YF, YZ, ↓reduceIte, Nat.reduceEqDiff, Nat.reduceAdd, Nat.reduceMul, Nat.reduceLeDiff, Int.reduceToNat, Int.reduceLE, Int.reduceLT, Int.reduceGT, Int.reduceGE, Int.reduceAdd, Int.reduceSub, Int.reduceNeg, Int.reduceBEq, Int.reduceBNe, hg])) <;> (try (have hd_ : True := hd; clear hd_ hd)))
 refine CallK.use (cloneT_sound t a q _ hl) ?_
 rintro _ _ ⟨rfl, rfl⟩
 ((have hd := trivial; repeat' (first | ((first | apply GdK_st | apply GdK_sf | apply CondK_s) <;> intro hd <;> (try simp only [hd])) | simp (disch := first | assumption | omega | (simp only [nx] <;> omega) | fail) only [hd, hQr, hQn, c14_0, ↓YA, YB, YC, YE, YF, YZ, ↓reduceIte, Nat.reduceEqDiff, Nat.reduceAdd, Nat.reduceMul, Nat.reduceLeDiff, Int.reduceToNat, Int.reduceLE, Int.reduceLT, Int.reduceGT, Int.reduceGE, Int.reduceAdd, Int.reduceSub, Int.reduceNeg, Int.reduceBEq, Int.reduceBNe])) <;> (try (have hd_ : True := hd; clear hd_ hd)))
 exact fin_keep ⟨rfl, rfl⟩
def JoinQ (A B : List Tx) (H : AHeap) (r : AV) (H' : AHeap) : Prop :=
 AHeap.Ext H H' ∧ ((wrongT (A ++ B) ≠ 0 ∧ r = .tup [.sc (.pointer none), .sl .full [], .sl .full [], .i (wrongT (A ++ B))]) ∨
  (wrongT (A ++ B) = 0 ∧ ∃ id, r = .tup [.ptr id 0, .sl .no (rI (plT (sortT (A ++ B)) A)), .sl .no (rI (plT (sortT (A ++ B)) B)), .i 0] ∧ DictA (sortT (A ++ B)) id H'))
set_option maxHeartbeats 4000000 in
theorem join_sound {A B : List Tx} {ia ib : Nat} (H : AHeap) (ha : DictA A ia H) (hb : DictA B ib H) (hAl : A.length ≤ 1000) (hBl : B.length ≤ 1000) : Sound Try.prog 17 [.ptr ia 0, .ptr ib 0] H (JoinQ A B H) := by
 have hC := sortT_rise (A ++ B)
 have hCl : (sortT (A ++ B)).length ≤ 1000000 := by
  have : ∀ (l out : List Tx), (l.foldl insT out).length ≤ out.length + l.length := by
   intro l
   induction l with
   | nil => intro out; simp
   | cons x l ih =>
    intro out
    have h1 := ih (insT out x)
    have h2 := insT_len out x
    rw [List.foldl_cons, List.length_cons]
    omega
  have := this (A ++ B) []
  rw [List.length_append, List.length_nil] at this
  have : (sortT (A ++ B)).length ≤ 0 + (A.length + B.length) := this
  omega
 have hmA : ∀ x ∈ A, x ∈ sortT (A ++ B) := fun x hx => (sortT_mem _ x).2 (List.mem_append.2 (.inl hx))
 have hmB : ∀ x ∈ B, x ∈ sortT (A ++ B) := fun x hx => (sortT_mem _ x).2 (List.mem_append.2 (.inr hx))
 have hEr : ∀ r H', AHeap.Ext H H' → wrongT (A ++ B) ≠ 0 → r = .tup [.sc (.pointer none), .sl .full [], .sl .full [], .i (wrongT (A ++ B))] → JoinQ A B H r H' := fun r H' h1 h2 h3 => ⟨h1, .inl ⟨h2, h3⟩⟩
 have hO : ∀ r H' id, AHeap.Ext H H' → wrongT (A ++ B) = 0 → r = .tup [.ptr id 0, .sl .no (rI (plT (sortT (A ++ B)) A)), .sl .no (rI (plT (sortT (A ++ B)) B)), .i 0] → DictA (sortT (A ++ B)) id H' → JoinQ A B H r H' := fun r H' id h1 h2 h3 h4 => ⟨h1, .inr ⟨h2, id, h3, h4⟩⟩
 have hAB : rS A ++ rS B = rS (A ++ B) := by simp only [rS, List.map_append]
 have hNew : ∀ t G, Sound Try.prog 8 [.sl t (rS (A ++ B))] G (NewQ (A ++ B) G) := fun t G => new_sound t (A ++ B) G (by rw [List.length_append]; omega)
 obtain ⟨C, hCe⟩ : ∃ C, C = A ++ B := ⟨_, rfl⟩
 rw [← hCe] at hAB hC hCl hmA hmB hEr hO hNew
 have hla : A.length ≤ 1000000 := by omega
 have hlb : B.length ≤ 1000000 := by omega
 have hTa : ∀ G, AHeap.Ext H G → Sound Try.prog 14 [.ptr ia 0] G (Pure G (.sl .no (rS A))) := fun G hx => terms_sound G (ha.ext hx) hla
 have hTb : ∀ G, AHeap.Ext H G → Sound Try.prog 14 [.ptr ib 0] G (Pure G (.sl .no (rS B))) := fun G hx => terms_sound G (hb.ext hx) hlb
 have hIa : ∀ G id, DictA (sortT C) id G → Sound Try.prog 19 [.ptr id 0, .sl .no (rS A)] G (Pure G (.tup [.sl .no (rI (plT (sortT C) A)), .i 0])) := fun G id h => ids_sound .no A G h hC hCl hmA hla
 have hIb : ∀ G id, DictA (sortT C) id G → Sound Try.prog 19 [.ptr id 0, .sl .no (rS B)] G (Pure G (.tup [.sl .no (rI (plT (sortT C) B)), .i 0])) := fun G id h => ids_sound .no B G h hC hCl hmB hlb
 have ms : maxLen = 9223372036854775807 := rfl
 have a0 : allLen 1 ([] : List (List AV)) = true := rfl
 have aB := allLen_rS B
 have t0 : B.length ≤ maxLen := by omega
 have t1 : B.length * 16 ≤ 140737488355328 := by omega
 clear hC hCl hmA hmB
 by_cases hw : wrongT C = 0
 ·have hN : ∀ t G, Sound Try.prog 8 [.sl t (rS C)] G (fun r G' => AHeap.Ext G G' ∧ ∃ id, r = .tup [.ptr id 0, .i 0] ∧ DictA (sortT C) id G') := fun t G => (hNew t G).mono fun r G' h => by
   obtain ⟨h1, h2⟩ := h
   rcases h2 with ⟨h2, _⟩ | ⟨_, h2⟩
   ·exact absurd hw h2
   ·exact ⟨h1, h2⟩
  clear hNew
  cases A with
  | nil =>
   cases B with
   | nil =>
    obtain rfl : C = [] := by simpa using hCe
    clear hAB
    refine fn_soundQ hE cf17 (Nat.le_of_ble_eq_true rfl) fun Q hQr hQn => ?_
    ((have hd := trivial; repeat' (first | ((first | apply GdK_st | apply GdK_sf | apply CondK_s) <;> intro hd <;> (try simp only [hd])) | simp (disch := first | assumption | omega | (simp only [nx] <;> omega) | fail) only [hd, hQr, hQn, c17_0, ↓YA, YB, YC, YE, YF, YZ, ↓reduceIte, Nat.reduceEqDiff, Nat.reduceAdd, Nat.reduceMul, Nat.reduceLeDiff, Int.reduceToNat, Int.reduceLE, Int.reduceLT, Int.reduceGT, Int.reduceGE, Int.reduceAdd, Int.reduceSub, Int.reduceNeg, Int.reduceBEq, Int.reduceBNe])) <;> (try (have hd_ : True := hd; clear hd_ hd)))
    refine CallK.use (termsT_nil _ ha) ?_
    rintro _ _ ⟨rfl, kk, rfl⟩
    ((have hd := trivial; repeat' (first | ((first | apply GdK_st | apply GdK_sf | apply CondK_s) <;> intro hd <;> (try simp only [hd])) | simp (disch := first | assumption | omega | (simp only [nx] <;> omega) | fail) only [hd, hQr, hQn, c17_0, ↓YA, YB, YC, YE, YF, YZ, ↓reduceIte, Nat.reduceEqDiff, Nat.reduceAdd, Nat.reduceMul, Nat.reduceLeDiff, Int.reduceToNat, Int.reduceLE, Int.reduceLT, Int.reduceGT, Int.reduceGE, Int.reduceAdd, Int.reduceSub, Int.reduceNeg, Int.reduceBEq, Int.reduceBNe])) <;> (try (have hd_ : True := hd; clear hd_ hd)))
    (refine CallK.use (hTb _ (by exact AXT)) ?_; rintro _ _ ⟨rfl, k0, rfl⟩)
    ((have hd := trivial; repeat' (first | ((first | apply GdK_st | apply GdK_sf | apply CondK_s) <;> intro hd <;> (try simp only [hd])) | simp (disch := first | assumption | omega | (simp only [nx] <;> omega) | fail) only [hd, hQr, hQn, c17_0, ↓YA, YB, YC, YE, YF, YZ, ↓reduceIte, Nat.reduceEqDiff, Nat.reduceAdd, Nat.reduceMul, Nat.reduceLeDiff, Int.reduceToNat, Int.reduceLE, Int.reduceLT, Int.reduceGT, Int.reduceGE, Int.reduceAdd, Int.reduceSub, Int.reduceNeg, Int.reduceBEq, Int.reduceBNe, List.map_nil, rowsIn, rowsOf, a0, List.length_nil, List.append_nil, Nat.zero_mul, Nat.zero_le])) <;> (try (have hd_ : True := hd; clear hd_ hd)))
    refine CallK.use (hN _ _) ?_
    rintro _ G ⟨hxG, id, rfl, hd⟩
    have hx0 : AHeap.Ext H G := AHeap.Ext.trans (by exact AXT) hxG
    ((have hd := trivial; repeat' (first | ((first | apply GdK_st | apply GdK_sf | apply CondK_s) <;> intro hd <;> (try simp only [hd])) | simp (disch := first | assumption | omega | (simp only [nx] <;> omega) | fail) only [hd, hQr, hQn, c17_0, ↓YA, YB, YC, YE, YF, YZ, ↓reduceIte, Nat.reduceEqDiff, Nat.reduceAdd, Nat.reduceMul, Nat.reduceLeDiff, Int.reduceToNat, Int.reduceLE, Int.reduceLT, Int.reduceGT, Int.reduceGE, Int.reduceAdd, Int.reduceSub, Int.reduceNeg, Int.reduceBEq, Int.reduceBNe])) <;> (try (have hd_ : True := hd; clear hd_ hd)))
    (refine CallK.use (hTa _ (by exact AXT)) ?_; rintro _ _ ⟨rfl, k1, rfl⟩)
    ((have hd := trivial; repeat' (first | ((first | apply GdK_st | apply GdK_sf | apply CondK_s) <;> intro hd <;> (try simp only [hd])) | simp (disch := first | assumption | omega | (simp only [nx] <;> omega) | fail) only [hd, hQr, hQn, c17_0, ↓YA, YB, YC, YE, YF, YZ, ↓reduceIte, Nat.reduceEqDiff, Nat.reduceAdd, Nat.reduceMul, Nat.reduceLeDiff, Int.reduceToNat, Int.reduceLE, Int.reduceLT, Int.reduceGT, Int.reduceGE, Int.reduceAdd, Int.reduceSub, Int.reduceNeg, Int.reduceBEq, Int.reduceBNe])) <;> (try (have hd_ : True := hd; clear hd_ hd)))
    (refine CallK.use (hIa _ id hd) ?_; rintro _ _ ⟨rfl, k2, rfl⟩)
    ((have hd := trivial; repeat' (first | ((first | apply GdK_st | apply GdK_sf | apply CondK_s) <;> intro hd <;> (try simp only [hd])) | simp (disch := first | assumption | omega | (simp only [nx] <;> omega) | fail) only [hd, hQr, hQn, c17_0, ↓YA, YB, YC, YE, YF, YZ, ↓reduceIte, Nat.reduceEqDiff, Nat.reduceAdd, Nat.reduceMul, Nat.reduceLeDiff, Int.reduceToNat, Int.reduceLE, Int.reduceLT, Int.reduceGT, Int.reduceGE, Int.reduceAdd, Int.reduceSub, Int.reduceNeg, Int.reduceBEq, Int.reduceBNe])) <;> (try (have hd_ : True := hd; clear hd_ hd)))
    (refine CallK.use (hTb _ (by exact AXT)) ?_; rintro _ _ ⟨rfl, k3, rfl⟩)
    ((have hd := trivial; repeat' (first | ((first | apply GdK_st | apply GdK_sf | apply CondK_s) <;> intro hd <;> (try simp only [hd])) | simp (disch := first | assumption | omega | (simp only [nx] <;> omega) | fail) only [hd, hQr, hQn, c17_0, ↓YA, YB, YC, YE, YF, YZ, ↓reduceIte, Nat.reduceEqDiff, Nat.reduceAdd, Nat.reduceMul, Nat.reduceLeDiff, Int.reduceToNat, Int.reduceLE, Int.reduceLT, Int.reduceGT, Int.reduceGE, Int.reduceAdd, Int.reduceSub, Int.reduceNeg, Int.reduceBEq, Int.reduceBNe])) <;> (try (have hd_ : True := hd; clear hd_ hd)))
    (refine CallK.use (hIb _ id hd) ?_; rintro _ _ ⟨rfl, k4, rfl⟩)
    ((have hd := trivial; repeat' (first | ((first | apply GdK_st | apply GdK_sf | apply CondK_s) <;> intro hd <;> (try simp only [hd])) | simp (disch := first | assumption | omega | (simp only [nx] <;> omega) | fail) only [hd, hQr, hQn, c17_0, ↓YA, YB, YC, YE, YF, YZ, ↓reduceIte, Nat.reduceEqDiff, Nat.reduceAdd, Nat.reduceMul, Nat.reduceLeDiff, Int.reduceToNat, Int.reduceLE, Int.reduceLT, Int.reduceGT, Int.reduceGE, Int.reduceAdd, Int.reduceSub, Int.reduceNeg, Int.reduceBEq, Int.reduceBNe])) <;> (try (have hd_ : True := hd; clear hd_ hd)))
    exact fin_keep (hO _ _ id (by exact AXT) hw rfl hd)
   | cons b q =>
    obtain rfl : C = b :: q := by simpa using hCe
    clear hAB
    simp only [List.length_cons] at t0 t1
    have aB : allLen 1 ([eS b] :: List.map (fun s => [eS s]) q) = true := allLen_rS (b :: q)
    refine fn_soundQ hE cf17 (Nat.le_of_ble_eq_true rfl) fun Q hQr hQn => ?_
    ((have hd := trivial; repeat' (first | ((first | apply GdK_st | apply GdK_sf | apply CondK_s) <;> intro hd <;> (try simp only [hd])) | simp (disch := first | assumption | omega | (simp only [nx] <;> omega) | fail) only [hd, hQr, hQn, c17_0, ↓YA, YB, YC, YE, YF, YZ, ↓reduceIte, Nat.reduceEqDiff, Nat.reduceAdd, Nat.reduceMul, Nat.reduceLeDiff, Int.reduceToNat, Int.reduceLE, Int.reduceLT, Int.reduceGT, Int.reduceGE, Int.reduceAdd, Int.reduceSub, Int.reduceNeg, Int.reduceBEq, Int.reduceBNe])) <;> (try (have hd_ : True := hd; clear hd_ hd)))
    refine CallK.use (termsT_nil _ ha) ?_
    rintro _ _ ⟨rfl, kk, rfl⟩
    ((have hd := trivial; repeat' (first | ((first | apply GdK_st | apply GdK_sf | apply CondK_s) <;> intro hd <;> (try simp only [hd])) | simp (disch := first | assumption | omega | (simp only [nx] <;> omega) | fail) only [hd, hQr, hQn, c17_0, ↓YA, YB, YC, YE, YF, YZ, ↓reduceIte, Nat.reduceEqDiff, Nat.reduceAdd, Nat.reduceMul, Nat.reduceLeDiff, Int.reduceToNat, Int.reduceLE, Int.reduceLT, Int.reduceGT, Int.reduceGE, Int.reduceAdd, Int.reduceSub, Int.reduceNeg, Int.reduceBEq, Int.reduceBNe])) <;> (try (have hd_ : True := hd; clear hd_ hd)))
    (refine CallK.use (hTb _ (by exact AXT)) ?_; rintro _ _ ⟨rfl, k0, rfl⟩)
    ((have hd := trivial; repeat' (first | ((first | apply GdK_st | apply GdK_sf | apply CondK_s) <;> intro hd <;> (try simp only [hd])) | simp (disch := first | assumption | omega | (simp only [nx] <;> omega) | fail) only [hd, hQr, hQn, c17_0, ↓YA, YB, YC, YE, YF, YZ, ↓reduceIte, Nat.reduceEqDiff, Nat.reduceAdd, Nat.reduceMul, Nat.reduceLeDiff, Int.reduceToNat, Int.reduceLE, Int.reduceLT, Int.reduceGT, Int.reduceGE, Int.reduceAdd, Int.reduceSub, Int.reduceNeg, Int.reduceBEq, Int.reduceBNe, List.map_cons, List.length_cons, List.length_map, rowsIn, rowsOf, a0, aB, t0, t1, List.length_nil, List.append_nil, List.nil_append, Nat.zero_mul, Nat.zero_le])) <;> (try (have hd_ : True := hd; clear hd_ hd)))
    refine CallK.use (hN _ _) ?_
    rintro _ G ⟨hxG, id, rfl, hd⟩
    have hx0 : AHeap.Ext H G := AHeap.Ext.trans (by exact AXT) hxG
    ((have hd := trivial; repeat' (first | ((first | apply GdK_st | apply GdK_sf | apply CondK_s) <;> intro hd <;> (try simp only [hd])) | simp (disch := first | assumption | omega | (simp only [nx] <;> omega) | fail) only [hd, hQr, hQn, c17_0, ↓YA, YB, YC, YE, YF, YZ, ↓reduceIte, Nat.reduceEqDiff, Nat.reduceAdd, Nat.reduceMul, Nat.reduceLeDiff, Int.reduceToNat, Int.reduceLE, Int.reduceLT, Int.reduceGT, Int.reduceGE, Int.reduceAdd, Int.reduceSub, Int.reduceNeg, Int.reduceBEq, Int.reduceBNe])) <;> (try (have hd_ : True := hd; clear hd_ hd)))
    (refine CallK.use (hTa _ (by exact AXT)) ?_; rintro _ _ ⟨rfl, k1, rfl⟩)
    ((have hd := trivial; repeat' (first | ((first | apply GdK_st | apply GdK_sf | apply CondK_s) <;> intro hd <;> (try simp only [hd])) | simp (disch := first | assumption | omega | (simp only [nx] <;> omega) | fail) only [hd, hQr, hQn, c17_0, ↓YA, YB, YC, YE, YF, YZ, ↓reduceIte, Nat.reduceEqDiff, Nat.reduceAdd, Nat.reduceMul, Nat.reduceLeDiff, Int.reduceToNat, Int.reduceLE, Int.reduceLT, Int.reduceGT, Int.reduceGE, Int.reduceAdd, Int.reduceSub, Int.reduceNeg, Int.reduceBEq, Int.reduceBNe])) <;> (try (have hd_ : True := hd; clear hd_ hd)))
    (refine CallK.use (hIa _ id hd) ?_; rintro _ _ ⟨rfl, k2, rfl⟩)
    ((have hd := trivial; repeat' (first | ((first | apply GdK_st | apply GdK_sf | apply CondK_s) <;> intro hd <;> (try simp only [hd])) | simp (disch := first | assumption | omega | (simp only [nx] <;> omega) | fail) only [hd, hQr, hQn, c17_0, ↓YA, YB, YC, YE, YF, YZ, ↓reduceIte, Nat.reduceEqDiff, Nat.reduceAdd, Nat.reduceMul, Nat.reduceLeDiff, Int.reduceToNat, Int.reduceLE, Int.reduceLT, Int.reduceGT, Int.reduceGE, Int.reduceAdd, Int.reduceSub, Int.reduceNeg, Int.reduceBEq, Int.reduceBNe])) <;> (try (have hd_ : True := hd; clear hd_ hd)))
    (refine CallK.use (hTb _ (by exact AXT)) ?_; rintro _ _ ⟨rfl, k3, rfl⟩)
    ((have hd := trivial; repeat' (first | ((first | apply GdK_st | apply GdK_sf | apply CondK_s) <;> intro hd <;> (try simp only [hd])) | simp (disch := first | assumption | omega | (simp only [nx] <;> omega) | fail) only [hd, hQr, hQn, c17_0, ↓YA, YB, YC, YE, YF, YZ, ↓reduceIte, Nat.reduceEqDiff, Nat.reduceAdd, Nat.reduceMul, Nat.reduceLeDiff, Int.reduceToNat, Int.reduceLE, Int.reduceLT, Int.reduceGT, Int.reduceGE, Int.reduceAdd, Int.reduceSub, Int.reduceNeg, Int.reduceBEq, Int.reduceBNe])) <;> (try (have hd_ : True := hd; clear hd_ hd)))
    (refine CallK.use (hIb _ id hd) ?_; rintro _ _ ⟨rfl, k4, rfl⟩)
    ((have hd := trivial; repeat' (first | ((first | apply GdK_st | apply GdK_sf | apply CondK_s) <;> intro hd <;> (try simp only [hd])) | simp (disch := first | assumption | omega | (simp only [nx] <;> omega) | fail) only [hd, hQr, hQn, c17_0, ↓YA, YB, YC, YE, YF, YZ, ↓reduceIte, Nat.reduceEqDiff, Nat.reduceAdd, Nat.reduceMul, Nat.reduceLeDiff, Int.reduceToNat, Int.reduceLE, Int.reduceLT, Int.reduceGT, Int.reduceGE, Int.reduceAdd, Int.reduceSub, Int.reduceNeg, Int.reduceBEq, Int.reduceBNe])) <;> (try (have hd_ : True := hd; clear hd_ hd)))
    exact fin_keep (hO _ _ id (by exact AXT) hw rfl hd)
  | cons a p =>
   have hla2 := hla
   simp only [rS, List.map_cons, List.length_cons] at hAB hla
   have hp : p.length ≤ 1000 := by simp only [List.length_cons] at hAl; omega
   have aA : allLen 1 ([eS a] :: List.map (fun s => [eS s]) p) = true := allLen_rS (a :: p)
   have m1 : p.length + 1 + B.length ≤ maxLen := by omega
   have m2 : (p.length + 1 + B.length) * 16 ≤ 140737488355328 := by omega
   refine fn_soundQ hE cf17 (Nat.le_of_ble_eq_true rfl) fun Q hQr hQn => ?_
   ((have hd := trivial; repeat' (first | ((first | apply GdK_st | apply GdK_sf | apply CondK_s) <;> intro hd <;> (try simp only [hd])) | simp (disch := first | assumption | omega | (simp only [nx] <;> omega) | fail) only [hd, hQr, hQn, c17_0, ↓YA, YB, YC, YE, YF, YZ, ↓reduceIte, Nat.reduceEqDiff, Nat.reduceAdd, Nat.reduceMul, Nat.reduceLeDiff, Int.reduceToNat, Int.reduceLE, Int.reduceLT, Int.reduceGT, Int.reduceGE, Int.reduceAdd, Int.reduceSub, Int.reduceNeg, Int.reduceBEq, Int.reduceBNe])) <;> (try (have hd_ : True := hd; clear hd_ hd)))
   refine CallK.use (termsT_sound _ ha hla2) ?_
   rintro _ _ ⟨rfl, rfl⟩
   ((have hd := trivial; repeat' (first | ((first | apply GdK_st | apply GdK_sf | apply CondK_s) <;> intro hd <;> (try simp only [hd])) | simp (disch := first | assumption | omega | (simp only [nx] <;> omega) | fail) only [hd, hQr, hQn, c17_0, ↓YA, YB, YC, YE, YF, YZ, ↓reduceIte, Nat.reduceEqDiff, Nat.reduceAdd, Nat.reduceMul, Nat.reduceLeDiff, Int.reduceToNat, Int.reduceLE, Int.reduceLT, Int.reduceGT, Int.reduceGE, Int.reduceAdd, Int.reduceSub, Int.reduceNeg, Int.reduceBEq, Int.reduceBNe])) <;> (try (have hd_ : True := hd; clear hd_ hd)))
   (refine CallK.use (hTb _ (by exact AXT)) ?_; rintro _ _ ⟨rfl, k0, rfl⟩)
   ((have hd := trivial; repeat' (first | ((first | apply GdK_st | apply GdK_sf | apply CondK_s) <;> intro hd <;> (try simp only [hd])) | simp (disch := first | assumption | omega | (simp only [nx] <;> omega) | fail) only [hd, hQr, hQn, c17_0, ↓YA, YB, YC, YE, YF, YZ, ↓reduceIte, Nat.reduceEqDiff, Nat.reduceAdd, Nat.reduceMul, Nat.reduceLeDiff, Int.reduceToNat, Int.reduceLE, Int.reduceLT, Int.reduceGT, Int.reduceGE, Int.reduceAdd, Int.reduceSub, Int.reduceNeg, Int.reduceBEq, Int.reduceBNe, List.map_cons, List.length_cons, List.length_map, rowsIn, rowsOf, a0, aA, aB, m1, m2, List.length_nil, List.append_nil, hAB])) <;> (try (have hd_ : True := hd; clear hd_ hd)))
   refine CallK.use (hN _ _) ?_
   rintro _ G ⟨hxG, id, rfl, hd⟩
   have hx0 : AHeap.Ext H G := AHeap.Ext.trans (by exact AXT) hxG
   ((have hd := trivial; repeat' (first | ((first | apply GdK_st | apply GdK_sf | apply CondK_s) <;> intro hd <;> (try simp only [hd])) | simp (disch := first | assumption | omega | (simp only [nx] <;> omega) | fail) only [hd, hQr, hQn, c17_0, ↓YA, YB, YC, YE, YF, YZ, ↓reduceIte, Nat.reduceEqDiff, Nat.reduceAdd, Nat.reduceMul, Nat.reduceLeDiff, Int.reduceToNat, Int.reduceLE, Int.reduceLT, Int.reduceGT, Int.reduceGE, Int.reduceAdd, Int.reduceSub, Int.reduceNeg, Int.reduceBEq, Int.reduceBNe])) <;> (try (have hd_ : True := hd; clear hd_ hd)))
   (refine CallK.use (hTa _ (by exact AXT)) ?_; rintro _ _ ⟨rfl, k1, rfl⟩)
   ((have hd := trivial; repeat' (first | ((first | apply GdK_st | apply GdK_sf | apply CondK_s) <;> intro hd <;> (try simp only [hd])) | simp (disch := first | assumption | omega | (simp only [nx] <;> omega) | fail) only [hd, hQr, hQn, c17_0, ↓YA, YB, YC, YE, YF, YZ, ↓reduceIte, Nat.reduceEqDiff, Nat.reduceAdd, Nat.reduceMul, Nat.reduceLeDiff, Int.reduceToNat, Int.reduceLE, Int.reduceLT, Int.reduceGT, Int.reduceGE, Int.reduceAdd, Int.reduceSub, Int.reduceNeg, Int.reduceBEq, Int.reduceBNe])) <;> (try (have hd_ : True := hd; clear hd_ hd)))
   (refine CallK.use (hIa _ id hd) ?_; rintro _ _ ⟨rfl, k2, rfl⟩)
   ((have hd := trivial; repeat' (first | ((first | apply GdK_st | apply GdK_sf | apply CondK_s) <;> intro hd <;> (try simp only [hd])) | simp (disch := first | assumption | omega | (simp only [nx] <;> omega) | fail) only [hd, hQr, hQn, c17_0, ↓YA, YB, YC, YE, YF, YZ, ↓reduceIte, Nat.reduceEqDiff, Nat.reduceAdd, Nat.reduceMul, Nat.reduceLeDiff, Int.reduceToNat, Int.reduceLE, Int.reduceLT, Int.reduceGT, Int.reduceGE, Int.reduceAdd, Int.reduceSub, Int.reduceNeg, Int.reduceBEq, Int.reduceBNe])) <;> (try (have hd_ : True := hd; clear hd_ hd)))
   (refine CallK.use (hTb _ (by exact AXT)) ?_; rintro _ _ ⟨rfl, k3, rfl⟩)
   ((have hd := trivial; repeat' (first | ((first | apply GdK_st | apply GdK_sf | apply CondK_s) <;> intro hd <;> (try simp only [hd])) | simp (disch := first | assumption | omega | (simp only [nx] <;> omega) | fail) only [hd, hQr, hQn, c17_0, ↓YA, YB, YC, YE, YF, YZ, ↓reduceIte, Nat.reduceEqDiff, Nat.reduceAdd, Nat.reduceMul, Nat.reduceLeDiff, Int.reduceToNat, Int.reduceLE, Int.reduceLT, Int.reduceGT, Int.reduceGE, Int.reduceAdd, Int.reduceSub, Int.reduceNeg, Int.reduceBEq, Int.reduceBNe])) <;> (try (have hd_ : True := hd; clear hd_ hd)))
   (refine CallK.use (hIb _ id hd) ?_; rintro _ _ ⟨rfl, k4, rfl⟩)
   ((have hd := trivial; repeat' (first | ((first | apply GdK_st | apply GdK_sf | apply CondK_s) <;> intro hd <;> (try simp only [hd])) | simp (disch := first | assumption | omega | (simp only [nx] <;> omega) | fail) only [hd, hQr, hQn, c17_0, ↓YA, YB, YC, YE, YF, YZ, ↓reduceIte, Nat.reduceEqDiff, Nat.reduceAdd, Nat.reduceMul, Nat.reduceLeDiff, Int.reduceToNat, Int.reduceLE, Int.reduceLT, Int.reduceGT, Int.reduceGE, Int.reduceAdd, Int.reduceSub, Int.reduceNeg, Int.reduceBEq, Int.reduceBNe])) <;> (try (have hd_ : True := hd; clear hd_ hd)))
   exact fin_keep (hO _ _ id (by exact AXT) hw rfl hd)
 ·have hN : ∀ t G, Sound Try.prog 8 [.sl t (rS C)] G (fun r G' => AHeap.Ext G G' ∧ r = .tup [.sc (.pointer none), .i (wrongT C)]) := fun t G => (hNew t G).mono fun r G' h => by
   obtain ⟨h1, h2⟩ := h
   rcases h2 with ⟨_, h2⟩ | ⟨h2, _⟩
   ·exact ⟨h1, h2⟩
   ·exact absurd h2 hw
  clear hNew
  have q1 : (wrongT C != 0) = true := by simpa using hw
  cases A with
  | nil =>
   cases B with
   | nil =>
    obtain rfl : C = [] := by simpa using hCe
    clear hAB
    refine fn_soundQ hE cf17 (Nat.le_of_ble_eq_true rfl) fun Q hQr hQn => ?_
    ((have hd := trivial; repeat' (first | ((first | apply GdK_st | apply GdK_sf | apply CondK_s) <;> intro hd <;> (try simp only [hd])) | simp (disch := first | assumption | omega | (simp only [nx] <;> omega) | fail) only [hd, hQr, hQn, c17_0, ↓YA, YB, YC, YE, YF, YZ, ↓reduceIte, Nat.reduceEqDiff, Nat.reduceAdd, Nat.reduceMul, Nat.reduceLeDiff, Int.reduceToNat, Int.reduceLE, Int.reduceLT, Int.reduceGT, Int.reduceGE, Int.reduceAdd, Int.reduceSub, Int.reduceNeg, Int.reduceBEq, Int.reduceBNe])) <;> (try (have hd_ : True := hd; clear hd_ hd)))
    refine CallK.use (termsT_nil _ ha) ?_
    rintro _ _ ⟨rfl, kk, rfl⟩
    ((have hd := trivial; repeat' (first | ((first | apply GdK_st | apply GdK_sf | apply CondK_s) <;> intro hd <;> (try simp only [hd])) | simp (disch := first | assumption | omega | (simp only [nx] <;> omega) | fail) only [hd, hQr, hQn, c17_0, ↓YA, YB, YC, YE, YF, YZ, ↓reduceIte, Nat.reduceEqDiff, Nat.reduceAdd, Nat.reduceMul, Nat.reduceLeDiff, Int.reduceToNat, Int.reduceLE, Int.reduceLT, Int.reduceGT, Int.reduceGE, Int.reduceAdd, Int.reduceSub, Int.reduceNeg, Int.reduceBEq, Int.reduceBNe])) <;> (try (have hd_ : True := hd; clear hd_ hd)))
    (refine CallK.use (hTb _ (by exact AXT)) ?_; rintro _ _ ⟨rfl, k0, rfl⟩)
    ((have hd := trivial; repeat' (first | ((first | apply GdK_st | apply GdK_sf | apply CondK_s) <;> intro hd <;> (try simp only [hd])) | simp (disch := first | assumption | omega | (simp only [nx] <;> omega) | fail) only [hd, hQr, hQn, c17_0, ↓YA, YB, YC, YE, YF, YZ, ↓reduceIte, Nat.reduceEqDiff, Nat.reduceAdd, Nat.reduceMul, Nat.reduceLeDiff, Int.reduceToNat, Int.reduceLE, Int.reduceLT, Int.reduceGT, Int.reduceGE, Int.reduceAdd, Int.reduceSub, Int.reduceNeg, Int.reduceBEq, Int.reduceBNe, List.map_nil, rowsIn, rowsOf, a0, List.length_nil, List.append_nil, Nat.zero_mul, Nat.zero_le])) <;> (try (have hd_ : True := hd; clear hd_ hd)))
    refine CallK.use (hN _ _) ?_
    rintro _ G ⟨hxG, rfl⟩
    have hx0 : AHeap.Ext H G := AHeap.Ext.trans (by exact AXT) hxG
    ((have hd := trivial; repeat' (first | ((first | apply GdK_st | apply GdK_sf | apply CondK_s) <;> intro hd <;> (try simp only [hd])) | simp (disch := first | assumption | omega | (simp only [nx] <;> omega) | fail) only [hd, hQr, hQn, c17_0, ↓YA, YB, YC, YE, YF, YZ, ↓reduceIte, Nat.reduceEqDiff, Nat.reduceAdd, Nat.reduceMul, Nat.reduceLeDiff, Int.reduceToNat, Int.reduceLE, Int.reduceLT, Int.reduceGT, Int.reduceGE, Int.reduceAdd, Int.reduceSub, Int.reduceNeg, Int.reduceBEq, Int.reduceBNe, q1])) <;> (try (have hd_ : True := hd; clear hd_ hd)))
    exact fin_keep (hEr _ _ (by exact AXT) hw rfl)
   | cons b q =>
    obtain rfl : C = b :: q := by simpa using hCe
    clear hAB
    simp only [List.length_cons] at t0 t1
    have aB : allLen 1 ([eS b] :: List.map (fun s => [eS s]) q) = true := allLen_rS (b :: q)
    refine fn_soundQ hE cf17 (Nat.le_of_ble_eq_true rfl) fun Q hQr hQn => ?_
    ((have hd := trivial; repeat' (first | ((first | apply GdK_st | apply GdK_sf | apply CondK_s) <;> intro hd <;> (try simp only [hd])) | simp (disch := first | assumption | omega | (simp only [nx] <;> omega) | fail) only [hd, hQr, hQn, c17_0, ↓YA, YB, YC, YE, YF, YZ, ↓reduceIte, Nat.reduceEqDiff, Nat.reduceAdd, Nat.reduceMul, Nat.reduceLeDiff, Int.reduceToNat, Int.reduceLE, Int.reduceLT, Int.reduceGT, Int.reduceGE, Int.reduceAdd, Int.reduceSub, Int.reduceNeg, Int.reduceBEq, Int.reduceBNe])) <;> (try (have hd_ : True := hd; clear hd_ hd)))
    refine CallK.use (termsT_nil _ ha) ?_
    rintro _ _ ⟨rfl, kk, rfl⟩
    ((have hd := trivial; repeat' (first | ((first | apply GdK_st | apply GdK_sf | apply CondK_s) <;> intro hd <;> (try simp only [hd])) | simp (disch := first | assumption | omega | (simp only [nx] <;> omega) | fail) only [hd, hQr, hQn, c17_0, ↓YA, YB, YC, YE, YF, YZ, ↓reduceIte, Nat.reduceEqDiff, Nat.reduceAdd, Nat.reduceMul, Nat.reduceLeDiff, Int.reduceToNat, Int.reduceLE, Int.reduceLT, Int.reduceGT, Int.reduceGE, Int.reduceAdd, Int.reduceSub, Int.reduceNeg, Int.reduceBEq, Int.reduceBNe])) <;> (try (have hd_ : True := hd; clear hd_ hd)))
    (refine CallK.use (hTb _ (by exact AXT)) ?_; rintro _ _ ⟨rfl, k0, rfl⟩)
    ((have hd := trivial; repeat' (first | ((first | apply GdK_st | apply GdK_sf | apply CondK_s) <;> intro hd <;> (try simp only [hd])) | simp (disch := first | assumption | omega | (simp only [nx] <;> omega) | fail) only [hd, hQr, hQn, c17_0, ↓YA, YB, YC, YE, YF, YZ, ↓reduceIte, Nat.reduceEqDiff, Nat.reduceAdd, Nat.reduceMul, Nat.reduceLeDiff, Int.reduceToNat, Int.reduceLE, Int.reduceLT, Int.reduceGT, Int.reduceGE, Int.reduceAdd, Int.reduceSub, Int.reduceNeg, Int.reduceBEq, Int.reduceBNe, List.map_cons, List.length_cons, List.length_map, rowsIn, rowsOf, a0, aB, t0, t1, List.length_nil, List.append_nil, List.nil_append, Nat.zero_mul, Nat.zero_le])) <;> (try (have hd_ : True := hd; clear hd_ hd)))
    refine CallK.use (hN _ _) ?_
    rintro _ G ⟨hxG, rfl⟩
    have hx0 : AHeap.Ext H G := AHeap.Ext.trans (by exact AXT) hxG
    ((have hd := trivial; repeat' (first | ((first | apply GdK_st | apply GdK_sf | apply CondK_s) <;> intro hd <;> (try simp only [hd])) | simp (disch := first | assumption | omega | (simp only [nx] <;> omega) | fail) only [hd, hQr, hQn, c17_0, ↓YA, YB, YC, YE, YF, YZ, ↓reduceIte, Nat.reduceEqDiff, Nat.reduceAdd, Nat.reduceMul, Nat.reduceLeDiff, Int.reduceToNat, Int.reduceLE, Int.reduceLT, Int.reduceGT, Int.reduceGE, Int.reduceAdd, Int.reduceSub, Int.reduceNeg, Int.reduceBEq, Int.reduceBNe, q1])) <;> (try (have hd_ : True := hd; clear hd_ hd)))
    exact fin_keep (hEr _ _ (by exact AXT) hw rfl)
  | cons a p =>
   have hla2 := hla
   simp only [rS, List.map_cons, List.length_cons] at hAB hla
   have hp : p.length ≤ 1000 := by simp only [List.length_cons] at hAl; omega
   have aA : allLen 1 ([eS a] :: List.map (fun s => [eS s]) p) = true := allLen_rS (a :: p)
   have m1 : p.length + 1 + B.length ≤ maxLen := by omega
   have m2 : (p.length + 1 + B.length) * 16 ≤ 140737488355328 := by omega
   refine fn_soundQ hE cf17 (Nat.le_of_ble_eq_true rfl) fun Q hQr hQn => ?_
   ((have hd := trivial; repeat' (first | ((first | apply GdK_st | apply GdK_sf | apply CondK_s) <;> intro hd <;> (try simp only [hd])) | simp (disch := first | assumption | omega | (simp only [nx] <;> omega) | fail) only [hd, hQr, hQn, c17_0, ↓YA, YB, YC, YE, YF, YZ, ↓reduceIte, Nat.reduceEqDiff, Nat.reduceAdd, Nat.reduceMul, Nat.reduceLeDiff, Int.reduceToNat, Int.reduceLE, Int.reduceLT, Int.reduceGT, Int.reduceGE, Int.reduceAdd, Int.reduceSub, Int.reduceNeg, Int.reduceBEq, Int.reduceBNe])) <;> (try (have hd_ : True := hd; clear hd_ hd)))
   refine CallK.use (termsT_sound _ ha hla2) ?_
   rintro _ _ ⟨rfl, rfl⟩
   ((have hd := trivial; repeat' (first | ((first | apply GdK_st | apply GdK_sf | apply CondK_s) <;> intro hd <;> (try simp only [hd])) | simp (disch := first | assumption | omega | (simp only [nx] <;> omega) | fail) only [hd, hQr, hQn, c17_0, ↓YA, YB, YC, YE, YF, YZ, ↓reduceIte, Nat.reduceEqDiff, Nat.reduceAdd, Nat.reduceMul, Nat.reduceLeDiff, Int.reduceToNat, Int.reduceLE, Int.reduceLT, Int.reduceGT, Int.reduceGE, Int.reduceAdd, Int.reduceSub, Int.reduceNeg, Int.reduceBEq, Int.reduceBNe])) <;> (try (have hd_ : True := hd; clear hd_ hd)))
   (refine CallK.use (hTb _ (by exact AXT)) ?_; rintro _ _ ⟨rfl, k0, rfl⟩)
   ((have hd := trivial; repeat' (first | ((first | apply GdK_st | apply GdK_sf | apply CondK_s) <;> intro hd <;> (try simp only [hd])) | simp (disch := first | assumption | omega | (simp only [nx] <;> omega) | fail) only [hd, hQr, hQn, c17_0, ↓YA, YB, YC, YE, YF, YZ, ↓reduceIte, Nat.reduceEqDiff, Nat.reduceAdd, Nat.reduceMul, Nat.reduceLeDiff, Int.reduceToNat, Int.reduceLE, Int.reduceLT, Int.reduceGT, Int.reduceGE, Int.reduceAdd, Int.reduceSub, Int.reduceNeg, Int.reduceBEq, Int.reduceBNe, List.map_cons, List.length_cons, List.length_map, rowsIn, rowsOf, a0, aA, aB, m1, m2, List.length_nil, List.append_nil, hAB])) <;> (try (have hd_ : True := hd; clear hd_ hd)))
   refine CallK.use (hN _ _) ?_
   rintro _ G ⟨hxG, rfl⟩
   have hx0 : AHeap.Ext H G := AHeap.Ext.trans (by exact AXT) hxG
   ((have hd := trivial; repeat' (first | ((first | apply GdK_st | apply GdK_sf | apply CondK_s) <;> intro hd <;> (try simp only [hd])) | simp (disch := first | assumption | omega | (simp only [nx] <;> omega) | fail) only [hd, hQr, hQn, c17_0, ↓YA, YB, YC, YE, YF, YZ, ↓reduceIte, Nat.reduceEqDiff, Nat.reduceAdd, Nat.reduceMul, Nat.reduceLeDiff, Int.reduceToNat, Int.reduceLE, Int.reduceLT, Int.reduceGT, Int.reduceGE, Int.reduceAdd, Int.reduceSub, Int.reduceNeg, Int.reduceBEq, Int.reduceBNe, q1])) <;> (try (have hd_ : True := hd; clear hd_ hd)))
   exact fin_keep (hEr _ _ (by exact AXT) hw rfl)
theorem sort_join (l m : List Tx) : sortT (sortT l ++ sortT m) = sortT (l ++ m) :=
 rise_uniq (sortT_rise _) (sortT_rise _) fun x => by rw [sortT_mem, sortT_mem, List.mem_append, List.mem_append, sortT_mem, sortT_mem]
theorem wrong_zero {l : List Tx} (h : wrongT l = 0) : l.all isT = true ∧ (sortT l).length ≤ 200 := by
 unfold wrongT at h
 split at h
 ·rename_i ha
  split at h
  ·cases h
  ·exact ⟨ha, by omega⟩
 ·cases h
theorem wrong_join {l m : List Tx} (hl : wrongT l = 0) (hm : wrongT m = 0) : wrongT (sortT l ++ sortT m) = if (sortT (l ++ m)).length > 200 then 5 else 0 := by
 have h1 := (wrong_zero hl).1
 have h2 := (wrong_zero hm).1
 have : (sortT l ++ sortT m).all isT = true := List.all_eq_true.2 fun x hx => by
  rcases List.mem_append.1 hx with h | h
  ·exact List.all_eq_true.1 h1 x ((sortT_mem l x).1 h)
  ·exact List.all_eq_true.1 h2 x ((sortT_mem m x).1 h)
 unfold wrongT
 rw [if_pos this, sort_join]
theorem pl_at {C A : List Tx} (hC : Rising C) (h : ∀ x ∈ A, x ∈ C) : plT C A = A.map (atT C) := List.map_congr_left fun x hx => (at_below hC (h x hx)).symm
theorem newOk {l : List Tx} (hl : l.length ≤ 100000) (hw : wrongT l = 0) (t : Tok) (G : AHeap) : Sound Try.prog 8 [.sl t (rS l)] G (fun r G' => AHeap.Ext G G' ∧ ∃ id, r = .tup [.ptr id 0, .i 0] ∧ DictA (sortT l) id G') :=
 (new_sound t l G hl).mono fun r G' h => by
  obtain ⟨h1, h2⟩ := h
  rcases h2 with ⟨h2, _⟩ | ⟨_, h2⟩
  ·exact absurd hw h2
  ·exact ⟨h1, h2⟩
set_option maxHeartbeats 4000000 in
theorem joins_ok (l m : List Tx) (H : AHeap) (hfl : fewT l = true) (hfm : fewT m = true) (hwl : wrongT l = 0) (hwm : wrongT m = 0) (hC : ¬(sortT (l ++ m)).length > 200) : Sound Try.prog 4 [.sl .no (rS l), .sl .no (rS m)] H fun r _ => r = .b true := by
 have hll := fewT_len hfl
 have hml := fewT_len hfm
 have hWl : ∀ G, Sound Try.prog 9 [.sl .no (rS l)] G (Pure G (.i 0)) := fun G => by rw [← hwl]; exact wrong_sound .no l G (by omega)
 have hWm : ∀ G, Sound Try.prog 9 [.sl .no (rS m)] G (Pure G (.i 0)) := fun G => by rw [← hwm]; exact wrong_sound .no m G (by omega)
 have hFl : ∀ G, Sound Try.prog 6 [.sl .no (rS l)] G (Pure G (.b true)) := fun G => by rw [← hfl]; exact few_sound .no l G
 have hFm : ∀ G, Sound Try.prog 6 [.sl .no (rS m)] G (Pure G (.b true)) := fun G => by rw [← hfm]; exact few_sound .no m G
 have hNl := newOk (by omega) hwl .no
 have hNm := newOk (by omega) hwm .no
 have hSl : ∀ G, Sound Try.prog 10 [.sl .no (rS l)] G (Pure G (.sl .no (rS (sortT l)))) := fun G => sorted_sound .no l G (by omega)
 have hSm : ∀ G, Sound Try.prog 10 [.sl .no (rS m)] G (Pure G (.sl .no (rS (sortT m)))) := fun G => sorted_sound .no m G (by omega)
 have hSC : ∀ t G, Sound Try.prog 10 [.sl t (rS (l ++ m))] G (Pure G (.sl .no (rS (sortT (l ++ m))))) := fun t G => sorted_sound t (l ++ m) G (by rw [List.length_append]; omega)
 have hAl := (wrong_zero hwl).2
 have hBl := (wrong_zero hwm).2
 have hwj := wrong_join hwl hwm
 rw [if_neg hC] at hwj
 have hCr := sortT_rise (l ++ m)
 have hpA : plT (sortT (l ++ m)) (sortT l) = (sortT l).map (atT (sortT (l ++ m))) := pl_at hCr fun x hx => (sortT_mem _ x).2 (List.mem_append.2 (.inl ((sortT_mem _ x).1 hx)))
 have hpB : plT (sortT (l ++ m)) (sortT m) = (sortT m).map (atT (sortT (l ++ m))) := pl_at hCr fun x hx => (sortT_mem _ x).2 (List.mem_append.2 (.inr ((sortT_mem _ x).1 hx)))
 have hJ : ∀ G ia ib, DictA (sortT l) ia G → DictA (sortT m) ib G → Sound Try.prog 17 [.ptr ia 0, .ptr ib 0] G (fun r G' => AHeap.Ext G G' ∧ ∃ id, r = .tup [.ptr id 0, .sl .no (rI ((sortT l).map (atT (sortT (l ++ m))))), .sl .no (rI ((sortT m).map (atT (sortT (l ++ m))))), .i 0] ∧ DictA (sortT (l ++ m)) id G') := fun G ia ib h1 h2 => (join_sound G h1 h2 (by omega) (by omega)).mono fun r G' h => by
  obtain ⟨h1, h2⟩ := h
  rcases h2 with ⟨h2, _⟩ | ⟨_, h2⟩
  ·exact absurd hwj h2
  ·rw [sort_join, hpA, hpB] at h2
   exact ⟨h1, h2⟩
 have happ : rS l ++ rS m = rS (l ++ m) := by simp only [rS, List.map_append]
 have ms : maxLen = 9223372036854775807 := rfl
 have a0 : allLen 1 ([] : List (List AV)) = true := rfl
 have al := allLen_rS l
 have am := allLen_rS m
 clear hfl hfm hwl hwm hwj hpA hpB hCr
 generalize sortT l = A at *
 generalize sortT m = B at *
 have dC : decide (((sortT (l ++ m)).length : Int) > 200) = false := decide_eq_false (by omega)
 have hCl : (sortT (l ++ m)).length ≤ 200 := by omega
 clear hC
 generalize sortT (l ++ m) = C at *
 have hTC : ∀ G, Sound Try.prog 13 [.sl .no (rS C), .sl .no (rS C)] G (Pure G (.b true)) := fun G => by
  have := texts_sound .no .no C C G (by omega)
  rw [decide_eq_true rfl] at this
  exact this
 have hIn : ∀ (X : List Int) t u G, X.length ≤ 1000 → Sound Try.prog 18 [.sl t (rI X), .sl u (rI X)] G (Pure G (.b true)) := fun X t u G h => by
  have := ints_sound t u X X G (by omega)
  rw [decide_eq_true rfl] at this
  exact this
 cases l with
 | nil =>
  cases m with
  | nil =>
   refine fn_soundQ hE cf4 (Nat.le_of_ble_eq_true rfl) fun Q hQr hQn => ?_
   ((have hd := trivial; repeat' (first | ((first | apply GdK_st | apply GdK_sf | apply CondK_s) <;> intro hd <;> (try simp only [hd])) | simp (disch := first | assumption | omega | (simp only [nx] <;> omega) | fail) only [hd, hQr, hQn, c4_0, ↓YA, YB, YC, YE, YF, YZ, ↓reduceIte, Nat.reduceEqDiff, Nat.reduceAdd, Nat.reduceMul, Nat.reduceLeDiff, Int.reduceToNat, Int.reduceLE, Int.reduceLT, Int.reduceGT, Int.reduceGE, Int.reduceAdd, Int.reduceSub, Int.reduceNeg, Int.reduceBEq, Int.reduceBNe])) <;> (try (have hd_ : True := hd; clear hd_ hd)))
   (refine CallK.use (hFl _) ?_; rintro _ _ ⟨rfl, k1, rfl⟩)
   ((have hd := trivial; repeat' (first | ((first | apply GdK_st | apply GdK_sf | apply CondK_s) <;> intro hd <;> (try simp only [hd])) | simp (disch := first | assumption | omega | (simp only [nx] <;> omega) | fail) only [hd, hQr, hQn, c4_0, ↓YA, YB, YC, YE, YF, YZ, ↓reduceIte, Nat.reduceEqDiff, Nat.reduceAdd, Nat.reduceMul, Nat.reduceLeDiff, Int.reduceToNat, Int.reduceLE, Int.reduceLT, Int.reduceGT, Int.reduceGE, Int.reduceAdd, Int.reduceSub, Int.reduceNeg, Int.reduceBEq, Int.reduceBNe])) <;> (try (have hd_ : True := hd; clear hd_ hd)))
   (refine CallK.use (hFm _) ?_; rintro _ _ ⟨rfl, k2, rfl⟩)
   ((have hd := trivial; repeat' (first | ((first | apply GdK_st | apply GdK_sf | apply CondK_s) <;> intro hd <;> (try simp only [hd])) | simp (disch := first | assumption | omega | (simp only [nx] <;> omega) | fail) only [hd, hQr, hQn, c4_0, ↓YA, YB, YC, YE, YF, YZ, ↓reduceIte, Nat.reduceEqDiff, Nat.reduceAdd, Nat.reduceMul, Nat.reduceLeDiff, Int.reduceToNat, Int.reduceLE, Int.reduceLT, Int.reduceGT, Int.reduceGE, Int.reduceAdd, Int.reduceSub, Int.reduceNeg, Int.reduceBEq, Int.reduceBNe])) <;> (try (have hd_ : True := hd; clear hd_ hd)))
   (refine CallK.use (hWl _) ?_; rintro _ _ ⟨rfl, k3, rfl⟩)
   ((have hd := trivial; repeat' (first | ((first | apply GdK_st | apply GdK_sf | apply CondK_s) <;> intro hd <;> (try simp only [hd])) | simp (disch := first | assumption | omega | (simp only [nx] <;> omega) | fail) only [hd, hQr, hQn, c4_0, ↓YA, YB, YC, YE, YF, YZ, ↓reduceIte, Nat.reduceEqDiff, Nat.reduceAdd, Nat.reduceMul, Nat.reduceLeDiff, Int.reduceToNat, Int.reduceLE, Int.reduceLT, Int.reduceGT, Int.reduceGE, Int.reduceAdd, Int.reduceSub, Int.reduceNeg, Int.reduceBEq, Int.reduceBNe])) <;> (try (have hd_ : True := hd; clear hd_ hd)))
   (refine CallK.use (hWm _) ?_; rintro _ _ ⟨rfl, k4, rfl⟩)
   ((have hd := trivial; repeat' (first | ((first | apply GdK_st | apply GdK_sf | apply CondK_s) <;> intro hd <;> (try simp only [hd])) | simp (disch := first | assumption | omega | (simp only [nx] <;> omega) | fail) only [hd, hQr, hQn, c4_0, ↓YA, YB, YC, YE, YF, YZ, ↓reduceIte, Nat.reduceEqDiff, Nat.reduceAdd, Nat.reduceMul, Nat.reduceLeDiff, Int.reduceToNat, Int.reduceLE, Int.reduceLT, Int.reduceGT, Int.reduceGE, Int.reduceAdd, Int.reduceSub, Int.reduceNeg, Int.reduceBEq, Int.reduceBNe])) <;> (try (have hd_ : True := hd; clear hd_ hd)))
   refine CallK.use (hNl _) ?_
   rintro _ H1 ⟨hx1, ia, rfl, ha⟩
   ((have hd := trivial; repeat' (first | ((first | apply GdK_st | apply GdK_sf | apply CondK_s) <;> intro hd <;> (try simp only [hd])) | simp (disch := first | assumption | omega | (simp only [nx] <;> omega) | fail) only [hd, hQr, hQn, c4_0, ↓YA, YB, YC, YE, YF, YZ, ↓reduceIte, Nat.reduceEqDiff, Nat.reduceAdd, Nat.reduceMul, Nat.reduceLeDiff, Int.reduceToNat, Int.reduceLE, Int.reduceLT, Int.reduceGT, Int.reduceGE, Int.reduceAdd, Int.reduceSub, Int.reduceNeg, Int.reduceBEq, Int.reduceBNe])) <;> (try (have hd_ : True := hd; clear hd_ hd)))
   refine CallK.use (hNm _) ?_
   rintro _ H2 ⟨hx2, ib, rfl, hb⟩
   have ha2 := ha.ext hx2
   ((have hd := trivial; repeat' (first | ((first | apply GdK_st | apply GdK_sf | apply CondK_s) <;> intro hd <;> (try simp only [hd])) | simp (disch := first | assumption | omega | (simp only [nx] <;> omega) | fail) only [hd, hQr, hQn, c4_0, ↓YA, YB, YC, YE, YF, YZ, ↓reduceIte, Nat.reduceEqDiff, Nat.reduceAdd, Nat.reduceMul, Nat.reduceLeDiff, Int.reduceToNat, Int.reduceLE, Int.reduceLT, Int.reduceGT, Int.reduceGE, Int.reduceAdd, Int.reduceSub, Int.reduceNeg, Int.reduceBEq, Int.reduceBNe])) <;> (try (have hd_ : True := hd; clear hd_ hd)))
   refine CallK.use (hJ _ ia ib ha2 hb) ?_
   rintro _ H3 ⟨hx3, id, rfl, hd⟩
   ((have hd := trivial; repeat' (first | ((first | apply GdK_st | apply GdK_sf | apply CondK_s) <;> intro hd <;> (try simp only [hd])) | simp (disch := first | assumption | omega | (simp only [nx] <;> omega) | fail) only [hd, hQr, hQn, c4_0, ↓YA, YB, YC, YE, YF, YZ, ↓reduceIte, Nat.reduceEqDiff, Nat.reduceAdd, Nat.reduceMul, Nat.reduceLeDiff, Int.reduceToNat, Int.reduceLE, Int.reduceLT, Int.reduceGT, Int.reduceGE, Int.reduceAdd, Int.reduceSub, Int.reduceNeg, Int.reduceBEq, Int.reduceBNe, List.map_nil, rowsIn, rowsOf, a0, List.length_nil, List.append_nil, Nat.zero_mul, Nat.zero_le])) <;> (try (have hd_ : True := hd; clear hd_ hd)))
   (refine CallK.use (hSC _ _) ?_; rintro _ _ ⟨rfl, k5, rfl⟩)
   ((have hd := trivial; repeat' (first | ((first | apply GdK_st | apply GdK_sf | apply CondK_s) <;> intro hd <;> (try simp only [hd])) | simp (disch := first | assumption | omega | (simp only [nx] <;> omega) | fail) only [hd, hQr, hQn, c4_0, ↓YA, YB, YC, YE, YF, YZ, ↓reduceIte, Nat.reduceEqDiff, Nat.reduceAdd, Nat.reduceMul, Nat.reduceLeDiff, Int.reduceToNat, Int.reduceLE, Int.reduceLT, Int.reduceGT, Int.reduceGE, Int.reduceAdd, Int.reduceSub, Int.reduceNeg, Int.reduceBEq, Int.reduceBNe, List.length_map, dC])) <;> (try (have hd_ : True := hd; clear hd_ hd)))
   (refine CallK.use (hSl _) ?_; rintro _ _ ⟨rfl, k6, rfl⟩)
   ((have hd := trivial; repeat' (first | ((first | apply GdK_st | apply GdK_sf | apply CondK_s) <;> intro hd <;> (try simp only [hd])) | simp (disch := first | assumption | omega | (simp only [nx] <;> omega) | fail) only [hd, hQr, hQn, c4_0, ↓YA, YB, YC, YE, YF, YZ, ↓reduceIte, Nat.reduceEqDiff, Nat.reduceAdd, Nat.reduceMul, Nat.reduceLeDiff, Int.reduceToNat, Int.reduceLE, Int.reduceLT, Int.reduceGT, Int.reduceGE, Int.reduceAdd, Int.reduceSub, Int.reduceNeg, Int.reduceBEq, Int.reduceBNe, List.length_map])) <;> (try (have hd_ : True := hd; clear hd_ hd)))
   have hd0 : DictA C id ((H3.bump k5).bump k6) := hd.ext (by exact AXT)
   generalize (H3.bump k5).bump k6 = G0 at *
   refine AW_for [1, 9, 10, 11, 12, 13, 15, 84, 85] (σ := Unit) (fun (k : Nat) s => True) (fun k s => [(14, .sl (.own G0.next) (rI ((A.take k).map (atT C))))]) (fun k s => [(G0.next, .tok k 3 1)]) () (GStep.tok 14 3 1 rfl) (by simp only [keep_nil, keep_cons, Fr.put, Fr.get, ↓reduceIte, Nat.reduceEqDiff]; rfl) (by intro k s; rfl) (by intro k s; rfl) (by rfl) (by unfold maxLen; omega) ?_ (by simp only [FrL_nil, FrL_cons, Fr.put, Fr.get, ↓reduceIte, Nat.reduceEqDiff, and_self] <;> simp) ?_ ?_ ?_
   ·trivial
   ·rw [ObjL_cons]
    exact ⟨AHeap.get_alloc_self (H := G0), by simp [ObjL]⟩
   ·(rintro k s G hk ht hG hn; try simp only [nx] at hn)
    have ho := hG.o (_, _) (List.mem_singleton.2 rfl)
    have hlo := AHeap.lt ho
    have hlen : ((A.take k).map (atT C)).length = k := by simp; omega
    have la1 := allLen_rI ((A.take k).map (atT C))
    have la2 : allLen 1 [[AV.i (atT C A[k])]] = true := rfl
    have lm1 : k + 1 ≤ maxLen := by omega
    have lm2 : (k + 1) * 8 ≤ 140737488355328 := by omega
    have hsn : rI ((A.take k).map (atT C)) ++ [[AV.i (atT C A[k])]] = rI ((A.take (k + 1)).map (atT C)) := by rw [take_map_snoc hk]; simp
    generalize ((A.take k).map (atT C)) = D at *
    ((have hd := trivial; repeat' (first | ((first | apply GdK_st | apply GdK_sf | apply CondK_s) <;> intro hd <;> (try simp only [hd])) | simp (disch := first | assumption | omega | (simp only [nx] <;> omega) | fail) only [hd, hQr, hQn, c4_0, ↓YA, YB, YC, YE, YF, YZ, ↓reduceIte, Nat.reduceEqDiff, Nat.reduceAdd, Nat.reduceMul, Nat.reduceLeDiff, Int.reduceToNat, Int.reduceLE, Int.reduceLT, Int.reduceGT, Int.reduceGE, Int.reduceAdd, Int.reduceSub, Int.reduceNeg, Int.reduceBEq, Int.reduceBNe, List.length_map])) <;> (try (have hd_ : True := hd; clear hd_ hd)))
    (refine CallK.use (at_sound .no C _ _ (by omega)) ?_; rintro _ _ ⟨rfl, kk, rfl⟩)
    ((have hd := trivial; repeat' (first | ((first | apply GdK_st | apply GdK_sf | apply CondK_s) <;> intro hd <;> (try simp only [hd])) | simp (disch := first | assumption | omega | (simp only [nx] <;> omega) | fail) only [hd, hQr, hQn, c4_0, ↓YA, YB, YC, YE, YF, YZ, ↓reduceIte, Nat.reduceEqDiff, Nat.reduceAdd, Nat.reduceMul, Nat.reduceLeDiff, Int.reduceToNat, Int.reduceLE, Int.reduceLT, Int.reduceGT, Int.reduceGE, Int.reduceAdd, Int.reduceSub, Int.reduceNeg, Int.reduceBEq, Int.reduceBNe, ho, la1, la2, lm1, lm2, hlen, List.length_map, rowsIn, rowsOf, List.length_singleton])) <;> (try (have hd_ : True := hd; clear hd_ hd)))
    exact ⟨(), congrArg (AV.sl _) hsn, hG.bump.put⟩
   ·(rintro s S1 ht hG hn; try simp only [nx] at hn)
    have hxS1 : AHeap.Ext G0 S1 := hG.extO (AHeap.Ext.refl G0).alloc (by simp)
    have hd1 := hd0.ext hxS1
    ((have hd := trivial; repeat' (first | ((first | apply GdK_st | apply GdK_sf | apply CondK_s) <;> intro hd <;> (try simp only [hd])) | simp (disch := first | assumption | omega | (simp only [nx] <;> omega) | fail) only [hd, hQr, hQn, c4_0, ↓YA, YB, YC, YE, YF, YZ, ↓reduceIte, Nat.reduceEqDiff, Nat.reduceAdd, Nat.reduceMul, Nat.reduceLeDiff, Int.reduceToNat, Int.reduceLE, Int.reduceLT, Int.reduceGT, Int.reduceGE, Int.reduceAdd, Int.reduceSub, Int.reduceNeg, Int.reduceBEq, Int.reduceBNe])) <;> (try (have hd_ : True := hd; clear hd_ hd)))
    (refine CallK.use (hSm _) ?_; rintro _ _ ⟨rfl, k8, rfl⟩)
    ((have hd := trivial; repeat' (first | ((first | apply GdK_st | apply GdK_sf | apply CondK_s) <;> intro hd <;> (try simp only [hd])) | simp (disch := first | assumption | omega | (simp only [nx] <;> omega) | fail) only [hd, hQr, hQn, c4_0, ↓YA, YB, YC, YE, YF, YZ, ↓reduceIte, Nat.reduceEqDiff, Nat.reduceAdd, Nat.reduceMul, Nat.reduceLeDiff, Int.reduceToNat, Int.reduceLE, Int.reduceLT, Int.reduceGT, Int.reduceGE, Int.reduceAdd, Int.reduceSub, Int.reduceNeg, Int.reduceBEq, Int.reduceBNe, List.length_map, List.take_length])) <;> (try (have hd_ : True := hd; clear hd_ hd)))
    have hd2 : DictA C id (S1.bump k8) := hd1.ext (by exact AXT)
    generalize S1.bump k8 = G1 at *
    refine AW_for [9, 10, 11, 12, 13, 14, 98, 99] (σ := Unit) (fun (k : Nat) s => True) (fun k s => [(15, .sl (.own G1.next) (rI ((B.take k).map (atT C))))]) (fun k s => [(G1.next, .tok k 3 1)]) () (GStep.tok 15 3 1 rfl) (by simp only [keep_nil, keep_cons, Fr.put, Fr.get, ↓reduceIte, Nat.reduceEqDiff]; rfl) (by intro k s; rfl) (by intro k s; rfl) (by rfl) (by unfold maxLen; omega) ?_ (by simp only [FrL_nil, FrL_cons, Fr.put, Fr.get, ↓reduceIte, Nat.reduceEqDiff, and_self] <;> simp) ?_ ?_ ?_
    ·trivial
    ·rw [ObjL_cons]
     exact ⟨AHeap.get_alloc_self (H := G1), by simp [ObjL]⟩
    ·(rintro k s G hk ht hG hn; try simp only [nx] at hn)
     have ho := hG.o (_, _) (List.mem_singleton.2 rfl)
     have hlo := AHeap.lt ho
     have hlen : ((B.take k).map (atT C)).length = k := by simp; omega
     have la1 := allLen_rI ((B.take k).map (atT C))
     have la2 : allLen 1 [[AV.i (atT C B[k])]] = true := rfl
     have lm1 : k + 1 ≤ maxLen := by omega
     have lm2 : (k + 1) * 8 ≤ 140737488355328 := by omega
     have hsn : rI ((B.take k).map (atT C)) ++ [[AV.i (atT C B[k])]] = rI ((B.take (k + 1)).map (atT C)) := by rw [take_map_snoc hk]; simp
     generalize ((B.take k).map (atT C)) = D at *
     ((have hd := trivial; repeat' (first | ((first | apply GdK_st | apply GdK_sf | apply CondK_s) <;> intro hd <;> (try simp only [hd])) | simp (disch := first | assumption | omega | (simp only [nx] <;> omega) | fail) only [hd, hQr, hQn, c4_0, ↓YA, YB, YC, YE, YF, YZ, ↓reduceIte, Nat.reduceEqDiff, Nat.reduceAdd, Nat.reduceMul, Nat.reduceLeDiff, Int.reduceToNat, Int.reduceLE, Int.reduceLT, Int.reduceGT, Int.reduceGE, Int.reduceAdd, Int.reduceSub, Int.reduceNeg, Int.reduceBEq, Int.reduceBNe, List.length_map])) <;> (try (have hd_ : True := hd; clear hd_ hd)))
     (refine CallK.use (at_sound .no C _ _ (by omega)) ?_; rintro _ _ ⟨rfl, kk, rfl⟩)
     ((have hd := trivial; repeat' (first | ((first | apply GdK_st | apply GdK_sf | apply CondK_s) <;> intro hd <;> (try simp only [hd])) | simp (disch := first | assumption | omega | (simp only [nx] <;> omega) | fail) only [hd, hQr, hQn, c4_0, ↓YA, YB, YC, YE, YF, YZ, ↓reduceIte, Nat.reduceEqDiff, Nat.reduceAdd, Nat.reduceMul, Nat.reduceLeDiff, Int.reduceToNat, Int.reduceLE, Int.reduceLT, Int.reduceGT, Int.reduceGE, Int.reduceAdd, Int.reduceSub, Int.reduceNeg, Int.reduceBEq, Int.reduceBNe, ho, la1, la2, lm1, lm2, hlen, List.length_map, rowsIn, rowsOf, List.length_singleton])) <;> (try (have hd_ : True := hd; clear hd_ hd)))
     exact ⟨(), congrArg (AV.sl _) hsn, hG.bump.put⟩
    ·(rintro s S2 ht hG hn; try simp only [nx] at hn)
     have hxS2 : AHeap.Ext G1 S2 := hG.extO (AHeap.Ext.refl G1).alloc (by simp)
     have hd3 := hd2.ext hxS2
     ((have hd := trivial; repeat' (first | ((first | apply GdK_st | apply GdK_sf | apply CondK_s) <;> intro hd <;> (try simp only [hd])) | simp (disch := first | assumption | omega | (simp only [nx] <;> omega) | fail) only [hd, hQr, hQn, c4_0, ↓YA, YB, YC, YE, YF, YZ, ↓reduceIte, Nat.reduceEqDiff, Nat.reduceAdd, Nat.reduceMul, Nat.reduceLeDiff, Int.reduceToNat, Int.reduceLE, Int.reduceLT, Int.reduceGT, Int.reduceGE, Int.reduceAdd, Int.reduceSub, Int.reduceNeg, Int.reduceBEq, Int.reduceBNe, List.take_length])) <;> (try (have hd_ : True := hd; clear hd_ hd)))
     (refine CallK.use (terms_sound (T := C) _ hd3 (by omega)) ?_; rintro _ _ ⟨rfl, k9, rfl⟩)
     ((have hd := trivial; repeat' (first | ((first | apply GdK_st | apply GdK_sf | apply CondK_s) <;> intro hd <;> (try simp only [hd])) | simp (disch := first | assumption | omega | (simp only [nx] <;> omega) | fail) only [hd, hQr, hQn, c4_0, ↓YA, YB, YC, YE, YF, YZ, ↓reduceIte, Nat.reduceEqDiff, Nat.reduceAdd, Nat.reduceMul, Nat.reduceLeDiff, Int.reduceToNat, Int.reduceLE, Int.reduceLT, Int.reduceGT, Int.reduceGE, Int.reduceAdd, Int.reduceSub, Int.reduceNeg, Int.reduceBEq, Int.reduceBNe])) <;> (try (have hd_ : True := hd; clear hd_ hd)))
     (refine CallK.use (hTC _) ?_; rintro _ _ ⟨rfl, k10, rfl⟩)
     ((have hd := trivial; repeat' (first | ((first | apply GdK_st | apply GdK_sf | apply CondK_s) <;> intro hd <;> (try simp only [hd])) | simp (disch := first | assumption | omega | (simp only [nx] <;> omega) | fail) only [hd, hQr, hQn, c4_0, ↓YA, YB, YC, YE, YF, YZ, ↓reduceIte, Nat.reduceEqDiff, Nat.reduceAdd, Nat.reduceMul, Nat.reduceLeDiff, Int.reduceToNat, Int.reduceLE, Int.reduceLT, Int.reduceGT, Int.reduceGE, Int.reduceAdd, Int.reduceSub, Int.reduceNeg, Int.reduceBEq, Int.reduceBNe, List.take_length])) <;> (try (have hd_ : True := hd; clear hd_ hd)))
     (refine CallK.use (hIn (A.map (atT C)) _ _ _ (by simp; omega)) ?_; rintro _ _ ⟨rfl, k11, rfl⟩)
     ((have hd := trivial; repeat' (first | ((first | apply GdK_st | apply GdK_sf | apply CondK_s) <;> intro hd <;> (try simp only [hd])) | simp (disch := first | assumption | omega | (simp only [nx] <;> omega) | fail) only [hd, hQr, hQn, c4_0, ↓YA, YB, YC, YE, YF, YZ, ↓reduceIte, Nat.reduceEqDiff, Nat.reduceAdd, Nat.reduceMul, Nat.reduceLeDiff, Int.reduceToNat, Int.reduceLE, Int.reduceLT, Int.reduceGT, Int.reduceGE, Int.reduceAdd, Int.reduceSub, Int.reduceNeg, Int.reduceBEq, Int.reduceBNe, List.take_length])) <;> (try (have hd_ : True := hd; clear hd_ hd)))
     (refine CallK.use (hIn (B.map (atT C)) _ _ _ (by simp; omega)) ?_; rintro _ _ ⟨rfl, k12, rfl⟩)
     ((have hd := trivial; repeat' (first | ((first | apply GdK_st | apply GdK_sf | apply CondK_s) <;> intro hd <;> (try simp only [hd])) | simp (disch := first | assumption | omega | (simp only [nx] <;> omega) | fail) only [hd, hQr, hQn, c4_0, ↓YA, YB, YC, YE, YF, YZ, ↓reduceIte, Nat.reduceEqDiff, Nat.reduceAdd, Nat.reduceMul, Nat.reduceLeDiff, Int.reduceToNat, Int.reduceLE, Int.reduceLT, Int.reduceGT, Int.reduceGE, Int.reduceAdd, Int.reduceSub, Int.reduceNeg, Int.reduceBEq, Int.reduceBNe])) <;> (try (have hd_ : True := hd; clear hd_ hd)))
     (refine CallK.use (awake_sound _) ?_; rintro _ _ ⟨rfl, k13, rfl⟩)
     ((have hd := trivial; repeat' (first | ((first | apply GdK_st | apply GdK_sf | apply CondK_s) <;> intro hd <;> (try simp only [hd])) | simp (disch := first | assumption | omega | (simp only [nx] <;> omega) | fail) only [hd, hQr, hQn, c4_0, ↓YA, YB, YC, YE, YF, YZ, ↓reduceIte, Nat.reduceEqDiff, Nat.reduceAdd, Nat.reduceMul, Nat.reduceLeDiff, Int.reduceToNat, Int.reduceLE, Int.reduceLT, Int.reduceGT, Int.reduceGE, Int.reduceAdd, Int.reduceSub, Int.reduceNeg, Int.reduceBEq, Int.reduceBNe])) <;> (try (have hd_ : True := hd; clear hd_ hd)))
     exact fin_keep rfl
  | cons y q =>
   have aA : allLen 1 ([eS y] :: List.map (fun s => [eS s]) q) = true := am
   simp only [List.length_cons] at hml
   have m3 : q.length + 1 ≤ maxLen := by omega
   have m4 : (q.length + 1) * 16 ≤ 140737488355328 := by omega
   refine fn_soundQ hE cf4 (Nat.le_of_ble_eq_true rfl) fun Q hQr hQn => ?_
   ((have hd := trivial; repeat' (first | ((first | apply GdK_st | apply GdK_sf | apply CondK_s) <;> intro hd <;> (try simp only [hd])) | simp (disch := first | assumption | omega | (simp only [nx] <;> omega) | fail) only [hd, hQr, hQn, c4_0, ↓YA, YB, YC, YE, YF, YZ, ↓reduceIte, Nat.reduceEqDiff, Nat.reduceAdd, Nat.reduceMul, Nat.reduceLeDiff, Int.reduceToNat, Int.reduceLE, Int.reduceLT, Int.reduceGT, Int.reduceGE, Int.reduceAdd, Int.reduceSub, Int.reduceNeg, Int.reduceBEq, Int.reduceBNe])) <;> (try (have hd_ : True := hd; clear hd_ hd)))
   (refine CallK.use (hFl _) ?_; rintro _ _ ⟨rfl, k1, rfl⟩)
   ((have hd := trivial; repeat' (first | ((first | apply GdK_st | apply GdK_sf | apply CondK_s) <;> intro hd <;> (try simp only [hd])) | simp (disch := first | assumption | omega | (simp only [nx] <;> omega) | fail) only [hd, hQr, hQn, c4_0, ↓YA, YB, YC, YE, YF, YZ, ↓reduceIte, Nat.reduceEqDiff, Nat.reduceAdd, Nat.reduceMul, Nat.reduceLeDiff, Int.reduceToNat, Int.reduceLE, Int.reduceLT, Int.reduceGT, Int.reduceGE, Int.reduceAdd, Int.reduceSub, Int.reduceNeg, Int.reduceBEq, Int.reduceBNe])) <;> (try (have hd_ : True := hd; clear hd_ hd)))
   (refine CallK.use (hFm _) ?_; rintro _ _ ⟨rfl, k2, rfl⟩)
   ((have hd := trivial; repeat' (first | ((first | apply GdK_st | apply GdK_sf | apply CondK_s) <;> intro hd <;> (try simp only [hd])) | simp (disch := first | assumption | omega | (simp only [nx] <;> omega) | fail) only [hd, hQr, hQn, c4_0, ↓YA, YB, YC, YE, YF, YZ, ↓reduceIte, Nat.reduceEqDiff, Nat.reduceAdd, Nat.reduceMul, Nat.reduceLeDiff, Int.reduceToNat, Int.reduceLE, Int.reduceLT, Int.reduceGT, Int.reduceGE, Int.reduceAdd, Int.reduceSub, Int.reduceNeg, Int.reduceBEq, Int.reduceBNe])) <;> (try (have hd_ : True := hd; clear hd_ hd)))
   (refine CallK.use (hWl _) ?_; rintro _ _ ⟨rfl, k3, rfl⟩)
   ((have hd := trivial; repeat' (first | ((first | apply GdK_st | apply GdK_sf | apply CondK_s) <;> intro hd <;> (try simp only [hd])) | simp (disch := first | assumption | omega | (simp only [nx] <;> omega) | fail) only [hd, hQr, hQn, c4_0, ↓YA, YB, YC, YE, YF, YZ, ↓reduceIte, Nat.reduceEqDiff, Nat.reduceAdd, Nat.reduceMul, Nat.reduceLeDiff, Int.reduceToNat, Int.reduceLE, Int.reduceLT, Int.reduceGT, Int.reduceGE, Int.reduceAdd, Int.reduceSub, Int.reduceNeg, Int.reduceBEq, Int.reduceBNe])) <;> (try (have hd_ : True := hd; clear hd_ hd)))
   (refine CallK.use (hWm _) ?_; rintro _ _ ⟨rfl, k4, rfl⟩)
   ((have hd := trivial; repeat' (first | ((first | apply GdK_st | apply GdK_sf | apply CondK_s) <;> intro hd <;> (try simp only [hd])) | simp (disch := first | assumption | omega | (simp only [nx] <;> omega) | fail) only [hd, hQr, hQn, c4_0, ↓YA, YB, YC, YE, YF, YZ, ↓reduceIte, Nat.reduceEqDiff, Nat.reduceAdd, Nat.reduceMul, Nat.reduceLeDiff, Int.reduceToNat, Int.reduceLE, Int.reduceLT, Int.reduceGT, Int.reduceGE, Int.reduceAdd, Int.reduceSub, Int.reduceNeg, Int.reduceBEq, Int.reduceBNe])) <;> (try (have hd_ : True := hd; clear hd_ hd)))
   refine CallK.use (hNl _) ?_
   rintro _ H1 ⟨hx1, ia, rfl, ha⟩
   ((have hd := trivial; repeat' (first | ((first | apply GdK_st | apply GdK_sf | apply CondK_s) <;> intro hd <;> (try simp only [hd])) | simp (disch := first | assumption | omega | (simp only [nx] <;> omega) | fail) only [hd, hQr, hQn, c4_0, ↓YA, YB, YC, YE, YF, YZ, ↓reduceIte, Nat.reduceEqDiff, Nat.reduceAdd, Nat.reduceMul, Nat.reduceLeDiff, Int.reduceToNat, Int.reduceLE, Int.reduceLT, Int.reduceGT, Int.reduceGE, Int.reduceAdd, Int.reduceSub, Int.reduceNeg, Int.reduceBEq, Int.reduceBNe])) <;> (try (have hd_ : True := hd; clear hd_ hd)))
   refine CallK.use (hNm _) ?_
   rintro _ H2 ⟨hx2, ib, rfl, hb⟩
   have ha2 := ha.ext hx2
   ((have hd := trivial; repeat' (first | ((first | apply GdK_st | apply GdK_sf | apply CondK_s) <;> intro hd <;> (try simp only [hd])) | simp (disch := first | assumption | omega | (simp only [nx] <;> omega) | fail) only [hd, hQr, hQn, c4_0, ↓YA, YB, YC, YE, YF, YZ, ↓reduceIte, Nat.reduceEqDiff, Nat.reduceAdd, Nat.reduceMul, Nat.reduceLeDiff, Int.reduceToNat, Int.reduceLE, Int.reduceLT, Int.reduceGT, Int.reduceGE, Int.reduceAdd, Int.reduceSub, Int.reduceNeg, Int.reduceBEq, Int.reduceBNe])) <;> (try (have hd_ : True := hd; clear hd_ hd)))
   refine CallK.use (hJ _ ia ib ha2 hb) ?_
   rintro _ H3 ⟨hx3, id, rfl, hd⟩
   ((have hd := trivial; repeat' (first | ((first | apply GdK_st | apply GdK_sf | apply CondK_s) <;> intro hd <;> (try simp only [hd])) | simp (disch := first | assumption | omega | (simp only [nx] <;> omega) | fail) only [hd, hQr, hQn, c4_0, ↓YA, YB, YC, YE, YF, YZ, ↓reduceIte, Nat.reduceEqDiff, Nat.reduceAdd, Nat.reduceMul, Nat.reduceLeDiff, Int.reduceToNat, Int.reduceLE, Int.reduceLT, Int.reduceGT, Int.reduceGE, Int.reduceAdd, Int.reduceSub, Int.reduceNeg, Int.reduceBEq, Int.reduceBNe, List.map_nil, List.map_cons, List.length_cons, List.length_map, rowsIn, rowsOf, a0, aA, m3, m4, List.length_nil, List.append_nil, List.nil_append, Nat.zero_mul, Nat.zero_le])) <;> (try (have hd_ : True := hd; clear hd_ hd)))
   (refine CallK.use (hSC _ _) ?_; rintro _ _ ⟨rfl, k5, rfl⟩)
   ((have hd := trivial; repeat' (first | ((first | apply GdK_st | apply GdK_sf | apply CondK_s) <;> intro hd <;> (try simp only [hd])) | simp (disch := first | assumption | omega | (simp only [nx] <;> omega) | fail) only [hd, hQr, hQn, c4_0, ↓YA, YB, YC, YE, YF, YZ, ↓reduceIte, Nat.reduceEqDiff, Nat.reduceAdd, Nat.reduceMul, Nat.reduceLeDiff, Int.reduceToNat, Int.reduceLE, Int.reduceLT, Int.reduceGT, Int.reduceGE, Int.reduceAdd, Int.reduceSub, Int.reduceNeg, Int.reduceBEq, Int.reduceBNe, List.length_map, dC])) <;> (try (have hd_ : True := hd; clear hd_ hd)))
   (refine CallK.use (hSl _) ?_; rintro _ _ ⟨rfl, k6, rfl⟩)
   ((have hd := trivial; repeat' (first | ((first | apply GdK_st | apply GdK_sf | apply CondK_s) <;> intro hd <;> (try simp only [hd])) | simp (disch := first | assumption | omega | (simp only [nx] <;> omega) | fail) only [hd, hQr, hQn, c4_0, ↓YA, YB, YC, YE, YF, YZ, ↓reduceIte, Nat.reduceEqDiff, Nat.reduceAdd, Nat.reduceMul, Nat.reduceLeDiff, Int.reduceToNat, Int.reduceLE, Int.reduceLT, Int.reduceGT, Int.reduceGE, Int.reduceAdd, Int.reduceSub, Int.reduceNeg, Int.reduceBEq, Int.reduceBNe, List.length_map])) <;> (try (have hd_ : True := hd; clear hd_ hd)))
   have hd0 : DictA C id (((H3.alloc (AObj.tok (q.length + 1) 9 1)).bump k5).bump k6) := hd.ext (by exact AXT)
   generalize ((H3.alloc (AObj.tok (q.length + 1) 9 1)).bump k5).bump k6 = G0 at *
   refine AW_for [1, 9, 10, 11, 12, 13, 15, 84, 85] (σ := Unit) (fun (k : Nat) s => True) (fun k s => [(14, .sl (.own G0.next) (rI ((A.take k).map (atT C))))]) (fun k s => [(G0.next, .tok k 3 1)]) () (GStep.tok 14 3 1 rfl) (by simp only [keep_nil, keep_cons, Fr.put, Fr.get, ↓reduceIte, Nat.reduceEqDiff]; rfl) (by intro k s; rfl) (by intro k s; rfl) (by rfl) (by unfold maxLen; omega) ?_ (by simp only [FrL_nil, FrL_cons, Fr.put, Fr.get, ↓reduceIte, Nat.reduceEqDiff, and_self] <;> simp) ?_ ?_ ?_
   ·trivial
   ·rw [ObjL_cons]
    exact ⟨AHeap.get_alloc_self (H := G0), by simp [ObjL]⟩
   ·(rintro k s G hk ht hG hn; try simp only [nx] at hn)
    have ho := hG.o (_, _) (List.mem_singleton.2 rfl)
    have hlo := AHeap.lt ho
    have hlen : ((A.take k).map (atT C)).length = k := by simp; omega
    have la1 := allLen_rI ((A.take k).map (atT C))
    have la2 : allLen 1 [[AV.i (atT C A[k])]] = true := rfl
    have lm1 : k + 1 ≤ maxLen := by omega
    have lm2 : (k + 1) * 8 ≤ 140737488355328 := by omega
    have hsn : rI ((A.take k).map (atT C)) ++ [[AV.i (atT C A[k])]] = rI ((A.take (k + 1)).map (atT C)) := by rw [take_map_snoc hk]; simp
    generalize ((A.take k).map (atT C)) = D at *
    ((have hd := trivial; repeat' (first | ((first | apply GdK_st | apply GdK_sf | apply CondK_s) <;> intro hd <;> (try simp only [hd])) | simp (disch := first | assumption | omega | (simp only [nx] <;> omega) | fail) only [hd, hQr, hQn, c4_0, ↓YA, YB, YC, YE, YF, YZ, ↓reduceIte, Nat.reduceEqDiff, Nat.reduceAdd, Nat.reduceMul, Nat.reduceLeDiff, Int.reduceToNat, Int.reduceLE, Int.reduceLT, Int.reduceGT, Int.reduceGE, Int.reduceAdd, Int.reduceSub, Int.reduceNeg, Int.reduceBEq, Int.reduceBNe, List.length_map])) <;> (try (have hd_ : True := hd; clear hd_ hd)))
    (refine CallK.use (at_sound .no C _ _ (by omega)) ?_; rintro _ _ ⟨rfl, kk, rfl⟩)
    ((have hd := trivial; repeat' (first | ((first | apply GdK_st | apply GdK_sf | apply CondK_s) <;> intro hd <;> (try simp only [hd])) | simp (disch := first | assumption | omega | (simp only [nx] <;> omega) | fail) only [hd, hQr, hQn, c4_0, ↓YA, YB, YC, YE, YF, YZ, ↓reduceIte, Nat.reduceEqDiff, Nat.reduceAdd, Nat.reduceMul, Nat.reduceLeDiff, Int.reduceToNat, Int.reduceLE, Int.reduceLT, Int.reduceGT, Int.reduceGE, Int.reduceAdd, Int.reduceSub, Int.reduceNeg, Int.reduceBEq, Int.reduceBNe, ho, la1, la2, lm1, lm2, hlen, List.length_map, rowsIn, rowsOf, List.length_singleton])) <;> (try (have hd_ : True := hd; clear hd_ hd)))
    exact ⟨(), congrArg (AV.sl _) hsn, hG.bump.put⟩
   ·(rintro s S1 ht hG hn; try simp only [nx] at hn)
    have hxS1 : AHeap.Ext G0 S1 := hG.extO (AHeap.Ext.refl G0).alloc (by simp)
    have hd1 := hd0.ext hxS1
    ((have hd := trivial; repeat' (first | ((first | apply GdK_st | apply GdK_sf | apply CondK_s) <;> intro hd <;> (try simp only [hd])) | simp (disch := first | assumption | omega | (simp only [nx] <;> omega) | fail) only [hd, hQr, hQn, c4_0, ↓YA, YB, YC, YE, YF, YZ, ↓reduceIte, Nat.reduceEqDiff, Nat.reduceAdd, Nat.reduceMul, Nat.reduceLeDiff, Int.reduceToNat, Int.reduceLE, Int.reduceLT, Int.reduceGT, Int.reduceGE, Int.reduceAdd, Int.reduceSub, Int.reduceNeg, Int.reduceBEq, Int.reduceBNe])) <;> (try (have hd_ : True := hd; clear hd_ hd)))
    (refine CallK.use (hSm _) ?_; rintro _ _ ⟨rfl, k8, rfl⟩)
    ((have hd := trivial; repeat' (first | ((first | apply GdK_st | apply GdK_sf | apply CondK_s) <;> intro hd <;> (try simp only [hd])) | simp (disch := first | assumption | omega | (simp only [nx] <;> omega) | fail) only [hd, hQr, hQn, c4_0, ↓YA, YB, YC, YE, YF, YZ, ↓reduceIte, Nat.reduceEqDiff, Nat.reduceAdd, Nat.reduceMul, Nat.reduceLeDiff, Int.reduceToNat, Int.reduceLE, Int.reduceLT, Int.reduceGT, Int.reduceGE, Int.reduceAdd, Int.reduceSub, Int.reduceNeg, Int.reduceBEq, Int.reduceBNe, List.length_map, List.take_length])) <;> (try (have hd_ : True := hd; clear hd_ hd)))
    have hd2 : DictA C id (S1.bump k8) := hd1.ext (by exact AXT)
    generalize S1.bump k8 = G1 at *
    refine AW_for [9, 10, 11, 12, 13, 14, 98, 99] (σ := Unit) (fun (k : Nat) s => True) (fun k s => [(15, .sl (.own G1.next) (rI ((B.take k).map (atT C))))]) (fun k s => [(G1.next, .tok k 3 1)]) () (GStep.tok 15 3 1 rfl) (by simp only [keep_nil, keep_cons, Fr.put, Fr.get, ↓reduceIte, Nat.reduceEqDiff]; rfl) (by intro k s; rfl) (by intro k s; rfl) (by rfl) (by unfold maxLen; omega) ?_ (by simp only [FrL_nil, FrL_cons, Fr.put, Fr.get, ↓reduceIte, Nat.reduceEqDiff, and_self] <;> simp) ?_ ?_ ?_
    ·trivial
    ·rw [ObjL_cons]
     exact ⟨AHeap.get_alloc_self (H := G1), by simp [ObjL]⟩
    ·(rintro k s G hk ht hG hn; try simp only [nx] at hn)
     have ho := hG.o (_, _) (List.mem_singleton.2 rfl)
     have hlo := AHeap.lt ho
     have hlen : ((B.take k).map (atT C)).length = k := by simp; omega
     have la1 := allLen_rI ((B.take k).map (atT C))
     have la2 : allLen 1 [[AV.i (atT C B[k])]] = true := rfl
     have lm1 : k + 1 ≤ maxLen := by omega
     have lm2 : (k + 1) * 8 ≤ 140737488355328 := by omega
     have hsn : rI ((B.take k).map (atT C)) ++ [[AV.i (atT C B[k])]] = rI ((B.take (k + 1)).map (atT C)) := by rw [take_map_snoc hk]; simp
     generalize ((B.take k).map (atT C)) = D at *
     ((have hd := trivial; repeat' (first | ((first | apply GdK_st | apply GdK_sf | apply CondK_s) <;> intro hd <;> (try simp only [hd])) | simp (disch := first | assumption | omega | (simp only [nx] <;> omega) | fail) only [hd, hQr, hQn, c4_0, ↓YA, YB, YC, YE, YF, YZ, ↓reduceIte, Nat.reduceEqDiff, Nat.reduceAdd, Nat.reduceMul, Nat.reduceLeDiff, Int.reduceToNat, Int.reduceLE, Int.reduceLT, Int.reduceGT, Int.reduceGE, Int.reduceAdd, Int.reduceSub, Int.reduceNeg, Int.reduceBEq, Int.reduceBNe, List.length_map])) <;> (try (have hd_ : True := hd; clear hd_ hd)))
     (refine CallK.use (at_sound .no C _ _ (by omega)) ?_; rintro _ _ ⟨rfl, kk, rfl⟩)
     ((have hd := trivial; repeat' (first | ((first | apply GdK_st | apply GdK_sf | apply CondK_s) <;> intro hd <;> (try simp only [hd])) | simp (disch := first | assumption | omega | (simp only [nx] <;> omega) | fail) only [hd, hQr, hQn, c4_0, ↓YA, YB, YC, YE, YF, YZ, ↓reduceIte, Nat.reduceEqDiff, Nat.reduceAdd, Nat.reduceMul, Nat.reduceLeDiff, Int.reduceToNat, Int.reduceLE, Int.reduceLT, Int.reduceGT, Int.reduceGE, Int.reduceAdd, Int.reduceSub, Int.reduceNeg, Int.reduceBEq, Int.reduceBNe, ho, la1, la2, lm1, lm2, hlen, List.length_map, rowsIn, rowsOf, List.length_singleton])) <;> (try (have hd_ : True := hd; clear hd_ hd)))
     exact ⟨(), congrArg (AV.sl _) hsn, hG.bump.put⟩
    ·(rintro s S2 ht hG hn; try simp only [nx] at hn)
     have hxS2 : AHeap.Ext G1 S2 := hG.extO (AHeap.Ext.refl G1).alloc (by simp)
     have hd3 := hd2.ext hxS2
     ((have hd := trivial; repeat' (first | ((first | apply GdK_st | apply GdK_sf | apply CondK_s) <;> intro hd <;> (try simp only [hd])) | simp (disch := first | assumption | omega | (simp only [nx] <;> omega) | fail) only [hd, hQr, hQn, c4_0, ↓YA, YB, YC, YE, YF, YZ, ↓reduceIte, Nat.reduceEqDiff, Nat.reduceAdd, Nat.reduceMul, Nat.reduceLeDiff, Int.reduceToNat, Int.reduceLE, Int.reduceLT, Int.reduceGT, Int.reduceGE, Int.reduceAdd, Int.reduceSub, Int.reduceNeg, Int.reduceBEq, Int.reduceBNe, List.take_length])) <;> (try (have hd_ : True := hd; clear hd_ hd)))
     (refine CallK.use (terms_sound (T := C) _ hd3 (by omega)) ?_; rintro _ _ ⟨rfl, k9, rfl⟩)
     ((have hd := trivial; repeat' (first | ((first | apply GdK_st | apply GdK_sf | apply CondK_s) <;> intro hd <;> (try simp only [hd])) | simp (disch := first | assumption | omega | (simp only [nx] <;> omega) | fail) only [hd, hQr, hQn, c4_0, ↓YA, YB, YC, YE, YF, YZ, ↓reduceIte, Nat.reduceEqDiff, Nat.reduceAdd, Nat.reduceMul, Nat.reduceLeDiff, Int.reduceToNat, Int.reduceLE, Int.reduceLT, Int.reduceGT, Int.reduceGE, Int.reduceAdd, Int.reduceSub, Int.reduceNeg, Int.reduceBEq, Int.reduceBNe])) <;> (try (have hd_ : True := hd; clear hd_ hd)))
     (refine CallK.use (hTC _) ?_; rintro _ _ ⟨rfl, k10, rfl⟩)
     ((have hd := trivial; repeat' (first | ((first | apply GdK_st | apply GdK_sf | apply CondK_s) <;> intro hd <;> (try simp only [hd])) | simp (disch := first | assumption | omega | (simp only [nx] <;> omega) | fail) only [hd, hQr, hQn, c4_0, ↓YA, YB, YC, YE, YF, YZ, ↓reduceIte, Nat.reduceEqDiff, Nat.reduceAdd, Nat.reduceMul, Nat.reduceLeDiff, Int.reduceToNat, Int.reduceLE, Int.reduceLT, Int.reduceGT, Int.reduceGE, Int.reduceAdd, Int.reduceSub, Int.reduceNeg, Int.reduceBEq, Int.reduceBNe, List.take_length])) <;> (try (have hd_ : True := hd; clear hd_ hd)))
     (refine CallK.use (hIn (A.map (atT C)) _ _ _ (by simp; omega)) ?_; rintro _ _ ⟨rfl, k11, rfl⟩)
     ((have hd := trivial; repeat' (first | ((first | apply GdK_st | apply GdK_sf | apply CondK_s) <;> intro hd <;> (try simp only [hd])) | simp (disch := first | assumption | omega | (simp only [nx] <;> omega) | fail) only [hd, hQr, hQn, c4_0, ↓YA, YB, YC, YE, YF, YZ, ↓reduceIte, Nat.reduceEqDiff, Nat.reduceAdd, Nat.reduceMul, Nat.reduceLeDiff, Int.reduceToNat, Int.reduceLE, Int.reduceLT, Int.reduceGT, Int.reduceGE, Int.reduceAdd, Int.reduceSub, Int.reduceNeg, Int.reduceBEq, Int.reduceBNe, List.take_length])) <;> (try (have hd_ : True := hd; clear hd_ hd)))
     (refine CallK.use (hIn (B.map (atT C)) _ _ _ (by simp; omega)) ?_; rintro _ _ ⟨rfl, k12, rfl⟩)
     ((have hd := trivial; repeat' (first | ((first | apply GdK_st | apply GdK_sf | apply CondK_s) <;> intro hd <;> (try simp only [hd])) | simp (disch := first | assumption | omega | (simp only [nx] <;> omega) | fail) only [hd, hQr, hQn, c4_0, ↓YA, YB, YC, YE, YF, YZ, ↓reduceIte, Nat.reduceEqDiff, Nat.reduceAdd, Nat.reduceMul, Nat.reduceLeDiff, Int.reduceToNat, Int.reduceLE, Int.reduceLT, Int.reduceGT, Int.reduceGE, Int.reduceAdd, Int.reduceSub, Int.reduceNeg, Int.reduceBEq, Int.reduceBNe])) <;> (try (have hd_ : True := hd; clear hd_ hd)))
     (refine CallK.use (awake_sound _) ?_; rintro _ _ ⟨rfl, k13, rfl⟩)
     ((have hd := trivial; repeat' (first | ((first | apply GdK_st | apply GdK_sf | apply CondK_s) <;> intro hd <;> (try simp only [hd])) | simp (disch := first | assumption | omega | (simp only [nx] <;> omega) | fail) only [hd, hQr, hQn, c4_0, ↓YA, YB, YC, YE, YF, YZ, ↓reduceIte, Nat.reduceEqDiff, Nat.reduceAdd, Nat.reduceMul, Nat.reduceLeDiff, Int.reduceToNat, Int.reduceLE, Int.reduceLT, Int.reduceGT, Int.reduceGE, Int.reduceAdd, Int.reduceSub, Int.reduceNeg, Int.reduceBEq, Int.reduceBNe])) <;> (try (have hd_ : True := hd; clear hd_ hd)))
     exact fin_keep rfl
 | cons x r =>
  have aA : allLen 1 ([eS x] :: List.map (fun s => [eS s]) r) = true := al
  simp only [rS, List.map_cons, List.length_cons] at happ hll
  have m1 : r.length + 1 + m.length ≤ maxLen := by omega
  have m2 : (r.length + 1 + m.length) * 16 ≤ 140737488355328 := by omega
  have m3 : r.length + 1 ≤ maxLen := by omega
  have m4 : (r.length + 1) * 16 ≤ 140737488355328 := by omega
  refine fn_soundQ hE cf4 (Nat.le_of_ble_eq_true rfl) fun Q hQr hQn => ?_
  ((have hd := trivial; repeat' (first | ((first | apply GdK_st | apply GdK_sf | apply CondK_s) <;> intro hd <;> (try simp only [hd])) | simp (disch := first | assumption | omega | (simp only [nx] <;> omega) | fail) only [hd, hQr, hQn, c4_0, ↓YA, YB, YC, YE, YF, YZ, ↓reduceIte, Nat.reduceEqDiff, Nat.reduceAdd, Nat.reduceMul, Nat.reduceLeDiff, Int.reduceToNat, Int.reduceLE, Int.reduceLT, Int.reduceGT, Int.reduceGE, Int.reduceAdd, Int.reduceSub, Int.reduceNeg, Int.reduceBEq, Int.reduceBNe])) <;> (try (have hd_ : True := hd; clear hd_ hd)))
  (refine CallK.use (hFl _) ?_; rintro _ _ ⟨rfl, k1, rfl⟩)
  ((have hd := trivial; repeat' (first | ((first | apply GdK_st | apply GdK_sf | apply CondK_s) <;> intro hd <;> (try simp only [hd])) | simp (disch := first | assumption | omega | (simp only [nx] <;> omega) | fail) only [hd, hQr, hQn, c4_0, ↓YA, YB, YC, YE, YF, YZ, ↓reduceIte, Nat.reduceEqDiff, Nat.reduceAdd, Nat.reduceMul, Nat.reduceLeDiff, Int.reduceToNat, Int.reduceLE, Int.reduceLT, Int.reduceGT, Int.reduceGE, Int.reduceAdd, Int.reduceSub, Int.reduceNeg, Int.reduceBEq, Int.reduceBNe])) <;> (try (have hd_ : True := hd; clear hd_ hd)))
  (refine CallK.use (hFm _) ?_; rintro _ _ ⟨rfl, k2, rfl⟩)
  ((have hd := trivial; repeat' (first | ((first | apply GdK_st | apply GdK_sf | apply CondK_s) <;> intro hd <;> (try simp only [hd])) | simp (disch := first | assumption | omega | (simp only [nx] <;> omega) | fail) only [hd, hQr, hQn, c4_0, ↓YA, YB, YC, YE, YF, YZ, ↓reduceIte, Nat.reduceEqDiff, Nat.reduceAdd, Nat.reduceMul, Nat.reduceLeDiff, Int.reduceToNat, Int.reduceLE, Int.reduceLT, Int.reduceGT, Int.reduceGE, Int.reduceAdd, Int.reduceSub, Int.reduceNeg, Int.reduceBEq, Int.reduceBNe])) <;> (try (have hd_ : True := hd; clear hd_ hd)))
  (refine CallK.use (hWl _) ?_; rintro _ _ ⟨rfl, k3, rfl⟩)
  ((have hd := trivial; repeat' (first | ((first | apply GdK_st | apply GdK_sf | apply CondK_s) <;> intro hd <;> (try simp only [hd])) | simp (disch := first | assumption | omega | (simp only [nx] <;> omega) | fail) only [hd, hQr, hQn, c4_0, ↓YA, YB, YC, YE, YF, YZ, ↓reduceIte, Nat.reduceEqDiff, Nat.reduceAdd, Nat.reduceMul, Nat.reduceLeDiff, Int.reduceToNat, Int.reduceLE, Int.reduceLT, Int.reduceGT, Int.reduceGE, Int.reduceAdd, Int.reduceSub, Int.reduceNeg, Int.reduceBEq, Int.reduceBNe])) <;> (try (have hd_ : True := hd; clear hd_ hd)))
  (refine CallK.use (hWm _) ?_; rintro _ _ ⟨rfl, k4, rfl⟩)
  ((have hd := trivial; repeat' (first | ((first | apply GdK_st | apply GdK_sf | apply CondK_s) <;> intro hd <;> (try simp only [hd])) | simp (disch := first | assumption | omega | (simp only [nx] <;> omega) | fail) only [hd, hQr, hQn, c4_0, ↓YA, YB, YC, YE, YF, YZ, ↓reduceIte, Nat.reduceEqDiff, Nat.reduceAdd, Nat.reduceMul, Nat.reduceLeDiff, Int.reduceToNat, Int.reduceLE, Int.reduceLT, Int.reduceGT, Int.reduceGE, Int.reduceAdd, Int.reduceSub, Int.reduceNeg, Int.reduceBEq, Int.reduceBNe])) <;> (try (have hd_ : True := hd; clear hd_ hd)))
  refine CallK.use (hNl _) ?_
  rintro _ H1 ⟨hx1, ia, rfl, ha⟩
  ((have hd := trivial; repeat' (first | ((first | apply GdK_st | apply GdK_sf | apply CondK_s) <;> intro hd <;> (try simp only [hd])) | simp (disch := first | assumption | omega | (simp only [nx] <;> omega) | fail) only [hd, hQr, hQn, c4_0, ↓YA, YB, YC, YE, YF, YZ, ↓reduceIte, Nat.reduceEqDiff, Nat.reduceAdd, Nat.reduceMul, Nat.reduceLeDiff, Int.reduceToNat, Int.reduceLE, Int.reduceLT, Int.reduceGT, Int.reduceGE, Int.reduceAdd, Int.reduceSub, Int.reduceNeg, Int.reduceBEq, Int.reduceBNe])) <;> (try (have hd_ : True := hd; clear hd_ hd)))
  refine CallK.use (hNm _) ?_
  rintro _ H2 ⟨hx2, ib, rfl, hb⟩
  have ha2 := ha.ext hx2
  ((have hd := trivial; repeat' (first | ((first | apply GdK_st | apply GdK_sf | apply CondK_s) <;> intro hd <;> (try simp only [hd])) | simp (disch := first | assumption | omega | (simp only [nx] <;> omega) | fail) only [hd, hQr, hQn, c4_0, ↓YA, YB, YC, YE, YF, YZ, ↓reduceIte, Nat.reduceEqDiff, Nat.reduceAdd, Nat.reduceMul, Nat.reduceLeDiff, Int.reduceToNat, Int.reduceLE, Int.reduceLT, Int.reduceGT, Int.reduceGE, Int.reduceAdd, Int.reduceSub, Int.reduceNeg, Int.reduceBEq, Int.reduceBNe])) <;> (try (have hd_ : True := hd; clear hd_ hd)))
  refine CallK.use (hJ _ ia ib ha2 hb) ?_
  rintro _ H3 ⟨hx3, id, rfl, hd⟩
  ((have hd := trivial; repeat' (first | ((first | apply GdK_st | apply GdK_sf | apply CondK_s) <;> intro hd <;> (try simp only [hd])) | simp (disch := first | assumption | omega | (simp only [nx] <;> omega) | fail) only [hd, hQr, hQn, c4_0, ↓YA, YB, YC, YE, YF, YZ, ↓reduceIte, Nat.reduceEqDiff, Nat.reduceAdd, Nat.reduceMul, Nat.reduceLeDiff, Int.reduceToNat, Int.reduceLE, Int.reduceLT, Int.reduceGT, Int.reduceGE, Int.reduceAdd, Int.reduceSub, Int.reduceNeg, Int.reduceBEq, Int.reduceBNe, List.map_cons, List.length_cons, List.length_map, rowsIn, rowsOf, a0, aA, am, m1, m2, m3, m4, List.length_nil, List.append_nil, List.nil_append, happ])) <;> (try (have hd_ : True := hd; clear hd_ hd)))
  (refine CallK.use (hSC _ _) ?_; rintro _ _ ⟨rfl, k5, rfl⟩)
  ((have hd := trivial; repeat' (first | ((first | apply GdK_st | apply GdK_sf | apply CondK_s) <;> intro hd <;> (try simp only [hd])) | simp (disch := first | assumption | omega | (simp only [nx] <;> omega) | fail) only [hd, hQr, hQn, c4_0, ↓YA, YB, YC, YE, YF, YZ, ↓reduceIte, Nat.reduceEqDiff, Nat.reduceAdd, Nat.reduceMul, Nat.reduceLeDiff, Int.reduceToNat, Int.reduceLE, Int.reduceLT, Int.reduceGT, Int.reduceGE, Int.reduceAdd, Int.reduceSub, Int.reduceNeg, Int.reduceBEq, Int.reduceBNe, List.length_map, dC])) <;> (try (have hd_ : True := hd; clear hd_ hd)))
  (refine CallK.use (hSl _) ?_; rintro _ _ ⟨rfl, k6, rfl⟩)
  ((have hd := trivial; repeat' (first | ((first | apply GdK_st | apply GdK_sf | apply CondK_s) <;> intro hd <;> (try simp only [hd])) | simp (disch := first | assumption | omega | (simp only [nx] <;> omega) | fail) only [hd, hQr, hQn, c4_0, ↓YA, YB, YC, YE, YF, YZ, ↓reduceIte, Nat.reduceEqDiff, Nat.reduceAdd, Nat.reduceMul, Nat.reduceLeDiff, Int.reduceToNat, Int.reduceLE, Int.reduceLT, Int.reduceGT, Int.reduceGE, Int.reduceAdd, Int.reduceSub, Int.reduceNeg, Int.reduceBEq, Int.reduceBNe, List.length_map])) <;> (try (have hd_ : True := hd; clear hd_ hd)))
  have hd0 : DictA C id (((H3.alloc (AObj.tok (r.length + 1 + m.length) 9 1)).bump k5).bump k6) := hd.ext (by exact AXT)
  generalize ((H3.alloc (AObj.tok (r.length + 1 + m.length) 9 1)).bump k5).bump k6 = G0 at *
  refine AW_for [1, 9, 10, 11, 12, 13, 15, 84, 85] (σ := Unit) (fun (k : Nat) s => True) (fun k s => [(14, .sl (.own G0.next) (rI ((A.take k).map (atT C))))]) (fun k s => [(G0.next, .tok k 3 1)]) () (GStep.tok 14 3 1 rfl) (by simp only [keep_nil, keep_cons, Fr.put, Fr.get, ↓reduceIte, Nat.reduceEqDiff]; rfl) (by intro k s; rfl) (by intro k s; rfl) (by rfl) (by unfold maxLen; omega) ?_ (by simp only [FrL_nil, FrL_cons, Fr.put, Fr.get, ↓reduceIte, Nat.reduceEqDiff, and_self] <;> simp) ?_ ?_ ?_
  ·trivial
  ·rw [ObjL_cons]
   exact ⟨AHeap.get_alloc_self (H := G0), by simp [ObjL]⟩
  ·(rintro k s G hk ht hG hn; try simp only [nx] at hn)
   have ho := hG.o (_, _) (List.mem_singleton.2 rfl)
   have hlo := AHeap.lt ho
   have hlen : ((A.take k).map (atT C)).length = k := by simp; omega
   have la1 := allLen_rI ((A.take k).map (atT C))
   have la2 : allLen 1 [[AV.i (atT C A[k])]] = true := rfl
   have lm1 : k + 1 ≤ maxLen := by omega
   have lm2 : (k + 1) * 8 ≤ 140737488355328 := by omega
   have hsn : rI ((A.take k).map (atT C)) ++ [[AV.i (atT C A[k])]] = rI ((A.take (k + 1)).map (atT C)) := by rw [take_map_snoc hk]; simp
   generalize ((A.take k).map (atT C)) = D at *
   ((have hd := trivial; repeat' (first | ((first | apply GdK_st | apply GdK_sf | apply CondK_s) <;> intro hd <;> (try simp only [hd])) | simp (disch := first | assumption | omega | (simp only [nx] <;> omega) | fail) only [hd, hQr, hQn, c4_0, ↓YA, YB, YC, YE, YF, YZ, ↓reduceIte, Nat.reduceEqDiff, Nat.reduceAdd, Nat.reduceMul, Nat.reduceLeDiff, Int.reduceToNat, Int.reduceLE, Int.reduceLT, Int.reduceGT, Int.reduceGE, Int.reduceAdd, Int.reduceSub, Int.reduceNeg, Int.reduceBEq, Int.reduceBNe, List.length_map])) <;> (try (have hd_ : True := hd; clear hd_ hd)))
   (refine CallK.use (at_sound .no C _ _ (by omega)) ?_; rintro _ _ ⟨rfl, kk, rfl⟩)
   ((have hd := trivial; repeat' (first | ((first | apply GdK_st | apply GdK_sf | apply CondK_s) <;> intro hd <;> (try simp only [hd])) | simp (disch := first | assumption | omega | (simp only [nx] <;> omega) | fail) only [hd, hQr, hQn, c4_0, ↓YA, YB, YC, YE, YF, YZ, ↓reduceIte, Nat.reduceEqDiff, Nat.reduceAdd, Nat.reduceMul, Nat.reduceLeDiff, Int.reduceToNat, Int.reduceLE, Int.reduceLT, Int.reduceGT, Int.reduceGE, Int.reduceAdd, Int.reduceSub, Int.reduceNeg, Int.reduceBEq, Int.reduceBNe, ho, la1, la2, lm1, lm2, hlen, List.length_map, rowsIn, rowsOf, List.length_singleton])) <;> (try (have hd_ : True := hd; clear hd_ hd)))
   exact ⟨(), congrArg (AV.sl _) hsn, hG.bump.put⟩
  ·(rintro s S1 ht hG hn; try simp only [nx] at hn)
   have hxS1 : AHeap.Ext G0 S1 := hG.extO (AHeap.Ext.refl G0).alloc (by simp)
   have hd1 := hd0.ext hxS1
   ((have hd := trivial; repeat' (first | ((first | apply GdK_st | apply GdK_sf | apply CondK_s) <;> intro hd <;> (try simp only [hd])) | simp (disch := first | assumption | omega | (simp only [nx] <;> omega) | fail) only [hd, hQr, hQn, c4_0, ↓YA, YB, YC, YE, YF, YZ, ↓reduceIte, Nat.reduceEqDiff, Nat.reduceAdd, Nat.reduceMul, Nat.reduceLeDiff, Int.reduceToNat, Int.reduceLE, Int.reduceLT, Int.reduceGT, Int.reduceGE, Int.reduceAdd, Int.reduceSub, Int.reduceNeg, Int.reduceBEq, Int.reduceBNe])) <;> (try (have hd_ : True := hd; clear hd_ hd)))
   (refine CallK.use (hSm _) ?_; rintro _ _ ⟨rfl, k8, rfl⟩)
   ((have hd := trivial; repeat' (first | ((first | apply GdK_st | apply GdK_sf | apply CondK_s) <;> intro hd <;> (try simp only [hd])) | simp (disch := first | assumption | omega | (simp only [nx] <;> omega) | fail) only [hd, hQr, hQn, c4_0, ↓YA, YB, YC, YE, YF, YZ, ↓reduceIte, Nat.reduceEqDiff, Nat.reduceAdd, Nat.reduceMul, Nat.reduceLeDiff, Int.reduceToNat, Int.reduceLE, Int.reduceLT, Int.reduceGT, Int.reduceGE, Int.reduceAdd, Int.reduceSub, Int.reduceNeg, Int.reduceBEq, Int.reduceBNe, List.length_map, List.take_length])) <;> (try (have hd_ : True := hd; clear hd_ hd)))
   have hd2 : DictA C id (S1.bump k8) := hd1.ext (by exact AXT)
   generalize S1.bump k8 = G1 at *
   refine AW_for [9, 10, 11, 12, 13, 14, 98, 99] (σ := Unit) (fun (k : Nat) s => True) (fun k s => [(15, .sl (.own G1.next) (rI ((B.take k).map (atT C))))]) (fun k s => [(G1.next, .tok k 3 1)]) () (GStep.tok 15 3 1 rfl) (by simp only [keep_nil, keep_cons, Fr.put, Fr.get, ↓reduceIte, Nat.reduceEqDiff]; rfl) (by intro k s; rfl) (by intro k s; rfl) (by rfl) (by unfold maxLen; omega) ?_ (by simp only [FrL_nil, FrL_cons, Fr.put, Fr.get, ↓reduceIte, Nat.reduceEqDiff, and_self] <;> simp) ?_ ?_ ?_
   ·trivial
   ·rw [ObjL_cons]
    exact ⟨AHeap.get_alloc_self (H := G1), by simp [ObjL]⟩
   ·(rintro k s G hk ht hG hn; try simp only [nx] at hn)
    have ho := hG.o (_, _) (List.mem_singleton.2 rfl)
    have hlo := AHeap.lt ho
    have hlen : ((B.take k).map (atT C)).length = k := by simp; omega
    have la1 := allLen_rI ((B.take k).map (atT C))
    have la2 : allLen 1 [[AV.i (atT C B[k])]] = true := rfl
    have lm1 : k + 1 ≤ maxLen := by omega
    have lm2 : (k + 1) * 8 ≤ 140737488355328 := by omega
    have hsn : rI ((B.take k).map (atT C)) ++ [[AV.i (atT C B[k])]] = rI ((B.take (k + 1)).map (atT C)) := by rw [take_map_snoc hk]; simp
    generalize ((B.take k).map (atT C)) = D at *
    ((have hd := trivial; repeat' (first | ((first | apply GdK_st | apply GdK_sf | apply CondK_s) <;> intro hd <;> (try simp only [hd])) | simp (disch := first | assumption | omega | (simp only [nx] <;> omega) | fail) only [hd, hQr, hQn, c4_0, ↓YA, YB, YC, YE, YF, YZ, ↓reduceIte, Nat.reduceEqDiff, Nat.reduceAdd, Nat.reduceMul, Nat.reduceLeDiff, Int.reduceToNat, Int.reduceLE, Int.reduceLT, Int.reduceGT, Int.reduceGE, Int.reduceAdd, Int.reduceSub, Int.reduceNeg, Int.reduceBEq, Int.reduceBNe, List.length_map])) <;> (try (have hd_ : True := hd; clear hd_ hd)))
    (refine CallK.use (at_sound .no C _ _ (by omega)) ?_; rintro _ _ ⟨rfl, kk, rfl⟩)
    ((have hd := trivial; repeat' (first | ((first | apply GdK_st | apply GdK_sf | apply CondK_s) <;> intro hd <;> (try simp only [hd])) | simp (disch := first | assumption | omega | (simp only [nx] <;> omega) | fail) only [hd, hQr, hQn, c4_0, ↓YA, YB, YC, YE, YF, YZ, ↓reduceIte, Nat.reduceEqDiff, Nat.reduceAdd, Nat.reduceMul, Nat.reduceLeDiff, Int.reduceToNat, Int.reduceLE, Int.reduceLT, Int.reduceGT, Int.reduceGE, Int.reduceAdd, Int.reduceSub, Int.reduceNeg, Int.reduceBEq, Int.reduceBNe, ho, la1, la2, lm1, lm2, hlen, List.length_map, rowsIn, rowsOf, List.length_singleton])) <;> (try (have hd_ : True := hd; clear hd_ hd)))
    exact ⟨(), congrArg (AV.sl _) hsn, hG.bump.put⟩
   ·(rintro s S2 ht hG hn; try simp only [nx] at hn)
    have hxS2 : AHeap.Ext G1 S2 := hG.extO (AHeap.Ext.refl G1).alloc (by simp)
    have hd3 := hd2.ext hxS2
    ((have hd := trivial; repeat' (first | ((first | apply GdK_st | apply GdK_sf | apply CondK_s) <;> intro hd <;> (try simp only [hd])) | simp (disch := first | assumption | omega | (simp only [nx] <;> omega) | fail) only [hd, hQr, hQn, c4_0, ↓YA, YB, YC, YE, YF, YZ, ↓reduceIte, Nat.reduceEqDiff, Nat.reduceAdd, Nat.reduceMul, Nat.reduceLeDiff, Int.reduceToNat, Int.reduceLE, Int.reduceLT, Int.reduceGT, Int.reduceGE, Int.reduceAdd, Int.reduceSub, Int.reduceNeg, Int.reduceBEq, Int.reduceBNe, List.take_length])) <;> (try (have hd_ : True := hd; clear hd_ hd)))
    (refine CallK.use (terms_sound (T := C) _ hd3 (by omega)) ?_; rintro _ _ ⟨rfl, k9, rfl⟩)
    ((have hd := trivial; repeat' (first | ((first | apply GdK_st | apply GdK_sf | apply CondK_s) <;> intro hd <;> (try simp only [hd])) | simp (disch := first | assumption | omega | (simp only [nx] <;> omega) | fail) only [hd, hQr, hQn, c4_0, ↓YA, YB, YC, YE, YF, YZ, ↓reduceIte, Nat.reduceEqDiff, Nat.reduceAdd, Nat.reduceMul, Nat.reduceLeDiff, Int.reduceToNat, Int.reduceLE, Int.reduceLT, Int.reduceGT, Int.reduceGE, Int.reduceAdd, Int.reduceSub, Int.reduceNeg, Int.reduceBEq, Int.reduceBNe])) <;> (try (have hd_ : True := hd; clear hd_ hd)))
    (refine CallK.use (hTC _) ?_; rintro _ _ ⟨rfl, k10, rfl⟩)
    ((have hd := trivial; repeat' (first | ((first | apply GdK_st | apply GdK_sf | apply CondK_s) <;> intro hd <;> (try simp only [hd])) | simp (disch := first | assumption | omega | (simp only [nx] <;> omega) | fail) only [hd, hQr, hQn, c4_0, ↓YA, YB, YC, YE, YF, YZ, ↓reduceIte, Nat.reduceEqDiff, Nat.reduceAdd, Nat.reduceMul, Nat.reduceLeDiff, Int.reduceToNat, Int.reduceLE, Int.reduceLT, Int.reduceGT, Int.reduceGE, Int.reduceAdd, Int.reduceSub, Int.reduceNeg, Int.reduceBEq, Int.reduceBNe, List.take_length])) <;> (try (have hd_ : True := hd; clear hd_ hd)))
    (refine CallK.use (hIn (A.map (atT C)) _ _ _ (by simp; omega)) ?_; rintro _ _ ⟨rfl, k11, rfl⟩)
    ((have hd := trivial; repeat' (first | ((first | apply GdK_st | apply GdK_sf | apply CondK_s) <;> intro hd <;> (try simp only [hd])) | simp (disch := first | assumption | omega | (simp only [nx] <;> omega) | fail) only [hd, hQr, hQn, c4_0, ↓YA, YB, YC, YE, YF, YZ, ↓reduceIte, Nat.reduceEqDiff, Nat.reduceAdd, Nat.reduceMul, Nat.reduceLeDiff, Int.reduceToNat, Int.reduceLE, Int.reduceLT, Int.reduceGT, Int.reduceGE, Int.reduceAdd, Int.reduceSub, Int.reduceNeg, Int.reduceBEq, Int.reduceBNe, List.take_length])) <;> (try (have hd_ : True := hd; clear hd_ hd)))
    (refine CallK.use (hIn (B.map (atT C)) _ _ _ (by simp; omega)) ?_; rintro _ _ ⟨rfl, k12, rfl⟩)
    ((have hd := trivial; repeat' (first | ((first | apply GdK_st | apply GdK_sf | apply CondK_s) <;> intro hd <;> (try simp only [hd])) | simp (disch := first | assumption | omega | (simp only [nx] <;> omega) | fail) only [hd, hQr, hQn, c4_0, ↓YA, YB, YC, YE, YF, YZ, ↓reduceIte, Nat.reduceEqDiff, Nat.reduceAdd, Nat.reduceMul, Nat.reduceLeDiff, Int.reduceToNat, Int.reduceLE, Int.reduceLT, Int.reduceGT, Int.reduceGE, Int.reduceAdd, Int.reduceSub, Int.reduceNeg, Int.reduceBEq, Int.reduceBNe])) <;> (try (have hd_ : True := hd; clear hd_ hd)))
    (refine CallK.use (awake_sound _) ?_; rintro _ _ ⟨rfl, k13, rfl⟩)
    ((have hd := trivial; repeat' (first | ((first | apply GdK_st | apply GdK_sf | apply CondK_s) <;> intro hd <;> (try simp only [hd])) | simp (disch := first | assumption | omega | (simp only [nx] <;> omega) | fail) only [hd, hQr, hQn, c4_0, ↓YA, YB, YC, YE, YF, YZ, ↓reduceIte, Nat.reduceEqDiff, Nat.reduceAdd, Nat.reduceMul, Nat.reduceLeDiff, Int.reduceToNat, Int.reduceLE, Int.reduceLT, Int.reduceGT, Int.reduceGE, Int.reduceAdd, Int.reduceSub, Int.reduceNeg, Int.reduceBEq, Int.reduceBNe])) <;> (try (have hd_ : True := hd; clear hd_ hd)))
    exact fin_keep rfl
set_option maxHeartbeats 4000000 in
theorem joins_full (l m : List Tx) (H : AHeap) (hfl : fewT l = true) (hfm : fewT m = true) (hwl : wrongT l = 0) (hwm : wrongT m = 0) (hC : (sortT (l ++ m)).length > 200) : Sound Try.prog 4 [.sl .no (rS l), .sl .no (rS m)] H fun r _ => r = .b true := by
 have hll := fewT_len hfl
 have hml := fewT_len hfm
 have hWl : ∀ G, Sound Try.prog 9 [.sl .no (rS l)] G (Pure G (.i 0)) := fun G => by rw [← hwl]; exact wrong_sound .no l G (by omega)
 have hWm : ∀ G, Sound Try.prog 9 [.sl .no (rS m)] G (Pure G (.i 0)) := fun G => by rw [← hwm]; exact wrong_sound .no m G (by omega)
 have hFl : ∀ G, Sound Try.prog 6 [.sl .no (rS l)] G (Pure G (.b true)) := fun G => by rw [← hfl]; exact few_sound .no l G
 have hFm : ∀ G, Sound Try.prog 6 [.sl .no (rS m)] G (Pure G (.b true)) := fun G => by rw [← hfm]; exact few_sound .no m G
 have hNl := newOk (by omega) hwl .no
 have hNm := newOk (by omega) hwm .no
 have hSl : ∀ G, Sound Try.prog 10 [.sl .no (rS l)] G (Pure G (.sl .no (rS (sortT l)))) := fun G => sorted_sound .no l G (by omega)
 have hSm : ∀ G, Sound Try.prog 10 [.sl .no (rS m)] G (Pure G (.sl .no (rS (sortT m)))) := fun G => sorted_sound .no m G (by omega)
 have hSC : ∀ t G, Sound Try.prog 10 [.sl t (rS (l ++ m))] G (Pure G (.sl .no (rS (sortT (l ++ m))))) := fun t G => sorted_sound t (l ++ m) G (by rw [List.length_append]; omega)
 have hAl := (wrong_zero hwl).2
 have hBl := (wrong_zero hwm).2
 have hwj := wrong_join hwl hwm
 rw [if_pos hC] at hwj
 have hJ : ∀ G ia ib, DictA (sortT l) ia G → DictA (sortT m) ib G → Sound Try.prog 17 [.ptr ia 0, .ptr ib 0] G (fun r G' => AHeap.Ext G G' ∧ r = .tup [.sc (.pointer none), .sl .full [], .sl .full [], .i 5]) := fun G ia ib h1 h2 => (join_sound G h1 h2 (by omega) (by omega)).mono fun r G' h => by
  obtain ⟨h1, h2⟩ := h
  rcases h2 with ⟨_, h2⟩ | ⟨h2, _⟩
  ·rw [hwj] at h2
   exact ⟨h1, h2⟩
  ·rw [hwj] at h2
   cases h2
 have happ : rS l ++ rS m = rS (l ++ m) := by simp only [rS, List.map_append]
 have ms : maxLen = 9223372036854775807 := rfl
 have a0 : allLen 1 ([] : List (List AV)) = true := rfl
 have al := allLen_rS l
 have am := allLen_rS m
 clear hfl hfm hwl hwm hwj
 generalize sortT l = A at *
 generalize sortT m = B at *
 have dC : decide (((sortT (l ++ m)).length : Int) > 200) = true := decide_eq_true (by omega)
 have d00 : ((((0 : Nat) : Int) + ((0 : Nat) : Int)) == 0) = true := by decide
 clear hC
 generalize sortT (l ++ m) = C at *
 cases l with
 | nil =>
  cases m with
  | nil =>
   refine fn_soundQ hE cf4 (Nat.le_of_ble_eq_true rfl) fun Q hQr hQn => ?_
   ((have hd := trivial; repeat' (first | ((first | apply GdK_st | apply GdK_sf | apply CondK_s) <;> intro hd <;> (try simp only [hd])) | simp (disch := first | assumption | omega | (simp only [nx] <;> omega) | fail) only [hd, hQr, hQn, c4_0, ↓YA, YB, YC, YE, YF, YZ, ↓reduceIte, Nat.reduceEqDiff, Nat.reduceAdd, Nat.reduceMul, Nat.reduceLeDiff, Int.reduceToNat, Int.reduceLE, Int.reduceLT, Int.reduceGT, Int.reduceGE, Int.reduceAdd, Int.reduceSub, Int.reduceNeg, Int.reduceBEq, Int.reduceBNe])) <;> (try (have hd_ : True := hd; clear hd_ hd)))
   (refine CallK.use (hFl _) ?_; rintro _ _ ⟨rfl, k1, rfl⟩)
   ((have hd := trivial; repeat' (first | ((first | apply GdK_st | apply GdK_sf | apply CondK_s) <;> intro hd <;> (try simp only [hd])) | simp (disch := first | assumption | omega | (simp only [nx] <;> omega) | fail) only [hd, hQr, hQn, c4_0, ↓YA, YB, YC, YE, YF, YZ, ↓reduceIte, Nat.reduceEqDiff, Nat.reduceAdd, Nat.reduceMul, Nat.reduceLeDiff, Int.reduceToNat, Int.reduceLE, Int.reduceLT, Int.reduceGT, Int.reduceGE, Int.reduceAdd, Int.reduceSub, Int.reduceNeg, Int.reduceBEq, Int.reduceBNe])) <;> (try (have hd_ : True := hd; clear hd_ hd)))
   (refine CallK.use (hFm _) ?_; rintro _ _ ⟨rfl, k2, rfl⟩)
   ((have hd := trivial; repeat' (first | ((first | apply GdK_st | apply GdK_sf | apply CondK_s) <;> intro hd <;> (try simp only [hd])) | simp (disch := first | assumption | omega | (simp only [nx] <;> omega) | fail) only [hd, hQr, hQn, c4_0, ↓YA, YB, YC, YE, YF, YZ, ↓reduceIte, Nat.reduceEqDiff, Nat.reduceAdd, Nat.reduceMul, Nat.reduceLeDiff, Int.reduceToNat, Int.reduceLE, Int.reduceLT, Int.reduceGT, Int.reduceGE, Int.reduceAdd, Int.reduceSub, Int.reduceNeg, Int.reduceBEq, Int.reduceBNe])) <;> (try (have hd_ : True := hd; clear hd_ hd)))
   (refine CallK.use (hWl _) ?_; rintro _ _ ⟨rfl, k3, rfl⟩)
   ((have hd := trivial; repeat' (first | ((first | apply GdK_st | apply GdK_sf | apply CondK_s) <;> intro hd <;> (try simp only [hd])) | simp (disch := first | assumption | omega | (simp only [nx] <;> omega) | fail) only [hd, hQr, hQn, c4_0, ↓YA, YB, YC, YE, YF, YZ, ↓reduceIte, Nat.reduceEqDiff, Nat.reduceAdd, Nat.reduceMul, Nat.reduceLeDiff, Int.reduceToNat, Int.reduceLE, Int.reduceLT, Int.reduceGT, Int.reduceGE, Int.reduceAdd, Int.reduceSub, Int.reduceNeg, Int.reduceBEq, Int.reduceBNe])) <;> (try (have hd_ : True := hd; clear hd_ hd)))
   (refine CallK.use (hWm _) ?_; rintro _ _ ⟨rfl, k4, rfl⟩)
   ((have hd := trivial; repeat' (first | ((first | apply GdK_st | apply GdK_sf | apply CondK_s) <;> intro hd <;> (try simp only [hd])) | simp (disch := first | assumption | omega | (simp only [nx] <;> omega) | fail) only [hd, hQr, hQn, c4_0, ↓YA, YB, YC, YE, YF, YZ, ↓reduceIte, Nat.reduceEqDiff, Nat.reduceAdd, Nat.reduceMul, Nat.reduceLeDiff, Int.reduceToNat, Int.reduceLE, Int.reduceLT, Int.reduceGT, Int.reduceGE, Int.reduceAdd, Int.reduceSub, Int.reduceNeg, Int.reduceBEq, Int.reduceBNe])) <;> (try (have hd_ : True := hd; clear hd_ hd)))
   refine CallK.use (hNl _) ?_
   rintro _ H1 ⟨hx1, ia, rfl, ha⟩
   ((have hd := trivial; repeat' (first | ((first | apply GdK_st | apply GdK_sf | apply CondK_s) <;> intro hd <;> (try simp only [hd])) | simp (disch := first | assumption | omega | (simp only [nx] <;> omega) | fail) only [hd, hQr, hQn, c4_0, ↓YA, YB, YC, YE, YF, YZ, ↓reduceIte, Nat.reduceEqDiff, Nat.reduceAdd, Nat.reduceMul, Nat.reduceLeDiff, Int.reduceToNat, Int.reduceLE, Int.reduceLT, Int.reduceGT, Int.reduceGE, Int.reduceAdd, Int.reduceSub, Int.reduceNeg, Int.reduceBEq, Int.reduceBNe])) <;> (try (have hd_ : True := hd; clear hd_ hd)))
   refine CallK.use (hNm _) ?_
   rintro _ H2 ⟨hx2, ib, rfl, hb⟩
   have ha2 := ha.ext hx2
   ((have hd := trivial; repeat' (first | ((first | apply GdK_st | apply GdK_sf | apply CondK_s) <;> intro hd <;> (try simp only [hd])) | simp (disch := first | assumption | omega | (simp only [nx] <;> omega) | fail) only [hd, hQr, hQn, c4_0, ↓YA, YB, YC, YE, YF, YZ, ↓reduceIte, Nat.reduceEqDiff, Nat.reduceAdd, Nat.reduceMul, Nat.reduceLeDiff, Int.reduceToNat, Int.reduceLE, Int.reduceLT, Int.reduceGT, Int.reduceGE, Int.reduceAdd, Int.reduceSub, Int.reduceNeg, Int.reduceBEq, Int.reduceBNe])) <;> (try (have hd_ : True := hd; clear hd_ hd)))
   refine CallK.use (hJ _ ia ib ha2 hb) ?_
   rintro _ H3 ⟨hx3, rfl⟩
   ((have hd := trivial; repeat' (first | ((first | apply GdK_st | apply GdK_sf | apply CondK_s) <;> intro hd <;> (try simp only [hd])) | simp (disch := first | assumption | omega | (simp only [nx] <;> omega) | fail) only [hd, hQr, hQn, c4_0, ↓YA, YB, YC, YE, YF, YZ, ↓reduceIte, Nat.reduceEqDiff, Nat.reduceAdd, Nat.reduceMul, Nat.reduceLeDiff, Int.reduceToNat, Int.reduceLE, Int.reduceLT, Int.reduceGT, Int.reduceGE, Int.reduceAdd, Int.reduceSub, Int.reduceNeg, Int.reduceBEq, Int.reduceBNe, List.map_nil, rowsIn, rowsOf, a0, List.length_nil, List.append_nil, Nat.zero_mul, Nat.zero_le])) <;> (try (have hd_ : True := hd; clear hd_ hd)))
   (refine CallK.use (hSC _ _) ?_; rintro _ _ ⟨rfl, k5, rfl⟩)
   ((have hd := trivial; repeat' (first | ((first | apply GdK_st | apply GdK_sf | apply CondK_s) <;> intro hd <;> (try simp only [hd])) | simp (disch := first | assumption | omega | (simp only [nx] <;> omega) | fail) only [hd, hQr, hQn, c4_0, ↓YA, YB, YC, YE, YF, YZ, ↓reduceIte, Nat.reduceEqDiff, Nat.reduceAdd, Nat.reduceMul, Nat.reduceLeDiff, Int.reduceToNat, Int.reduceLE, Int.reduceLT, Int.reduceGT, Int.reduceGE, Int.reduceAdd, Int.reduceSub, Int.reduceNeg, Int.reduceBEq, Int.reduceBNe, List.length_map, dC, List.length_nil, d00])) <;> (try (have hd_ : True := hd; clear hd_ hd)))
   (refine CallK.use (awake_sound _) ?_; rintro _ _ ⟨rfl, k6, rfl⟩)
   ((have hd := trivial; repeat' (first | ((first | apply GdK_st | apply GdK_sf | apply CondK_s) <;> intro hd <;> (try simp only [hd])) | simp (disch := first | assumption | omega | (simp only [nx] <;> omega) | fail) only [hd, hQr, hQn, c4_0, ↓YA, YB, YC, YE, YF, YZ, ↓reduceIte, Nat.reduceEqDiff, Nat.reduceAdd, Nat.reduceMul, Nat.reduceLeDiff, Int.reduceToNat, Int.reduceLE, Int.reduceLT, Int.reduceGT, Int.reduceGE, Int.reduceAdd, Int.reduceSub, Int.reduceNeg, Int.reduceBEq, Int.reduceBNe])) <;> (try (have hd_ : True := hd; clear hd_ hd)))
   exact fin_keep rfl
  | cons y q =>
   have aA : allLen 1 ([eS y] :: List.map (fun s => [eS s]) q) = true := am
   simp only [List.length_cons] at hml
   have m3 : q.length + 1 ≤ maxLen := by omega
   have m4 : (q.length + 1) * 16 ≤ 140737488355328 := by omega
   refine fn_soundQ hE cf4 (Nat.le_of_ble_eq_true rfl) fun Q hQr hQn => ?_
   ((have hd := trivial; repeat' (first | ((first | apply GdK_st | apply GdK_sf | apply CondK_s) <;> intro hd <;> (try simp only [hd])) | simp (disch := first | assumption | omega | (simp only [nx] <;> omega) | fail) only [hd, hQr, hQn, c4_0, ↓YA, YB, YC, YE, YF, YZ, ↓reduceIte, Nat.reduceEqDiff, Nat.reduceAdd, Nat.reduceMul, Nat.reduceLeDiff, Int.reduceToNat, Int.reduceLE, Int.reduceLT, Int.reduceGT, Int.reduceGE, Int.reduceAdd, Int.reduceSub, Int.reduceNeg, Int.reduceBEq, Int.reduceBNe])) <;> (try (have hd_ : True := hd; clear hd_ hd)))
   (refine CallK.use (hFl _) ?_; rintro _ _ ⟨rfl, k1, rfl⟩)
   ((have hd := trivial; repeat' (first | ((first | apply GdK_st | apply GdK_sf | apply CondK_s) <;> intro hd <;> (try simp only [hd])) | simp (disch := first | assumption | omega | (simp only [nx] <;> omega) | fail) only [hd, hQr, hQn, c4_0, ↓YA, YB, YC, YE, YF, YZ, ↓reduceIte, Nat.reduceEqDiff, Nat.reduceAdd, Nat.reduceMul, Nat.reduceLeDiff, Int.reduceToNat, Int.reduceLE, Int.reduceLT, Int.reduceGT, Int.reduceGE, Int.reduceAdd, Int.reduceSub, Int.reduceNeg, Int.reduceBEq, Int.reduceBNe])) <;> (try (have hd_ : True := hd; clear hd_ hd)))
   (refine CallK.use (hFm _) ?_; rintro _ _ ⟨rfl, k2, rfl⟩)
   ((have hd := trivial; repeat' (first | ((first | apply GdK_st | apply GdK_sf | apply CondK_s) <;> intro hd <;> (try simp only [hd])) | simp (disch := first | assumption | omega | (simp only [nx] <;> omega) | fail) only [hd, hQr, hQn, c4_0, ↓YA, YB, YC, YE, YF, YZ, ↓reduceIte, Nat.reduceEqDiff, Nat.reduceAdd, Nat.reduceMul, Nat.reduceLeDiff, Int.reduceToNat, Int.reduceLE, Int.reduceLT, Int.reduceGT, Int.reduceGE, Int.reduceAdd, Int.reduceSub, Int.reduceNeg, Int.reduceBEq, Int.reduceBNe])) <;> (try (have hd_ : True := hd; clear hd_ hd)))
   (refine CallK.use (hWl _) ?_; rintro _ _ ⟨rfl, k3, rfl⟩)
   ((have hd := trivial; repeat' (first | ((first | apply GdK_st | apply GdK_sf | apply CondK_s) <;> intro hd <;> (try simp only [hd])) | simp (disch := first | assumption | omega | (simp only [nx] <;> omega) | fail) only [hd, hQr, hQn, c4_0, ↓YA, YB, YC, YE, YF, YZ, ↓reduceIte, Nat.reduceEqDiff, Nat.reduceAdd, Nat.reduceMul, Nat.reduceLeDiff, Int.reduceToNat, Int.reduceLE, Int.reduceLT, Int.reduceGT, Int.reduceGE, Int.reduceAdd, Int.reduceSub, Int.reduceNeg, Int.reduceBEq, Int.reduceBNe])) <;> (try (have hd_ : True := hd; clear hd_ hd)))
   (refine CallK.use (hWm _) ?_; rintro _ _ ⟨rfl, k4, rfl⟩)
   ((have hd := trivial; repeat' (first | ((first | apply GdK_st | apply GdK_sf | apply CondK_s) <;> intro hd <;> (try simp only [hd])) | simp (disch := first | assumption | omega | (simp only [nx] <;> omega) | fail) only [hd, hQr, hQn, c4_0, ↓YA, YB, YC, YE, YF, YZ, ↓reduceIte, Nat.reduceEqDiff, Nat.reduceAdd, Nat.reduceMul, Nat.reduceLeDiff, Int.reduceToNat, Int.reduceLE, Int.reduceLT, Int.reduceGT, Int.reduceGE, Int.reduceAdd, Int.reduceSub, Int.reduceNeg, Int.reduceBEq, Int.reduceBNe])) <;> (try (have hd_ : True := hd; clear hd_ hd)))
   refine CallK.use (hNl _) ?_
   rintro _ H1 ⟨hx1, ia, rfl, ha⟩
   ((have hd := trivial; repeat' (first | ((first | apply GdK_st | apply GdK_sf | apply CondK_s) <;> intro hd <;> (try simp only [hd])) | simp (disch := first | assumption | omega | (simp only [nx] <;> omega) | fail) only [hd, hQr, hQn, c4_0, ↓YA, YB, YC, YE, YF, YZ, ↓reduceIte, Nat.reduceEqDiff, Nat.reduceAdd, Nat.reduceMul, Nat.reduceLeDiff, Int.reduceToNat, Int.reduceLE, Int.reduceLT, Int.reduceGT, Int.reduceGE, Int.reduceAdd, Int.reduceSub, Int.reduceNeg, Int.reduceBEq, Int.reduceBNe])) <;> (try (have hd_ : True := hd; clear hd_ hd)))
   refine CallK.use (hNm _) ?_
   rintro _ H2 ⟨hx2, ib, rfl, hb⟩
   have ha2 := ha.ext hx2
   ((have hd := trivial; repeat' (first | ((first | apply GdK_st | apply GdK_sf | apply CondK_s) <;> intro hd <;> (try simp only [hd])) | simp (disch := first | assumption | omega | (simp only [nx] <;> omega) | fail) only [hd, hQr, hQn, c4_0, ↓YA, YB, YC, YE, YF, YZ, ↓reduceIte, Nat.reduceEqDiff, Nat.reduceAdd, Nat.reduceMul, Nat.reduceLeDiff, Int.reduceToNat, Int.reduceLE, Int.reduceLT, Int.reduceGT, Int.reduceGE, Int.reduceAdd, Int.reduceSub, Int.reduceNeg, Int.reduceBEq, Int.reduceBNe])) <;> (try (have hd_ : True := hd; clear hd_ hd)))
   refine CallK.use (hJ _ ia ib ha2 hb) ?_
   rintro _ H3 ⟨hx3, rfl⟩
   ((have hd := trivial; repeat' (first | ((first | apply GdK_st | apply GdK_sf | apply CondK_s) <;> intro hd <;> (try simp only [hd])) | simp (disch := first | assumption | omega | (simp only [nx] <;> omega) | fail) only [hd, hQr, hQn, c4_0, ↓YA, YB, YC, YE, YF, YZ, ↓reduceIte, Nat.reduceEqDiff, Nat.reduceAdd, Nat.reduceMul, Nat.reduceLeDiff, Int.reduceToNat, Int.reduceLE, Int.reduceLT, Int.reduceGT, Int.reduceGE, Int.reduceAdd, Int.reduceSub, Int.reduceNeg, Int.reduceBEq, Int.reduceBNe, List.map_nil, List.map_cons, List.length_cons, List.length_map, rowsIn, rowsOf, a0, aA, m3, m4, List.length_nil, List.append_nil, List.nil_append, Nat.zero_mul, Nat.zero_le])) <;> (try (have hd_ : True := hd; clear hd_ hd)))
   (refine CallK.use (hSC _ _) ?_; rintro _ _ ⟨rfl, k5, rfl⟩)
   ((have hd := trivial; repeat' (first | ((first | apply GdK_st | apply GdK_sf | apply CondK_s) <;> intro hd <;> (try simp only [hd])) | simp (disch := first | assumption | omega | (simp only [nx] <;> omega) | fail) only [hd, hQr, hQn, c4_0, ↓YA, YB, YC, YE, YF, YZ, ↓reduceIte, Nat.reduceEqDiff, Nat.reduceAdd, Nat.reduceMul, Nat.reduceLeDiff, Int.reduceToNat, Int.reduceLE, Int.reduceLT, Int.reduceGT, Int.reduceGE, Int.reduceAdd, Int.reduceSub, Int.reduceNeg, Int.reduceBEq, Int.reduceBNe, List.length_map, dC, List.length_nil, d00])) <;> (try (have hd_ : True := hd; clear hd_ hd)))
   (refine CallK.use (awake_sound _) ?_; rintro _ _ ⟨rfl, k6, rfl⟩)
   ((have hd := trivial; repeat' (first | ((first | apply GdK_st | apply GdK_sf | apply CondK_s) <;> intro hd <;> (try simp only [hd])) | simp (disch := first | assumption | omega | (simp only [nx] <;> omega) | fail) only [hd, hQr, hQn, c4_0, ↓YA, YB, YC, YE, YF, YZ, ↓reduceIte, Nat.reduceEqDiff, Nat.reduceAdd, Nat.reduceMul, Nat.reduceLeDiff, Int.reduceToNat, Int.reduceLE, Int.reduceLT, Int.reduceGT, Int.reduceGE, Int.reduceAdd, Int.reduceSub, Int.reduceNeg, Int.reduceBEq, Int.reduceBNe])) <;> (try (have hd_ : True := hd; clear hd_ hd)))
   exact fin_keep rfl
 | cons x r =>
  have aA : allLen 1 ([eS x] :: List.map (fun s => [eS s]) r) = true := al
  simp only [rS, List.map_cons, List.length_cons] at happ hll
  have m1 : r.length + 1 + m.length ≤ maxLen := by omega
  have m2 : (r.length + 1 + m.length) * 16 ≤ 140737488355328 := by omega
  have m3 : r.length + 1 ≤ maxLen := by omega
  have m4 : (r.length + 1) * 16 ≤ 140737488355328 := by omega
  refine fn_soundQ hE cf4 (Nat.le_of_ble_eq_true rfl) fun Q hQr hQn => ?_
  ((have hd := trivial; repeat' (first | ((first | apply GdK_st | apply GdK_sf | apply CondK_s) <;> intro hd <;> (try simp only [hd])) | simp (disch := first | assumption | omega | (simp only [nx] <;> omega) | fail) only [hd, hQr, hQn, c4_0, ↓YA, YB, YC, YE, YF, YZ, ↓reduceIte, Nat.reduceEqDiff, Nat.reduceAdd, Nat.reduceMul, Nat.reduceLeDiff, Int.reduceToNat, Int.reduceLE, Int.reduceLT, Int.reduceGT, Int.reduceGE, Int.reduceAdd, Int.reduceSub, Int.reduceNeg, Int.reduceBEq, Int.reduceBNe])) <;> (try (have hd_ : True := hd; clear hd_ hd)))
  (refine CallK.use (hFl _) ?_; rintro _ _ ⟨rfl, k1, rfl⟩)
  ((have hd := trivial; repeat' (first | ((first | apply GdK_st | apply GdK_sf | apply CondK_s) <;> intro hd <;> (try simp only [hd])) | simp (disch := first | assumption | omega | (simp only [nx] <;> omega) | fail) only [hd, hQr, hQn, c4_0, ↓YA, YB, YC, YE, YF, YZ, ↓reduceIte, Nat.reduceEqDiff, Nat.reduceAdd, Nat.reduceMul, Nat.reduceLeDiff, Int.reduceToNat, Int.reduceLE, Int.reduceLT, Int.reduceGT, Int.reduceGE, Int.reduceAdd, Int.reduceSub, Int.reduceNeg, Int.reduceBEq, Int.reduceBNe])) <;> (try (have hd_ : True := hd; clear hd_ hd)))
  (refine CallK.use (hFm _) ?_; rintro _ _ ⟨rfl, k2, rfl⟩)
  ((have hd := trivial; repeat' (first | ((first | apply GdK_st | apply GdK_sf | apply CondK_s) <;> intro hd <;> (try simp only [hd])) | simp (disch := first | assumption | omega | (simp only [nx] <;> omega) | fail) only [hd, hQr, hQn, c4_0, ↓YA, YB, YC, YE, YF, YZ, ↓reduceIte, Nat.reduceEqDiff, Nat.reduceAdd, Nat.reduceMul, Nat.reduceLeDiff, Int.reduceToNat, Int.reduceLE, Int.reduceLT, Int.reduceGT, Int.reduceGE, Int.reduceAdd, Int.reduceSub, Int.reduceNeg, Int.reduceBEq, Int.reduceBNe])) <;> (try (have hd_ : True := hd; clear hd_ hd)))
  (refine CallK.use (hWl _) ?_; rintro _ _ ⟨rfl, k3, rfl⟩)
  ((have hd := trivial; repeat' (first | ((first | apply GdK_st | apply GdK_sf | apply CondK_s) <;> intro hd <;> (try simp only [hd])) | simp (disch := first | assumption | omega | (simp only [nx] <;> omega) | fail) only [hd, hQr, hQn, c4_0, ↓YA, YB, YC, YE, YF, YZ, ↓reduceIte, Nat.reduceEqDiff, Nat.reduceAdd, Nat.reduceMul, Nat.reduceLeDiff, Int.reduceToNat, Int.reduceLE, Int.reduceLT, Int.reduceGT, Int.reduceGE, Int.reduceAdd, Int.reduceSub, Int.reduceNeg, Int.reduceBEq, Int.reduceBNe])) <;> (try (have hd_ : True := hd; clear hd_ hd)))
  (refine CallK.use (hWm _) ?_; rintro _ _ ⟨rfl, k4, rfl⟩)
  ((have hd := trivial; repeat' (first | ((first | apply GdK_st | apply GdK_sf | apply CondK_s) <;> intro hd <;> (try simp only [hd])) | simp (disch := first | assumption | omega | (simp only [nx] <;> omega) | fail) only [hd, hQr, hQn, c4_0, ↓YA, YB, YC, YE, YF, YZ, ↓reduceIte, Nat.reduceEqDiff, Nat.reduceAdd, Nat.reduceMul, Nat.reduceLeDiff, Int.reduceToNat, Int.reduceLE, Int.reduceLT, Int.reduceGT, Int.reduceGE, Int.reduceAdd, Int.reduceSub, Int.reduceNeg, Int.reduceBEq, Int.reduceBNe])) <;> (try (have hd_ : True := hd; clear hd_ hd)))
  refine CallK.use (hNl _) ?_
  rintro _ H1 ⟨hx1, ia, rfl, ha⟩
  ((have hd := trivial; repeat' (first | ((first | apply GdK_st | apply GdK_sf | apply CondK_s) <;> intro hd <;> (try simp only [hd])) | simp (disch := first | assumption | omega | (simp only [nx] <;> omega) | fail) only [hd, hQr, hQn, c4_0, ↓YA, YB, YC, YE, YF, YZ, ↓reduceIte, Nat.reduceEqDiff, Nat.reduceAdd, Nat.reduceMul, Nat.reduceLeDiff, Int.reduceToNat, Int.reduceLE, Int.reduceLT, Int.reduceGT, Int.reduceGE, Int.reduceAdd, Int.reduceSub, Int.reduceNeg, Int.reduceBEq, Int.reduceBNe])) <;> (try (have hd_ : True := hd; clear hd_ hd)))
  refine CallK.use (hNm _) ?_
  rintro _ H2 ⟨hx2, ib, rfl, hb⟩
  have ha2 := ha.ext hx2
  ((have hd := trivial; repeat' (first | ((first | apply GdK_st | apply GdK_sf | apply CondK_s) <;> intro hd <;> (try simp only [hd])) | simp (disch := first | assumption | omega | (simp only [nx] <;> omega) | fail) only [hd, hQr, hQn, c4_0, ↓YA, YB, YC, YE, YF, YZ, ↓reduceIte, Nat.reduceEqDiff, Nat.reduceAdd, Nat.reduceMul, Nat.reduceLeDiff, Int.reduceToNat, Int.reduceLE, Int.reduceLT, Int.reduceGT, Int.reduceGE, Int.reduceAdd, Int.reduceSub, Int.reduceNeg, Int.reduceBEq, Int.reduceBNe])) <;> (try (have hd_ : True := hd; clear hd_ hd)))
  refine CallK.use (hJ _ ia ib ha2 hb) ?_
  rintro _ H3 ⟨hx3, rfl⟩
  ((have hd := trivial; repeat' (first | ((first | apply GdK_st | apply GdK_sf | apply CondK_s) <;> intro hd <;> (try simp only [hd])) | simp (disch := first | assumption | omega | (simp only [nx] <;> omega) | fail) only [hd, hQr, hQn, c4_0, ↓YA, YB, YC, YE, YF, YZ, ↓reduceIte, Nat.reduceEqDiff, Nat.reduceAdd, Nat.reduceMul, Nat.reduceLeDiff, Int.reduceToNat, Int.reduceLE, Int.reduceLT, Int.reduceGT, Int.reduceGE, Int.reduceAdd, Int.reduceSub, Int.reduceNeg, Int.reduceBEq, Int.reduceBNe, List.map_cons, List.length_cons, List.length_map, rowsIn, rowsOf, a0, aA, am, m1, m2, m3, m4, List.length_nil, List.append_nil, List.nil_append, happ])) <;> (try (have hd_ : True := hd; clear hd_ hd)))
  (refine CallK.use (hSC _ _) ?_; rintro _ _ ⟨rfl, k5, rfl⟩)
  ((have hd := trivial; repeat' (first | ((first | apply GdK_st | apply GdK_sf | apply CondK_s) <;> intro hd <;> (try simp only [hd])) | simp (disch := first | assumption | omega | (simp only [nx] <;> omega) | fail) only [hd, hQr, hQn, c4_0, ↓YA, YB, YC, YE, YF, YZ, ↓reduceIte, Nat.reduceEqDiff, Nat.reduceAdd, Nat.reduceMul, Nat.reduceLeDiff, Int.reduceToNat, Int.reduceLE, Int.reduceLT, Int.reduceGT, Int.reduceGE, Int.reduceAdd, Int.reduceSub, Int.reduceNeg, Int.reduceBEq, Int.reduceBNe, List.length_map, dC, List.length_nil, d00])) <;> (try (have hd_ : True := hd; clear hd_ hd)))
  (refine CallK.use (awake_sound _) ?_; rintro _ _ ⟨rfl, k6, rfl⟩)
  ((have hd := trivial; repeat' (first | ((first | apply GdK_st | apply GdK_sf | apply CondK_s) <;> intro hd <;> (try simp only [hd])) | simp (disch := first | assumption | omega | (simp only [nx] <;> omega) | fail) only [hd, hQr, hQn, c4_0, ↓YA, YB, YC, YE, YF, YZ, ↓reduceIte, Nat.reduceEqDiff, Nat.reduceAdd, Nat.reduceMul, Nat.reduceLeDiff, Int.reduceToNat, Int.reduceLE, Int.reduceLT, Int.reduceGT, Int.reduceGE, Int.reduceAdd, Int.reduceSub, Int.reduceNeg, Int.reduceBEq, Int.reduceBNe])) <;> (try (have hd_ : True := hd; clear hd_ hd)))
  exact fin_keep rfl
theorem dictJoins_sound (l m : List Tx) (H : AHeap) : Sound Try.prog 4 [.sl .no (rS l), .sl .no (rS m)] H fun r _ => r = .b true := by
 by_cases hfl : fewT l = true
 case neg =>
  have hfl : fewT l = false := by simpa using hfl
  refine fn_soundQ hE cf4 (Nat.le_of_ble_eq_true rfl) fun Q hQr hQn => ?_
  ((have hd := trivial; repeat' (first | ((first | apply GdK_st | apply GdK_sf | apply CondK_s) <;> intro hd <;> (try simp only [hd])) | simp (disch := first | assumption | omega | (simp only [nx] <;> omega) | fail) only [hd, hQr, hQn, c4_0, ↓YA, YB, YC, YE, YF, YZ, ↓reduceIte, Nat.reduceEqDiff, Nat.reduceAdd, Nat.reduceMul, Nat.reduceLeDiff, Int.reduceToNat, Int.reduceLE, Int.reduceLT, Int.reduceGT, Int.reduceGE, Int.reduceAdd, Int.reduceSub, Int.reduceNeg, Int.reduceBEq, Int.reduceBNe])) <;> (try (have hd_ : True := hd; clear hd_ hd)))
  (refine CallK.use (few_sound .no l _) ?_; rintro _ _ ⟨rfl, k1, rfl⟩)
  ((have hd := trivial; repeat' (first | ((first | apply GdK_st | apply GdK_sf | apply CondK_s) <;> intro hd <;> (try simp only [hd])) | simp (disch := first | assumption | omega | (simp only [nx] <;> omega) | fail) only [hd, hQr, hQn, c4_0, ↓YA, YB, YC, YE, YF, YZ, ↓reduceIte, Nat.reduceEqDiff, Nat.reduceAdd, Nat.reduceMul, Nat.reduceLeDiff, Int.reduceToNat, Int.reduceLE, Int.reduceLT, Int.reduceGT, Int.reduceGE, Int.reduceAdd, Int.reduceSub, Int.reduceNeg, Int.reduceBEq, Int.reduceBNe, hfl])) <;> (try (have hd_ : True := hd; clear hd_ hd)))
  (refine CallK.use (awake_sound _) ?_; rintro _ _ ⟨rfl, k2, rfl⟩)
  ((have hd := trivial; repeat' (first | ((first | apply GdK_st | apply GdK_sf | apply CondK_s) <;> intro hd <;> (try simp only [hd])) | simp (disch := first | assumption | omega | (simp only [nx] <;> omega) | fail) only [hd, hQr, hQn, c4_0, ↓YA, YB, YC, YE, YF, YZ, ↓reduceIte, Nat.reduceEqDiff, Nat.reduceAdd, Nat.reduceMul, Nat.reduceLeDiff, Int.reduceToNat, Int.reduceLE, Int.reduceLT, Int.reduceGT, Int.reduceGE, Int.reduceAdd, Int.reduceSub, Int.reduceNeg, Int.reduceBEq, Int.reduceBNe])) <;> (try (have hd_ : True := hd; clear hd_ hd)))
  exact fin_keep rfl
 by_cases hfm : fewT m = true
 case neg =>
  have hfm : fewT m = false := by simpa using hfm
  refine fn_soundQ hE cf4 (Nat.le_of_ble_eq_true rfl) fun Q hQr hQn => ?_
  ((have hd := trivial; repeat' (first | ((first | apply GdK_st | apply GdK_sf | apply CondK_s) <;> intro hd <;> (try simp only [hd])) | simp (disch := first | assumption | omega | (simp only [nx] <;> omega) | fail) only [hd, hQr, hQn, c4_0, ↓YA, YB, YC, YE, YF, YZ, ↓reduceIte, Nat.reduceEqDiff, Nat.reduceAdd, Nat.reduceMul, Nat.reduceLeDiff, Int.reduceToNat, Int.reduceLE, Int.reduceLT, Int.reduceGT, Int.reduceGE, Int.reduceAdd, Int.reduceSub, Int.reduceNeg, Int.reduceBEq, Int.reduceBNe])) <;> (try (have hd_ : True := hd; clear hd_ hd)))
  (refine CallK.use (few_sound .no l _) ?_; rintro _ _ ⟨rfl, k1, rfl⟩)
  ((have hd := trivial; repeat' (first | ((first | apply GdK_st | apply GdK_sf | apply CondK_s) <;> intro hd <;> (try simp only [hd])) | simp (disch := first | assumption | omega | (simp only [nx] <;> omega) | fail) only [hd, hQr, hQn, c4_0, ↓YA, YB, YC, YE, YF, YZ, ↓reduceIte, Nat.reduceEqDiff, Nat.reduceAdd, Nat.reduceMul, Nat.reduceLeDiff, Int.reduceToNat, Int.reduceLE, Int.reduceLT, Int.reduceGT, Int.reduceGE, Int.reduceAdd, Int.reduceSub, Int.reduceNeg, Int.reduceBEq, Int.reduceBNe, hfl])) <;> (try (have hd_ : True := hd; clear hd_ hd)))
  (refine CallK.use (few_sound .no m _) ?_; rintro _ _ ⟨rfl, k2, rfl⟩)
  ((have hd := trivial; repeat' (first | ((first | apply GdK_st | apply GdK_sf | apply CondK_s) <;> intro hd <;> (try simp only [hd])) | simp (disch := first | assumption | omega | (simp only [nx] <;> omega) | fail) only [hd, hQr, hQn, c4_0, ↓YA, YB, YC, YE, YF, YZ, ↓reduceIte, Nat.reduceEqDiff, Nat.reduceAdd, Nat.reduceMul, Nat.reduceLeDiff, Int.reduceToNat, Int.reduceLE, Int.reduceLT, Int.reduceGT, Int.reduceGE, Int.reduceAdd, Int.reduceSub, Int.reduceNeg, Int.reduceBEq, Int.reduceBNe, hfl, hfm])) <;> (try (have hd_ : True := hd; clear hd_ hd)))
  (refine CallK.use (awake_sound _) ?_; rintro _ _ ⟨rfl, k3, rfl⟩)
  ((have hd := trivial; repeat' (first | ((first | apply GdK_st | apply GdK_sf | apply CondK_s) <;> intro hd <;> (try simp only [hd])) | simp (disch := first | assumption | omega | (simp only [nx] <;> omega) | fail) only [hd, hQr, hQn, c4_0, ↓YA, YB, YC, YE, YF, YZ, ↓reduceIte, Nat.reduceEqDiff, Nat.reduceAdd, Nat.reduceMul, Nat.reduceLeDiff, Int.reduceToNat, Int.reduceLE, Int.reduceLT, Int.reduceGT, Int.reduceGE, Int.reduceAdd, Int.reduceSub, Int.reduceNeg, Int.reduceBEq, Int.reduceBNe])) <;> (try (have hd_ : True := hd; clear hd_ hd)))
  exact fin_keep rfl
 have hll := fewT_len hfl
 have hml := fewT_len hfm
 by_cases hwl : wrongT l = 0
 case neg =>
  have hWl : ∀ G, Sound Try.prog 9 [.sl .no (rS l)] G (Pure G (.i (wrongT l))) := fun G => wrong_sound .no l G (by omega)
  have q1 : (wrongT l != 0) = true := by simpa using hwl
  refine fn_soundQ hE cf4 (Nat.le_of_ble_eq_true rfl) fun Q hQr hQn => ?_
  ((have hd := trivial; repeat' (first | ((first | apply GdK_st | apply GdK_sf | apply CondK_s) <;> intro hd <;> (try simp only [hd])) | simp (disch := first | assumption | omega | (simp only [nx] <;> omega) | fail) only [hd, hQr, hQn, c4_0, ↓YA, YB, YC, YE, YF, YZ, ↓reduceIte, Nat.reduceEqDiff, Nat.reduceAdd, Nat.reduceMul, Nat.reduceLeDiff, Int.reduceToNat, Int.reduceLE, Int.reduceLT, Int.reduceGT, Int.reduceGE, Int.reduceAdd, Int.reduceSub, Int.reduceNeg, Int.reduceBEq, Int.reduceBNe])) <;> (try (have hd_ : True := hd; clear hd_ hd)))
  (refine CallK.use (few_sound .no l _) ?_; rintro _ _ ⟨rfl, k1, rfl⟩)
  ((have hd := trivial; repeat' (first | ((first | apply GdK_st | apply GdK_sf | apply CondK_s) <;> intro hd <;> (try simp only [hd])) | simp (disch := first | assumption | omega | (simp only [nx] <;> omega) | fail) only [hd, hQr, hQn, c4_0, ↓YA, YB, YC, YE, YF, YZ, ↓reduceIte, Nat.reduceEqDiff, Nat.reduceAdd, Nat.reduceMul, Nat.reduceLeDiff, Int.reduceToNat, Int.reduceLE, Int.reduceLT, Int.reduceGT, Int.reduceGE, Int.reduceAdd, Int.reduceSub, Int.reduceNeg, Int.reduceBEq, Int.reduceBNe, hfl])) <;> (try (have hd_ : True := hd; clear hd_ hd)))
  (refine CallK.use (few_sound .no m _) ?_; rintro _ _ ⟨rfl, k2, rfl⟩)
  ((have hd := trivial; repeat' (first | ((first | apply GdK_st | apply GdK_sf | apply CondK_s) <;> intro hd <;> (try simp only [hd])) | simp (disch := first | assumption | omega | (simp only [nx] <;> omega) | fail) only [hd, hQr, hQn, c4_0, ↓YA, YB, YC, YE, YF, YZ, ↓reduceIte, Nat.reduceEqDiff, Nat.reduceAdd, Nat.reduceMul, Nat.reduceLeDiff, Int.reduceToNat, Int.reduceLE, Int.reduceLT, Int.reduceGT, Int.reduceGE, Int.reduceAdd, Int.reduceSub, Int.reduceNeg, Int.reduceBEq, Int.reduceBNe, hfl, hfm])) <;> (try (have hd_ : True := hd; clear hd_ hd)))
  (refine CallK.use (hWl _) ?_; rintro _ _ ⟨rfl, k3, rfl⟩)
  ((have hd := trivial; repeat' (first | ((first | apply GdK_st | apply GdK_sf | apply CondK_s) <;> intro hd <;> (try simp only [hd])) | simp (disch := first | assumption | omega | (simp only [nx] <;> omega) | fail) only [hd, hQr, hQn, c4_0, ↓YA, YB, YC, YE, YF, YZ, ↓reduceIte, Nat.reduceEqDiff, Nat.reduceAdd, Nat.reduceMul, Nat.reduceLeDiff, Int.reduceToNat, Int.reduceLE, Int.reduceLT, Int.reduceGT, Int.reduceGE, Int.reduceAdd, Int.reduceSub, Int.reduceNeg, Int.reduceBEq, Int.reduceBNe, q1])) <;> (try (have hd_ : True := hd; clear hd_ hd)))
  (refine CallK.use (awake_sound _) ?_; rintro _ _ ⟨rfl, k4, rfl⟩)
  ((have hd := trivial; repeat' (first | ((first | apply GdK_st | apply GdK_sf | apply CondK_s) <;> intro hd <;> (try simp only [hd])) | simp (disch := first | assumption | omega | (simp only [nx] <;> omega) | fail) only [hd, hQr, hQn, c4_0, ↓YA, YB, YC, YE, YF, YZ, ↓reduceIte, Nat.reduceEqDiff, Nat.reduceAdd, Nat.reduceMul, Nat.reduceLeDiff, Int.reduceToNat, Int.reduceLE, Int.reduceLT, Int.reduceGT, Int.reduceGE, Int.reduceAdd, Int.reduceSub, Int.reduceNeg, Int.reduceBEq, Int.reduceBNe])) <;> (try (have hd_ : True := hd; clear hd_ hd)))
  exact fin_keep rfl
 by_cases hwm : wrongT m = 0
 case neg =>
  have hWl : ∀ G, Sound Try.prog 9 [.sl .no (rS l)] G (Pure G (.i 0)) := fun G => by rw [← hwl]; exact wrong_sound .no l G (by omega)
  have hWm : ∀ G, Sound Try.prog 9 [.sl .no (rS m)] G (Pure G (.i (wrongT m))) := fun G => wrong_sound .no m G (by omega)
  have q1 : (wrongT m != 0) = true := by simpa using hwm
  refine fn_soundQ hE cf4 (Nat.le_of_ble_eq_true rfl) fun Q hQr hQn => ?_
  ((have hd := trivial; repeat' (first | ((first | apply GdK_st | apply GdK_sf | apply CondK_s) <;> intro hd <;> (try simp only [hd])) | simp (disch := first | assumption | omega | (simp only [nx] <;> omega) | fail) only [hd, hQr, hQn, c4_0, ↓YA, YB, YC, YE, YF, YZ, ↓reduceIte, Nat.reduceEqDiff, Nat.reduceAdd, Nat.reduceMul, Nat.reduceLeDiff, Int.reduceToNat, Int.reduceLE, Int.reduceLT, Int.reduceGT, Int.reduceGE, Int.reduceAdd, Int.reduceSub, Int.reduceNeg, Int.reduceBEq, Int.reduceBNe])) <;> (try (have hd_ : True := hd; clear hd_ hd)))
  (refine CallK.use (few_sound .no l _) ?_; rintro _ _ ⟨rfl, k1, rfl⟩)
  ((have hd := trivial; repeat' (first | ((first | apply GdK_st | apply GdK_sf | apply CondK_s) <;> intro hd <;> (try simp only [hd])) | simp (disch := first | assumption | omega | (simp only [nx] <;> omega) | fail) only [hd, hQr, hQn, c4_0, ↓YA, YB, YC, YE, YF, YZ, ↓reduceIte, Nat.reduceEqDiff, Nat.reduceAdd, Nat.reduceMul, Nat.reduceLeDiff, Int.reduceToNat, Int.reduceLE, Int.reduceLT, Int.reduceGT, Int.reduceGE, Int.reduceAdd, Int.reduceSub, Int.reduceNeg, Int.reduceBEq, Int.reduceBNe, hfl])) <;> (try (have hd_ : True := hd; clear hd_ hd)))
  (refine CallK.use (few_sound .no m _) ?_; rintro _ _ ⟨rfl, k2, rfl⟩)
  ((have hd := trivial; repeat' (first | ((first | apply GdK_st | apply GdK_sf | apply CondK_s) <;> intro hd <;> (try simp only [hd])) | simp (disch := first | assumption | omega | (simp only [nx] <;> omega) | fail) only [hd, hQr, hQn, c4_0, ↓YA, YB, YC, YE, YF, YZ, ↓reduceIte, Nat.reduceEqDiff, Nat.reduceAdd, Nat.reduceMul, Nat.reduceLeDiff, Int.reduceToNat, Int.reduceLE, Int.reduceLT, Int.reduceGT, Int.reduceGE, Int.reduceAdd, Int.reduceSub, Int.reduceNeg, Int.reduceBEq, Int.reduceBNe, hfl, hfm])) <;> (try (have hd_ : True := hd; clear hd_ hd)))
  (refine CallK.use (hWl _) ?_; rintro _ _ ⟨rfl, k3, rfl⟩)
  ((have hd := trivial; repeat' (first | ((first | apply GdK_st | apply GdK_sf | apply CondK_s) <;> intro hd <;> (try simp only [hd])) | simp (disch := first | assumption | omega | (simp only [nx] <;> omega) | fail) only [hd, hQr, hQn, c4_0, ↓YA, YB, YC, YE, YF, YZ, ↓reduceIte, Nat.reduceEqDiff, Nat.reduceAdd, Nat.reduceMul, Nat.reduceLeDiff, Int.reduceToNat, Int.reduceLE, Int.reduceLT, Int.reduceGT, Int.reduceGE, Int.reduceAdd, Int.reduceSub, Int.reduceNeg, Int.reduceBEq, Int.reduceBNe])) <;> (try (have hd_ : True := hd; clear hd_ hd)))
  (refine CallK.use (hWm _) ?_; rintro _ _ ⟨rfl, k4, rfl⟩)
  ((have hd := trivial; repeat' (first | ((first | apply GdK_st | apply GdK_sf | apply CondK_s) <;> intro hd <;> (try simp only [hd])) | simp (disch := first | assumption | omega | (simp only [nx] <;> omega) | fail) only [hd, hQr, hQn, c4_0, ↓YA, YB, YC, YE, YF, YZ, ↓reduceIte, Nat.reduceEqDiff, Nat.reduceAdd, Nat.reduceMul, Nat.reduceLeDiff, Int.reduceToNat, Int.reduceLE, Int.reduceLT, Int.reduceGT, Int.reduceGE, Int.reduceAdd, Int.reduceSub, Int.reduceNeg, Int.reduceBEq, Int.reduceBNe, q1])) <;> (try (have hd_ : True := hd; clear hd_ hd)))
  (refine CallK.use (awake_sound _) ?_; rintro _ _ ⟨rfl, k5, rfl⟩)
  ((have hd := trivial; repeat' (first | ((first | apply GdK_st | apply GdK_sf | apply CondK_s) <;> intro hd <;> (try simp only [hd])) | simp (disch := first | assumption | omega | (simp only [nx] <;> omega) | fail) only [hd, hQr, hQn, c4_0, ↓YA, YB, YC, YE, YF, YZ, ↓reduceIte, Nat.reduceEqDiff, Nat.reduceAdd, Nat.reduceMul, Nat.reduceLeDiff, Int.reduceToNat, Int.reduceLE, Int.reduceLT, Int.reduceGT, Int.reduceGE, Int.reduceAdd, Int.reduceSub, Int.reduceNeg, Int.reduceBEq, Int.reduceBNe])) <;> (try (have hd_ : True := hd; clear hd_ hd)))
  exact fin_keep rfl
 by_cases hC : (sortT (l ++ m)).length > 200
 ·exact joins_full l m H hfl hfm hwl hwm hC
 ·exact joins_ok l m H hfl hfm hwl hwm hC
end Go.Proofs.Ytabcgofihdklbaa
