/- Texts of the walk, joined: Q9 Va Vb Wj Wk Wl. -/
import Derived.Test.YtgnpihhakogeeaaMq
import Derived.Test.YtgnpihhakogeeaaMj
import Derived.Test.YtgnpihhakogeeaaMm
import Derived.Test.YtgnpihhakogeeaaMi
import Derived.Test.YtgnpihhakogeeaaMk
namespace Go.Proofs.Ytgnpihhakogeeaa
set_option linter.unusedSimpArgs false
set_option linter.unusedVariables false
open Go.RowKit
def c115_0 : ACode := .seq (.reg [jm 4 0, io 5 (.mv (ib false))]) (.seq (.reg [im 11 0, io 12 (.call (jf 116) [.t 11]), im 10 12, io 13 (.ext (.t 10) 0), io 14 (.ext (.t 10) 1), im 6 13, im 7 14]) (.seq (.reg [im 16 1, io 17 (.call (jf 116) [.t 16]), im 15 17, io 18 (.ext (.t 15) 0), io 19 (.ext (.t 15) 1), im 8 18, im 9 19]) (.seq (.reg [im 20 6, im 21 8, io 22 (.bin .add (.t 20) (.t 21)), im 23 7, im 24 9, io 25 (.bin .add (.t 23) (.t 24)), io 26 (.call (jf 117) [.t 22, .t 25]), io 27 (.ext (.t 26) 0), io 28 (.ext (.t 26) 1), im 4 27, im 5 28]) .ret)))
theorem cf115 : cFn Try.prog eqT 115 = some (c115_0, [(.tmp 4), (.tmp 5)], 29) := by kernel_rfl
def c116_0 : ACode := .seq (.reg [jm 2 0, jm 3 0]) (.seq (.reg [im 5 0, io 6 (.bin .rem (.t 5) (ik 4294967296)), im 4 6]) (.seq (.seq (.reg [im 7 4, io 8 (.bin .lss (.t 7) (ik 0))]) (.cond (.t 8) (.reg [im 9 4, io 10 (.bin .add (.t 9) (ik 4294967296)), im 4 10]) .skip)) (.seq (.reg [im 11 0, im 12 4, io 13 (.bin .sub (.t 11) (.t 12)), io 14 (.bin .quo (.t 13) (ik 4294967296)), im 15 4, im 2 14, im 3 15]) .ret)))
theorem cf116 : cFn Try.prog eqT 116 = some (c116_0, [(.tmp 2), (.tmp 3)], 16) := by kernel_rfl
def c117_1 : ACode := .blk 0 (.loop (.seq (.seq (.reg [im 6 1, io 7 (.bin .geq (.t 6) (ik 4294967296))]) (.cond (.t 7) .skip (.exit 0))) (.blk 1 (.seq (.reg [im 8 1, io 9 (.bin .sub (.t 8) (ik 4294967296)), im 1 9]) (.reg [im 10 0, io 11 (.bin .add (.t 10) (ik 1)), im 0 11])))))
def c117_2 : ACode := .blk 2 (.loop (.seq (.seq (.reg [im 12 1, io 13 (.bin .lss (.t 12) (ik 0))]) (.cond (.t 13) .skip (.exit 2))) (.blk 3 (.seq (.reg [im 14 1, io 15 (.bin .add (.t 14) (ik 4294967296)), im 1 15]) (.reg [im 16 0, io 17 (.bin .sub (.t 16) (ik 1)), im 0 17])))))
def c117_0 : ACode := .seq (.reg [jm 4 0, io 5 (.mv (ib false))]) (.seq c117_1 (.seq c117_2 (.seq (.seq (.reg [im 18 0, io 19 (.bin .lss (.t 18) (ik (-2147483648))), im 20 19, ih 20 21 (.mv (.t 0)), ih 20 22 (.bin .gtr (.t 21) (ik 2147483647)), io 23 (.pick (.t 20) (ib true) (.t 22))]) (.cond (.t 23) (.seq (.reg [jm 4 0, io 5 (.mv (ib false))]) .ret) .skip)) (.seq (.reg [im 24 0, io 25 (.bin .mul (.t 24) (ik 4294967296)), im 26 1, io 27 (.bin .add (.t 25) (.t 26)), im 4 27, io 5 (.mv (ib true))]) .ret))))
theorem cf117 : cFn Try.prog eqT 117 = some (c117_0, [(.tmp 4), (.tmp 5)], 28) := by kernel_rfl
theorem bfe (b : Bool) : b = false ∨ b = true := by cases b <;> simp
def In64 (n : Int) : Prop := -9223372036854775808 ≤ n ∧ n ≤ 9223372036854775807
instance (n : Int) : Decidable (In64 n) := inferInstanceAs (Decidable (_ ∧ _))
def fitB (n : Int) : Bool := decide (In64 n)
def sumV (n : Int) : AV := .tup [.i (if fitB n then n else 0), .b (fitB n)]
theorem fitB_t {n : Int} (h : In64 n) : fitB n = true := decide_eq_true h
theorem fitB_f {n : Int} (h : ¬ In64 n) : fitB n = false := decide_eq_false h
theorem eadd_sound (a b : Int) (H : AHeap) (ha : In64 a) (hb : In64 b) : Sound Try.prog 113 [.i a, .i b] H (Pure H (sumV (a + b))) := by
 obtain ⟨a1, a2⟩ := ha
 obtain ⟨b1, b2⟩ := hb
 refine fn_soundQ hE cf113 (Nat.le_of_ble_eq_true rfl) fun Q hQr hQn => ?_
 by_cases hbp : 0 < b
 ·have d1 : decide (b > 0) = true := by simp; omega
  have d2 : decide (b < 0) = false := by simp; omega
  by_cases hf : a + b ≤ 9223372036854775807
  ·have d3 : decide (a > 9223372036854775807 - b) = false := by simp; omega
   have hw : IntKind.i64.wrap (9223372036854775807 - b) = 9223372036854775807 - b := wrap_of (by omega) (by omega)
   have hv : sumV (a + b) = .tup [.i (a + b), .b true] := by unfold sumV; rw [fitB_t ⟨by omega, hf⟩]; rfl
   rw [hv] at hQr hQn
   ((have hd := trivial; repeat' (first | ((first | apply GdK_st | apply GdK_sf | apply CondK_s) <;> intro hd <;> (try simp only [hd])) | simp (disch := first | assumption | omega | (simp only [nx] <;> omega) | fail) only [hd, hQr, hQn, c113_0, ↓YA, YB, YC, YE, YF, YZ, ↓reduceIte, Nat.reduceEqDiff, Nat.reduceAdd, Nat.reduceMul, Nat.reduceLeDiff, Int.reduceToNat, Int.reduceLE, Int.reduceLT, Int.reduceGT, Int.reduceGE, Int.reduceAdd, Int.reduceSub, Int.reduceNeg, Int.reduceBEq, Int.reduceBNe, d1, d2, d3, hw])) <;> (try (have hd_ : True := hd; clear hd_ hd)))
   refine fin_pA (by rfl)
  ·have d3 : decide (a > 9223372036854775807 - b) = true := by simp; omega
   have hw : IntKind.i64.wrap (9223372036854775807 - b) = 9223372036854775807 - b := wrap_of (by omega) (by omega)
   have hv : sumV (a + b) = .tup [.i 0, .b false] := by unfold sumV; rw [fitB_f (fun h => hf h.2)]; rfl
   rw [hv] at hQr hQn
   ((have hd := trivial; repeat' (first | ((first | apply GdK_st | apply GdK_sf | apply CondK_s) <;> intro hd <;> (try simp only [hd])) | simp (disch := first | assumption | omega | (simp only [nx] <;> omega) | fail) only [hd, hQr, hQn, c113_0, ↓YA, YB, YC, YE, YF, YZ, ↓reduceIte, Nat.reduceEqDiff, Nat.reduceAdd, Nat.reduceMul, Nat.reduceLeDiff, Int.reduceToNat, Int.reduceLE, Int.reduceLT, Int.reduceGT, Int.reduceGE, Int.reduceAdd, Int.reduceSub, Int.reduceNeg, Int.reduceBEq, Int.reduceBNe, d1, d2, d3, hw])) <;> (try (have hd_ : True := hd; clear hd_ hd)))
   refine fin_pA (by rfl)
 ·have d1 : decide (b > 0) = false := by simp; omega
  by_cases hbn : b < 0
  ·have d2 : decide (b < 0) = true := by simp; omega
   have hw : IntKind.i64.wrap (-9223372036854775808 - b) = -9223372036854775808 - b := wrap_of (by omega) (by omega)
   by_cases hf : -9223372036854775808 ≤ a + b
   ·have d3 : decide (a < -9223372036854775808 - b) = false := by simp; omega
    have hv : sumV (a + b) = .tup [.i (a + b), .b true] := by unfold sumV; rw [fitB_t ⟨hf, by omega⟩]; rfl
    rw [hv] at hQr hQn
    ((have hd := trivial; repeat' (first | ((first | apply GdK_st | apply GdK_sf | apply CondK_s) <;> intro hd <;> (try simp only [hd])) | simp (disch := first | assumption | omega | (simp only [nx] <;> omega) | fail) only [hd, hQr, hQn, c113_0, ↓YA, YB, YC, YE, YF, YZ, ↓reduceIte, Nat.reduceEqDiff, Nat.reduceAdd, Nat.reduceMul, Nat.reduceLeDiff, Int.reduceToNat, Int.reduceLE, Int.reduceLT, Int.reduceGT, Int.reduceGE, Int.reduceAdd, Int.reduceSub, Int.reduceNeg, Int.reduceBEq, Int.reduceBNe, d1, d2, d3, hw])) <;> (try (have hd_ : True := hd; clear hd_ hd)))
    refine fin_pA (by rfl)
   ·have d3 : decide (a < -9223372036854775808 - b) = true := by simp; omega
    have hv : sumV (a + b) = .tup [.i 0, .b false] := by unfold sumV; rw [fitB_f (fun h => hf h.1)]; rfl
    rw [hv] at hQr hQn
    ((have hd := trivial; repeat' (first | ((first | apply GdK_st | apply GdK_sf | apply CondK_s) <;> intro hd <;> (try simp only [hd])) | simp (disch := first | assumption | omega | (simp only [nx] <;> omega) | fail) only [hd, hQr, hQn, c113_0, ↓YA, YB, YC, YE, YF, YZ, ↓reduceIte, Nat.reduceEqDiff, Nat.reduceAdd, Nat.reduceMul, Nat.reduceLeDiff, Int.reduceToNat, Int.reduceLE, Int.reduceLT, Int.reduceGT, Int.reduceGE, Int.reduceAdd, Int.reduceSub, Int.reduceNeg, Int.reduceBEq, Int.reduceBNe, d1, d2, d3, hw])) <;> (try (have hd_ : True := hd; clear hd_ hd)))
    refine fin_pA (by rfl)
  ·have d2 : decide (b < 0) = false := by simp; omega
   have hv : sumV (a + b) = .tup [.i (a + b), .b true] := by unfold sumV; rw [fitB_t ⟨by omega, by omega⟩]; rfl
   rw [hv] at hQr hQn
   ((have hd := trivial; repeat' (first | ((first | apply GdK_st | apply GdK_sf | apply CondK_s) <;> intro hd <;> (try simp only [hd])) | simp (disch := first | assumption | omega | (simp only [nx] <;> omega) | fail) only [hd, hQr, hQn, c113_0, ↓YA, YB, YC, YE, YF, YZ, ↓reduceIte, Nat.reduceEqDiff, Nat.reduceAdd, Nat.reduceMul, Nat.reduceLeDiff, Int.reduceToNat, Int.reduceLE, Int.reduceLT, Int.reduceGT, Int.reduceGE, Int.reduceAdd, Int.reduceSub, Int.reduceNeg, Int.reduceBEq, Int.reduceBNe, d1, d2])) <;> (try (have hd_ : True := hd; clear hd_ hd)))
   refine fin_pA (by rfl)
theorem tmod_nn {n : Int} (h : 0 ≤ n) : n.tmod 4294967296 = n % 4294967296 := Int.tmod_eq_emod_of_nonneg h
theorem tmod_neg {n : Int} (h : n < 0) : n.tmod 4294967296 = if n % 4294967296 = 0 then 0 else n % 4294967296 - 4294967296 := by
 have e : n.tmod 4294967296 = -((-n).tmod 4294967296) := by rw [Int.neg_tmod, Int.neg_neg]
 rw [e, tmod_nn (by omega)]
 split <;> omega
theorem tdiv_mul {n : Int} (h : n % 4294967296 = 0) : n.tdiv 4294967296 = n / 4294967296 := Int.tdiv_eq_ediv_of_dvd (Int.dvd_of_emod_eq_zero h)
theorem big_sound (n : Int) (H : AHeap) (hn : In64 n) : Sound Try.prog 116 [.i n] H (Pure H (.tup [.i (n / 4294967296), .i (n % 4294967296)])) := by
 obtain ⟨n1, n2⟩ := hn
 have hq : (n - n % 4294967296).tdiv 4294967296 = n / 4294967296 := by rw [tdiv_mul (by omega)]; omega
 have hw1 : IntKind.i64.wrap (n - n % 4294967296) = n - n % 4294967296 ∨ n - n % 4294967296 < -9223372036854775808 := by
  by_cases h : -9223372036854775808 ≤ n - n % 4294967296
  ·exact .inl (wrap_of h (by omega))
  ·exact .inr (by omega)
 have hw1 : IntKind.i64.wrap (n - n % 4294967296) = n - n % 4294967296 := by
  rcases hw1 with h | h
  ·exact h
  ·omega
 have hw2 : IntKind.i64.wrap (n / 4294967296) = n / 4294967296 := wrap_of (by omega) (by omega)
 have hz : ¬ ((4294967296 : Int) = 0) := by decide
 refine fn_soundQ hE cf116 (Nat.le_of_ble_eq_true rfl) fun Q hQr hQn => ?_
 by_cases h0 : 0 ≤ n
 ·have ht := tmod_nn h0
  have d1 : decide (n % 4294967296 < 0) = false := by simp; omega
  ((have hd := trivial; repeat' (first | ((first | apply GdK_st | apply GdK_sf | apply CondK_s) <;> intro hd <;> (try simp only [hd])) | simp (disch := first | assumption | omega | (simp only [nx] <;> omega) | fail) only [hd, hQr, hQn, c116_0, ↓YA, YB, YC, YE, YF, YZ, ↓reduceIte, Nat.reduceEqDiff, Nat.reduceAdd, Nat.reduceMul, Nat.reduceLeDiff, Int.reduceToNat, Int.reduceLE, Int.reduceLT, Int.reduceGT, Int.reduceGE, Int.reduceAdd, Int.reduceSub, Int.reduceNeg, Int.reduceBEq, Int.reduceBNe, ht, d1, hz, hw1, hq, hw2])) <;> (try (have hd_ : True := hd; clear hd_ hd)))
  refine fin_pA (by rfl)
 ·have ht := tmod_neg (by omega : n < 0)
  by_cases hm : n % 4294967296 = 0
  ·rw [if_pos hm] at ht
   have d1 : decide ((0 : Int) < 0) = false := by decide
   have hw1' : IntKind.i64.wrap (n - 0) = n := by rw [Int.sub_zero]; exact wrap_of (by omega) (by omega)
   have hq' : n.tdiv 4294967296 = n / 4294967296 := tdiv_mul hm
   ((have hd := trivial; repeat' (first | ((first | apply GdK_st | apply GdK_sf | apply CondK_s) <;> intro hd <;> (try simp only [hd])) | simp (disch := first | assumption | omega | (simp only [nx] <;> omega) | fail) only [hd, hQr, hQn, c116_0, ↓YA, YB, YC, YE, YF, YZ, ↓reduceIte, Nat.reduceEqDiff, Nat.reduceAdd, Nat.reduceMul, Nat.reduceLeDiff, Int.reduceToNat, Int.reduceLE, Int.reduceLT, Int.reduceGT, Int.reduceGE, Int.reduceAdd, Int.reduceSub, Int.reduceNeg, Int.reduceBEq, Int.reduceBNe, ht, d1, hz, hw1', hq', hw2])) <;> (try (have hd_ : True := hd; clear hd_ hd)))
   refine fin_pA (by rw [hm]; rfl)
  ·rw [if_neg hm] at ht
   have d1 : decide (n % 4294967296 - 4294967296 < 0) = true := by simp; omega
   have hw3 : IntKind.i64.wrap (n % 4294967296 - 4294967296 + 4294967296) = n % 4294967296 := by rw [wrap_of (by omega) (by omega)]; omega
   ((have hd := trivial; repeat' (first | ((first | apply GdK_st | apply GdK_sf | apply CondK_s) <;> intro hd <;> (try simp only [hd])) | simp (disch := first | assumption | omega | (simp only [nx] <;> omega) | fail) only [hd, hQr, hQn, c116_0, ↓YA, YB, YC, YE, YF, YZ, ↓reduceIte, Nat.reduceEqDiff, Nat.reduceAdd, Nat.reduceMul, Nat.reduceLeDiff, Int.reduceToNat, Int.reduceLE, Int.reduceLT, Int.reduceGT, Int.reduceGE, Int.reduceAdd, Int.reduceSub, Int.reduceNeg, Int.reduceBEq, Int.reduceBNe, ht, d1, hz, hw3, hw1, hq, hw2])) <;> (try (have hd_ : True := hd; clear hd_ hd)))
   refine fin_pA (by rfl)
theorem small_sound0 (h l : Int) (H : AHeap) (hh : -4294967296 ≤ h ∧ h ≤ 4294967296) (hl : 0 ≤ l ∧ l < 8589934592) : Sound Try.prog 117 [.i h, .i l] H (Pure H (sumV (h * 4294967296 + l))) := by
 obtain ⟨h1, h2⟩ := hh
 obtain ⟨l1, l2⟩ := hl
 refine fn_soundQ hE cf117 (Nat.le_of_ble_eq_true rfl) fun Q hQr hQn => ?_
 ((have hd := trivial; repeat' (first | ((first | apply GdK_st | apply GdK_sf | apply CondK_s) <;> intro hd <;> (try simp only [hd])) | simp (disch := first | assumption | omega | (simp only [nx] <;> omega) | fail) only [hd, hQr, hQn, c117_0, ↓YA, YB, YC, YE, YF, YZ, ↓reduceIte, Nat.reduceEqDiff, Nat.reduceAdd, Nat.reduceMul, Nat.reduceLeDiff, Int.reduceToNat, Int.reduceLE, Int.reduceLT, Int.reduceGT, Int.reduceGE, Int.reduceAdd, Int.reduceSub, Int.reduceNeg, Int.reduceBEq, Int.reduceBNe])) <;> (try (have hd_ : True := hd; clear hd_ hd)))
 refine AW_lop [] (σ := Nat) (fun s => s ≤ 1 ∧ 0 ≤ l - 4294967296 * s ∧ (s = 1 → 4294967296 ≤ l)) (fun s => 1 - s) (fun s => [(0, .i (h + s)), (1, .i (l - 4294967296 * s))]) (fun s => []) 0 (GStep.refl _ _) (by simp only [keep_nil, keep_cons, Fr.put, Fr.get, ↓reduceIte, Nat.reduceEqDiff]; rfl) ?_ (by simp only [FrL_nil, FrL_cons, Fr.put, Fr.get, ↓reduceIte, Nat.reduceEqDiff, and_self] <;> simp) (by simp only [ObjL_nil]) ?_
 ·exact ⟨by omega, by omega, by simp⟩
 ·(rintro s G ⟨g1, g2, g3⟩ hG hn1; try simp only [nx] at hn1)
  have hxG : AHeap.Ext H G := hG.ext
  by_cases hc : 4294967296 ≤ l - 4294967296 * (s : Int)
  ·have d1 : decide (l - 4294967296 * (s : Int) ≥ 4294967296) = true := by simp; omega
   have hw1 : IntKind.i64.wrap (l - 4294967296 * (s : Int) - 4294967296) = l - 4294967296 * ((s + 1 : Nat) : Int) := by rw [wrap_of (by omega) (by omega)]; omega
   have hw2 : IntKind.i64.wrap (h + (s : Int) + 1) = h + ((s + 1 : Nat) : Int) := by rw [wrap_of (by omega) (by omega)]; omega
   ((have hd := trivial; repeat' (first | ((first | apply GdK_st | apply GdK_sf | apply CondK_s) <;> intro hd <;> (try simp only [hd])) | simp (disch := first | assumption | omega | (simp only [nx] <;> omega) | fail) only [hd, hQr, hQn, c117_0, ↓YA, YB, YC, YE, YF, YZ, ↓reduceIte, Nat.reduceEqDiff, Nat.reduceAdd, Nat.reduceMul, Nat.reduceLeDiff, Int.reduceToNat, Int.reduceLE, Int.reduceLT, Int.reduceGT, Int.reduceGE, Int.reduceAdd, Int.reduceSub, Int.reduceNeg, Int.reduceBEq, Int.reduceBNe, d1, hw1, hw2])) <;> (try (have hd_ : True := hd; clear hd_ hd)))
   exact ⟨s + 1, ⟨by omega, by omega, fun _ => by omega⟩, by omega, ⟨rfl, rfl⟩, hG⟩
  ·have d1 : decide (l - 4294967296 * (s : Int) ≥ 4294967296) = false := by simp; omega
   generalize hL : l - 4294967296 * (s : Int) = low at *
   generalize hH : h + (s : Int) = high at *
   have hsum : h * 4294967296 + l = high * 4294967296 + low := by omega
   rw [hsum] at hQr hQn
   have d2 : decide (low < 0) = false := by simp; omega
   ((have hd := trivial; repeat' (first | ((first | apply GdK_st | apply GdK_sf | apply CondK_s) <;> intro hd <;> (try simp only [hd])) | simp (disch := first | assumption | omega | (simp only [nx] <;> omega) | fail) only [hd, hQr, hQn, c117_0, ↓YA, YB, YC, YE, YF, YZ, ↓reduceIte, Nat.reduceEqDiff, Nat.reduceAdd, Nat.reduceMul, Nat.reduceLeDiff, Int.reduceToNat, Int.reduceLE, Int.reduceLT, Int.reduceGT, Int.reduceGE, Int.reduceAdd, Int.reduceSub, Int.reduceNeg, Int.reduceBEq, Int.reduceBNe, d1])) <;> (try (have hd_ : True := hd; clear hd_ hd)))
   refine AW_lop [] (σ := Unit) (fun _ => True) (fun _ => 0) (fun _ => [(0, .i high), (1, .i low)]) (fun _ => []) () (GStep.refl _ _) (by simp only [keep_nil]; rfl) trivial (by simp only [FrL_nil, FrL_cons, Fr.get, ↓reduceIte, Nat.reduceEqDiff, and_self]) (by simp only [ObjL_nil]) ?_
   (rintro s2 G2 ht hG2 hn2; try simp only [nx] at hn2)
   have hxG2 : AHeap.Ext H G2 := hxG.trans hG2.ext
   by_cases hf : In64 (high * 4294967296 + low)
   ·have hv : sumV (high * 4294967296 + low) = .tup [.i (high * 4294967296 + low), .b true] := by unfold sumV; rw [fitB_t hf]; rfl
    obtain ⟨f1, f2⟩ := hf
    have d3 : decide (high < -2147483648) = false := by simp; omega
    have d4 : decide (high > 2147483647) = false := by simp; omega
    have hw3 : IntKind.i64.wrap (high * 4294967296) = high * 4294967296 := wrap_of (by omega) (by omega)
    have hw4 : IntKind.i64.wrap (high * 4294967296 + low) = high * 4294967296 + low := wrap_of (by omega) (by omega)
    rw [hv] at hQr hQn
    ((have hd := trivial; repeat' (first | ((first | apply GdK_st | apply GdK_sf | apply CondK_s) <;> intro hd <;> (try simp only [hd])) | simp (disch := first | assumption | omega | (simp only [nx] <;> omega) | fail) only [hd, hQr, hQn, c117_0, ↓YA, YB, YC, YE, YF, YZ, ↓reduceIte, Nat.reduceEqDiff, Nat.reduceAdd, Nat.reduceMul, Nat.reduceLeDiff, Int.reduceToNat, Int.reduceLE, Int.reduceLT, Int.reduceGT, Int.reduceGE, Int.reduceAdd, Int.reduceSub, Int.reduceNeg, Int.reduceBEq, Int.reduceBNe, d2, d3, d4, hw3, hw4])) <;> (try (have hd_ : True := hd; clear hd_ hd)))
    exact fin_pure hxG2 rfl
   ·have hv : sumV (high * 4294967296 + low) = .tup [.i 0, .b false] := by unfold sumV; rw [fitB_f hf]; rfl
    rw [hv] at hQr hQn
    by_cases hlo : high < -2147483648
    ·have d3 : decide (high < -2147483648) = true := by simp; omega
     ((have hd := trivial; repeat' (first | ((first | apply GdK_st | apply GdK_sf | apply CondK_s) <;> intro hd <;> (try simp only [hd])) | simp (disch := first | assumption | omega | (simp only [nx] <;> omega) | fail) only [hd, hQr, hQn, c117_0, ↓YA, YB, YC, YE, YF, YZ, ↓reduceIte, Nat.reduceEqDiff, Nat.reduceAdd, Nat.reduceMul, Nat.reduceLeDiff, Int.reduceToNat, Int.reduceLE, Int.reduceLT, Int.reduceGT, Int.reduceGE, Int.reduceAdd, Int.reduceSub, Int.reduceNeg, Int.reduceBEq, Int.reduceBNe, d2, d3])) <;> (try (have hd_ : True := hd; clear hd_ hd)))
     exact fin_pure hxG2 rfl
    ·have d3 : decide (high < -2147483648) = false := by simp; omega
     have d4 : decide (high > 2147483647) = true := by
      simp
      unfold In64 at hf
      omega
     ((have hd := trivial; repeat' (first | ((first | apply GdK_st | apply GdK_sf | apply CondK_s) <;> intro hd <;> (try simp only [hd])) | simp (disch := first | assumption | omega | (simp only [nx] <;> omega) | fail) only [hd, hQr, hQn, c117_0, ↓YA, YB, YC, YE, YF, YZ, ↓reduceIte, Nat.reduceEqDiff, Nat.reduceAdd, Nat.reduceMul, Nat.reduceLeDiff, Int.reduceToNat, Int.reduceLE, Int.reduceLT, Int.reduceGT, Int.reduceGE, Int.reduceAdd, Int.reduceSub, Int.reduceNeg, Int.reduceBEq, Int.reduceBNe, d2, d3, d4])) <;> (try (have hd_ : True := hd; clear hd_ hd)))
     exact fin_pure hxG2 rfl
theorem radd3_sound (a b : Int) (H : AHeap) (ha : In64 a) (hb : In64 b) : Sound Try.prog 115 [.i a, .i b] H (Pure H (sumV (a + b))) := by
 refine fn_soundQ hE cf115 (Nat.le_of_ble_eq_true rfl) fun Q hQr hQn => ?_
 ((have hd := trivial; repeat' (first | ((first | apply GdK_st | apply GdK_sf | apply CondK_s) <;> intro hd <;> (try simp only [hd])) | simp (disch := first | assumption | omega | (simp only [nx] <;> omega) | fail) only [hd, hQr, hQn, c115_0, ↓YA, YB, YC, YE, YF, YZ, ↓reduceIte, Nat.reduceEqDiff, Nat.reduceAdd, Nat.reduceMul, Nat.reduceLeDiff, Int.reduceToNat, Int.reduceLE, Int.reduceLT, Int.reduceGT, Int.reduceGE, Int.reduceAdd, Int.reduceSub, Int.reduceNeg, Int.reduceBEq, Int.reduceBNe])) <;> (try (have hd_ : True := hd; clear hd_ hd)))
 (refine CallK.use (big_sound a _ ha) ?_; rintro _ _ ⟨rfl, k1, rfl⟩)
 ((have hd := trivial; repeat' (first | ((first | apply GdK_st | apply GdK_sf | apply CondK_s) <;> intro hd <;> (try simp only [hd])) | simp (disch := first | assumption | omega | (simp only [nx] <;> omega) | fail) only [hd, hQr, hQn, c115_0, ↓YA, YB, YC, YE, YF, YZ, ↓reduceIte, Nat.reduceEqDiff, Nat.reduceAdd, Nat.reduceMul, Nat.reduceLeDiff, Int.reduceToNat, Int.reduceLE, Int.reduceLT, Int.reduceGT, Int.reduceGE, Int.reduceAdd, Int.reduceSub, Int.reduceNeg, Int.reduceBEq, Int.reduceBNe])) <;> (try (have hd_ : True := hd; clear hd_ hd)))
 (refine CallK.use (big_sound b _ hb) ?_; rintro _ _ ⟨rfl, k2, rfl⟩)
 obtain ⟨a1, a2⟩ := ha
 obtain ⟨b1, b2⟩ := hb
 ((have hd := trivial; repeat' (first | ((first | apply GdK_st | apply GdK_sf | apply CondK_s) <;> intro hd <;> (try simp only [hd])) | simp (disch := first | assumption | omega | (simp only [nx] <;> omega) | fail) only [hd, hQr, hQn, c115_0, ↓YA, YB, YC, YE, YF, YZ, ↓reduceIte, Nat.reduceEqDiff, Nat.reduceAdd, Nat.reduceMul, Nat.reduceLeDiff, Int.reduceToNat, Int.reduceLE, Int.reduceLT, Int.reduceGT, Int.reduceGE, Int.reduceAdd, Int.reduceSub, Int.reduceNeg, Int.reduceBEq, Int.reduceBNe])) <;> (try (have hd_ : True := hd; clear hd_ hd)))
 (refine CallK.use (small_sound0 (a / 4294967296 + b / 4294967296) (a % 4294967296 + b % 4294967296) _ (by omega) (by omega)) ?_; rintro _ _ ⟨rfl, k3, rfl⟩)
 have e : (a / 4294967296 + b / 4294967296) * 4294967296 + (a % 4294967296 + b % 4294967296) = a + b := by omega
 rw [e]
 unfold sumV
 ((have hd := trivial; repeat' (first | ((first | apply GdK_st | apply GdK_sf | apply CondK_s) <;> intro hd <;> (try simp only [hd])) | simp (disch := first | assumption | omega | (simp only [nx] <;> omega) | fail) only [hd, hQr, hQn, c115_0, ↓YA, YB, YC, YE, YF, YZ, ↓reduceIte, Nat.reduceEqDiff, Nat.reduceAdd, Nat.reduceMul, Nat.reduceLeDiff, Int.reduceToNat, Int.reduceLE, Int.reduceLT, Int.reduceGT, Int.reduceGE, Int.reduceAdd, Int.reduceSub, Int.reduceNeg, Int.reduceBEq, Int.reduceBNe])) <;> (try (have hd_ : True := hd; clear hd_ hd)))
 refine fin_pA (by rfl)
structure AgIn (a : Ag) : Prop where
 n : In64 a.n
 s0 : In64 a.s0
 s1 : In64 a.s1
 s2 : In64 a.s2
theorem padd_sound (s l h s' l' h' : Int) (H : AHeap) (hs : In64 s) (hs' : In64 s') : Sound Try.prog 114 [.agg [.i s, .i l, .i h], .agg [.i s', .i l', .i h']] H (Pure H (.tup [.agg [.i (if fitB (s + s') then s + s' else 0), .i (if l' < l then l' else l), .i (if h' > h then h' else h)], .b (fitB (s + s'))])) := by
 refine fn_soundQ hE cf114 (Nat.le_of_ble_eq_true rfl) fun Q hQr hQn => ?_
 ((have hd := trivial; repeat' (first | ((first | apply GdK_st | apply GdK_sf | apply CondK_s) <;> intro hd <;> (try simp only [hd])) | simp (disch := first | assumption | omega | (simp only [nx] <;> omega) | fail) only [hd, hQr, hQn, c114_0, ↓YA, YB, YC, YE, YF, YZ, ↓reduceIte, Nat.reduceEqDiff, Nat.reduceAdd, Nat.reduceMul, Nat.reduceLeDiff, Int.reduceToNat, Int.reduceLE, Int.reduceLT, Int.reduceGT, Int.reduceGE, Int.reduceAdd, Int.reduceSub, Int.reduceNeg, Int.reduceBEq, Int.reduceBNe])) <;> (try (have hd_ : True := hd; clear hd_ hd)))
 (refine CallK.use (eadd_sound s s' _ hs hs') ?_; rintro _ _ ⟨rfl, k1, rfl⟩)
 unfold sumV
 ((have hd := trivial; repeat' (first | ((first | apply GdK_st | apply GdK_sf | apply CondK_s) <;> intro hd <;> (try simp only [hd])) | simp (disch := first | assumption | omega | (simp only [nx] <;> omega) | fail) only [hd, hQr, hQn, c114_0, ↓YA, YB, YC, YE, YF, YZ, ↓reduceIte, Nat.reduceEqDiff, Nat.reduceAdd, Nat.reduceMul, Nat.reduceLeDiff, Int.reduceToNat, Int.reduceLE, Int.reduceLT, Int.reduceGT, Int.reduceGE, Int.reduceAdd, Int.reduceSub, Int.reduceNeg, Int.reduceBEq, Int.reduceBNe])) <;> (try (have hd_ : True := hd; clear hd_ hd)))
 refine fin_pA (by rfl)
def joinK (a b : Ag) (k : Nat) : Ag := ⟨a.n + b.n, if 0 < k then a.s0 + b.s0 else 0, if 0 < k then (if b.l0 < a.l0 then b.l0 else a.l0) else 0, if 0 < k then (if b.h0 > a.h0 then b.h0 else a.h0) else 0,
 if 1 < k then a.s1 + b.s1 else 0, if 1 < k then (if b.l1 < a.l1 then b.l1 else a.l1) else 0, if 1 < k then (if b.h1 > a.h1 then b.h1 else a.h1) else 0,
 if 2 < k then a.s2 + b.s2 else 0, if 2 < k then (if b.l2 < a.l2 then b.l2 else a.l2) else 0, if 2 < k then (if b.h2 > a.h2 then b.h2 else a.h2) else 0⟩
def joinA (a b : Ag) : Option Ag := if a.n = 0 then some b else if b.n = 0 then some a else if fitB (a.n + b.n) = false then none else if fitB (a.s0 + b.s0) = false then none else if fitB (a.s1 + b.s1) = false then none else if fitB (a.s2 + b.s2) = false then none else some (joinK a b 3)
def joinV (o : Option Ag) : AV := .tup [.agg (eAg (o.getD ag0)), .b o.isSome]
set_option maxHeartbeats 4000000 in
theorem ajoin_sound (a b : Ag) (H : AHeap) (ha : AgIn a) (hb : AgIn b) : Sound Try.prog 108 [.agg (eAg a), .agg (eAg b)] H (Pure H (joinV (joinA a b))) := by
 refine fn_soundQ hE cf108 (Nat.le_of_ble_eq_true rfl) fun Q hQr hQn => ?_
 by_cases a0 : a.n = 0
 ·have hv : joinA a b = some b := by unfold joinA; rw [if_pos a0]
  rw [hv] at hQr hQn
  ((have hd := trivial; repeat' (first | ((first | apply GdK_st | apply GdK_sf | apply CondK_s) <;> intro hd <;> (try simp only [hd])) | simp (disch := first | assumption | omega | (simp only [nx] <;> omega) | fail) only [hd, hQr, hQn, c108_0, ↓YA, YB, YC, YE, YF, YZ, ↓reduceIte, Nat.reduceEqDiff, Nat.reduceAdd, Nat.reduceMul, Nat.reduceLeDiff, Int.reduceToNat, Int.reduceLE, Int.reduceLT, Int.reduceGT, Int.reduceGE, Int.reduceAdd, Int.reduceSub, Int.reduceNeg, Int.reduceBEq, Int.reduceBNe, a0])) <;> (try (have hd_ : True := hd; clear hd_ hd)))
  refine fin_pA (by rfl)
 by_cases b0 : b.n = 0
 ·have hv : joinA a b = some a := by unfold joinA; rw [if_neg a0, if_pos b0]
  have d1 : (a.n == 0) = false := by simpa using a0
  rw [hv] at hQr hQn
  ((have hd := trivial; repeat' (first | ((first | apply GdK_st | apply GdK_sf | apply CondK_s) <;> intro hd <;> (try simp only [hd])) | simp (disch := first | assumption | omega | (simp only [nx] <;> omega) | fail) only [hd, hQr, hQn, c108_0, ↓YA, YB, YC, YE, YF, YZ, ↓reduceIte, Nat.reduceEqDiff, Nat.reduceAdd, Nat.reduceMul, Nat.reduceLeDiff, Int.reduceToNat, Int.reduceLE, Int.reduceLT, Int.reduceGT, Int.reduceGE, Int.reduceAdd, Int.reduceSub, Int.reduceNeg, Int.reduceBEq, Int.reduceBNe, d1, b0])) <;> (try (have hd_ : True := hd; clear hd_ hd)))
  refine fin_pA (by rfl)
 have hJ : joinA a b = if fitB (a.n + b.n) = false then none else if fitB (a.s0 + b.s0) = false then none else if fitB (a.s1 + b.s1) = false then none else if fitB (a.s2 + b.s2) = false then none else some (joinK a b 3) := by
  unfold joinA; rw [if_neg a0, if_neg b0]
 have d1 : (a.n == 0) = false := by simpa using a0
 have d2 : (b.n == 0) = false := by simpa using b0
 ((have hd := trivial; repeat' (first | ((first | apply GdK_st | apply GdK_sf | apply CondK_s) <;> intro hd <;> (try simp only [hd])) | simp (disch := first | assumption | omega | (simp only [nx] <;> omega) | fail) only [hd, hQr, hQn, c108_0, ↓YA, YB, YC, YE, YF, YZ, ↓reduceIte, Nat.reduceEqDiff, Nat.reduceAdd, Nat.reduceMul, Nat.reduceLeDiff, Int.reduceToNat, Int.reduceLE, Int.reduceLT, Int.reduceGT, Int.reduceGE, Int.reduceAdd, Int.reduceSub, Int.reduceNeg, Int.reduceBEq, Int.reduceBNe, d1, d2])) <;> (try (have hd_ : True := hd; clear hd_ hd)))
 (refine CallK.use (eadd_sound a.n b.n _ ha.n hb.n) ?_; rintro _ _ ⟨rfl, k1, rfl⟩)
 unfold sumV
 have hf := bfe (fitB (a.n + b.n))
 rcases hf with hf | hf
 ·rw [hf] at hJ
  rw [hJ] at hQr hQn
  ((have hd := trivial; repeat' (first | ((first | apply GdK_st | apply GdK_sf | apply CondK_s) <;> intro hd <;> (try simp only [hd])) | simp (disch := first | assumption | omega | (simp only [nx] <;> omega) | fail) only [hd, hQr, hQn, c108_0, ↓YA, YB, YC, YE, YF, YZ, ↓reduceIte, Nat.reduceEqDiff, Nat.reduceAdd, Nat.reduceMul, Nat.reduceLeDiff, Int.reduceToNat, Int.reduceLE, Int.reduceLT, Int.reduceGT, Int.reduceGE, Int.reduceAdd, Int.reduceSub, Int.reduceNeg, Int.reduceBEq, Int.reduceBNe, hf])) <;> (try (have hd_ : True := hd; clear hd_ hd)))
  refine fin_pA (by rfl)
 rw [hf] at hJ
 simp only [Bool.true_eq_false, if_false] at hJ
 ((have hd := trivial; repeat' (first | ((first | apply GdK_st | apply GdK_sf | apply CondK_s) <;> intro hd <;> (try simp only [hd])) | simp (disch := first | assumption | omega | (simp only [nx] <;> omega) | fail) only [hd, hQr, hQn, c108_0, ↓YA, YB, YC, YE, YF, YZ, ↓reduceIte, Nat.reduceEqDiff, Nat.reduceAdd, Nat.reduceMul, Nat.reduceLeDiff, Int.reduceToNat, Int.reduceLE, Int.reduceLT, Int.reduceGT, Int.reduceGE, Int.reduceAdd, Int.reduceSub, Int.reduceNeg, Int.reduceBEq, Int.reduceBNe, hf, if_true])) <;> (try (have hd_ : True := hd; clear hd_ hd)))
 refine AW_let fun G0 hG0 => ?_
 have g1 : G0.get H.next = some (.cells (eAg a) 41) := by
  rw [hG0, AHeap.get_set_ne (by omega)]; simp only [AHeap.get_bump]
  rw [AHeap.get_alloc_ne (by simp only [nx]; omega), AHeap.get_alloc_ne (by simp only [nx]; omega), AHeap.get_alloc_ne (by simp only [nx]; omega)]
  exact AHeap.get_alloc_self
 have g2 : G0.get (H.next + 1) = some (.cells (eAg b) 41) := by
  rw [hG0, AHeap.get_set_ne (by omega)]; simp only [AHeap.get_bump]
  rw [AHeap.get_alloc_ne (by simp only [nx]; omega), AHeap.get_alloc_ne (by simp only [nx]; omega)]
  exact AHeap.get_alloc_at rfl
 have g3 : G0.get (H.next + 2) = some (.cells (eAg ag0) 41) := by
  rw [hG0, AHeap.get_set_ne (by omega)]; simp only [AHeap.get_bump]
  rw [AHeap.get_alloc_ne (by simp only [nx]; omega)]
  exact AHeap.get_alloc_at rfl
 have g4 : G0.get (H.next + 3) = some (.cells (eAg (joinK a b 0)) 41) := by
  rw [hG0]
  exact AHeap.get_set_self (by simp only [nx]; omega)
 have hx0 : AHeap.Ext H G0 := by rw [hG0]; exact AXT
 have hn0 := hx0.next
 have l4 := AHeap.lt g4
 clear hG0
 generalize hJ' : joinA a b = J at *
 refine AW_for (N := 3) [2, 3, 4, 6] (σ := Unit) (fun (k : Nat) s => J = (match k with
  | 0 => if fitB (a.s0 + b.s0) = false then none else if fitB (a.s1 + b.s1) = false then none else if fitB (a.s2 + b.s2) = false then none else some (joinK a b 3)
  | 1 => if fitB (a.s1 + b.s1) = false then none else if fitB (a.s2 + b.s2) = false then none else some (joinK a b 3)
  | 2 => if fitB (a.s2 + b.s2) = false then none else some (joinK a b 3)
  | _ => some (joinK a b 3))) (fun k s => []) (fun k s => [(H.next + 3, .cells (eAg (joinK a b k)) 41)]) () (GStep.refl _ _) (by simp only [keep_nil, keep_cons, Fr.put, Fr.get, ↓reduceIte, Nat.reduceEqDiff]; rfl) (by intro k s; rfl) (by intro k s; rfl) (by rfl) (by unfold maxLen; omega) ?_ (by simp only [FrL_nil]) ?_ ?_ ?_
 ·exact hJ
 ·rw [ObjL_cons]; exact ⟨g4, by simp [ObjL]⟩
 ·(rintro k s G hk ht hG hn1; try simp only [nx] at hn1)
  have e1 := (hG.g H.next (by omega) (by simp)).trans g1
  have e2 := (hG.g (H.next + 1) (by omega) (by simp)).trans g2
  have e3 := (hG.g (H.next + 2) (by omega) (by simp)).trans g3
  have e4 : G.get (H.next + 3) = some (.cells (eAg (joinK a b k)) 41) := hG.o (_, _) (List.mem_singleton.2 rfl)
  have l5 := AHeap.lt e4
  have c0 : ((0 : Nat) : Int) = 0 := rfl
  have c1 : ((1 : Nat) : Int) = 1 := rfl
  have c2 : ((2 : Nat) : Int) = 2 := rfl
  have hxG : AHeap.Ext H G := hG.extO hx0 (by simp)
  obtain rfl | rfl | rfl : k = 0 ∨ k = 1 ∨ k = 2 := by omega
  ·((have hd := trivial; repeat' (first | ((first | apply GdK_st | apply GdK_sf | apply CondK_s) <;> intro hd <;> (try simp only [hd])) | simp (disch := first | assumption | omega | (simp only [nx] <;> omega) | fail) only [hd, hQr, hQn, c108_0, ↓YA, YB, YC, YE, YF, YZ, ↓reduceIte, Nat.reduceEqDiff, Nat.reduceAdd, Nat.reduceMul, Nat.reduceLeDiff, Int.reduceToNat, Int.reduceLE, Int.reduceLT, Int.reduceGT, Int.reduceGE, Int.reduceAdd, Int.reduceSub, Int.reduceNeg, Int.reduceBEq, Int.reduceBNe, Int.cast_ofNat_Int, Int.reduceMul, e1, e2, e3, e4, eAg])) <;> (try (have hd_ : True := hd; clear hd_ hd)))
   (refine CallK.use (padd_sound a.s0 a.l0 a.h0 b.s0 b.l0 b.h0 _ ha.s0 hb.s0) ?_; rintro _ _ ⟨rfl, q1, rfl⟩)
   have hf := bfe (fitB (a.s0 + b.s0))
   rcases hf with hf | hf
   ·have hJn : J = none := by rw [ht, hf]; rfl
    ((have hd := trivial; repeat' (first | ((first | apply GdK_st | apply GdK_sf | apply CondK_s) <;> intro hd <;> (try simp only [hd])) | simp (disch := first | assumption | omega | (simp only [nx] <;> omega) | fail) only [hd, hQr, hQn, c108_0, ↓YA, YB, YC, YE, YF, YZ, ↓reduceIte, Nat.reduceEqDiff, Nat.reduceAdd, Nat.reduceMul, Nat.reduceLeDiff, Int.reduceToNat, Int.reduceLE, Int.reduceLT, Int.reduceGT, Int.reduceGE, Int.reduceAdd, Int.reduceSub, Int.reduceNeg, Int.reduceBEq, Int.reduceBNe, hf, Int.cast_ofNat_Int, Int.reduceMul, e1, e2, e3, e4, eAg])) <;> (try (have hd_ : True := hd; clear hd_ hd)))
    exact fin_pure ((hxG.bump.set (by omega)).set (by omega)) (by rw [hJn]; rfl)
   ·((have hd := trivial; repeat' (first | ((first | apply GdK_st | apply GdK_sf | apply CondK_s) <;> intro hd <;> (try simp only [hd])) | simp (disch := first | assumption | omega | (simp only [nx] <;> omega) | fail) only [hd, hQr, hQn, c108_0, ↓YA, YB, YC, YE, YF, YZ, ↓reduceIte, Nat.reduceEqDiff, Nat.reduceAdd, Nat.reduceMul, Nat.reduceLeDiff, Int.reduceToNat, Int.reduceLE, Int.reduceLT, Int.reduceGT, Int.reduceGE, Int.reduceAdd, Int.reduceSub, Int.reduceNeg, Int.reduceBEq, Int.reduceBNe, hf, Int.cast_ofNat_Int, Int.reduceMul, e1, e2, e3, e4, eAg, if_true])) <;> (try (have hd_ : True := hd; clear hd_ hd)))
    exact ⟨(), by rw [ht, hf]; rfl, hG.bump.put⟩
  ·((have hd := trivial; repeat' (first | ((first | apply GdK_st | apply GdK_sf | apply CondK_s) <;> intro hd <;> (try simp only [hd])) | simp (disch := first | assumption | omega | (simp only [nx] <;> omega) | fail) only [hd, hQr, hQn, c108_0, ↓YA, YB, YC, YE, YF, YZ, ↓reduceIte, Nat.reduceEqDiff, Nat.reduceAdd, Nat.reduceMul, Nat.reduceLeDiff, Int.reduceToNat, Int.reduceLE, Int.reduceLT, Int.reduceGT, Int.reduceGE, Int.reduceAdd, Int.reduceSub, Int.reduceNeg, Int.reduceBEq, Int.reduceBNe, Int.cast_ofNat_Int, Int.reduceMul, e1, e2, e3, e4, eAg])) <;> (try (have hd_ : True := hd; clear hd_ hd)))
   (refine CallK.use (padd_sound a.s1 a.l1 a.h1 b.s1 b.l1 b.h1 _ ha.s1 hb.s1) ?_; rintro _ _ ⟨rfl, q1, rfl⟩)
   have hf := bfe (fitB (a.s1 + b.s1))
   rcases hf with hf | hf
   ·have hJn : J = none := by rw [ht, hf]; rfl
    ((have hd := trivial; repeat' (first | ((first | apply GdK_st | apply GdK_sf | apply CondK_s) <;> intro hd <;> (try simp only [hd])) | simp (disch := first | assumption | omega | (simp only [nx] <;> omega) | fail) only [hd, hQr, hQn, c108_0, ↓YA, YB, YC, YE, YF, YZ, ↓reduceIte, Nat.reduceEqDiff, Nat.reduceAdd, Nat.reduceMul, Nat.reduceLeDiff, Int.reduceToNat, Int.reduceLE, Int.reduceLT, Int.reduceGT, Int.reduceGE, Int.reduceAdd, Int.reduceSub, Int.reduceNeg, Int.reduceBEq, Int.reduceBNe, hf, Int.cast_ofNat_Int, Int.reduceMul, e1, e2, e3, e4, eAg])) <;> (try (have hd_ : True := hd; clear hd_ hd)))
    exact fin_pure ((hxG.bump.set (by omega)).set (by omega)) (by rw [hJn]; rfl)
   ·((have hd := trivial; repeat' (first | ((first | apply GdK_st | apply GdK_sf | apply CondK_s) <;> intro hd <;> (try simp only [hd])) | simp (disch := first | assumption | omega | (simp only [nx] <;> omega) | fail) only [hd, hQr, hQn, c108_0, ↓YA, YB, YC, YE, YF, YZ, ↓reduceIte, Nat.reduceEqDiff, Nat.reduceAdd, Nat.reduceMul, Nat.reduceLeDiff, Int.reduceToNat, Int.reduceLE, Int.reduceLT, Int.reduceGT, Int.reduceGE, Int.reduceAdd, Int.reduceSub, Int.reduceNeg, Int.reduceBEq, Int.reduceBNe, hf, Int.cast_ofNat_Int, Int.reduceMul, e1, e2, e3, e4, eAg, if_true])) <;> (try (have hd_ : True := hd; clear hd_ hd)))
    exact ⟨(), by rw [ht, hf]; rfl, hG.bump.put⟩
  ·((have hd := trivial; repeat' (first | ((first | apply GdK_st | apply GdK_sf | apply CondK_s) <;> intro hd <;> (try simp only [hd])) | simp (disch := first | assumption | omega | (simp only [nx] <;> omega) | fail) only [hd, hQr, hQn, c108_0, ↓YA, YB, YC, YE, YF, YZ, ↓reduceIte, Nat.reduceEqDiff, Nat.reduceAdd, Nat.reduceMul, Nat.reduceLeDiff, Int.reduceToNat, Int.reduceLE, Int.reduceLT, Int.reduceGT, Int.reduceGE, Int.reduceAdd, Int.reduceSub, Int.reduceNeg, Int.reduceBEq, Int.reduceBNe, Int.cast_ofNat_Int, Int.reduceMul, e1, e2, e3, e4, eAg])) <;> (try (have hd_ : True := hd; clear hd_ hd)))
   (refine CallK.use (padd_sound a.s2 a.l2 a.h2 b.s2 b.l2 b.h2 _ ha.s2 hb.s2) ?_; rintro _ _ ⟨rfl, q1, rfl⟩)
   have hf := bfe (fitB (a.s2 + b.s2))
   rcases hf with hf | hf
   ·have hJn : J = none := by rw [ht, hf]; rfl
    ((have hd := trivial; repeat' (first | ((first | apply GdK_st | apply GdK_sf | apply CondK_s) <;> intro hd <;> (try simp only [hd])) | simp (disch := first | assumption | omega | (simp only [nx] <;> omega) | fail) only [hd, hQr, hQn, c108_0, ↓YA, YB, YC, YE, YF, YZ, ↓reduceIte, Nat.reduceEqDiff, Nat.reduceAdd, Nat.reduceMul, Nat.reduceLeDiff, Int.reduceToNat, Int.reduceLE, Int.reduceLT, Int.reduceGT, Int.reduceGE, Int.reduceAdd, Int.reduceSub, Int.reduceNeg, Int.reduceBEq, Int.reduceBNe, hf, Int.cast_ofNat_Int, Int.reduceMul, e1, e2, e3, e4, eAg])) <;> (try (have hd_ : True := hd; clear hd_ hd)))
    exact fin_pure ((hxG.bump.set (by omega)).set (by omega)) (by rw [hJn]; rfl)
   ·((have hd := trivial; repeat' (first | ((first | apply GdK_st | apply GdK_sf | apply CondK_s) <;> intro hd <;> (try simp only [hd])) | simp (disch := first | assumption | omega | (simp only [nx] <;> omega) | fail) only [hd, hQr, hQn, c108_0, ↓YA, YB, YC, YE, YF, YZ, ↓reduceIte, Nat.reduceEqDiff, Nat.reduceAdd, Nat.reduceMul, Nat.reduceLeDiff, Int.reduceToNat, Int.reduceLE, Int.reduceLT, Int.reduceGT, Int.reduceGE, Int.reduceAdd, Int.reduceSub, Int.reduceNeg, Int.reduceBEq, Int.reduceBNe, hf, Int.cast_ofNat_Int, Int.reduceMul, e1, e2, e3, e4, eAg, if_true])) <;> (try (have hd_ : True := hd; clear hd_ hd)))
    exact ⟨(), by rw [ht, hf]; rfl, hG.bump.put⟩
 ·(rintro s G ht hG hn1; try simp only [nx] at hn1)
  have e3 := (hG.g (H.next + 2) (by omega) (by simp)).trans g3
  have e4 : G.get (H.next + 3) = some (.cells (eAg (joinK a b 3)) 41) := hG.o (_, _) (List.mem_singleton.2 rfl)
  have l3 := AHeap.lt e3
  have hxG : AHeap.Ext H G := hG.extO hx0 (by simp)
  have hJs : J = some (joinK a b 3) := ht
  ((have hd := trivial; repeat' (first | ((first | apply GdK_st | apply GdK_sf | apply CondK_s) <;> intro hd <;> (try simp only [hd])) | simp (disch := first | assumption | omega | (simp only [nx] <;> omega) | fail) only [hd, hQr, hQn, c108_0, ↓YA, YB, YC, YE, YF, YZ, ↓reduceIte, Nat.reduceEqDiff, Nat.reduceAdd, Nat.reduceMul, Nat.reduceLeDiff, Int.reduceToNat, Int.reduceLE, Int.reduceLT, Int.reduceGT, Int.reduceGE, Int.reduceAdd, Int.reduceSub, Int.reduceNeg, Int.reduceBEq, Int.reduceBNe, e3, e4])) <;> (try (have hd_ : True := hd; clear hd_ hd)))
  exact fin_pure (hxG.set (by omega)) (by rw [hJs]; rfl)
set_option maxHeartbeats 4000000 in
theorem rjoin_sound (a b : Ag) (H : AHeap) (ha : AgIn a) (hb : AgIn b) : Sound Try.prog 109 [.agg (eAg a), .agg (eAg b)] H (Pure H (joinV (joinA a b))) := by
 refine fn_soundQ hE cf109 (Nat.le_of_ble_eq_true rfl) fun Q hQr hQn => ?_
 by_cases a0 : a.n = 0
 ·have hv : joinA a b = some b := by unfold joinA; rw [if_pos a0]
  rw [hv] at hQr hQn
  ((have hd := trivial; repeat' (first | ((first | apply GdK_st | apply GdK_sf | apply CondK_s) <;> intro hd <;> (try simp only [hd])) | simp (disch := first | assumption | omega | (simp only [nx] <;> omega) | fail) only [hd, hQr, hQn, c109_0, ↓YA, YB, YC, YE, YF, YZ, ↓reduceIte, Nat.reduceEqDiff, Nat.reduceAdd, Nat.reduceMul, Nat.reduceLeDiff, Int.reduceToNat, Int.reduceLE, Int.reduceLT, Int.reduceGT, Int.reduceGE, Int.reduceAdd, Int.reduceSub, Int.reduceNeg, Int.reduceBEq, Int.reduceBNe, a0])) <;> (try (have hd_ : True := hd; clear hd_ hd)))
  refine fin_pA (by rfl)
 by_cases b0 : b.n = 0
 ·have hv : joinA a b = some a := by unfold joinA; rw [if_neg a0, if_pos b0]
  have d1 : (a.n == 0) = false := by simpa using a0
  rw [hv] at hQr hQn
  ((have hd := trivial; repeat' (first | ((first | apply GdK_st | apply GdK_sf | apply CondK_s) <;> intro hd <;> (try simp only [hd])) | simp (disch := first | assumption | omega | (simp only [nx] <;> omega) | fail) only [hd, hQr, hQn, c109_0, ↓YA, YB, YC, YE, YF, YZ, ↓reduceIte, Nat.reduceEqDiff, Nat.reduceAdd, Nat.reduceMul, Nat.reduceLeDiff, Int.reduceToNat, Int.reduceLE, Int.reduceLT, Int.reduceGT, Int.reduceGE, Int.reduceAdd, Int.reduceSub, Int.reduceNeg, Int.reduceBEq, Int.reduceBNe, d1, b0])) <;> (try (have hd_ : True := hd; clear hd_ hd)))
  refine fin_pA (by rfl)
 have hJ : joinA a b = if fitB (a.n + b.n) = false then none else if fitB (a.s0 + b.s0) = false then none else if fitB (a.s1 + b.s1) = false then none else if fitB (a.s2 + b.s2) = false then none else some (joinK a b 3) := by
  unfold joinA; rw [if_neg a0, if_neg b0]
 have d1 : (a.n == 0) = false := by simpa using a0
 have d2 : (b.n == 0) = false := by simpa using b0
 ((have hd := trivial; repeat' (first | ((first | apply GdK_st | apply GdK_sf | apply CondK_s) <;> intro hd <;> (try simp only [hd])) | simp (disch := first | assumption | omega | (simp only [nx] <;> omega) | fail) only [hd, hQr, hQn, c109_0, ↓YA, YB, YC, YE, YF, YZ, ↓reduceIte, Nat.reduceEqDiff, Nat.reduceAdd, Nat.reduceMul, Nat.reduceLeDiff, Int.reduceToNat, Int.reduceLE, Int.reduceLT, Int.reduceGT, Int.reduceGE, Int.reduceAdd, Int.reduceSub, Int.reduceNeg, Int.reduceBEq, Int.reduceBNe, d1, d2])) <;> (try (have hd_ : True := hd; clear hd_ hd)))
 (refine CallK.use (radd3_sound a.n b.n _ ha.n hb.n) ?_; rintro _ _ ⟨rfl, k1, rfl⟩)
 unfold sumV
 have hf := bfe (fitB (a.n + b.n))
 rcases hf with hf | hf
 ·rw [hf] at hJ
  rw [hJ] at hQr hQn
  ((have hd := trivial; repeat' (first | ((first | apply GdK_st | apply GdK_sf | apply CondK_s) <;> intro hd <;> (try simp only [hd])) | simp (disch := first | assumption | omega | (simp only [nx] <;> omega) | fail) only [hd, hQr, hQn, c109_0, ↓YA, YB, YC, YE, YF, YZ, ↓reduceIte, Nat.reduceEqDiff, Nat.reduceAdd, Nat.reduceMul, Nat.reduceLeDiff, Int.reduceToNat, Int.reduceLE, Int.reduceLT, Int.reduceGT, Int.reduceGE, Int.reduceAdd, Int.reduceSub, Int.reduceNeg, Int.reduceBEq, Int.reduceBNe, hf])) <;> (try (have hd_ : True := hd; clear hd_ hd)))
  refine fin_pA (by rfl)
 rw [hf] at hJ
 simp only [Bool.true_eq_false, if_false] at hJ
 ((have hd := trivial; repeat' (first | ((first | apply GdK_st | apply GdK_sf | apply CondK_s) <;> intro hd <;> (try simp only [hd])) | simp (disch := first | assumption | omega | (simp only [nx] <;> omega) | fail) only [hd, hQr, hQn, c109_0, ↓YA, YB, YC, YE, YF, YZ, ↓reduceIte, Nat.reduceEqDiff, Nat.reduceAdd, Nat.reduceMul, Nat.reduceLeDiff, Int.reduceToNat, Int.reduceLE, Int.reduceLT, Int.reduceGT, Int.reduceGE, Int.reduceAdd, Int.reduceSub, Int.reduceNeg, Int.reduceBEq, Int.reduceBNe, hf, if_true])) <;> (try (have hd_ : True := hd; clear hd_ hd)))
 refine AW_let fun G0 hG0 => ?_
 have g1 : G0.get H.next = some (.cells (eAg a) 41) := by
  rw [hG0, AHeap.get_alloc_ne (by simp only [nx]; omega)]; simp only [AHeap.get_bump]
  rw [AHeap.get_alloc_ne (by simp only [nx]; omega), AHeap.get_alloc_ne (by simp only [nx]; omega)]
  exact AHeap.get_alloc_self
 have g2 : G0.get (H.next + 1) = some (.cells (eAg b) 41) := by
  rw [hG0, AHeap.get_alloc_ne (by simp only [nx]; omega)]; simp only [AHeap.get_bump]
  rw [AHeap.get_alloc_ne (by simp only [nx]; omega)]
  exact AHeap.get_alloc_at rfl
 have g3 : G0.get (H.next + 2) = some (.cells (eAg ag0) 41) := by
  rw [hG0, AHeap.get_alloc_ne (by simp only [nx]; omega)]; simp only [AHeap.get_bump]
  exact AHeap.get_alloc_at rfl
 have g4 : G0.get (H.next + 3 + k1) = some (.cells (eAg (joinK a b 0)) 41) := by
  rw [hG0]
  exact AHeap.get_alloc_at rfl
 have hx0 : AHeap.Ext H G0 := by rw [hG0]; exact AXT
 have hn0 := hx0.next
 have l4 := AHeap.lt g4
 clear hG0
 generalize hJ' : joinA a b = J at *
 refine AW_lop [2, 3, 4, 8] (σ := Nat) (fun s => s ≤ 3 ∧ J = (match s with
  | 0 => if fitB (a.s0 + b.s0) = false then none else if fitB (a.s1 + b.s1) = false then none else if fitB (a.s2 + b.s2) = false then none else some (joinK a b 3)
  | 1 => if fitB (a.s1 + b.s1) = false then none else if fitB (a.s2 + b.s2) = false then none else some (joinK a b 3)
  | 2 => if fitB (a.s2 + b.s2) = false then none else some (joinK a b 3)
  | _ => some (joinK a b 3))) (fun s => 3 - s) (fun s => [(9, .i (s : Int))]) (fun s => [(H.next + 3 + k1, .cells (eAg (joinK a b s)) 41)]) 0 (GStep.refl _ _) (by simp only [keep_nil, keep_cons, Fr.put, Fr.get, ↓reduceIte, Nat.reduceEqDiff]; rfl) ?_ (by simp only [FrL_nil, FrL_cons, Fr.put, Fr.get, ↓reduceIte, Nat.reduceEqDiff, and_self] <;> simp) ?_ ?_
 ·exact ⟨by omega, hJ⟩
 ·rw [ObjL_cons]; exact ⟨g4, by simp [ObjL]⟩
 ·(rintro s G ⟨hk, ht⟩ hG hn1; try simp only [nx] at hn1)
  have e1 := (hG.g H.next (by omega) (by simp; omega)).trans g1
  have e2 := (hG.g (H.next + 1) (by omega) (by simp; omega)).trans g2
  have e3 := (hG.g (H.next + 2) (by omega) (by simp; omega)).trans g3
  have e4 : G.get (H.next + 3 + k1) = some (.cells (eAg (joinK a b s)) 41) := hG.o (_, _) (List.mem_singleton.2 rfl)
  have l5 := AHeap.lt e4
  have hxG : AHeap.Ext H G := hG.extO hx0 (by simp; omega)
  obtain rfl | rfl | rfl | rfl : s = 0 ∨ s = 1 ∨ s = 2 ∨ s = 3 := by omega
  ·((have hd := trivial; repeat' (first | ((first | apply GdK_st | apply GdK_sf | apply CondK_s) <;> intro hd <;> (try simp only [hd])) | simp (disch := first | assumption | omega | (simp only [nx] <;> omega) | fail) only [hd, hQr, hQn, c109_0, ↓YA, YB, YC, YE, YF, YZ, ↓reduceIte, Nat.reduceEqDiff, Nat.reduceAdd, Nat.reduceMul, Nat.reduceLeDiff, Int.reduceToNat, Int.reduceLE, Int.reduceLT, Int.reduceGT, Int.reduceGE, Int.reduceAdd, Int.reduceSub, Int.reduceNeg, Int.reduceBEq, Int.reduceBNe, Int.cast_ofNat_Int, Int.reduceMul, e1, e2, e3, e4, eAg])) <;> (try (have hd_ : True := hd; clear hd_ hd)))
   (refine CallK.use (radd3_sound a.s0 b.s0 _ ha.s0 hb.s0) ?_; rintro _ _ ⟨rfl, q1, rfl⟩)
   unfold sumV
   have hf := bfe (fitB (a.s0 + b.s0))
   rcases hf with hf | hf
   ·have hJn : J = none := by rw [ht, hf]; rfl
    ((have hd := trivial; repeat' (first | ((first | apply GdK_st | apply GdK_sf | apply CondK_s) <;> intro hd <;> (try simp only [hd])) | simp (disch := first | assumption | omega | (simp only [nx] <;> omega) | fail) only [hd, hQr, hQn, c109_0, ↓YA, YB, YC, YE, YF, YZ, ↓reduceIte, Nat.reduceEqDiff, Nat.reduceAdd, Nat.reduceMul, Nat.reduceLeDiff, Int.reduceToNat, Int.reduceLE, Int.reduceLT, Int.reduceGT, Int.reduceGE, Int.reduceAdd, Int.reduceSub, Int.reduceNeg, Int.reduceBEq, Int.reduceBNe, hf, Int.cast_ofNat_Int, Int.reduceMul, e1, e2, e3, e4, eAg])) <;> (try (have hd_ : True := hd; clear hd_ hd)))
    exact fin_pure (hxG.bump.set (by omega)) (by rw [hJn]; rfl)
   ·((have hd := trivial; repeat' (first | ((first | apply GdK_st | apply GdK_sf | apply CondK_s) <;> intro hd <;> (try simp only [hd])) | simp (disch := first | assumption | omega | (simp only [nx] <;> omega) | fail) only [hd, hQr, hQn, c109_0, ↓YA, YB, YC, YE, YF, YZ, ↓reduceIte, Nat.reduceEqDiff, Nat.reduceAdd, Nat.reduceMul, Nat.reduceLeDiff, Int.reduceToNat, Int.reduceLE, Int.reduceLT, Int.reduceGT, Int.reduceGE, Int.reduceAdd, Int.reduceSub, Int.reduceNeg, Int.reduceBEq, Int.reduceBNe, hf, Int.cast_ofNat_Int, Int.reduceMul, e1, e2, e3, e4, eAg, if_true])) <;> (try (have hd_ : True := hd; clear hd_ hd)))
    exact ⟨1, ⟨by omega, by rw [ht, hf]; rfl⟩, by omega, rfl, hG.bump.put⟩
  ·((have hd := trivial; repeat' (first | ((first | apply GdK_st | apply GdK_sf | apply CondK_s) <;> intro hd <;> (try simp only [hd])) | simp (disch := first | assumption | omega | (simp only [nx] <;> omega) | fail) only [hd, hQr, hQn, c109_0, ↓YA, YB, YC, YE, YF, YZ, ↓reduceIte, Nat.reduceEqDiff, Nat.reduceAdd, Nat.reduceMul, Nat.reduceLeDiff, Int.reduceToNat, Int.reduceLE, Int.reduceLT, Int.reduceGT, Int.reduceGE, Int.reduceAdd, Int.reduceSub, Int.reduceNeg, Int.reduceBEq, Int.reduceBNe, Int.cast_ofNat_Int, Int.reduceMul, e1, e2, e3, e4, eAg])) <;> (try (have hd_ : True := hd; clear hd_ hd)))
   (refine CallK.use (radd3_sound a.s1 b.s1 _ ha.s1 hb.s1) ?_; rintro _ _ ⟨rfl, q1, rfl⟩)
   unfold sumV
   have hf := bfe (fitB (a.s1 + b.s1))
   rcases hf with hf | hf
   ·have hJn : J = none := by rw [ht, hf]; rfl
    ((have hd := trivial; repeat' (first | ((first | apply GdK_st | apply GdK_sf | apply CondK_s) <;> intro hd <;> (try simp only [hd])) | simp (disch := first | assumption | omega | (simp only [nx] <;> omega) | fail) only [hd, hQr, hQn, c109_0, ↓YA, YB, YC, YE, YF, YZ, ↓reduceIte, Nat.reduceEqDiff, Nat.reduceAdd, Nat.reduceMul, Nat.reduceLeDiff, Int.reduceToNat, Int.reduceLE, Int.reduceLT, Int.reduceGT, Int.reduceGE, Int.reduceAdd, Int.reduceSub, Int.reduceNeg, Int.reduceBEq, Int.reduceBNe, hf, Int.cast_ofNat_Int, Int.reduceMul, e1, e2, e3, e4, eAg])) <;> (try (have hd_ : True := hd; clear hd_ hd)))
    exact fin_pure (hxG.bump.set (by omega)) (by rw [hJn]; rfl)
   ·((have hd := trivial; repeat' (first | ((first | apply GdK_st | apply GdK_sf | apply CondK_s) <;> intro hd <;> (try simp only [hd])) | simp (disch := first | assumption | omega | (simp only [nx] <;> omega) | fail) only [hd, hQr, hQn, c109_0, ↓YA, YB, YC, YE, YF, YZ, ↓reduceIte, Nat.reduceEqDiff, Nat.reduceAdd, Nat.reduceMul, Nat.reduceLeDiff, Int.reduceToNat, Int.reduceLE, Int.reduceLT, Int.reduceGT, Int.reduceGE, Int.reduceAdd, Int.reduceSub, Int.reduceNeg, Int.reduceBEq, Int.reduceBNe, hf, Int.cast_ofNat_Int, Int.reduceMul, e1, e2, e3, e4, eAg, if_true])) <;> (try (have hd_ : True := hd; clear hd_ hd)))
    exact ⟨2, ⟨by omega, by rw [ht, hf]; rfl⟩, by omega, rfl, hG.bump.put⟩
  ·((have hd := trivial; repeat' (first | ((first | apply GdK_st | apply GdK_sf | apply CondK_s) <;> intro hd <;> (try simp only [hd])) | simp (disch := first | assumption | omega | (simp only [nx] <;> omega) | fail) only [hd, hQr, hQn, c109_0, ↓YA, YB, YC, YE, YF, YZ, ↓reduceIte, Nat.reduceEqDiff, Nat.reduceAdd, Nat.reduceMul, Nat.reduceLeDiff, Int.reduceToNat, Int.reduceLE, Int.reduceLT, Int.reduceGT, Int.reduceGE, Int.reduceAdd, Int.reduceSub, Int.reduceNeg, Int.reduceBEq, Int.reduceBNe, Int.cast_ofNat_Int, Int.reduceMul, e1, e2, e3, e4, eAg])) <;> (try (have hd_ : True := hd; clear hd_ hd)))
   (refine CallK.use (radd3_sound a.s2 b.s2 _ ha.s2 hb.s2) ?_; rintro _ _ ⟨rfl, q1, rfl⟩)
   unfold sumV
   have hf := bfe (fitB (a.s2 + b.s2))
   rcases hf with hf | hf
   ·have hJn : J = none := by rw [ht, hf]; rfl
    ((have hd := trivial; repeat' (first | ((first | apply GdK_st | apply GdK_sf | apply CondK_s) <;> intro hd <;> (try simp only [hd])) | simp (disch := first | assumption | omega | (simp only [nx] <;> omega) | fail) only [hd, hQr, hQn, c109_0, ↓YA, YB, YC, YE, YF, YZ, ↓reduceIte, Nat.reduceEqDiff, Nat.reduceAdd, Nat.reduceMul, Nat.reduceLeDiff, Int.reduceToNat, Int.reduceLE, Int.reduceLT, Int.reduceGT, Int.reduceGE, Int.reduceAdd, Int.reduceSub, Int.reduceNeg, Int.reduceBEq, Int.reduceBNe, hf, Int.cast_ofNat_Int, Int.reduceMul, e1, e2, e3, e4, eAg])) <;> (try (have hd_ : True := hd; clear hd_ hd)))
    exact fin_pure (hxG.bump.set (by omega)) (by rw [hJn]; rfl)
   ·((have hd := trivial; repeat' (first | ((first | apply GdK_st | apply GdK_sf | apply CondK_s) <;> intro hd <;> (try simp only [hd])) | simp (disch := first | assumption | omega | (simp only [nx] <;> omega) | fail) only [hd, hQr, hQn, c109_0, ↓YA, YB, YC, YE, YF, YZ, ↓reduceIte, Nat.reduceEqDiff, Nat.reduceAdd, Nat.reduceMul, Nat.reduceLeDiff, Int.reduceToNat, Int.reduceLE, Int.reduceLT, Int.reduceGT, Int.reduceGE, Int.reduceAdd, Int.reduceSub, Int.reduceNeg, Int.reduceBEq, Int.reduceBNe, hf, Int.cast_ofNat_Int, Int.reduceMul, e1, e2, e3, e4, eAg, if_true])) <;> (try (have hd_ : True := hd; clear hd_ hd)))
    exact ⟨3, ⟨by omega, by rw [ht, hf]; rfl⟩, by omega, rfl, hG.bump.put⟩
  ·have l3 := AHeap.lt e3
   have hJs : J = some (joinK a b 3) := ht
   ((have hd := trivial; repeat' (first | ((first | apply GdK_st | apply GdK_sf | apply CondK_s) <;> intro hd <;> (try simp only [hd])) | simp (disch := first | assumption | omega | (simp only [nx] <;> omega) | fail) only [hd, hQr, hQn, c109_0, ↓YA, YB, YC, YE, YF, YZ, ↓reduceIte, Nat.reduceEqDiff, Nat.reduceAdd, Nat.reduceMul, Nat.reduceLeDiff, Int.reduceToNat, Int.reduceLE, Int.reduceLT, Int.reduceGT, Int.reduceGE, Int.reduceAdd, Int.reduceSub, Int.reduceNeg, Int.reduceBEq, Int.reduceBNe, Int.cast_ofNat_Int, e3, e4])) <;> (try (have hd_ : True := hd; clear hd_ hd)))
   exact fin_pure (hxG.set (by omega)) (by rw [hJs]; rfl)
structure CelIn (c : Cel) : Prop where
 key : In64 c.key
 child : In64 c.child
 agg : AgIn c.agg
def NodIn (n : Nod) : Prop := (∀ l ∈ n.lists, ∀ c ∈ l, CelIn c) ∧ CelIn n.all
section
variable {w : World} {F : Nat → Prop}
theorem in64_of {n : Int} (h : (Lit.int .i64 n).wf = true) : In64 n := by
 simp only [Lit.wf, Bool.and_eq_true, decide_eq_true_eq] at h
 exact h
theorem enc_sliceP {s : Sh} {α : Type} {f : α → List AV} {p : α → Prop} (he : ∀ cs x, s.Is w F cs x → ∃ a, s.enc x = f a ∧ p a) {cs : List Value} {x : (Sh.slice s).D} (h : (Sh.slice s).Is w F cs x) : ∃ l : List α, l.length ≤ maxLen ∧ (Sh.slice s).enc x = [.sl .no (l.map f)] ∧ ∀ a ∈ l, p a := by
 obtain ⟨A, c, css, rfl, h1, h2, h3, h4, h5⟩ := h
 have : ∀ (y : List s.D), (∀ z ∈ y, ∃ a, s.enc z = f a ∧ p a) → ∃ m : List α, m.length = y.length ∧ y.map s.enc = m.map f ∧ ∀ a ∈ m, p a := by
  intro y
  induction y with
  | nil => intro _; exact ⟨[], rfl, rfl, by simp⟩
  | cons z y ih =>
   intro hz
   obtain ⟨a, ha, hp⟩ := hz z List.mem_cons_self
   obtain ⟨m, hm, e, hq⟩ := ih fun u hu => hz u (List.mem_cons_of_mem _ hu)
   exact ⟨a :: m, by simp [hm], by simp [ha, e], fun b hb => by
    rcases List.mem_cons.1 hb with rfl | hb
    ·exact hp
    ·exact hq b hb⟩
 obtain ⟨m, hm, e, hq⟩ := this x fun y hy => by
  obtain ⟨i, hi, rfl⟩ := List.getElem_of_mem hy
  have hi2 : i < css.length := by rw [h3]; exact hi
  exact he css[i] _ (h5 i _ _ (List.getElem?_eq_getElem hi2) (List.getElem?_eq_getElem hi))
 refine ⟨m, by rw [hm]; exact Nat.le_trans h1 h2, ?_, hq⟩
 show [AV.sl .no (List.map s.enc x)] = _
 rw [e]
theorem part_in {cs : List Value} {x : partSh.D} (h : partSh.Is w F cs x) : In64 x.1 ∧ In64 x.2.1 ∧ In64 x.2.2.1 := by
 obtain ⟨_, _, _, ⟨_, h1⟩, _, _, _, ⟨_, h2⟩, _, _, _, ⟨_, h3⟩, _⟩ := h
 exact ⟨in64_of h1, in64_of h2, in64_of h3⟩
theorem enc_agI {cs : List Value} {x : agSh.D} (h : agSh.Is w F cs x) : ∃ a : Ag, agSh.enc x = eAg a ∧ AgIn a := by
 obtain ⟨n, ps, u⟩ := x
 obtain ⟨c1, c2, _, ⟨_, hn⟩, c3, c4, _, ⟨css, _, hcl, hl, _, hel⟩, _⟩ := h
 match ps, hl, hel with
 | [(s0, l0, h0, _), (s1, l1, h1, _), (s2, l2, h2, _)], _, hel =>
  have hg : ∀ i, i < 3 → ∃ r, css[i]? = some r := fun i hi => ⟨css[i]'(by omega), List.getElem?_eq_getElem _⟩
  obtain ⟨r0, e0⟩ := hg 0 (by omega)
  obtain ⟨r1, e1⟩ := hg 1 (by omega)
  obtain ⟨r2, e2⟩ := hg 2 (by omega)
  obtain ⟨a0, a1, a2⟩ := part_in (hel 0 _ _ e0 rfl)
  obtain ⟨b0, b1, b2⟩ := part_in (hel 1 _ _ e1 rfl)
  obtain ⟨d0, d1, d2⟩ := part_in (hel 2 _ _ e2 rfl)
  exact ⟨⟨n, s0, l0, h0, s1, l1, h1, s2, l2, h2⟩, rfl, ⟨in64_of hn, a0, b0, d0⟩⟩
theorem enc_celI {cs : List Value} {x : celSh.D} (h : celSh.Is w F cs x) : ∃ c : Cel, celSh.enc x = eCel c ∧ CelIn c := by
 obtain ⟨k, c, g, u⟩ := x
 obtain ⟨_, _, _, ⟨_, hk⟩, _, _, _, ⟨_, hc⟩, _, _, _, hg, _⟩ := h
 obtain ⟨a, ha, hi⟩ := enc_agI hg
 refine ⟨⟨k, c, a⟩, ?_, in64_of hk, in64_of hc, hi⟩
 show [AV.i k] ++ ([AV.i c] ++ (agSh.enc g ++ [])) = _
 rw [ha]; rfl
theorem enc_nodI {cs : List Value} {x : nodSh.D} (h : nodSh.Is w F cs x) : ∃ n : Nod, nodSh.enc x = eNod .no n ∧ NodIn n := by
 obtain ⟨d, ls, c, u⟩ := x
 obtain ⟨_, _, _, _, _, _, _, hls, _, _, _, hc, _⟩ := h
 obtain ⟨c, ec, ic⟩ := enc_celI hc
 obtain ⟨l, _, el, il⟩ := enc_sliceP (s := .slice celSh) (f := fun l => [.sl .no (rC l)]) (p := fun l => ∀ c ∈ l, CelIn c) (fun cs x hx => by
  obtain ⟨m, _, e, i⟩ := enc_sliceP (f := eCel) (p := CelIn) (fun cs x hx => enc_celI hx) hx
  exact ⟨m, e, i⟩) hls
 refine ⟨⟨d, l, c⟩, ?_, il, ic⟩
 show [AV.i d] ++ ((Sh.slice (.slice celSh)).enc ls ++ (celSh.enc _ ++ [])) = _
 rw [ec, el]; rfl
end
section
variable {W : World}
theorem arg_nodsI {v : Value} {y : (Sh.slice nodSh).D} (h : (Sh.slice nodSh).Is W (· < W.heap.size) [v] y) : ∃ l : List Nod, VR (Gh.ro (allRO W)) W (.sl .no (rN l)) v ∧ ∀ n ∈ l, NodIn n := by
 obtain ⟨l, _, e, hi⟩ := enc_sliceP (f := eNod .no) (p := NodIn) (fun cs x hx => enc_nodI hx) h
 exact ⟨l, arg_one nod_pos h e, hi⟩
end
def nod0 : Nod := ⟨0, [], ⟨0, 0, ⟨0, 0, 0, 0, 0, 0, 0, 0, 0, 0⟩⟩⟩
def getP (l : List Nod) (i : Int) : Nod := if i = -1 then nod0 else nodAt l i
theorem pget_sound {H : AHeap} {id : Nat} {x : Shp} {l : List Nod} (ha : ArA H id x l) (hw : ArW x l) (i : Int) : Sound Try.prog 91 [.ptr id 0, .i i] H (fun r H' => AHeap.Ext H H' ∧ ∃ t, r = .agg (eNod t (getP l i))) := by
 obtain ⟨p1, p2, p3⟩ := hw.bounds
 refine fn_soundQ hE cf91 (Nat.le_of_ble_eq_true rfl) fun Q hQr hQn => ?_
 by_cases c : i = -1
 ·have d1 : (i == -1) = true := by simpa using c
  have hG : getP l i = nod0 := by unfold getP; rw [if_pos c]
  rw [hG] at hQr hQn
  ((have hd := trivial; repeat' (first | ((first | apply GdK_st | apply GdK_sf | apply CondK_s) <;> intro hd <;> (try simp only [hd])) | simp (disch := first | assumption | omega | (simp only [nx] <;> omega) | fail) only [hd, hQr, hQn, c91_0, ↓YA, YB, YC, YE, YF, YZ, ↓reduceIte, Nat.reduceEqDiff, Nat.reduceAdd, Nat.reduceMul, Nat.reduceLeDiff, Int.reduceToNat, Int.reduceLE, Int.reduceLT, Int.reduceGT, Int.reduceGE, Int.reduceAdd, Int.reduceSub, Int.reduceNeg, Int.reduceBEq, Int.reduceBNe, d1])) <;> (try (have hd_ : True := hd; clear hd_ hd)))
  exact fin_keep ⟨by exact AXT, .full, rfl⟩
 ·have d1 : (i == -1) = false := by simpa using c
  have hG : getP l i = nodAt l i := by unfold getP; rw [if_neg c]
  rw [hG] at hQr hQn
  ((have hd := trivial; repeat' (first | ((first | apply GdK_st | apply GdK_sf | apply CondK_s) <;> intro hd <;> (try simp only [hd])) | simp (disch := first | assumption | omega | (simp only [nx] <;> omega) | fail) only [hd, hQr, hQn, c91_0, ↓YA, YB, YC, YE, YF, YZ, ↓reduceIte, Nat.reduceEqDiff, Nat.reduceAdd, Nat.reduceMul, Nat.reduceLeDiff, Int.reduceToNat, Int.reduceLE, Int.reduceLT, Int.reduceGT, Int.reduceGE, Int.reduceAdd, Int.reduceSub, Int.reduceNeg, Int.reduceBEq, Int.reduceBNe, d1])) <;> (try (have hd_ : True := hd; clear hd_ hd)))
  refine CallK.use (anode_sound i (ha.ext (by exact AXT)) p1 hw.small) ?_
  rintro r G1 ⟨hx1, t1, rfl⟩
  have e14 : (eNod t1 (nodAt l i)).length = 14 := rfl
  have e15 : (eNod t1 (nodAt l i)).take 14 = eNod t1 (nodAt l i) := rfl
  have g4 := hx1.get _ _ (AHeap.get_alloc_self (H := H) (o := .cells [.i 0, .sl .full [], .i 0, .i 0, .i 0, .i 0, .i 0, .i 0, .i 0, .i 0, .i 0, .i 0, .i 0, .i 0] 45))
  have l4 := AHeap.lt g4
  have hx0 : AHeap.Ext H G1 := ((AHeap.Ext.refl H).alloc).trans hx1
  ((have hd := trivial; repeat' (first | ((first | apply GdK_st | apply GdK_sf | apply CondK_s) <;> intro hd <;> (try simp only [hd])) | simp (disch := first | assumption | omega | (simp only [nx] <;> omega) | fail) only [hd, hQr, hQn, c91_0, ↓YA, YB, YC, YE, YF, YZ, ↓reduceIte, Nat.reduceEqDiff, Nat.reduceAdd, Nat.reduceMul, Nat.reduceLeDiff, Int.reduceToNat, Int.reduceLE, Int.reduceLT, Int.reduceGT, Int.reduceGE, Int.reduceAdd, Int.reduceSub, Int.reduceNeg, Int.reduceBEq, Int.reduceBNe, e14, e15, g4])) <;> (try (have hd_ : True := hd; clear hd_ hd)))
  exact fin_keep ⟨by exact AXT, t1, rfl⟩
def eHalf (c : Cel) (b : Bool) : List AV := eCel c ++ [.b b]
def halfC (c : Cel) (b : Bool) : Int := if b = true then c.child else -1
theorem half_sound (c : Cel) (b : Bool) (H : AHeap) : Sound Try.prog 107 [.agg (eHalf c b)] H (Pure H (.i (halfC c b))) := by
 have e0 : (eHalf c b)[12]? = some (.b b) := rfl
 have e1 : (eHalf c b)[1]? = some (.i c.child) := rfl
 refine fn_soundQ hE cf107 (Nat.le_of_ble_eq_true rfl) fun Q hQr hQn => ?_
 cases b with
 | false =>
  ((have hd := trivial; repeat' (first | ((first | apply GdK_st | apply GdK_sf | apply CondK_s) <;> intro hd <;> (try simp only [hd])) | simp (disch := first | assumption | omega | (simp only [nx] <;> omega) | fail) only [hd, hQr, hQn, c107_0, ↓YA, YB, YC, YE, YF, YZ, ↓reduceIte, Nat.reduceEqDiff, Nat.reduceAdd, Nat.reduceMul, Nat.reduceLeDiff, Int.reduceToNat, Int.reduceLE, Int.reduceLT, Int.reduceGT, Int.reduceGE, Int.reduceAdd, Int.reduceSub, Int.reduceNeg, Int.reduceBEq, Int.reduceBNe, e0, e1])) <;> (try (have hd_ : True := hd; clear hd_ hd)))
  exact fin_pure (by exact AXT) rfl
 | true =>
  ((have hd := trivial; repeat' (first | ((first | apply GdK_st | apply GdK_sf | apply CondK_s) <;> intro hd <;> (try simp only [hd])) | simp (disch := first | assumption | omega | (simp only [nx] <;> omega) | fail) only [hd, hQr, hQn, c107_0, ↓YA, YB, YC, YE, YF, YZ, ↓reduceIte, Nat.reduceEqDiff, Nat.reduceAdd, Nat.reduceMul, Nat.reduceLeDiff, Int.reduceToNat, Int.reduceLE, Int.reduceLT, Int.reduceGT, Int.reduceGE, Int.reduceAdd, Int.reduceSub, Int.reduceNeg, Int.reduceBEq, Int.reduceBNe, e0, e1])) <;> (try (have hd_ : True := hd; clear hd_ hd)))
  exact fin_pure (by exact AXT) rfl
theorem plists_sound (t : Tok) (n : Nod) (k : Nat) (H : AHeap) (hn : n.lists.length ≤ 1000000) : Sound Try.prog 93 [.agg (eNod t n), .i (k : Int)] H (Pure H (.sl .no (rC (n.lists.getD k [])))) := by
 refine fn_soundQ hE cf93 (Nat.le_of_ble_eq_true rfl) fun Q hQr hQn => ?_
 by_cases c : k < n.lists.length
 ·have d1 : decide ((k : Int) < (n.lists.length : Int)) = true := by simp; omega
  have hg : n.lists.getD k [] = n.lists[k] := by rw [List.getD_eq_getElem?_getD, List.getElem?_eq_getElem c]; rfl
  rw [hg] at hQr hQn
  ((have hd := trivial; repeat' (first | ((first | apply GdK_st | apply GdK_sf | apply CondK_s) <;> intro hd <;> (try simp only [hd])) | simp (disch := first | assumption | omega | (simp only [nx] <;> omega) | fail) only [hd, hQr, hQn, c93_0, ↓YA, YB, YC, YE, YF, YZ, ↓reduceIte, Nat.reduceEqDiff, Nat.reduceAdd, Nat.reduceMul, Nat.reduceLeDiff, Int.reduceToNat, Int.reduceLE, Int.reduceLT, Int.reduceGT, Int.reduceGE, Int.reduceAdd, Int.reduceSub, Int.reduceNeg, Int.reduceBEq, Int.reduceBNe, d1, List.length_map, c])) <;> (try (have hd_ : True := hd; clear hd_ hd)))
  exact fin_pure (by exact AXT) rfl
 ·have d1 : decide ((k : Int) < (n.lists.length : Int)) = false := by simp; omega
  have hg : n.lists.getD k [] = [] := by rw [List.getD_eq_getElem?_getD, List.getElem?_eq_none (by omega)]; rfl
  rw [hg] at hQr hQn
  ((have hd := trivial; repeat' (first | ((first | apply GdK_st | apply GdK_sf | apply CondK_s) <;> intro hd <;> (try simp only [hd])) | simp (disch := first | assumption | omega | (simp only [nx] <;> omega) | fail) only [hd, hQr, hQn, c93_0, ↓YA, YB, YC, YE, YF, YZ, ↓reduceIte, Nat.reduceEqDiff, Nat.reduceAdd, Nat.reduceMul, Nat.reduceLeDiff, Int.reduceToNat, Int.reduceLE, Int.reduceLT, Int.reduceGT, Int.reduceGE, Int.reduceAdd, Int.reduceSub, Int.reduceNeg, Int.reduceBEq, Int.reduceBNe, d1, List.length_map])) <;> (try (have hd_ : True := hd; clear hd_ hd)))
  exact fin_pure (by exact AXT) rfl
theorem alike_sound (t u : Tok) (x y : Shp) (H : AHeap) (hx : x.sizes.length ≤ 1000000) (hs : ∀ s ∈ x.sizes, s.length ≤ 1000000) : Sound Try.prog 70 [.agg [.sl t (rII x.sizes), .i x.measures], .agg [.sl u (rII y.sizes), .i y.measures]] H (Pure H (.b (decide (x = y)))) := by
 rw [shp_eq]
 refine fn_soundQ hE cf70 (Nat.le_of_ble_eq_true rfl) fun Q hQr hQn => ?_
 by_cases c : x.measures = y.measures
 ·have d1 : (x.measures == y.measures) = true := by simpa using c
  have d2 : decide (x.measures = y.measures) = true := by simpa using c
  rw [d2, Bool.true_and] at hQr hQn
  ((have hd := trivial; repeat' (first | ((first | apply GdK_st | apply GdK_sf | apply CondK_s) <;> intro hd <;> (try simp only [hd])) | simp (disch := first | assumption | omega | (simp only [nx] <;> omega) | fail) only [hd, hQr, hQn, c70_0, ↓YA, YB, YC, YE, YF, YZ, ↓reduceIte, Nat.reduceEqDiff, Nat.reduceAdd, Nat.reduceMul, Nat.reduceLeDiff, Int.reduceToNat, Int.reduceLE, Int.reduceLT, Int.reduceGT, Int.reduceGE, Int.reduceAdd, Int.reduceSub, Int.reduceNeg, Int.reduceBEq, Int.reduceBNe, d1])) <;> (try (have hd_ : True := hd; clear hd_ hd)))
  (refine CallK.use (eqf_ints (e := fun a b => decide (a = b)) t u x.sizes y.sizes _ hx (fun a ha b G => by have := sleq_sound .no .no a b G (hs a ha); rw [allZip_eq] at this; exact this)) ?_; rintro _ _ ⟨rfl, k1, rfl⟩)
  rw [allZip_eq]
  ((have hd := trivial; repeat' (first | ((first | apply GdK_st | apply GdK_sf | apply CondK_s) <;> intro hd <;> (try simp only [hd])) | simp (disch := first | assumption | omega | (simp only [nx] <;> omega) | fail) only [hd, hQr, hQn, c70_0, ↓YA, YB, YC, YE, YF, YZ, ↓reduceIte, Nat.reduceEqDiff, Nat.reduceAdd, Nat.reduceMul, Nat.reduceLeDiff, Int.reduceToNat, Int.reduceLE, Int.reduceLT, Int.reduceGT, Int.reduceGE, Int.reduceAdd, Int.reduceSub, Int.reduceNeg, Int.reduceBEq, Int.reduceBNe])) <;> (try (have hd_ : True := hd; clear hd_ hd)))
  exact fin_pure (by exact AXT) rfl
 ·have d1 : (x.measures == y.measures) = false := by simpa using c
  have d2 : decide (x.measures = y.measures) = false := by simpa using c
  rw [d2, Bool.false_and] at hQr hQn
  ((have hd := trivial; repeat' (first | ((first | apply GdK_st | apply GdK_sf | apply CondK_s) <;> intro hd <;> (try simp only [hd])) | simp (disch := first | assumption | omega | (simp only [nx] <;> omega) | fail) only [hd, hQr, hQn, c70_0, ↓YA, YB, YC, YE, YF, YZ, ↓reduceIte, Nat.reduceEqDiff, Nat.reduceAdd, Nat.reduceMul, Nat.reduceLeDiff, Int.reduceToNat, Int.reduceLE, Int.reduceLT, Int.reduceGT, Int.reduceGE, Int.reduceAdd, Int.reduceSub, Int.reduceNeg, Int.reduceBEq, Int.reduceBNe, d1])) <;> (try (have hd_ : True := hd; clear hd_ hd)))
  exact fin_pure (by exact AXT) rfl
def getR (l : List Nod) (i : Int) : Nod := if i < 0 then nod0 else nodAt l i
theorem rget_sound (lt : Tok) (l : List Nod) (i : Int) (H : AHeap) (hi : i < l.length) : Sound Try.prog 95 [.sl lt (rN l), .i i] H (Pure H (.agg (eNod .no (getR l i)))) := by
 refine fn_soundQ hE cf95 (Nat.le_of_ble_eq_true rfl) fun Q hQr hQn => ?_
 by_cases c : i < 0
 ·have d1 : decide (i < 0) = true := by simpa using c
  have hg : getR l i = nod0 := by unfold getR; rw [if_pos c]
  rw [hg] at hQr hQn
  ((have hd := trivial; repeat' (first | ((first | apply GdK_st | apply GdK_sf | apply CondK_s) <;> intro hd <;> (try simp only [hd])) | simp (disch := first | assumption | omega | (simp only [nx] <;> omega) | fail) only [hd, hQr, hQn, c95_0, ↓YA, YB, YC, YE, YF, YZ, ↓reduceIte, Nat.reduceEqDiff, Nat.reduceAdd, Nat.reduceMul, Nat.reduceLeDiff, Int.reduceToNat, Int.reduceLE, Int.reduceLT, Int.reduceGT, Int.reduceGE, Int.reduceAdd, Int.reduceSub, Int.reduceNeg, Int.reduceBEq, Int.reduceBNe, d1])) <;> (try (have hd_ : True := hd; clear hd_ hd)))
  exact fin_pure (by exact AXT) rfl
 ·have d1 : decide (i < 0) = false := by simpa using c
  obtain ⟨b, rfl⟩ : ∃ b : Nat, i = b := ⟨i.toNat, by omega⟩
  have hb : b < l.length := by omega
  have hg : getR l b = l[b] := by unfold getR; rw [if_neg c, nodAt_nat hb]
  rw [hg] at hQr hQn
  have e15 : (eNod .no l[b]).take 14 = eNod .no l[b] := rfl
  have h0 : (0 : Int) ≤ (b : Int) := by omega
  ((have hd := trivial; repeat' (first | ((first | apply GdK_st | apply GdK_sf | apply CondK_s) <;> intro hd <;> (try simp only [hd])) | simp (disch := first | assumption | omega | (simp only [nx] <;> omega) | fail) only [hd, hQr, hQn, c95_0, ↓YA, YB, YC, YE, YF, YZ, ↓reduceIte, Nat.reduceEqDiff, Nat.reduceAdd, Nat.reduceMul, Nat.reduceLeDiff, Int.reduceToNat, Int.reduceLE, Int.reduceLT, Int.reduceGT, Int.reduceGE, Int.reduceAdd, Int.reduceSub, Int.reduceNeg, Int.reduceBEq, Int.reduceBNe, d1, hb, h0, e15])) <;> (try (have hd_ : True := hd; clear hd_ hd)))
  exact fin_pure (by exact AXT) rfl
theorem rlist_sound (t : Tok) (n : Nod) (k : Nat) (H : AHeap) (hn : n.lists.length ≤ 1000000) : Sound Try.prog 97 [.agg (eNod t n), .i (k : Int)] H (Pure H (.sl .no (rC (n.lists.getD k [])))) := by
 refine fn_soundQ hE cf97 (Nat.le_of_ble_eq_true rfl) fun Q hQr hQn => ?_
 by_cases c : k < n.lists.length
 ·have d1 : decide ((k : Int) ≥ (n.lists.length : Int)) = false := by simp; omega
  have hg : n.lists.getD k [] = n.lists[k] := by rw [List.getD_eq_getElem?_getD, List.getElem?_eq_getElem c]; rfl
  rw [hg] at hQr hQn
  ((have hd := trivial; repeat' (first | ((first | apply GdK_st | apply GdK_sf | apply CondK_s) <;> intro hd <;> (try simp only [hd])) | simp (disch := first | assumption | omega | (simp only [nx] <;> omega) | fail) only [hd, hQr, hQn, c97_0, ↓YA, YB, YC, YE, YF, YZ, ↓reduceIte, Nat.reduceEqDiff, Nat.reduceAdd, Nat.reduceMul, Nat.reduceLeDiff, Int.reduceToNat, Int.reduceLE, Int.reduceLT, Int.reduceGT, Int.reduceGE, Int.reduceAdd, Int.reduceSub, Int.reduceNeg, Int.reduceBEq, Int.reduceBNe, d1, List.length_map, c])) <;> (try (have hd_ : True := hd; clear hd_ hd)))
  exact fin_pure (by exact AXT) rfl
 ·have d1 : decide ((k : Int) ≥ (n.lists.length : Int)) = true := by simp; omega
  have hg : n.lists.getD k [] = [] := by rw [List.getD_eq_getElem?_getD, List.getElem?_eq_none (by omega)]; rfl
  rw [hg] at hQr hQn
  ((have hd := trivial; repeat' (first | ((first | apply GdK_st | apply GdK_sf | apply CondK_s) <;> intro hd <;> (try simp only [hd])) | simp (disch := first | assumption | omega | (simp only [nx] <;> omega) | fail) only [hd, hQr, hQn, c97_0, ↓YA, YB, YC, YE, YF, YZ, ↓reduceIte, Nat.reduceEqDiff, Nat.reduceAdd, Nat.reduceMul, Nat.reduceLeDiff, Int.reduceToNat, Int.reduceLE, Int.reduceLT, Int.reduceGT, Int.reduceGE, Int.reduceAdd, Int.reduceSub, Int.reduceNeg, Int.reduceBEq, Int.reduceBNe, d1, List.length_map])) <;> (try (have hd_ : True := hd; clear hd_ hd)))
  exact fin_pure (by exact AXT) rfl
def ofC (l : List Cel) (key : Int) : Cel := (l.find? fun c => c.key == key).getD ⟨0, -1, ⟨0, 0, 0, 0, 0, 0, 0, 0, 0, 0⟩⟩
theorem rof_sound (t : Tok) (l : List Cel) (key : Int) (H : AHeap) (hl : l.length ≤ 1000000) : Sound Try.prog 96 [.sl t (rC l), .i key] H (Pure H (.agg (eCel (ofC l key)))) := by
 generalize hT : ofC l key = T at *
 refine fn_soundQ hE cf96 (Nat.le_of_ble_eq_true rfl) fun Q hQr hQn => ?_
 ((have hd := trivial; repeat' (first | ((first | apply GdK_st | apply GdK_sf | apply CondK_s) <;> intro hd <;> (try simp only [hd])) | simp (disch := first | assumption | omega | (simp only [nx] <;> omega) | fail) only [hd, hQr, hQn, c96_0, ↓YA, YB, YC, YE, YF, YZ, ↓reduceIte, Nat.reduceEqDiff, Nat.reduceAdd, Nat.reduceMul, Nat.reduceLeDiff, Int.reduceToNat, Int.reduceLE, Int.reduceLT, Int.reduceGT, Int.reduceGE, Int.reduceAdd, Int.reduceSub, Int.reduceNeg, Int.reduceBEq, Int.reduceBNe])) <;> (try (have hd_ : True := hd; clear hd_ hd)))
 have g4 : (H.alloc (.cells [.i 0, .i 0, .i 0, .i 0, .i 0, .i 0, .i 0, .i 0, .i 0, .i 0, .i 0, .i 0] 43)).get H.next = some (.cells [.i 0, .i 0, .i 0, .i 0, .i 0, .i 0, .i 0, .i 0, .i 0, .i 0, .i 0, .i 0] 43) := AHeap.get_alloc_self
 have hx0 : AHeap.Ext H (H.alloc (.cells [.i 0, .i 0, .i 0, .i 0, .i 0, .i 0, .i 0, .i 0, .i 0, .i 0, .i 0, .i 0] 43)) := by exact AXT
 generalize H.alloc (.cells [.i 0, .i 0, .i 0, .i 0, .i 0, .i 0, .i 0, .i 0, .i 0, .i 0, .i 0, .i 0] 43) = G0 at *
 have l4 := AHeap.lt g4
 refine AW_for [1, 4, 7, 8] (σ := Unit) (fun (k : Nat) s => ofC (l.drop k) key = T) (fun k s => []) (fun k s => []) () (GStep.refl _ _) (by simp only [keep_nil, keep_cons, Fr.put, Fr.get, ↓reduceIte, Nat.reduceEqDiff]; rfl) (by intro k s; rfl) (by intro k s; rfl) (by rfl) (by unfold maxLen; omega) ?_ (by simp only [FrL_nil]) (by simp only [ObjL_nil]) ?_ ?_
 ·simpa using hT
 ·(rintro k s G hk ht hG hn1; try simp only [nx] at hn1)
  have hg : G.get H.next = _ := (hG.get _ l4).trans g4
  have hgl := AHeap.lt hg
  have hne : H.next ≠ G.next := by omega
  have hst : ofC (l.drop k) key = if l[k].key = key then l[k] else ofC (l.drop (k + 1)) key := by
   unfold ofC
   rw [List.drop_eq_getElem_cons hk, List.find?_cons]
   by_cases e : l[k].key = key
   ·simp [e]
   ·have : (l[k].key == key) = false := by simpa using e
    simp [e, this]
  rw [hst] at ht
  by_cases e : l[k].key = key
  ·rw [if_pos e] at ht
   have d1 : (l[k].key == key) = true := by simpa using e
   ((have hd := trivial; repeat' (first | ((first | apply GdK_st | apply GdK_sf | apply CondK_s) <;> intro hd <;> (try simp only [hd])) | simp (disch := first | assumption | omega | (simp only [nx] <;> omega) | fail) only [hd, hQr, hQn, c96_0, ↓YA, YB, YC, YE, YF, YZ, ↓reduceIte, Nat.reduceEqDiff, Nat.reduceAdd, Nat.reduceMul, Nat.reduceLeDiff, Int.reduceToNat, Int.reduceLE, Int.reduceLT, Int.reduceGT, Int.reduceGE, Int.reduceAdd, Int.reduceSub, Int.reduceNeg, Int.reduceBEq, Int.reduceBNe, d1, hg])) <;> (try (have hd_ : True := hd; clear hd_ hd)))
   rw [ht]
   exact fin_pure ((hx0.trans hG.ext).alloc.set (Nat.le_refl _)) rfl
  ·rw [if_neg e] at ht
   have d1 : (l[k].key == key) = false := by simpa using e
   ((have hd := trivial; repeat' (first | ((first | apply GdK_st | apply GdK_sf | apply CondK_s) <;> intro hd <;> (try simp only [hd])) | simp (disch := first | assumption | omega | (simp only [nx] <;> omega) | fail) only [hd, hQr, hQn, c96_0, ↓YA, YB, YC, YE, YF, YZ, ↓reduceIte, Nat.reduceEqDiff, Nat.reduceAdd, Nat.reduceMul, Nat.reduceLeDiff, Int.reduceToNat, Int.reduceLE, Int.reduceLT, Int.reduceGT, Int.reduceGE, Int.reduceAdd, Int.reduceSub, Int.reduceNeg, Int.reduceBEq, Int.reduceBNe, d1, hg])) <;> (try (have hd_ : True := hd; clear hd_ hd)))
   exact ⟨(), ht, by exact HXT⟩
 ·(rintro s G ht hG hn1; try simp only [nx] at hn1)
  have hg : G.get H.next = _ := (hG.get _ l4).trans g4
  have hgl := AHeap.lt hg
  rw [List.drop_length] at ht
  subst ht
  ((have hd := trivial; repeat' (first | ((first | apply GdK_st | apply GdK_sf | apply CondK_s) <;> intro hd <;> (try simp only [hd])) | simp (disch := first | assumption | omega | (simp only [nx] <;> omega) | fail) only [hd, hQr, hQn, c96_0, ↓YA, YB, YC, YE, YF, YZ, ↓reduceIte, Nat.reduceEqDiff, Nat.reduceAdd, Nat.reduceMul, Nat.reduceLeDiff, Int.reduceToNat, Int.reduceLE, Int.reduceLT, Int.reduceGT, Int.reduceGE, Int.reduceAdd, Int.reduceSub, Int.reduceNeg, Int.reduceBEq, Int.reduceBNe, hg])) <;> (try (have hd_ : True := hd; clear hd_ hd)))
  exact fin_pure ((hx0.trans hG.ext).set (Nat.le_refl _)) rfl
structure MSt where
 N : List Nod
 P : List (Int × Int)
 e : Int
structure MOk (a b : List Nod) (most : Int) (s : MSt) : Prop where
 len : s.P.length = s.N.length
 few : (s.N.length : Int) ≤ most
 small : ∀ n ∈ s.N, smallN n
 dim : ∀ (j : Nat) n p, s.N[j]? = some n → s.P[j]? = some p → n.dim = max (getP a p.1).dim (getP b p.2).dim
def noC : Cel := ⟨0, -1, ⟨0, 0, 0, 0, 0, 0, 0, 0, 0, 0⟩⟩
def mKeys : Nat → List Cel → List Cel → List (Int × Cel × Cel)
 | 0, _, _ => []
 | _ + 1, [], [] => []
 | n + 1, p :: xs, [] => (p.key, p, noC) :: mKeys n xs []
 | n + 1, [], q :: ys => (q.key, noC, q) :: mKeys n [] ys
 | n + 1, p :: xs, q :: ys => if p.key < q.key then (p.key, p, noC) :: mKeys n xs (q :: ys) else if q.key < p.key then (q.key, noC, q) :: mKeys n (p :: xs) ys else (p.key, p, q) :: mKeys n xs ys
section
variable (x : Shp) (f : MSt → Int × Int → MSt × Int)
def mCel (d : Int) (s : MSt) (key : Int) (p q : Cel) : MSt × Cel :=
 if s.e ≠ 0 then (s, cel0) else
 if lastB x d = true then
  match joinA p.agg q.agg with
  | some g => (s, ⟨key, 0, g⟩)
  | none => (⟨s.N, s.P, 12⟩, cel0)
 else ((f s (p.child, q.child)).1, ⟨key, (f s (p.child, q.child)).2, ⟨0, 0, 0, 0, 0, 0, 0, 0, 0, 0⟩⟩)
def mList (d : Int) : MSt → List (Int × Cel × Cel) → MSt × List Cel
 | s, [] => (s, [])
 | s, (key, p, q) :: r => ((mList d (mCel x f d s key p q).1 r).1, (mCel x f d s key p q).2 :: (mList d (mCel x f d s key p q).1 r).2)
def mTiers (d : Int) : MSt → List (List (Int × Cel × Cel)) → MSt × List (List Cel)
 | s, [] => (s, [])
 | s, t :: r => ((mTiers d (mList x f d s t).1 r).1, (mList x f d s t).2 :: (mTiers d (mList x f d s t).1 r).2)
end
def mKeysOf (X Y : Nod) (T : Nat) : List (List (Int × Cel × Cel)) := (List.range T).map fun t => mKeys ((X.lists.getD t []).length + (Y.lists.getD t []).length) (X.lists.getD t []) (Y.lists.getD t [])
def mAll (n : Nod) (i : Int) : Cel := if i = -1 then noC else n.all
def mNode (x : Shp) (a b : List Nod) (most : Int) : Nat → MSt → Int × Int → MSt × Int
 | 0, s, _ => (s, 0)
 | n + 1, s, p => match s.P.findIdx? (· == p) with
  | some j => (s, (j : Int))
  | none => if s.e ≠ 0 then (s, 0) else
   let X := getP a p.1
   let Y := getP b p.2
   let d := max X.dim Y.dim
   let r := mTiers x (mNode x a b most n) d s (mKeysOf X Y (max X.lists.length Y.lists.length))
   let t := mCel x (mNode x a b most n) d r.1 0 (mAll X p.1) (mAll Y p.2)
   if t.1.e ≠ 0 then (t.1, 0) else
   if addErr x most t.1.N ⟨d, r.2, t.2⟩ ≠ 0 then (⟨t.1.N, t.1.P, addErr x most t.1.N ⟨d, r.2, t.2⟩⟩, 0) else
   (⟨t.1.N ++ [⟨d, r.2, t.2⟩], t.1.P ++ [p], 0⟩, (t.1.N.length : Int))
theorem mCel_err {x : Shp} {f : MSt → Int × Int → MSt × Int} {d : Int} {s : MSt} {key : Int} {p q : Cel} (h : s.e ≠ 0) : mCel x f d s key p q = (s, cel0) := by
 unfold mCel; rw [if_pos h]
theorem mList_err {x : Shp} {f : MSt → Int × Int → MSt × Int} {d : Int} : ∀ {r : List (Int × Cel × Cel)} {s : MSt}, s.e ≠ 0 → (mList x f d s r).1 = s
 | [], _, _ => rfl
 | (key, p, q) :: r, s, h => by
  unfold mList
  rw [mCel_err h]
  exact mList_err h
theorem mTiers_err {x : Shp} {f : MSt → Int × Int → MSt × Int} {d : Int} : ∀ {r : List (List (Int × Cel × Cel))} {s : MSt}, s.e ≠ 0 → (mTiers x f d s r).1 = s
 | [], _, _ => rfl
 | t :: r, s, h => by
  unfold mTiers
  have := mList_err (x := x) (f := f) (d := d) (r := t) h
  simp only [this]
  exact mTiers_err h
def Rise (hi : Int) : Int → List Cel → Prop
 | _, [] => True
 | lo, c :: r => lo ≤ c.key ∧ c.key < hi ∧ 0 ≤ c.child ∧ Rise hi (c.key + 1) r
theorem Rise.weak {hi : Int} : ∀ {l : List Cel} {lo lo' : Int}, Rise hi lo l → lo' ≤ lo → Rise hi lo' l
 | [], _, _, _, _ => trivial
 | c :: r, lo, lo', h, hl => ⟨Int.le_trans hl h.1, h.2⟩
theorem Rise.up {hi lo : Int} {c : Cel} {r : List Cel} (h : Rise hi lo (c :: r)) (hl : lo < c.key) : Rise hi (lo + 1) (c :: r) := ⟨by omega, h.2⟩
theorem ofC_lt {hi : Int} : ∀ {l : List Cel} {lo key : Int}, Rise hi lo l → key < lo → ofC l key = noC
 | [], _, _, _, _ => rfl
 | c :: r, lo, key, h, hk => by
  have h1 := h.1
  have hne : (c.key == key) = false := by rw [beq_eq_false_iff_ne]; omega
  have := ofC_lt (l := r) (key := key) h.2.2.2 (by omega)
  unfold ofC at this ⊢
  rw [List.find?_cons, hne]
  exact this
theorem ofC_hd {c : Cel} {r : List Cel} : ofC (c :: r) c.key = c := by unfold ofC; simp
theorem ofC_tl {c : Cel} {r : List Cel} {key : Int} (h : c.key < key) : ofC (c :: r) key = ofC r key := by
 have hne : (c.key == key) = false := by rw [beq_eq_false_iff_ne]; omega
 unfold ofC
 rw [List.find?_cons, hne]
def rKeys (g h : Int → Cel) : Nat → Int → List (Int × Cel × Cel)
 | 0, _ => []
 | n + 1, k => if 0 ≤ (g k).child ∨ 0 ≤ (h k).child then (k, g k, h k) :: rKeys g h n (k + 1) else rKeys g h n (k + 1)
theorem rKeys_congr {g h g' h' : Int → Cel} : ∀ {n : Nat} {k : Int}, (∀ j, k ≤ j → g j = g' j ∧ h j = h' j) → rKeys g h n k = rKeys g' h' n k
 | 0, _, _ => rfl
 | n + 1, k, e => by
  obtain ⟨e1, e2⟩ := e k (Int.le_refl _)
  simp only [rKeys, e1, e2, rKeys_congr (n := n) (k := k + 1) fun j hj => e j (by omega)]
theorem noC_child : ¬ 0 ≤ noC.child := by decide
theorem mKeys_nil : ∀ n : Nat, mKeys n [] [] = []
 | 0 => rfl
 | _ + 1 => rfl
theorem rKeys_eq : ∀ (cnt : Nat) (lo : Int) (xs ys : List Cel) (n : Nat), Rise (lo + cnt) lo xs → Rise (lo + cnt) lo ys → xs.length + ys.length ≤ n → rKeys (ofC xs) (ofC ys) cnt lo = mKeys n xs ys
 | 0, lo, xs, ys, n, hx, hy, hn => by
  have e : ∀ l, Rise (lo + (0 : Nat)) lo l → l = [] := fun l h => by
   cases l with
   | nil => rfl
   | cons c r => have := h.1; have := h.2.1; omega
  rw [e xs hx, e ys hy, mKeys_nil]; rfl
 | cnt + 1, lo, xs, ys, n, hx, hy, hn => by
  have hhi : lo + ((cnt + 1 : Nat) : Int) = lo + 1 + (cnt : Int) := by omega
  rw [hhi] at hx hy
  have ih := rKeys_eq cnt (lo + 1)
  have lowN : ∀ l, Rise (lo + 1 + cnt) (lo + 1) l → ofC l lo = noC := fun l h => ofC_lt h (by omega)
  have tl : ∀ (c : Cel) (r : List Cel), c.key = lo → ∀ j, lo + 1 ≤ j → ofC (c :: r) j = ofC r j := fun c r e j hj => ofC_tl (by omega)
  unfold rKeys
  match xs, ys with
  | [], [] =>
   rw [if_neg (by simp [ofC, noC_child, show (⟨0, -1, ⟨0, 0, 0, 0, 0, 0, 0, 0, 0, 0⟩⟩ : Cel) = noC from rfl]), ih [] [] n trivial trivial hn]
  | p :: xs, [] =>
   obtain ⟨n, rfl⟩ : ∃ m, n = m + 1 := ⟨n - 1, by simp at hn; omega⟩
   by_cases e : p.key = lo
   ·have h1 : ofC (p :: xs) lo = p := by rw [← e]; exact ofC_hd
    rw [if_pos (.inl (by rw [h1]; exact hx.2.2.1)), h1, rKeys_congr fun j hj => ⟨tl p xs e j hj, rfl⟩, ih xs [] n (by have := hx.2.2.2; rw [e] at this; exact this) trivial (by simp at hn ⊢; omega)]
    simp only [mKeys, e]
    rfl
   ·have h1 := hx.up (by have := hx.1; omega)
    rw [if_neg (by rw [lowN _ h1, lowN [] trivial]; simp [noC_child]), ih (p :: xs) [] (n + 1) h1 trivial hn]
  | [], q :: ys =>
   obtain ⟨n, rfl⟩ : ∃ m, n = m + 1 := ⟨n - 1, by simp at hn; omega⟩
   by_cases e : q.key = lo
   ·have h1 : ofC (q :: ys) lo = q := by rw [← e]; exact ofC_hd
    rw [if_pos (.inr (by rw [h1]; exact hy.2.2.1)), h1, rKeys_congr fun j hj => ⟨rfl, tl q ys e j hj⟩, ih [] ys n trivial (by have := hy.2.2.2; rw [e] at this; exact this) (by simp at hn ⊢; omega)]
    simp only [mKeys, e]
    rfl
   ·have h1 := hy.up (by have := hy.1; omega)
    rw [if_neg (by rw [lowN _ h1, lowN [] trivial]; simp [noC_child]), ih [] (q :: ys) (n + 1) trivial h1 hn]
  | p :: xs, q :: ys =>
   obtain ⟨n, rfl⟩ : ∃ m, n = m + 1 := ⟨n - 1, by simp at hn; omega⟩
   by_cases e : p.key = lo
   ·have h1 : ofC (p :: xs) lo = p := by rw [← e]; exact ofC_hd
    have hx' : Rise (lo + 1 + cnt) (lo + 1) xs := by have := hx.2.2.2; rw [e] at this; exact this
    by_cases e2 : q.key = lo
    ·have h2 : ofC (q :: ys) lo = q := by rw [← e2]; exact ofC_hd
     have hy' : Rise (lo + 1 + cnt) (lo + 1) ys := by have := hy.2.2.2; rw [e2] at this; exact this
     rw [if_pos (.inl (by rw [h1]; exact hx.2.2.1)), h1, h2, rKeys_congr fun j hj => ⟨tl p xs e j hj, tl q ys e2 j hj⟩, ih xs ys n hx' hy' (by simp at hn ⊢; omega)]
     simp only [mKeys]
     rw [if_neg (by omega), if_neg (by omega), e]
    ·have h2 := hy.up (by have := hy.1; omega)
     have hq := hy.1
     rw [if_pos (.inl (by rw [h1]; exact hx.2.2.1)), h1, lowN _ h2, rKeys_congr fun j hj => ⟨tl p xs e j hj, rfl⟩, ih xs (q :: ys) n hx' h2 (by simp at hn ⊢; omega)]
     simp only [mKeys]
     rw [if_pos (by omega), e]
   ·have h1 := hx.up (by have := hx.1; omega)
    have hp := hx.1
    by_cases e2 : q.key = lo
    ·have h2 : ofC (q :: ys) lo = q := by rw [← e2]; exact ofC_hd
     have hy' : Rise (lo + 1 + cnt) (lo + 1) ys := by have := hy.2.2.2; rw [e2] at this; exact this
     rw [if_pos (.inr (by rw [h2]; exact hy.2.2.1)), h2, lowN _ h1, rKeys_congr fun j hj => ⟨rfl, tl q ys e2 j hj⟩, ih (p :: xs) ys n h1 hy' (by simp at hn ⊢; omega)]
     simp only [mKeys]
     rw [if_neg (by omega), if_pos (by omega), e2]
    ·have h2 := hy.up (by have := hy.1; omega)
     rw [if_neg (by rw [lowN _ h1, lowN _ h2]; simp [noC_child]), ih (p :: xs) (q :: ys) (n + 1) h1 h2 hn]
end Go.Proofs.Ytgnpihhakogeeaa
