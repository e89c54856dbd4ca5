/- law11: does, few; calls as they came in. -/
import Derived.Test.YtedjaahidncokabF11h
namespace Go.Proofs.Ytedjaahidncokab
open Go.RowKit

theorem does_any (gr base g bm : Nat) (ob : Option Nat) (size : Nat) (items : Items) (hits misses kind i n : Int) (s : ByteArray) (iv : Value) (w : World) (h : Pair w gr base g bm ob size items hits misses iv) (hgr : gr < w.heap.size) (hsm : Small hits misses) :
    Calls Try.prog 12 #[.pointer (some ⟨g, 0, none⟩), .agg #[.int .i64 size, iv, .int .i64 hits, .int .i64 misses], .agg #[.int .i64 kind, .int .i64 i, .int .i64 n, .string s]] w (DoesPost w gr base g bm ob size hits misses) := by
  by_cases k1 : kind = 1
  · subst k1; exact does_get gr base g bm ob size items hits misses i n s iv w h hgr hsm
  by_cases k2 : kind = 2
  · subst k2; exact does_put gr base g bm ob size items hits misses i n s iv w h hgr
  by_cases k3 : kind = 3
  · subst k3; exact does_clear gr base g bm ob size items hits misses i n s iv w h hgr
  rcases hl : look items i with _ | t
  · by_cases hn : n = 0
    · subst hn; exact does_miss gr base g bm ob size items hits misses kind i s iv w h hgr hsm ⟨k1, k2, k3⟩ hl
    · exact does_err gr base g bm ob size items hits misses kind i n s iv w h hgr hsm ⟨k1, k2, k3⟩ hl hn
  · exact does_hit gr base g bm ob size items hits misses kind i n s t iv w h hgr hsm ⟨k1, k2, k3⟩ hl

structure ActC where
  kind : Int
  i : Int
  n : Int
  s : ByteArray
def ActC.cells (a : ActC) : List Value := actCells a.kind a.i a.n a.s
def allActs (l : List ActC) : List Value := l.flatMap ActC.cells
theorem allActs_len (l : List ActC) : (allActs l).length = l.length * 4 := by
  unfold allActs
  induction l with
  | nil => rfl
  | cons x r ih => simp only [List.flatMap_cons, List.length_append, ih, ActC.cells, actCells, List.length_cons, List.length_nil]; omega
theorem allActs_get (l : List ActC) (k j : Nat) (hk : k < l.length) (hj : j < 4) : (allActs l)[k * 4 + j]? = (l[k].cells)[j]? := by
  unfold allActs
  induction l generalizing k with
  | nil => simp at hk
  | cons x r ih =>
    cases k with
    | zero =>
      simp only [List.flatMap_cons, List.getElem_cons_zero]
      rw [List.getElem?_append_left (by simp [ActC.cells, actCells]; omega)]; simp
    | succ k =>
      simp only [List.flatMap_cons, List.getElem_cons_succ]
      rw [List.getElem?_append_right (by simp [ActC.cells, actCells]; omega)]
      rw [← ih k (by simpa using hk)]
      congr 1
      simp [ActC.cells, actCells]; omega
def ActsAt (w : World) (F : Nat → Prop) (A : Option Addr) (n : Nat) (l : List ActC) : Prop := Rd w F 4 A n (allActs l) ∧ ∀ a ∈ l, a.s.size ≤ maxLen
theorem ActsAt.len {w : World} {F : Nat → Prop} {A : Option Addr} {n : Nat} {l : List ActC} (h : ActsAt w F A n l) : n = l.length := by
  have := h.1.1; rw [allActs_len] at this; omega
theorem ActsAt.get {w : World} {F : Nat → Prop} {A : Option Addr} {n k : Nat} {l : List ActC} (h : ActsAt w F A n l) (hk : k < l.length) :
    ∃ b o, A = some ⟨b, o, none⟩ ∧ F b ∧ w.cell? ⟨b, o + k * 4, none⟩ = some (.int .i64 l[k].kind) ∧ w.cell? ⟨b, o + k * 4 + 1, none⟩ = some (.int .i64 l[k].i) ∧ w.cell? ⟨b, o + k * 4 + 2, none⟩ = some (.int .i64 l[k].n) ∧ w.cell? ⟨b, o + k * 4 + 3, none⟩ = some (.string l[k].s) := by
  have hn := h.len
  obtain ⟨b, o, e, hF, hc⟩ := h.1.lit (by omega) (by omega)
  refine ⟨b, o, e, hF, ?_, ?_, ?_, ?_⟩
  · have := hc (k * 4 + 0) (.int .i64 l[k].kind) (by rw [allActs_get l k 0 hk (by omega)]; rfl)
    simpa using this
  · exact hc (k * 4 + 1) _ (by rw [allActs_get l k 1 hk (by omega)]; rfl)
  · exact hc (k * 4 + 2) _ (by rw [allActs_get l k 2 hk (by omega)]; rfl)
  · exact hc (k * 4 + 3) _ (by rw [allActs_get l k 3 hk (by omega)]; rfl)
theorem ActsAt.kp {S F : Nat → Prop} {w w' : World} {A : Option Addr} {n : Nat} {l : List ActC} (h : ActsAt w F A n l) (k : Kp S w w') (hF : ∀ b, F b → b < w.heap.size ∧ ¬ S b) : ActsAt w' F A n l := ⟨h.1.kp k hF, h.2⟩
theorem ActsAt.below {F : Nat → Prop} {w w' : World} {B : Nat} {A : Option Addr} {n : Nat} {l : List ActC} (h : ActsAt w F A n l) (k : Below B w w') (hF : ∀ b, F b → b < B) : ActsAt w' F A n l := ⟨h.1.below k hF, h.2⟩

def sumMin (l : List ActC) : Nat := (l.map fun a => min a.s.size 10000).sum
theorem sumMin_take (l : List ActC) (k : Nat) (hk : k < l.length) : sumMin (l.take (k + 1)) = sumMin (l.take k) + min l[k].s.size 10000 := by
  unfold sumMin
  rw [List.take_succ_eq_append_getElem hk, List.map_append, List.sum_append]; simp
theorem sumMin_le (l : List ActC) : sumMin l ≤ 10000 * l.length := by
  unfold sumMin
  induction l with
  | nil => simp
  | cons x r ih => simp only [List.map_cons, List.sum_cons, List.length_cons]; omega
def fewB (l : List ActC) : Bool := decide (l.length ≤ 60) && decide (sumMin (l.take 61) ≤ 5000)

set_option maxHeartbeats 1000000 in
theorem few_any (A : Option Addr) (c : Nat) (l : List ActC) (w : World) (F : Nat → Prop) (h : ActsAt w F A l.length l) (hm : l.length ≤ maxLen) :
    Calls Try.prog 11 #[.slice A l.length c] w fun e w' => e = .returned (.bool (fewB l)) ∧ w = w' := by
  have H := Lib.hid h
  clear h
  unfold maxLen at hm
  go_enter Try.func11, Try.ntmps11
  go_wp2
  go_loop [3, 4] (fun s i => ∃ k : Nat, k ≤ l.length ∧ k ≤ 61 ∧ i = .int .i64 k ∧ s = .int .i64 (sumMin (l.take k) : Int)) (fun _ i => l.length - (intOf i).toNat)
  case atStart => exact ⟨0, Nat.zero_le _, by omega, rfl, by simp [sumMin]⟩
  case round =>
    obtain ⟨k, hk, hk31, rfl, rfl⟩ := hrel
    have hb := sumMin_le (l.take k)
    have hb2 : (l.take k).length ≤ k := List.length_take_le _ _
    by_cases hlt : k < l.length
    · by_cases h30 : k ≤ 60
      · obtain ⟨b, o, rfl, _, _, _, _, hc⟩ := H.out.get hlt
        have hsz := H.out.2 _ (List.getElem_mem hlt)
        unfold maxLen at hsz
        have ht := Lib.hid (sumMin_take l k hlt)
        go_wp2
        refine ⟨⟨k + 1, by omega, by omega, by go_num, ?_⟩, by simp [intOf]; omega⟩
        rw [ht.out]
        congr 1
        omega
      · have hfin : Hid (fewB l = false) := by unfold Hid fewB; rw [decide_eq_false (by omega)]; rfl
        go_wp2
        go_ret
        exact ⟨by rw [hfin.out]; rfl, rfl⟩
    · have hkl : k = l.length := by omega
      have hfin : Hid (fewB l = (decide (l.length ≤ 60) && decide (sumMin (l.take k) ≤ 5000))) := by
        unfold Hid fewB
        rw [List.take_of_length_le (show l.length ≤ 61 by omega), List.take_of_length_le (show l.length ≤ k by omega)]
      clear hkl
      by_cases h1 : l.length ≤ 60
      · by_cases h2 : sumMin (l.take k) ≤ 5000
        · have HF : Hid (fewB l = true) := by unfold Hid; rw [hfin.out, decide_eq_true h1, decide_eq_true h2]; rfl
          go_wp2
          go_ret
          refine ⟨?_, rfl⟩
          rw [HF.out]
          simp
          omega
        · have HF : Hid (fewB l = false) := by unfold Hid; rw [hfin.out, decide_eq_false h2]; simp
          go_wp2
          go_ret
          refine ⟨?_, rfl⟩
          rw [HF.out]
          simp
          omega
      · have HF : Hid (fewB l = false) := by unfold Hid; rw [hfin.out, decide_eq_false h1]; rfl
        go_wp2
        go_ret
        exact ⟨by rw [HF.out]; rfl, rfl⟩
end Go.Proofs.Ytedjaahidncokab
