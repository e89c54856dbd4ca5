/- Layer 24, the reference: Small, Few. -/
import Derived.Test.YtgnpihhakogeeaaR25f
namespace Go.Proofs.Ytgnpihhakogeeaa
open Go.RowKit

def SmallPost (w : World) (x : Shp) (e : Ending) (w' : World) : Prop := ∃ b : Bool, e = .returned (.bool b) ∧ (b = true → x.sizes.length ≤ 20) ∧ Below w.heap.size w w'
set_option maxHeartbeats 1000000 in
theorem small_any (A : Option Addr) (c : Nat) (x : Shp) (w : World) (F : Nat → Prop) (hx : ElemsAt w F A x.sizes) (hF : ∀ b, F b → b < w.heap.size) (hl : x.sizes.length ≤ maxLen) :
    Calls Try.prog 11 #[.agg #[.slice A x.sizes.length c, .int .i64 x.measures]] w (SmallPost w x) := by
  have HX := Lib.hid hx
  have HF := Lib.hid hF
  clear hx hF
  unfold maxLen at hl
  have b0 : Hid (Below w.heap.size w (w.alloc (.cells #[.slice A x.sizes.length c, .int .i64 x.measures] 24))) := below1 _ _
  have s0 : Hid (Blk (w.alloc (.cells #[.slice A x.sizes.length c, .int .i64 x.measures] 24)) w.heap.size 24 [.slice A x.sizes.length c, .int .i64 x.measures]) := Blk.new _ _ _
  go_enter Try.func11, Try.ntmps11
  go_wp2_with fail
  generalize w.alloc (.cells #[.slice A x.sizes.length c, .int .i64 x.measures] 24) = w0 at b0 s0 ⊢
  have HX0 := Lib.hid (HX.out.below b0.out HF.out)
  have c0 : w0.cell? ⟨w.heap.size, 0, none⟩ = some (.slice A x.sizes.length c) := by rw [s0.out.cell]; rfl
  go_loop [3] (fun i => ∃ k : Nat, k ≤ x.sizes.length ∧ k ≤ 21 ∧ i = .int .i64 k) (fun i => x.sizes.length - (intOf i).toNat)
  case atStart => exact ⟨0, Nat.zero_le _, by omega, rfl⟩
  case round =>
    obtain ⟨k, hk, hk2, rfl⟩ := hrel
    by_cases hlt : k < x.sizes.length
    · by_cases h20 : k ≤ 20
      · obtain ⟨b, o, R, rc, rfl, _, hbl, cr, hrc, hrm, _⟩ := HX0.out.sub hlt
        unfold maxLen at hrm
        generalize x.sizes[k] = r at *
        cases g : decide (10 < r.length) with
        | true =>
          have g' : decide (10 < (r.length : Int)) = true := by simp at g ⊢; omega
          go_wp2
          go_ret
          exact ⟨false, rfl, by simp, b0.out⟩
        | false =>
          have g' : decide (10 < (r.length : Int)) = false := by simp at g ⊢; omega
          go_wp2
          go_round
          case rel => exact ⟨k + 1, by omega, by omega, by go_num⟩
          case measure => simp [intOf]; omega
      · go_wp2
        go_ret
        exact ⟨_, rfl, by intro h; simp at h <;> omega, b0.out⟩
    · go_wp2
      go_ret
      exact ⟨_, rfl, by intro h; simp at h <;> omega, b0.out⟩

/-- cells, as Few counts them -/
def cnt (ls : List (List Cel)) : Nat := (ls.map fun l => min l.length 10000).sum
theorem cnt_snoc (ls : List (List Cel)) (k : Nat) (h : k < ls.length) : cnt (ls.take (k + 1)) = cnt (ls.take k) + min ls[k].length 10000 := by
  unfold cnt
  rw [List.take_succ_eq_append_getElem h, List.map_append, List.sum_append]; simp
theorem cnt_le (ls : List (List Cel)) : cnt ls ≤ 10000 * ls.length := by
  unfold cnt
  induction ls with
  | nil => simp
  | cons y r ih => simp only [List.map_cons, List.sum_cons, List.length_cons]; omega
theorem cnt_small (ls : List (List Cel)) (h : cnt ls ≤ 2000) : ls.flatten.length = cnt ls := by
  unfold cnt at *
  induction ls with
  | nil => rfl
  | cons y r ih =>
    simp only [List.map_cons, List.sum_cons] at h ⊢
    rw [List.flatten_cons, List.length_append, ih (by omega)]
    omega
def cntAll (l : List Nod) : Nat := (l.map fun n => cnt n.lists).sum
theorem cntAll_snoc (l : List Nod) (k : Nat) (h : k < l.length) : cntAll (l.take (k + 1)) = cntAll (l.take k) + cnt l[k].lists := by
  unfold cntAll
  rw [List.take_succ_eq_append_getElem h, List.map_append, List.sum_append]; simp
theorem cntAll_mem {l : List Nod} {n : Nod} (h : n ∈ l) : cnt n.lists ≤ cntAll l := by
  unfold cntAll
  induction l with
  | nil => cases h
  | cons y r ih =>
    simp only [List.map_cons, List.sum_cons]
    rcases List.mem_cons.1 h with rfl | h
    · omega
    · have := ih h; omega
def FewNods (most : Nat) (l : List Nod) : Prop := l.length ≤ most ∧ ∀ n ∈ l, n.lists.length ≤ 10 ∧ n.lists.flatten.length ≤ 2000
theorem FewNods.few {most : Nat} {l : List Nod} (h : FewNods most l) (hm : most ≤ 1000) : fewNods l := ⟨by have := h.1; omega, fun n hn => by
  obtain ⟨h1, h2⟩ := h.2 n hn
  exact ⟨⟨by unfold maxLen; omega, by omega⟩, by omega⟩⟩
def FewPost (w : World) (most : Nat) (l : List Nod) (e : Ending) (w' : World) : Prop := ∃ b : Bool, e = .returned (.bool b) ∧ (b = true → FewNods most l) ∧ w = w'
set_option maxHeartbeats 4000000 in
set_option maxRecDepth 100000 in
theorem few_any (LA : Option Addr) (c : Nat) (l : List Nod) (most : Nat) (w : World) (F : Nat → Prop) (h : ElemsAt w F LA l) (hl : l.length ≤ maxLen) (hm : most ≤ 1000) :
    Calls Try.prog 12 #[.slice LA l.length c, .int .i64 most] w (FewPost w most l) := by
  have H := Lib.hid h
  clear h
  unfold maxLen at hl
  go_enter Try.func12, Try.ntmps12
  go_wp2
  go_loop [5, 6] (fun s i => ∃ k N : Nat, k ≤ l.length ∧ k ≤ most + 1 ∧ i = .int .i64 k ∧ s = .int .i64 N ∧ N ≤ 100000 * k ∧ Hid (N = cntAll (l.take k)) ∧ Hid (∀ n ∈ l.take k, n.lists.length ≤ 10)) (fun _ i => l.length - (intOf i).toNat)
  case atStart => exact ⟨0, 0, Nat.zero_le _, by omega, rfl, rfl, by omega, by unfold Hid; simp [cntAll], by intro n hn; simp at hn⟩
  case round =>
    obtain ⟨k, N, hk, hkm, rfl, rfl, hNk, hN, hall⟩ := hrel
    by_cases hlt : k < l.length
    · by_cases hmo : k ≤ most
      · obtain ⟨nb, no, NB, nd, rfl, _, hnb, d0, d1, _, _, hlc1, hlc2, hNB, _⟩ := H.out.nod hlt
        have hs := cntAll_snoc l k hlt
        have HS : Hid (cntAll (l.take (k + 1)) = N + cnt l[k].lists) := by unfold Hid; rw [hs, hN.out]
        have HTK : Hid (∀ n ∈ l.take (k + 1), n ∈ l.take k ∨ n = l[k]) := by
          intro n hn; rw [List.take_succ_eq_append_getElem hlt] at hn; rcases List.mem_append.1 hn with h | h; exact .inl h; exact .inr (by simpa using h)
        have HNB := Lib.hid hNB
        have hll : l[k].lists.length ≤ 9223372036854775807 := by unfold maxLen at hlc2; omega
        clear hs hNB hN
        generalize l[k] = n at *
        obtain ⟨dim, lists, all⟩ := n
        simp only at *
        go_wp2
        go_loop [5, 7] (fun s i => ∃ j M : Nat, j ≤ lists.length ∧ j ≤ 11 ∧ i = .int .i64 j ∧ s = .int .i64 M ∧ M ≤ 100000 * k + 10000 * j ∧ Hid (M = N + cnt (lists.take j))) (fun _ i => lists.length - (intOf i).toNat)
        case atStart => exact ⟨0, N, Nat.zero_le _, by omega, rfl, rfl, by omega, by unfold Hid; simp [cnt]⟩
        case round =>
          obtain ⟨j, M, hj, hj2, rfl, rfl, hMb, hM⟩ := hrel
          by_cases hjl : j < lists.length
          · by_cases hj10 : j ≤ 10
            · obtain ⟨lb, lo, Lx, lxc, rfl, _, hlb, cl, hxc, hxm, _⟩ := HNB.out.sub hjl
              have hs := cnt_snoc lists j hjl
              have HS2 : Hid (N + cnt (lists.take (j + 1)) = M + min lists[j].length 10000) := by unfold Hid; rw [hs, hM.out]; omega
              have hxl : lists[j].length ≤ 9223372036854775807 := by unfold maxLen at hxm; omega
              clear hs hM
              generalize lists[j] = lj at *
              go_wp2
              all_goals
                refine ⟨⟨j + 1, M + min lj.length 10000, by omega, by omega, by go_num, ?_, by omega, HS2.out.symm⟩, by simp [intOf]; omega⟩
                congr 1
                omega
            · have hgt : 10 < lists.length := by omega
              have g' : decide (10 < (lists.length : Int)) = true := by simp; omega
              have g2 : decide (10 < lists.length) = true := by simp; omega
              go_wp2
              go_ret
              exact ⟨false, rfl, by simp, rfl⟩
          · have hfj : Hid (M = N + cnt lists) := by unfold Hid; rw [hM.out, List.take_of_length_le (by omega)]
            cases g : decide (10 < lists.length) with
            | true =>
              have g' : decide (10 < (lists.length : Int)) = true := by simp at g ⊢; omega
              go_wp2
              go_ret
              exact ⟨false, rfl, by simp, rfl⟩
            | false =>
              have g' : decide (10 < (lists.length : Int)) = false := by simp at g ⊢; omega
              have hl10 : lists.length ≤ 10 := by simpa using g
              go_wp2
              go_round
              case rel => exact ⟨k + 1, M, by omega, by omega, by go_num, rfl, by omega, by unfold Hid; rw [HS.out, hfj.out], by
                intro n hn
                rcases HTK.out n hn with h | rfl
                · exact hall.out n h
                · exact hl10⟩
              case measure => simp [intOf]; omega
      · go_wp2
        go_ret
        refine ⟨_, rfl, ?_, rfl⟩
        intro h
        simp at h <;> omega
    · have hNl : Hid (N = cntAll l) := by unfold Hid; rw [hN.out, List.take_of_length_le (by omega)]
      have hal : Hid (∀ n ∈ l, n.lists.length ≤ 10) := by have := hall.out; rw [List.take_of_length_le (by omega)] at this; exact this
      clear hN hall
      cases g1 : decide (l.length ≤ most) with
      | true =>
        have g2 : decide ((l.length : Int) ≤ (most : Int)) = true := by simp at g1 ⊢; omega
        go_wp2
        go_ret
        refine ⟨_, rfl, ?_, rfl⟩
        intro h
        have hN2 : N ≤ 2000 := by simp at h; omega
        have hl1 : l.length ≤ most := by simpa using g1
        refine ⟨hl1, fun n hn => ⟨hal.out n hn, ?_⟩⟩
        have := cntAll_mem hn
        have h3 := hNl.out
        rw [cnt_small n.lists (by omega)]
        omega
      | false =>
        have g2 : decide ((l.length : Int) ≤ (most : Int)) = false := by simp at g1 ⊢; omega
        go_wp2
        go_ret
        exact ⟨false, rfl, by simp, rfl⟩
end Go.Proofs.Ytgnpihhakogeeaa
