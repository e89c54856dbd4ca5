/- Layer 25, the program: May. -/
import Derived.Test.YtgnpihhakogeeaaP25
import Derived.Test.YtgnpihhakogeeaaR24e
namespace Go.Proofs.Ytgnpihhakogeeaa
open Go.RowKit

set_option maxHeartbeats 4000000 in
set_option maxRecDepth 100000 in
theorem amay_any (A : Option Addr) (c : Nat) (x : Shp) (w : World) (F : Nat → Prop) (hx : ElemsAt w F A x.sizes) (hF : ∀ b, F b → b < w.heap.size) (hl : x.sizes.length ≤ maxLen) :
    Calls Try.prog 73 #[.agg #[.slice A x.sizes.length c, .int .i64 x.measures]] w (RetV w (.bool (shpMay x))) := by
  have HX := Lib.hid hx
  have HF := Lib.hid hF
  clear hx hF
  unfold maxLen at hl
  cases h1 : decide (x.sizes.length < 1) with
  | true =>
    have hfin : Hid (shpMay x = false) := by unfold Hid shpMay; simp at h1; rw [decide_eq_false (p := 1 ≤ x.sizes.length) (by simp [h1])]; rfl
    have h1' : decide ((x.sizes.length : Int) < 1) = true := by simp at h1 ⊢; simp [h1]
    go_enter Try.func73, Try.ntmps73
    go_wp2
    go_ret
    exact ⟨by rw [hfin.out]; rfl, below1 _ _⟩
  | false =>
  have h1' : decide ((x.sizes.length : Int) < 1) = false := decide_eq_false (by have := of_decide_eq_false h1; omega)
  cases h2 : decide (16 < x.sizes.length) with
  | true =>
    have hfin : Hid (shpMay x = false) := by unfold Hid shpMay; simp at h2; rw [decide_eq_false (p := x.sizes.length ≤ 16) (by omega)]; simp
    have h2' : decide (16 < (x.sizes.length : Int)) = true := by simp at h2 ⊢; omega
    go_enter Try.func73, Try.ntmps73
    go_wp2
    go_ret
    exact ⟨by rw [hfin.out]; rfl, below1 _ _⟩
  | false =>
  have h2' : decide (16 < (x.sizes.length : Int)) = false := by simp at h2 ⊢; omega
  cases h3 : decide (x.measures < 1) with
  | true =>
    have hfin : Hid (shpMay x = false) := by unfold Hid shpMay; simp at h3; rw [decide_eq_false (p := 1 ≤ x.measures) (by omega)]; simp
    go_enter Try.func73, Try.ntmps73
    go_wp2
    go_ret
    exact ⟨by rw [hfin.out]; rfl, below1 _ _⟩
  | false =>
  cases h4 : decide (3 < x.measures) with
  | true =>
    have hfin : Hid (shpMay x = false) := by unfold Hid shpMay; simp at h4; rw [decide_eq_false (p := x.measures ≤ 3) (by omega)]; simp
    go_enter Try.func73, Try.ntmps73
    go_wp2
    go_ret
    exact ⟨by rw [hfin.out]; rfl, below1 _ _⟩
  | false =>
  have hst : Hid (shpMay x = (x.sizes.drop 0).all sizesMay) := by
    unfold Hid shpMay; simp at h1 h2 h3 h4
    rw [decide_eq_true (p := 1 ≤ x.sizes.length) (by cases hs : x.sizes with | nil => exact absurd hs h1 | cons a r => simp), decide_eq_true (p := x.sizes.length ≤ 16) h2, decide_eq_true (p := 1 ≤ x.measures) h3, decide_eq_true (p := x.measures ≤ 3) h4]; simp
  have b0 : Hid (Below w.heap.size w (w.alloc (.cells #[.slice A x.sizes.length c, .int .i64 x.measures] 24))) := below1 _ _
  go_enter Try.func73, Try.ntmps73
  go_wp2
  generalize w.alloc (.cells #[.slice A x.sizes.length c, .int .i64 x.measures] 24) = w0 at b0 ⊢
  have HX0 := Lib.hid (HX.out.below b0.out HF.out)
  go_loop [30] (fun i => ∃ k : Nat, k ≤ x.sizes.length ∧ i = .int .i64 k ∧ Hid (shpMay x = (x.sizes.drop k).all sizesMay)) (fun i => x.sizes.length - (intOf i).toNat)
  case atStart => exact ⟨0, Nat.zero_le _, rfl, hst⟩
  case round =>
    clear hst h1 h1' h2 h2' h3 h4
    obtain ⟨k, hk, rfl, ht⟩ := hrel
    by_cases hlt : k < x.sizes.length
    · obtain ⟨b, o, R, rc, rfl, _, hbl, cr, hrc, hrm, hR⟩ := HX0.out.sub hlt
      have HR := Lib.hid hR
      have HT : Hid (shpMay x = _) := ht.out.trans (all_step x.sizes k hlt)
      unfold maxLen at hrm
      clear hR ht
      generalize x.sizes[k] = r at *
      cases g1 : decide (r.length < 1) with
      | true =>
        have hfin : Hid (shpMay x = false) := by unfold Hid; rw [HT.out]; unfold sizesMay; simp at g1; simp [g1]
        have g1' : decide ((r.length : Int) < 1) = true := by simp at g1 ⊢; simp [g1]
        go_wp2
        go_ret
        exact ⟨by rw [hfin.out]; rfl, b0.out⟩
      | false =>
      have g1' : decide ((r.length : Int) < 1) = false := decide_eq_false (by have := of_decide_eq_false g1; omega)
      cases g2 : decide (4 < r.length) with
      | true =>
        have hfin : Hid (shpMay x = false) := by unfold Hid; rw [HT.out]; unfold sizesMay; simp at g2; rw [decide_eq_false (p := r.length ≤ 4) (by omega)]; simp
        have g2' : decide (4 < (r.length : Int)) = true := by simp at g2 ⊢; omega
        go_wp2
        go_ret
        exact ⟨by rw [hfin.out]; rfl, b0.out⟩
      | false =>
      have g2' : decide (4 < (r.length : Int)) = false := by simp at g2 ⊢; omega
      have HT2 : Hid (shpMay x = (rowMay (intAhead r 0) (r.drop 0) && (x.sizes.drop (k + 1)).all sizesMay)) := by
        unfold Hid; rw [HT.out]; unfold sizesMay; simp at g1 g2
        rw [decide_eq_true (p := 1 ≤ r.length) (by cases hs : r with | nil => exact absurd hs g1 | cons a r => simp), decide_eq_true (p := r.length ≤ 4) g2]; rfl
      clear HT
      go_wp2
      go_loop [44] (fun i => ∃ j : Nat, j ≤ r.length ∧ i = .int .i64 j ∧ Hid (shpMay x = (rowMay (intAhead r j) (r.drop j) && (x.sizes.drop (k + 1)).all sizesMay))) (fun i => r.length - (intOf i).toNat)
      case atStart => exact ⟨0, Nat.zero_le _, rfl, HT2⟩
      case round =>
        clear HT2 g1 g1' g2 g2'
        obtain ⟨j, hj, rfl, hu⟩ := hrel
        by_cases hjl : j < r.length
        · obtain ⟨ib, io, rfl, _, hib, ci, _⟩ := HR.out.int hjl
          have hpr : j = 0 ∨ ∃ q, 0 < j ∧ w0.cell? ⟨ib, io + (j - 1), none⟩ = some (.int .i64 q) ∧ intAhead r j = some q := by
            rcases Nat.eq_zero_or_pos j with h | h
            · exact .inl h
            · right
              have hk1 : j - 1 < r.length := by omega
              obtain ⟨b', o', e, _, _, cq, _⟩ := HR.out.int hk1
              injection e with e; injection e with e1 e2; subst e1 e2
              exact ⟨_, h, cq, by unfold intAhead; rw [if_neg (by omega), List.getElem?_eq_getElem hk1]⟩
          have HU : Hid (shpMay x = _) := hu.out.trans (congrArg (· && _) (rowMay_step r j hjl))
          clear hu
          generalize r[j] = y at *
          cases e1 : decide (y < 1) with
          | true =>
            have hfin : Hid (shpMay x = false) := by unfold Hid; rw [HU.out]; simp at e1; rw [decide_eq_false (p := 1 ≤ y) (by omega)]; simp
            go_wp2
            go_ret
            exact ⟨by rw [hfin.out]; rfl, b0.out⟩
          | false =>
          cases e2 : decide (200 < y) with
          | true =>
            have hfin : Hid (shpMay x = false) := by unfold Hid; rw [HU.out]; simp at e2; rw [decide_eq_false (p := y ≤ 200) (by omega)]; simp
            go_wp2
            go_ret
            exact ⟨by rw [hfin.out]; rfl, b0.out⟩
          | false =>
          have HV : Hid (shpMay x = (leI (intAhead r j) y && (rowMay (intAhead r (j + 1)) (r.drop (j + 1)) && (x.sizes.drop (k + 1)).all sizesMay))) := by
            unfold Hid; rw [HU.out]; simp at e1 e2; rw [decide_eq_true (p := 1 ≤ y) (by omega), decide_eq_true (p := y ≤ 200) e2]; simp [Bool.and_assoc]
          clear HU
          rcases hpr with hj0 | ⟨q, hj0, cq, hq⟩
          · have HW : Hid (shpMay x = (rowMay (intAhead r (j + 1)) (r.drop (j + 1)) && (x.sizes.drop (k + 1)).all sizesMay)) := by
              unfold Hid; rw [HV.out]; simp [intAhead, hj0, leI]
            have d1 : decide (0 < j) = false := by simp [hj0]
            have d2 : decide (0 < (j : Int)) = false := by simp [hj0]
            clear HV hj0
            go_wp2
            go_round
            case rel => exact ⟨j + 1, by omega, by go_num, HW⟩
            case measure => simp [intOf]; omega
          · rw [hq] at HV
            cases e3 : decide (q < y) with
            | true =>
              have hfin : Hid (shpMay x = false) := by unfold Hid; rw [HV.out]; simp at e3; show (decide (y ≤ q) && _) = _; rw [decide_eq_false (p := y ≤ q) (by omega)]; rfl
              clear HV hq
              go_wp2
              go_ret
              exact ⟨by rw [hfin.out]; rfl, b0.out⟩
            | false =>
              have HW : Hid (shpMay x = (rowMay (intAhead r (j + 1)) (r.drop (j + 1)) && (x.sizes.drop (k + 1)).all sizesMay)) := by
                unfold Hid; rw [HV.out]; simp at e3; show (decide (y ≤ q) && _) = _; rw [decide_eq_true (p := y ≤ q) e3, Bool.true_and]
              clear HV hq
              go_wp2
              go_round
              case rel => exact ⟨j + 1, by omega, by go_num, HW⟩
              case measure => simp [intOf]; omega
        · have HW : Hid (shpMay x = (x.sizes.drop (k + 1)).all sizesMay) := by
            unfold Hid; rw [hu.out, List.drop_eq_nil_of_le (show r.length ≤ j by omega)]; cases intAhead r j <;> rfl
          clear hu
          go_wp2
          go_round
          case rel => exact ⟨k + 1, by omega, by go_num, HW⟩
          case measure => simp [intOf]; omega
    · have hfin : Hid (shpMay x = true) := by unfold Hid; rw [ht.out, List.drop_eq_nil_of_le (by omega)]; rfl
      go_wp2
      go_ret
      exact ⟨by rw [hfin.out]; rfl, b0.out⟩
end Go.Proofs.Ytgnpihhakogeeaa
