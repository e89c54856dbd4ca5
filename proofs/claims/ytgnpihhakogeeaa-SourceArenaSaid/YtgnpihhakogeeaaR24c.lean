/- Layer 24, the program: node.list. -/
import Derived.Test.YtgnpihhakogeeaaR24b
namespace Go.Proofs.Ytgnpihhakogeeaa
open Go.RowKit

set_option maxHeartbeats 2000000 in
set_option maxRecDepth 100000 in
theorem list_any (A : Option Addr) (c : Nat) (x : Shp) (dim size : Int) (B : Option Addr) (l : List Cel) (d : Nat) (w : World) (F : Nat → Prop) (hn : x.sizes.length ≤ maxLen) (hl : l.length ≤ maxLen) (he : ElemsAt w F B l) (hF : ∀ b, F b → b < w.heap.size) :
    Calls Try.prog 99 #[.agg #[.slice A x.sizes.length c, .int .i64 x.measures], .int .i64 dim, .int .i64 size, .slice B l.length d] w (RetV w (.int .i64 (listErr0 x dim size l))) := by
  have HE := Lib.hid he
  have HF := Lib.hid hF
  have HN := Lib.hid hn
  clear he hF hn
  unfold maxLen at hl
  by_cases h0 : l.length = 0
  · have hfin : Hid (listErr0 x dim size l = 2) := by unfold Hid listErr0; rw [if_pos h0]
    have hd : ((l.length : Int) == 0) = true := by simp [h0]
    clear h0
    go_enter Try.func99, Try.ntmps99
    go_wp2
    go_ret
    exact ⟨by rw [hfin.out]; rfl, below1 _ _⟩
  · have hfin : Hid (listErr0 x dim size l = listErr x dim size (keyAhead l 0) (l.drop 0)) := by unfold Hid listErr0; rw [if_neg h0]; rfl
    have hd : ((l.length : Int) == 0) = false := by simp; intro h; exact h0 (by simp [h])
    clear h0
    have b0 : Hid (Below w.heap.size w (w.alloc (.cells #[.slice A x.sizes.length c, .int .i64 x.measures] 24))) := below1 _ _
    have s0 : Hid (Blk (w.alloc (.cells #[.slice A x.sizes.length c, .int .i64 x.measures] 24)) w.heap.size 24 [.slice A x.sizes.length c, .int .i64 x.measures]) := Blk.new _ _ _
    go_enter Try.func99, Try.ntmps99
    go_wp2_with fail
    generalize w.alloc (.cells #[.slice A x.sizes.length c, .int .i64 x.measures] 24) = w0 at b0 s0 ⊢
    have HE0 := Lib.hid (HE.out.below b0.out HF.out)
    have c0 : w0.cell? ⟨w.heap.size, 0, none⟩ = some (.slice A x.sizes.length c) := by rw [s0.out.cell]; rfl
    have c1 : w0.cell? ⟨w.heap.size, 1, none⟩ = some (.int .i64 x.measures) := by rw [s0.out.cell]; rfl
    have hlt0 : w.heap.size < w0.heap.size := s0.out.lt
    have b00 : Hid (Below w0.heap.size w0 w0) := Below.refl _ _
    go_loopw [16] (fun i wr => ∃ k : Nat, k ≤ l.length ∧ i = .int .i64 k ∧ Hid (listErr0 x dim size l = listErr x dim size (keyAhead l k) (l.drop k)) ∧ Hid (Below w0.heap.size w0 wr)) (fun i _ => l.length - (intOf i).toNat)
    case atStart => exact ⟨0, Nat.zero_le _, rfl, hfin, b00⟩
    case round =>
      obtain ⟨k, hk, rfl, ht, hb⟩ := hrel
      obtain ⟨hcr, _⟩ := bcell hb.out
      have hzr := hb.out.size
      by_cases hlt : k < l.length
      · obtain ⟨b, o, rfl, _, hbl, ⟨ca0, ca1, ca2, ca3, ca4, ca5, ca6, ca7, ca8, ca9, ca10, ca11⟩, _⟩ := HE0.out.cel hlt
        have hst := listErr_step x dim size l k hlt
        have HT : Hid (listErr0 x dim size l = _) := ht.out.trans hst
        have hpr : k = 0 ∨ ∃ q, 0 < k ∧ w0.cell? ⟨b, o + (k - 1) * 12, none⟩ = some (.int .i64 q) ∧ keyAhead l k = some q := by
          rcases Nat.eq_zero_or_pos k with h | h
          · exact .inl h
          · right
            have hk1 : k - 1 < l.length := by omega
            obtain ⟨b', o', e, _, _, ⟨q0, _⟩, _⟩ := HE0.out.cel hk1
            injection e with e; injection e with e1 e2; subst e1 e2
            exact ⟨_, h, q0, by unfold keyAhead; rw [if_neg (by omega), List.getElem?_eq_getElem hk1]; rfl⟩
        clear hst ht hfin
        generalize l[k] = y at *
        have hce := fun W => Lib.hid (cell_any A c x dim y W HN.out)
        have HCE := Lib.hid hce
        clear hce
        have hbb : b < wr.heap.size := by omega
        have hwz : w.heap.size < wr.heap.size := by omega
        cases h1 : decide (y.key < 0) with
        | true =>
          go_wp2
          go_ret
          exact ⟨by rw [HT.out, if_pos (.inl (by simpa using h1))]; rfl, bon b0.out (bon hb.out (below1 _ _))⟩
        | false =>
          cases h2 : decide (size ≤ y.key) with
          | true =>
            go_wp2
            go_ret
            exact ⟨by rw [HT.out, if_pos (.inr (by simpa using h2))]; rfl, bon b0.out (bon hb.out (below1 _ _))⟩
          | false =>
            have HT2 : Hid (listErr0 x dim size l = _) := HT.out.trans (if_neg (by simp at h1 h2; omega))
            clear HT
            rcases hpr with hk0 | ⟨q, hk0, hq, hka⟩
            · have HT3 : Hid (listErr0 x dim size l = _) := HT2.out.trans (if_neg (by simp [keyAhead, overK, hk0]))
              clear HT2
              have hg : decide (0 < k) = false := by simp [hk0]
              have hg2 : decide (0 < (k : Int)) = false := by simp [hk0]
              clear hk0
              cases h4 : cellOk x dim y with
              | false =>
                rw [h4] at HCE HT3
                go_wp2
                go_quiet (fail)
                go_wp2_with (go_at_call 100; refine ((HCE.out _).out).mono ?_; rintro e w1 h1; obtain ⟨rfl, hb1, hz1, hc1, hf1⟩ := h1.imp; clear h1)
                go_ret
                exact ⟨by rw [HT3.out]; rfl, bon b0.out (bon hb.out (bon (below_drewN (below1 _ _) _) hb1))⟩
              | true =>
                rw [h4] at HCE HT3
                go_wp2
                go_quiet (fail)
                go_wp2_with (go_at_call 100; refine ((HCE.out _).out).mono ?_; rintro e w1 h1; obtain ⟨rfl, hb1, hz1, hc1, hf1⟩ := h1.imp; clear h1)
                go_roundw
                case rel => exact ⟨k + 1, by omega, by go_num, HT3.out, bon hb.out (bon (below_drewN (below1 _ _) _) hb1)⟩
                case measure => simp [intOf]; omega
            · cases h3 : decide (y.key ≤ q) with
              | true =>
                have HT3 : Hid (listErr0 x dim size l = 4) := HT2.out.trans (if_pos (by rw [hka]; exact h3))
                clear HT2 hka
                go_wp2
                go_quiet (fail)
                go_wp2
                go_ret
                exact ⟨by rw [HT3.out]; rfl, bon b0.out (bon hb.out (below_drewN (below1 _ _) _))⟩
              | false =>
                have HT3 : Hid (listErr0 x dim size l = _) := HT2.out.trans (if_neg (by rw [hka]; simpa [overK] using h3))
                clear HT2 hka
                cases h4 : cellOk x dim y with
                | false =>
                  rw [h4] at HCE HT3
                  go_wp2
                  go_quiet (fail)
                  go_wp2_with (go_at_call 100; refine ((HCE.out _).out).mono ?_; rintro e w1 h1; obtain ⟨rfl, hb1, hz1, hc1, hf1⟩ := h1.imp; clear h1)
                  go_ret
                  exact ⟨by rw [HT3.out]; rfl, bon b0.out (bon hb.out (bon (below_drewN (below1 _ _) _) hb1))⟩
                | true =>
                  rw [h4] at HCE HT3
                  go_wp2
                  go_quiet (fail)
                  go_wp2_with (go_at_call 100; refine ((HCE.out _).out).mono ?_; rintro e w1 h1; obtain ⟨rfl, hb1, hz1, hc1, hf1⟩ := h1.imp; clear h1)
                  go_roundw
                  case rel => exact ⟨k + 1, by omega, by go_num, HT3.out, bon hb.out (bon (below_drewN (below1 _ _) _) hb1)⟩
                  case measure => simp [intOf]; omega
      · have hfin2 : Hid (listErr0 x dim size l = 0) := by unfold Hid; rw [ht.out, List.drop_eq_nil_of_le (by omega)]; cases keyAhead l k <;> rfl
        clear hfin ht
        go_wp2
        go_ret
        exact ⟨by rw [hfin2.out]; rfl, bon b0.out hb.out⟩
end Go.Proofs.Ytgnpihhakogeeaa
