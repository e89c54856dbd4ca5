/- Layer 24, the program: agg.May, node.Last, cell, list, Check. -/
import Derived.Test.YtgnpihhakogeeaaP24
import Derived.Test.YtgnpihhakogeeaaEq24
import Derived.Outline
namespace Go.Proofs.Ytgnpihhakogeeaa
open Go.RowKit

/-- returns that value; what was there stays -/
def RetV (w : World) (v : Value) (e : Ending) (w' : World) : Prop := e = .returned v ∧ Below w.heap.size w w'

set_option maxHeartbeats 1000000 in
set_option maxRecDepth 100000 in
theorem pmay_any (m : Int) (a : Ag) (w : World) : Calls Try.prog 110 #[.int .i64 m, .agg a.arr] w (RetV w (.bool (aggMay m a))) := by
  unfold Ag.arr
  by_cases hm : 0 ≤ m ∧ m ≤ 3
  · obtain ⟨h0, h1⟩ := hm
    have hd1 : decide (m < 0) = false := by simp; omega
    have hd2 : decide (3 < m) = false := by simp; omega
    by_cases hn : a.n < 1
    · go_enter Try.func110, Try.ntmps110
      go_wp2
      go_ret
      refine ⟨?_, (Below.refl _ _).alloc (Nat.le_refl _) _⟩
      unfold aggMay
      rw [decide_eq_false (p := 1 ≤ a.n) (by omega)]
      simp
    · have hn2 : decide (a.n < 1) = false := by simp; omega
      have ht : Hid (aggMay m a = tailMay 0 m a) := tail0 h0 h1 (by omega)
      clear hn
      go_enter Try.func110, Try.ntmps110
      go_wp2
      have hb1 : Hid (Below w.heap.size w (w.alloc (.cells a.arr 41))) := (Below.refl _ _).alloc (Nat.le_refl _) _
      have hb2 : Hid ((w.alloc (.cells a.arr 41)).cell? ⟨w.heap.size, 0, none⟩ = some (.int .i64 a.n)) := by unfold Hid; simp [go_sem]
      have hb3 : w.heap.size < (w.alloc (.cells a.arr 41)).heap.size := by simp
      unfold Ag.arr at hb1 hb2 hb3
      go_loopw [20] (fun i wr => ∃ k : Nat, k ≤ 3 ∧ i = .int .i64 k ∧ Hid (aggMay m a = tailMay k m a) ∧ Hid (Below w.heap.size w wr) ∧ wr.cell? ⟨w.heap.size, 0, none⟩ = some (.int .i64 a.n) ∧ w.heap.size < wr.heap.size) (fun i _ => 3 - (intOf i).toNat)
      case atStart => exact ⟨0, by omega, rfl, ht, hb1, hb2.out, hb3⟩
      case round =>
        clear ht hb1 hb2 hb3
        obtain ⟨k, hk, rfl, ht, hb, hc, hs⟩ := hrel
        by_cases hlt : k < 3
        · have hx := fun W => idx_part W a k hlt
          have hst := tail_step hlt m a
          generalize a.prt k = p at hx hst
          have HT : Hid (aggMay m a = (prtMay k m a.n p.s p.l p.h && tailMay (k + 1) m a)) := ht.out.trans hst
          clear hst ht
          have hz := fun W => eq_part 9998 W p.s p.l p.h 0 0 0
          by_cases hmk : m ≤ k
          · have hmk2 : decide ((k : Int) < m) = false := by simp; omega
            by_cases h0 : p.s = 0 ∧ p.l = 0 ∧ p.h = 0
            · rw [decide_eq_true h0] at hz
              have hfin : Hid (aggMay m a = tailMay (k + 1) m a) := by unfold Hid; rw [HT.out]; unfold prtMay; rw [if_pos hmk, decide_eq_true h0, Bool.true_and]
              clear h0
              go_wp2
              go_roundw
              case rel => exact ⟨k + 1, by omega, by go_num, hfin, hb.out.alloc (Nat.le_of_lt hs) _, (World.cell?_alloc_lt _ _ _ hs).trans hc, by simp; omega⟩
              case measure => simp [intOf]; omega
            · rw [decide_eq_false h0] at hz
              have hfin : Hid (aggMay m a = false) := by unfold Hid; rw [HT.out]; unfold prtMay; rw [if_pos hmk, decide_eq_false h0, Bool.false_and]
              clear h0
              go_wp2
              go_ret
              exact ⟨by rw [hfin.out]; rfl, hb.out.alloc (Nat.le_of_lt hs) _⟩
          · have hmk2 : decide (m ≤ (k : Int)) = false := by simp; omega
            have hmk3 : (k : Int) < m := by omega
            clear hz
            by_cases hlh : p.h < p.l
            · have hfin : Hid (aggMay m a = false) := by unfold Hid; rw [HT.out]; unfold prtMay; rw [if_neg hmk, decide_eq_false (p := p.l ≤ p.h) (by omega)]; rfl
              clear hmk
              go_wp2
              go_ret
              exact ⟨by rw [hfin.out]; rfl, hb.out.alloc (Nat.le_of_lt hs) _⟩
            · have hlh2 : decide (p.h < p.l) = false := by simp; omega
              by_cases hn1 : a.n = 1
              · have b1 : (a.n == 1) = true := by simpa using hn1
                by_cases hsl : p.s = p.l
                · have b2 : (p.s != p.l) = false := by simpa using hsl
                  by_cases hsh : p.s = p.h
                  · have b3 : (p.s != p.h) = false := by simpa using hsh
                    have hfin : Hid (aggMay m a = tailMay (k + 1) m a) := by unfold Hid; rw [HT.out]; unfold prtMay; rw [if_neg hmk, decide_eq_true (p := p.l ≤ p.h) (by omega), decide_eq_false (p := p.s ≠ p.l) (by simpa using hsl), decide_eq_false (p := p.s ≠ p.h) (by simpa using hsh)]; simp
                    clear hn1 hsl hsh hmk hlh
                    go_wp2
                    go_roundw
                    case rel => exact ⟨k + 1, by omega, by go_num, hfin, hb.out.alloc (Nat.le_of_lt hs) _, (World.cell?_alloc_lt _ _ _ hs).trans hc, by simp; omega⟩
                    case measure => simp [intOf]; omega
                  · have b3 : (p.s != p.h) = true := by simpa using hsh
                    have hfin : Hid (aggMay m a = false) := by unfold Hid; rw [HT.out]; unfold prtMay; rw [if_neg hmk, decide_eq_true hn1, decide_eq_true (p := p.s ≠ p.h) hsh]; simp
                    clear hn1 hsl hsh hmk hlh
                    go_wp2
                    go_ret
                    exact ⟨by rw [hfin.out]; rfl, hb.out.alloc (Nat.le_of_lt hs) _⟩
                · have b2 : (p.s != p.l) = true := by simpa using hsl
                  have hfin : Hid (aggMay m a = false) := by unfold Hid; rw [HT.out]; unfold prtMay; rw [if_neg hmk, decide_eq_true hn1, decide_eq_true (p := p.s ≠ p.l) hsl]; simp
                  clear hn1 hsl hmk hlh
                  go_wp2
                  go_ret
                  exact ⟨by rw [hfin.out]; rfl, hb.out.alloc (Nat.le_of_lt hs) _⟩
              · have b1 : (a.n == 1) = false := by simpa using hn1
                have hfin : Hid (aggMay m a = tailMay (k + 1) m a) := by unfold Hid; rw [HT.out]; unfold prtMay; rw [if_neg hmk, decide_eq_true (p := p.l ≤ p.h) (by omega), decide_eq_false hn1]; simp
                clear hn1 hmk hlh
                go_wp2
                go_roundw
                case rel => exact ⟨k + 1, by omega, by go_num, hfin, hb.out.alloc (Nat.le_of_lt hs) _, (World.cell?_alloc_lt _ _ _ hs).trans hc, by simp; omega⟩
                case measure => simp [intOf]; omega
        · have hfin : Hid (aggMay m a = true) := by unfold Hid; rw [ht.out]; obtain rfl : k = 3 := by omega
                                                    rfl
          go_wp2
          go_ret
          exact ⟨by rw [hfin.out]; rfl, hb.out⟩
  · have hfin : Hid (aggMay m a = false) := by
      unfold Hid aggMay
      by_cases h0 : 0 ≤ m
      · rw [decide_eq_false (p := m ≤ 3) (by omega)]; simp
      · rw [decide_eq_false h0]; simp
    by_cases h0 : m < 0
    · clear hm
      go_enter Try.func110, Try.ntmps110
      go_wp2
      go_ret
      exact ⟨by rw [hfin.out]; rfl, (Below.refl _ _).alloc (Nat.le_refl _) _⟩
    · have h1 : 3 < m := by omega
      have h2 : decide (m < 0) = false := by simp; omega
      clear hm h0
      go_enter Try.func110, Try.ntmps110
      go_wp2
      go_ret
      exact ⟨by rw [hfin.out]; rfl, (Below.refl _ _).alloc (Nat.le_refl _) _⟩
end Go.Proofs.Ytgnpihhakogeeaa
