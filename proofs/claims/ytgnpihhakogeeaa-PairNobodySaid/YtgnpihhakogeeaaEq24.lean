/- Equality of aggregates and of cells, as the model reckons it. -/
import Derived.Test.YtgnpihhakogeeaaP24
namespace Go.Proofs.Ytgnpihhakogeeaa
set_option linter.unusedSimpArgs false
set_option linter.unusedVariables false
open Go.RowKit

set_option maxHeartbeats 1000000 in
set_option maxRecDepth 100000 in
theorem eq_part (d : Nat) (w : World) (a0 a1 a2 b0 b1 b2 : Int) : (Op.equalIn (d + 2) 38 (.agg #[.int .i64 a0, .int .i64 a1, .int .i64 a2]) (.agg #[.int .i64 b0, .int .i64 b1, .int .i64 b2])).run Try.prog w =
    .ok (decide (a0 = b0 ∧ a1 = b1 ∧ a2 = b2)) w := by
  rw [run_equalIn_struct w (d + 1) _ _ _ (by kernel_rfl) (by kernel_rfl)]
  by_cases h0 : a0 = b0 <;> by_cases h1 : a1 = b1 <;> by_cases h2 : a2 = b2 <;> simp [go_sem, h0, h1, h2]
set_option maxHeartbeats 1000000 in
set_option maxRecDepth 100000 in
theorem eq_parts (d : Nat) (w : World) (a0 a1 a2 a3 a4 a5 a6 a7 a8 b0 b1 b2 b3 b4 b5 b6 b7 b8 : Int) : (Op.equalIn (d + 3) 39 (.agg #[.int .i64 a0, .int .i64 a1, .int .i64 a2, .int .i64 a3, .int .i64 a4, .int .i64 a5, .int .i64 a6, .int .i64 a7, .int .i64 a8]) (.agg #[.int .i64 b0, .int .i64 b1, .int .i64 b2, .int .i64 b3, .int .i64 b4, .int .i64 b5, .int .i64 b6, .int .i64 b7, .int .i64 b8])).run Try.prog w =
    .ok (decide (a0 = b0 ∧ a1 = b1 ∧ a2 = b2) && (decide (a3 = b3 ∧ a4 = b4 ∧ a5 = b5) && decide (a6 = b6 ∧ a7 = b7 ∧ a8 = b8))) w := by
  unfold Op.equalIn
  by_cases h0 : a0 = b0 ∧ a1 = b1 ∧ a2 = b2
  · by_cases h1 : a3 = b3 ∧ a4 = b4 ∧ a5 = b5
    · by_cases h2 : a6 = b6 ∧ a7 = b7 ∧ a8 = b8
      · obtain ⟨rfl, rfl, rfl⟩ := h0
        obtain ⟨rfl, rfl, rfl⟩ := h1
        obtain ⟨rfl, rfl, rfl⟩ := h2
        simp [run_underlying Try.underlying39, go_sem, List.range'_succ]
      · obtain ⟨rfl, rfl, rfl⟩ := h0
        obtain ⟨rfl, rfl, rfl⟩ := h1
        have e2 := fun w => eq_part d w a6 a7 a8 b6 b7 b8
        rw [decide_eq_false h2] at e2 ⊢
        simp [run_underlying Try.underlying39, part, isAgg, go_sem, List.range'_succ, eq_part, e2, h2]
        exact fun h1 h3 h4 => h2 ⟨h1, h3, h4⟩
    · obtain ⟨rfl, rfl, rfl⟩ := h0
      have e1 := fun w => eq_part d w a3 a4 a5 b3 b4 b5
      rw [decide_eq_false h1] at e1 ⊢
      simp [run_underlying Try.underlying39, go_sem, List.range'_succ, e1]
      exact fun h3 h4 h5 => absurd ⟨h3, h4, h5⟩ h1
  · have e0 := fun w => eq_part d w a0 a1 a2 b0 b1 b2
    rw [decide_eq_false h0] at e0 ⊢
    simp [run_underlying Try.underlying39, go_sem, List.range'_succ, e0]
theorem ag_eq (a b : Ag) : (a = b) = (a.n = b.n ∧ (a.s0 = b.s0 ∧ a.l0 = b.l0 ∧ a.h0 = b.h0) ∧ (a.s1 = b.s1 ∧ a.l1 = b.l1 ∧ a.h1 = b.h1) ∧ (a.s2 = b.s2 ∧ a.l2 = b.l2 ∧ a.h2 = b.h2)) := by
  cases a; cases b; simp only [Ag.mk.injEq, and_assoc]
set_option maxHeartbeats 1000000 in
set_option maxRecDepth 100000 in
theorem eq_ag (d : Nat) (w : World) (a b : Ag) : (Op.equalIn (d + 4) 41 (.agg a.arr) (.agg b.arr)).run Try.prog w = .ok (decide (a = b)) w := by
  rw [run_equalIn_struct w (d + 3) _ _ _ (by kernel_rfl) (by kernel_rfl)]
  have e0 := fun w => eq_parts d w a.s0 a.l0 a.h0 a.s1 a.l1 a.h1 a.s2 a.l2 a.h2 b.s0 b.l0 b.h0 b.s1 b.l1 b.h1 b.s2 b.l2 b.h2
  simp only [ag_eq]
  rw [← Bool.decide_and, ← Bool.decide_and] at e0
  cases h0 : decide ((a.s0 = b.s0 ∧ a.l0 = b.l0 ∧ a.h0 = b.h0) ∧ (a.s1 = b.s1 ∧ a.l1 = b.l1 ∧ a.h1 = b.h1) ∧ (a.s2 = b.s2 ∧ a.l2 = b.l2 ∧ a.h2 = b.h2)) <;> simp only [h0] at e0 <;>
  by_cases h1 : a.n = b.n <;> simp [go_sem, e0, h1] <;> simpa using h0
theorem cel_eq (a b : Cel) : (a = b) = (a.key = b.key ∧ a.child = b.child ∧ a.agg = b.agg) := by
  cases a; cases b; simp only [Cel.mk.injEq]
set_option maxHeartbeats 1000000 in
set_option maxRecDepth 100000 in
theorem eq_cel (d : Nat) (w : World) (a b : Cel) : (Op.equalIn (d + 5) 43 (.agg a.arr) (.agg b.arr)).run Try.prog w = .ok (decide (a = b)) w := by
  rw [run_equalIn_struct w (d + 4) _ _ _ (by kernel_rfl) (by kernel_rfl)]
  have e0 := fun w => eq_ag d w a.agg b.agg
  simp only [cel_eq]
  by_cases h1 : a.key = b.key
  · by_cases h2 : a.child = b.child
    · cases h0 : decide (a.agg = b.agg) <;> simp only [h0] at e0 <;> simp [go_sem, e0, h1, h2] <;> simpa using h0
    · simp [go_sem, h1, h2]
  · simp [go_sem, h1]
theorem eq_ag0 (d : Nat) (w : World) (a : Ag) : (Op.equalIn (d + 4) 41 (.agg a.arr) (.agg #[.int .i64 0, .int .i64 0, .int .i64 0, .int .i64 0, .int .i64 0, .int .i64 0, .int .i64 0, .int .i64 0, .int .i64 0, .int .i64 0])).run Try.prog w = .ok (decide (a = ag0)) w := eq_ag d w a ag0
theorem idx_part0 (w : World) (a0 a1 a2 a3 a4 a5 a6 a7 a8 : Int) : (Instr.index 39 (.agg #[.int .i64 a0, .int .i64 a1, .int .i64 a2, .int .i64 a3, .int .i64 a4, .int .i64 a5, .int .i64 a6, .int .i64 a7, .int .i64 a8]) (.int .i64 0)).run Try.prog w = .ok (.agg #[.int .i64 a0, .int .i64 a1, .int .i64 a2]) w := by
  simp [Instr.index, run_underlying Try.underlying39, go_sem]
theorem idx_part1 (w : World) (a0 a1 a2 a3 a4 a5 a6 a7 a8 : Int) : (Instr.index 39 (.agg #[.int .i64 a0, .int .i64 a1, .int .i64 a2, .int .i64 a3, .int .i64 a4, .int .i64 a5, .int .i64 a6, .int .i64 a7, .int .i64 a8]) (.int .i64 1)).run Try.prog w = .ok (.agg #[.int .i64 a3, .int .i64 a4, .int .i64 a5]) w := by
  simp [Instr.index, run_underlying Try.underlying39, go_sem]
theorem idx_part2 (w : World) (a0 a1 a2 a3 a4 a5 a6 a7 a8 : Int) : (Instr.index 39 (.agg #[.int .i64 a0, .int .i64 a1, .int .i64 a2, .int .i64 a3, .int .i64 a4, .int .i64 a5, .int .i64 a6, .int .i64 a7, .int .i64 a8]) (.int .i64 2)).run Try.prog w = .ok (.agg #[.int .i64 a6, .int .i64 a7, .int .i64 a8]) w := by
  simp [Instr.index, run_underlying Try.underlying39, go_sem]
theorem idx_part (w : World) (a : Ag) (k : Nat) (hk : k < 3) : (Instr.index 39 (.agg #[.int .i64 a.s0, .int .i64 a.l0, .int .i64 a.h0, .int .i64 a.s1, .int .i64 a.l1, .int .i64 a.h1, .int .i64 a.s2, .int .i64 a.l2, .int .i64 a.h2]) (.int .i64 k)).run Try.prog w = .ok (.agg #[.int .i64 (a.prt k).s, .int .i64 (a.prt k).l, .int .i64 (a.prt k).h]) w := by
  obtain rfl | rfl | rfl : k = 0 ∨ k = 1 ∨ k = 2 := by omega
  · exact idx_part0 ..
  · exact idx_part1 ..
  · exact idx_part2 ..
end Go.Proofs.Ytgnpihhakogeeaa
