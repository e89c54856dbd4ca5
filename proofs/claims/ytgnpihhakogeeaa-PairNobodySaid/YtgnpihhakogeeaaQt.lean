/- Closed runs of this seat: all functions. -/
import Derived.Test.YtgnpihhakogeeaaQr
import Derived.Test.YtgnpihhakogeeaaQ9a
import Derived.Test.YtgnpihhakogeeaaQ9b
import Derived.Test.YtgnpihhakogeeaaQ9c
namespace Go.Proofs.Ytgnpihhakogeeaa
set_option linter.unusedSimpArgs false
set_option linter.unusedVariables false
open Go.RowKit

def L9 : List (FuncId × ACode × List ARes × Nat) := [(3, c3_0, [(.tmp 6)], 95), (4, c4_0, [(.tmp 8)], 127), (5, c5_0, [(.tmp 4)], 70), (6, c6_0, [(.tmp 6)], 130), (7, c7_0, [(.tmp 8)], 169), (9, c9_0, [(.tmp 8)], 135), (10, c10_0, [(.tmp 6)], 64), (11, c11_0, [(.tmp 2)], 26), (12, c12_0, [(.tmp 4)], 60), (16, c16_0, [(.cell 14 true 4), (.tmp 5)], 34), (17, c17_0, [(.tmp 4)], 75), (20, c20_0, [(.tmp 0)], 35), (21, c21_0, [(.tmp 4)], 28), (22, c22_0, [(.tmp 4)], 17), (23, c23_0, [(.tmp 4)], 39), (24, c24_0, [(.tmp 4)], 27), (25, c25_0, [(.tmp 4)], 47), (26, c26_0, [(.tmp 4)], 62), (27, c27_0, [(.tmp 6)], 64), (28, c28_0, [(.tmp 6)], 51), (29, c29_0, [(.tmp 0)], 31), (30, c30_0, [(.tmp 4), (.tmp 5)], 60), (31, c31_0, [(.tmp 4)], 84), (32, c32_0, [(.tmp 2)], 22), (34, c34_0, [(.tmp 6)], 19), (39, c39_0, [(.tmp 10)], 70), (40, c40_0, [(.tmp 4)], 50), (42, c42_0, [(.tmp 0)], 58), (43, c43_0, [(.tmp 6), (.tmp 7)], 82), (44, c44_0, [(.tmp 8), (.tmp 9)], 40), (46, c46_0, [(.tmp 2)], 76), (50, c50_0, [(.tmp 8)], 56), (51, c51_0, [(.tmp 4)], 17), (53, c53_0, [(.tmp 6)], 32), (54, c54_0, [(.tmp 4)], 26), (57, c57_0, [(.tmp 4)], 80), (58, c58_0, [(.tmp 2)], 22), (59, c59_0, [(.tmp 8)], 103), (60, c60_0, [(.cell 14 true 6)], 94), (61, c61_0, [(.tmp 3)], 7), (62, c62_0, [(.cell 14 true 6)], 51), (63, c63_0, [(.tmp 4)], 35), (64, c64_0, [(.tmp 8)], 48), (68, c68_0, [(.tmp 4)], 49), (70, c70_0, [(.tmp 4)], 17), (71, c71_0, [(.tmp 4)], 133), (72, c72_0, [(.cell 3 true 14), (.tmp 15)], 209), (77, c77_0, [(.tmp 4)], 138), (78, c78_0, [(.tmp 6)], 32), (79, c79_0, [(.tmp 4)], 8), (80, c80_0, [(.tmp 4)], 26), (81, c81_0, [(.tmp 4)], 26), (82, c82_0, [(.tmp 6)], 32), (86, c86_0, [(.tmp 8)], 13), (87, c87_0, [(.tmp 4)], 10), (88, c88_0, [(.tmp 4)], 17), (91, c91_0, [(.cell 14 true 4)], 17), (92, c92_0, [(.tmp 8)], 102), (93, c93_0, [(.tmp 4)], 15), (94, c94_0, [(.cell 12 true 10)], 42), (95, c95_0, [(.cell 14 true 4)], 12), (96, c96_0, [(.cell 12 true 4)], 20), (97, c97_0, [(.tmp 4)], 15), (98, c98_0, [(.cell 3 true 18), (.cell 12 true 19)], 67), (102, c102_0, [(.tmp 6)], 32), (104, c104_0, [(.tmp 6)], 32), (105, c105_0, [(.tmp 6)], 29), (107, c107_0, [(.tmp 2)], 9), (108, c108_0, [(.cell 10 true 4), (.tmp 5)], 55), (109, c109_0, [(.cell 10 true 4), (.tmp 5)], 82), (111, c111_0, [(.tmp 4)], 73), (113, c113_0, [(.tmp 4), (.tmp 5)], 27), (114, c114_0, [(.cell 3 true 4), (.tmp 5)], 29)]
def orT {α : Type} (a b : Option α) : Option α := match a with
  | some x => some x
  | none => b
theorem orT_ok {α : Type} {a b : Option α} {x : α} (h : orT a b = some x) : a = some x ∨ b = some x := by
  cases a with
  | some y => exact .inl h
  | none => exact .inr h
def T9 : FuncId → Option (ACode × List ARes × Nat) := fun f => orT (T8 f) (tabGet L9 f)
theorem hT9 : ∀ f x, T9 f = some x → cFn Try.prog eqT f = some x := fun f x h => (orT_ok h).elim (hT8 f x) fun h => tabGet_ok (Pr := fun f x => cFn Try.prog eqT f = some x) (l := L9) ⟨cf3, cf4, cf5, cf6, cf7, cf9, cf10, cf11, cf12, cf16, cf17, cf20, cf21, cf22, cf23, cf24, cf25, cf26, cf27, cf28, cf29, cf30, cf31, cf32, cf34, cf39, cf40, cf42, cf43, cf44, cf46, cf50, cf51, cf53, cf54, cf57, cf58, cf59, cf60, cf61, cf62, cf63, cf64, cf68, cf70, cf71, cf72, cf77, cf78, cf79, cf80, cf81, cf82, cf86, cf87, cf88, cf91, cf92, cf93, cf94, cf95, cf96, cf97, cf98, cf102, cf104, cf105, cf107, cf108, cf109, cf111, cf113, cf114, trivial⟩ h
theorem run_true9 {f : FuncId} {vs : List Value} (h : runF X8 T9 60 40 f (vs.map .sc) isT [] = true) : Sound Try.prog f (vs.map .sc) AHeap.emp fun r _ => r = .sc (.bool true) := by
  have := runF_ok hE hX8 hT9 60 40 f _ _ _ h
  rw [CH.up_nil] at this
  exact this.mono fun r H' ⟨C', _, h2⟩ => isT_ok h2
theorem run_aw30 : runF X8 T9 60 40 42 [] isT [] = true := by kernel_rfl
theorem awake30 (H : AHeap) : Sound Try.prog 42 [] H (Pure H (.b true)) := @Sound.closed Try.prog 42 [] _ _ (run_true9 (vs := []) run_aw30) (fun _ _ h => h) H
end Go.Proofs.Ytgnpihhakogeeaa
