/- Layer 11: arguments as they came in. -/
import Derived.Test.YtedjaahidncokabShC
namespace Go.Proofs.Ytedjaahidncokab
open Go.RowKit
def actSh : Sh := .pair (.int .i64) (.pair (.int .i64) (.pair (.int .i64) (.pair .str .unit)))
theorem fits_act : actSh.Fits Try.prog (.inl 40) :=
  ⟨_, _, Try.underlying40, by kernel_rfl, rfl, by kernel_rfl, Try.underlying3, _, _, rfl, rfl, by kernel_rfl, Try.underlying3, _, _, rfl, rfl, by kernel_rfl, Try.underlying3, _, _, rfl, rfl, by kernel_rfl, Try.underlying9, rfl⟩
theorem act_of_is {w : World} {F : Nat → Prop} {cs : List Value} {x : actSh.D} (h : actSh.Is w F cs x) : ∃ (kind at' n : Int) (s : ByteArray), cs = [.int .i64 kind, .int .i64 at', .int .i64 n, .string s] ∧ s.size ≤ maxLen := by
  obtain ⟨c1, c2, rfl, ⟨rfl, _⟩, c3, c4, rfl, ⟨rfl, _⟩, c5, c6, rfl, ⟨rfl, _⟩, c7, c8, rfl, ⟨rfl, hs⟩, rfl⟩ := h
  exact ⟨_, _, _, _, rfl, hs⟩
end Go.Proofs.Ytedjaahidncokab
