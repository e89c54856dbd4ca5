/- Layer 10: arguments as they came in. -/
import Derived.Test.YtedjaahidncokaaL10
import Derived.Test.YtedjaahidncokaaSh
namespace Go.Proofs.Ytedjaahidncokaa
open Go.RowKit

theorem flat_ints (l : List Int) : (l.map fun x => [Value.int .i64 x]).flatten = ints l := by
  unfold ints
  induction l with
  | nil => rfl
  | cons x r ih => simp [ih]
theorem ints_of_is {w : World} {F : Nat → Prop} {v : Value} {l : List Int} (h : (Sh.slice (.int .i64)).Is w F [v] l) : IntsAt w F v l := by
  obtain ⟨A, c, css, h1, h2, h3, h4, h5, h6⟩ := h
  have hv : v = .slice A l.length c := (List.cons.inj h1).1
  have h4 : css.length = l.length := h4
  refine ⟨A, c, hv, h2, h3, ?_⟩
  have e : css.flatten = ints l := by
    have : css = l.map (fun x => [Value.int .i64 x]) := by
      apply List.ext_getElem?
      intro i
      rw [List.getElem?_map]
      rcases hl : l[i]? with _ | x
      · have : l.length ≤ i := List.getElem?_eq_none_iff.1 hl
        rw [List.getElem?_eq_none (by omega)]; rfl
      · have hi : i < css.length := by rw [h4]; exact (List.getElem?_eq_some_iff.1 hl).1
        have := (h6 i css[i] x (List.getElem?_eq_getElem hi) hl).1
        rw [List.getElem?_eq_getElem hi, this]; rfl
    rw [this]
    exact flat_ints l
  rw [e] at h5
  exact h5

def actSh : Sh := .pair (.int .i64) (.pair (.int .i64) (.pair (.slice (.int .i64)) .unit))
theorem fits_ints : (Sh.slice (.int .i64)).Fits Try.prog (.inl 29) := ⟨3, Try.underlying29, by kernel_rfl, by decide, Try.underlying3⟩
theorem fits_act : actSh.Fits Try.prog (.inl 31) :=
  ⟨_, _, Try.underlying31, by kernel_rfl, rfl, by kernel_rfl, Try.underlying3, _, _, rfl, rfl, by kernel_rfl, Try.underlying3, _, _, rfl, rfl, by kernel_rfl, fits_ints, rfl⟩
theorem fits_acts : (Sh.slice actSh).Fits Try.prog (.inl 22) := ⟨31, Try.underlying22, by kernel_rfl, by decide, fits_act⟩

theorem act_of_is {w : World} {F : Nat → Prop} {cs : List Value} {x : actSh.D} (h : actSh.Is w F cs x) : ∃ a : ActV, cs = a.cells ∧ IntsAt w F a.pv a.pages := by
  obtain ⟨c1, c2, rfl, ⟨rfl, _⟩, c3, c4, rfl, ⟨rfl, _⟩, c5, c6, rfl, h5, rfl⟩ := h
  have h5' := h5
  obtain ⟨A, c, css, h1, _⟩ := h5
  subst h1
  exact ⟨⟨_, _, _, _⟩, rfl, ints_of_is h5'⟩
theorem acts_of_is {w : World} {F : Nat → Prop} {v : Value} {l : List actSh.D} (h : (Sh.slice actSh).Is w F [v] l) : ∃ A c acts, v = .slice A (List.length acts) c ∧ acts.length ≤ c ∧ c ≤ maxLen ∧ ActsAt w F A acts.length acts := by
  obtain ⟨A, c, css, h1, h2, h3, h4, h5, h6⟩ := h
  have hv : v = .slice A l.length c := (List.cons.inj h1).1
  have h4 : css.length = l.length := h4
  have hall : ∀ i, ∃ a : ActV, i < css.length → (css[i]? = some a.cells ∧ IntsAt w F a.pv a.pages) := by
    intro i
    by_cases hi : i < css.length
    · have hi2 : i < l.length := by omega
      obtain ⟨a, ha, hp⟩ := act_of_is (h6 i css[i] l[i] (List.getElem?_eq_getElem hi) (List.getElem?_eq_getElem hi2))
      exact ⟨a, fun _ => ⟨by rw [List.getElem?_eq_getElem hi, ha], hp⟩⟩
    · exact ⟨⟨0, 0, undef, []⟩, fun h => absurd h hi⟩
  obtain ⟨f, hf⟩ := Classical.axiomOfChoice hall
  have e : css = ((List.range l.length).map f).map ActV.cells := by
    apply List.ext_getElem?
    intro i
    by_cases hi : i < css.length
    · rw [(hf i hi).1]
      simp [← h4, hi]
    · rw [List.getElem?_eq_none (by omega), List.getElem?_eq_none (by simp; omega)]
  refine ⟨A, c, (List.range l.length).map f, by simp [hv], by simpa using h2, h3, ?_, ?_⟩
  · have e2 : css.flatten = actCells ((List.range l.length).map f) := by
      unfold actCells
      rw [List.flatMap_def, ← e]
    rw [e2] at h5
    rw [List.length_map, List.length_range]
    exact h5
  · intro a ha
    obtain ⟨i, hi, rfl⟩ := List.mem_map.1 ha
    exact (hf i (by rw [h4]; exact List.mem_range.1 hi)).2
end Go.Proofs.Ytedjaahidncokaa
