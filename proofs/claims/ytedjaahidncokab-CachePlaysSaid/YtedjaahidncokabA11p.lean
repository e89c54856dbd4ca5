/- Layer 11: a list of calls as it came in. -/
import Derived.Test.YtedjaahidncokabA11
import Derived.Test.YtedjaahidncokabF11i
namespace Go.Proofs.Ytedjaahidncokab
open Go.RowKit
theorem fits_acts : (Sh.slice actSh).Fits Try.prog (.inl 34) := ⟨40, Try.underlying34, by kernel_rfl, by decide, fits_act⟩
theorem acts_of_is {w : World} {F : Nat → Prop} {v : Value} {l : List actSh.D} (h : (Sh.slice actSh).Is w F [v] l) : ∃ acts : List ActC, ∃ A c, v = .slice A (List.length acts) c ∧ acts.length ≤ maxLen ∧ ActsAt w F A acts.length acts := by
  obtain ⟨A, c, css, h1, h2, h3, h4, h5, h6⟩ := h
  have hv : v = .slice A l.length c := (List.cons.inj h1).1
  have h4 : css.length = l.length := h4
  have h2 : l.length ≤ c := h2
  have hall : ∀ i, ∃ a : ActC, i < css.length → (css[i]? = some a.cells ∧ a.s.size ≤ maxLen) := by
    intro i
    by_cases hi : i < css.length
    · have hi2 : i < l.length := by omega
      obtain ⟨k, a, n, s, ha, hp⟩ := act_of_is (h6 i css[i] l[i] (List.getElem?_eq_getElem hi) (List.getElem?_eq_getElem hi2))
      exact ⟨⟨k, a, n, s⟩, fun _ => ⟨by rw [List.getElem?_eq_getElem hi, ha]; rfl, hp⟩⟩
    · exact ⟨⟨0, 0, 0, ByteArray.empty⟩, fun h => absurd h hi⟩
  obtain ⟨f, hf⟩ := Classical.axiomOfChoice hall
  have e : css = ((List.range l.length).map f).map ActC.cells := by
    apply List.ext_getElem?
    intro i
    by_cases hi : i < css.length
    · rw [(hf i hi).1]
      simp [← h4, hi]
    · rw [List.getElem?_eq_none (by omega), List.getElem?_eq_none (by simp; omega)]
  refine ⟨(List.range l.length).map f, A, c, by simp [hv], by simp; omega, ?_, ?_⟩
  · have e2 : css.flatten = allActs ((List.range l.length).map f) := by
      unfold allActs
      rw [List.flatMap_def, ← e]
    rw [e2] at h5
    rw [List.length_map, List.length_range]
    exact h5
  · intro a ha
    obtain ⟨i, hi, rfl⟩ := List.mem_map.1 ha
    exact (hf i (by rw [h4]; exact List.mem_range.1 hi)).2
end Go.Proofs.Ytedjaahidncokab
