/- Arguments of ints and of texts as they came in. -/
import Derived.Test.YtedjaahidncokabPlain
import Derived.Test.YtedjaahidncokabSh
namespace Go.Proofs.Ytedjaahidncokab
open Go.RowKit

theorem flat_one {α : Type} (f : α → Value) (l : List α) : (l.map fun x => [f x]).flatten = l.map f := by
  induction l with
  | nil => rfl
  | cons x r ih => simp [ih]
theorem ints_of_is {w : World} {F : Nat → Prop} {v : Value} {l : List Int} (h : (Sh.slice (.int .i64)).Is w F [v] l) : IntsAt w F v l := by
  obtain ⟨A, c, css, h1, h2, h3, h4, h5, h6⟩ := h
  have hv : v = .slice A l.length c := (List.cons.inj h1).1
  have h4 : css.length = l.length := h4
  refine ⟨A, c, hv, h2, h3, ?_⟩
  have e : css.flatten = ints l := by
    have : css = l.map (fun x => [Value.int .i64 x]) := by
      apply List.ext_getElem?
      intro i
      rw [List.getElem?_map]
      rcases hl : l[i]? with _ | x
      · have : l.length ≤ i := List.getElem?_eq_none_iff.1 hl
        rw [List.getElem?_eq_none (by omega)]; rfl
      · have hi : i < css.length := by rw [h4]; exact (List.getElem?_eq_some_iff.1 hl).1
        have := (h6 i css[i] x (List.getElem?_eq_getElem hi) hl).1
        rw [List.getElem?_eq_getElem hi, this]; rfl
    rw [this]
    exact flat_one _ l
  rw [e] at h5
  exact h5
theorem strs_of_is {w : World} {F : Nat → Prop} {v : Value} {l : List ByteArray} (h : (Sh.slice .str).Is w F [v] l) : (∃ A c, v = .slice A l.length c ∧ l.length ≤ maxLen ∧ Rd w F 1 A l.length (strs l)) ∧ ∀ s ∈ l, s.size ≤ maxLen := by
  obtain ⟨A, c, css, h1, h2, h3, h4, h5, h6⟩ := h
  have hv : v = .slice A l.length c := (List.cons.inj h1).1
  have h4 : css.length = l.length := h4
  have h2 : l.length ≤ c := h2
  refine ⟨⟨A, c, hv, by omega, ?_⟩, fun s hs => ?_⟩
  · have e : css.flatten = strs l := by
      have : css = l.map (fun x => [Value.string x]) := by
        apply List.ext_getElem?
        intro i
        rw [List.getElem?_map]
        rcases hl : l[i]? with _ | x
        · have : l.length ≤ i := List.getElem?_eq_none_iff.1 hl
          rw [List.getElem?_eq_none (by omega)]; rfl
        · have hi : i < css.length := by rw [h4]; exact (List.getElem?_eq_some_iff.1 hl).1
          have := (h6 i css[i] x (List.getElem?_eq_getElem hi) hl).1
          rw [List.getElem?_eq_getElem hi, this]; rfl
      rw [this]
      exact flat_one _ l
    rw [e] at h5
    exact h5
  · obtain ⟨i, hi, rfl⟩ := List.getElem_of_mem hs
    have hi2 : i < css.length := by omega
    exact (h6 i css[i] l[i] (List.getElem?_eq_getElem hi2) (List.getElem?_eq_getElem hi)).2
theorem fits_ints : (Sh.slice (.int .i64)).Fits Try.prog (.inl 23) := ⟨3, Try.underlying23, by kernel_rfl, by decide, Try.underlying3⟩
theorem fits_strs : (Sh.slice .str).Fits Try.prog (.inl 22) := ⟨9, Try.underlying22, by kernel_rfl, by decide, Try.underlying9⟩
end Go.Proofs.Ytedjaahidncokab
