/- Layer 25, plain: steps of what may be. -/
import Derived.Test.YtgnpihhakogeeaaP24
namespace Go.Proofs.Ytgnpihhakogeeaa
set_option linter.unusedSimpArgs false
set_option linter.unusedVariables false
def intAhead (l : List Int) (k : Nat) : Option Int := if k = 0 then none else l[k - 1]?
theorem intAhead_succ {l : List Int} {k : Nat} (h : k < l.length) : intAhead l (k + 1) = some l[k] := by
  unfold intAhead; simp [h]
def leI : Option Int → Int → Bool
  | none, _ => true
  | some q, n => decide (n ≤ q)
theorem rowMay_cons (p : Option Int) (n : Int) (r : List Int) : rowMay p (n :: r) = (decide (1 ≤ n) && decide (n ≤ 200) && leI p n && rowMay (some n) r) := by
  cases p <;> rfl
theorem rowMay_step (l : List Int) (k : Nat) (h : k < l.length) : rowMay (intAhead l k) (l.drop k) = (decide (1 ≤ l[k]) && decide (l[k] ≤ 200) && leI (intAhead l k) l[k] && rowMay (intAhead l (k + 1)) (l.drop (k + 1))) := by
  rw [List.drop_eq_getElem_cons h, intAhead_succ h, rowMay_cons]
theorem all_step (l : List (List Int)) (k : Nat) (h : k < l.length) : (l.drop k).all sizesMay = (sizesMay l[k] && (l.drop (k + 1)).all sizesMay) := by
  rw [List.drop_eq_getElem_cons h, List.all_cons]
theorem shpMay_bounds {x : Shp} (h : shpMay x = true) : 1 ≤ x.sizes.length ∧ x.sizes.length ≤ 16 ∧ 1 ≤ x.measures ∧ x.measures ≤ 3 ∧ ∀ l ∈ x.sizes, sizesMay l = true := by
  unfold shpMay at h
  simp only [Bool.and_eq_true, decide_eq_true_eq, List.all_eq_true] at h
  exact ⟨h.1.1.1.1, h.1.1.1.2, h.1.1.2, h.1.2, h.2⟩
theorem sizesMay_bounds {l : List Int} (h : sizesMay l = true) : 1 ≤ l.length ∧ l.length ≤ 4 ∧ rowMay none l = true := by
  unfold sizesMay at h
  simp only [Bool.and_eq_true, decide_eq_true_eq] at h
  exact ⟨h.1.1, h.1.2, h.2⟩
end Go.Proofs.Ytgnpihhakogeeaa
