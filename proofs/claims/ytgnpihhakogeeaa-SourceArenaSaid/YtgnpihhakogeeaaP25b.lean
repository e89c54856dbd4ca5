/- Layer 25, plain: what a checked node is. -/
import Derived.Test.YtgnpihhakogeeaaP25
namespace Go.Proofs.Ytgnpihhakogeeaa
theorem listErr_ok (x : Shp) (dim size : Int) : ∀ (l : List Cel) (p : Option Int), listErr x dim size p l = 0 → ∀ c ∈ l, cellOk x dim c = true := by
  intro l
  induction l with
  | nil => intro p _ c hc; cases hc
  | cons y r ih =>
    intro p h c hc
    rw [listErr] at h
    split at h
    · cases h
    split at h
    · cases h
    split at h
    · cases h
    rename_i h3
    rcases List.mem_cons.1 hc with rfl | hc
    · simpa using h3
    · exact ih _ h c hc
theorem listsErr_ok (x : Shp) (dim : Int) : ∀ (ls : List (List Cel)) (ss : List Int) (p : Option Nat), ls.length ≤ ss.length → listsErr x dim p ss ls = 0 → ∀ l ∈ ls, ∀ c ∈ l, cellOk x dim c = true := by
  intro ls
  induction ls with
  | nil => intro ss p _ _ l hl; cases hl
  | cons y r ih =>
    intro ss p hlen h l hl c hc
    cases ss with
    | nil => simp at hlen
    | cons s ss =>
      rw [listsErr] at h
      split at h
      · rename_i h1; exact absurd h h1
      split at h
      · cases h
      rename_i h1 h2
      rcases List.mem_cons.1 hl with rfl | hl
      · have h3 : listErr0 x dim s l = 0 := by simpa using h1
        unfold listErr0 at h3
        split at h3
        · cases h3
        exact listErr_ok x dim s l none h3 c hc
      · exact ih ss _ (by simpa using hlen) h l hl c hc
theorem check_dim {x : Shp} {n : Nod} (h : checkErr x n = 0) : 0 ≤ n.dim ∧ n.dim < x.sizes.length ∧ n.lists.length = (x.sizes.getD n.dim.toNat []).length ∧ 1 ≤ n.lists.length ∧ n.all.key = 0 := by
  unfold checkErr at h
  split at h
  · cases h
  simp only at h
  split at h
  · cases h
  split at h
  · rename_i h1; exact absurd h h1
  split at h
  · cases h
  rename_i h1 h2 h3 h4
  refine ⟨by omega, by omega, by omega, by omega, ?_⟩
  by_cases hk : n.all.key = 0
  · exact hk
  · exact absurd (.inl hk) h4
theorem check_cells {x : Shp} {n : Nod} (h : checkErr x n = 0) : ∀ c ∈ each n, cellOk x n.dim c = true := by
  obtain ⟨_, _, hl, _⟩ := check_dim h
  unfold checkErr at h
  split at h
  · cases h
  simp only at h
  split at h
  · cases h
  split at h
  · rename_i h1; exact absurd h h1
  rename_i h3
  split at h
  · cases h
  rename_i h4
  intro c hc
  unfold each at hc
  rcases List.mem_append.1 hc with hc | hc
  · obtain ⟨l, hl1, hl2⟩ := List.mem_flatten.1 hc
    exact listsErr_ok x n.dim n.lists (x.sizes.getD n.dim.toNat []) none (by omega) (by simpa using h3) l hl1 c hl2
  · rw [List.mem_singleton] at hc
    subst hc
    cases hb : cellOk x n.dim n.all with
    | true => rfl
    | false => exact absurd (.inr hb) h4
theorem check_child {x : Shp} {n : Nod} (h : checkErr x n = 0) (hl : lastB x n.dim = false) : ∀ c ∈ each n, 0 ≤ c.child := by
  intro c hc
  have h1 := check_cells h c hc
  unfold cellOk at h1
  rw [hl] at h1
  simp at h1
  exact h1.1
/-- one cell's question -/
def leadB (l : List Nod) (dim : Int) (c : Cel) : Bool := decide (c.child < l.length) && decide ((l.getD c.child.toNat ⟨0, [], cel0⟩).dim = dim + 1)
theorem leadsB_eq (x : Shp) (l : List Nod) (n : Nod) : leadsB x l n = (lastB x n.dim || (each n).all (leadB l n.dim)) := rfl
end Go.Proofs.Ytgnpihhakogeeaa
