/- Layer 10, plain: which pages can't be turned, by a list. -/
import Derived.Test.YtedjaahidncokaaR10
namespace Go.Proofs.Ytedjaahidncokaa

def hasI (l : List Int) (x : Int) : Bool := l.any (· == x)
theorem hasI_snoc (l : List Int) (k : Nat) (hk : k < l.length) (x : Int) : hasI (l.take (k+1)) x = (hasI (l.take k) x || l[k] == x) := by
  unfold hasI
  rw [List.take_succ_eq_append_getElem hk, List.any_append]; simp
theorem hasI_mem (l : List Int) (x : Int) : hasI l x = true ↔ x ∈ l := by
  unfold hasI; simp [List.any_eq_true]
/-- why pages can't be turned: those of l, behind those of pre -/
def wrg (inU : Int → Bool) (n : Nat) (must : Bool) (pre : List Int) : List Int → Int
  | [] => 0
  | x :: r => if x < 0 ∨ (n : Int) ≤ x then 9 else if (inU x != must) || hasI pre x then (if must then 10 else 11) else wrg inU n must (pre ++ [x]) r
theorem wrg_at (inU : Int → Bool) (n : Nat) (must : Bool) (l : List Int) (k : Nat) (hk : k < l.length) :
    wrg inU n must (l.take k) (l.drop k) = if l[k] < 0 ∨ (n : Int) ≤ l[k] then 9 else if (inU l[k] != must) || hasI (l.take k) l[k] then (if must then 10 else 11) else wrg inU n must (l.take (k + 1)) (l.drop (k + 1)) := by
  rw [List.drop_eq_getElem_cons hk, List.take_succ_eq_append_getElem hk]
  rfl
theorem wrg_end (inU : Int → Bool) (n : Nat) (must : Bool) (l : List Int) (k : Nat) (hk : l.length ≤ k) : wrg inU n must (l.take k) (l.drop k) = 0 := by
  rw [List.drop_eq_nil_of_le hk]; rfl
theorem wrg_ok (inU : Int → Bool) (n : Nat) (must : Bool) (l : List Int) : ∀ pre, wrg inU n must pre l = 0 → (∀ x ∈ l, 0 ≤ x ∧ x < n ∧ inU x = must ∧ hasI pre x = false) ∧ l.Nodup := by
  induction l with
  | nil => intro pre _; simp
  | cons x r ih =>
    intro pre h
    simp only [wrg] at h
    split at h
    · cases h
    · rename_i h1
      split at h
      · split at h <;> cases h
      · rename_i h2
        simp only [Bool.or_eq_true, bne_iff_ne, ne_eq, not_or, Decidable.not_not, Bool.not_eq_true] at h2
        obtain ⟨i1, i2⟩ := ih _ h
        refine ⟨fun y hy => ?_, ?_⟩
        · rcases List.mem_cons.1 hy with rfl | hy
          · exact ⟨by omega, by omega, h2.1, h2.2⟩
          · obtain ⟨a, b, c, d⟩ := i1 y hy
            refine ⟨a, b, c, ?_⟩
            unfold hasI at d ⊢
            rw [List.any_append, Bool.or_eq_false_iff] at d
            exact d.1
        · rw [List.nodup_cons]
          refine ⟨fun hx => ?_, i2⟩
          obtain ⟨_, _, _, d⟩ := i1 x hx
          unfold hasI at d
          rw [List.any_append, Bool.or_eq_false_iff] at d
          simp at d
theorem wrg_congr (f g : Int → Bool) (n : Nat) (must : Bool) (l : List Int) (h : ∀ x : Int, 0 ≤ x → x < (n : Int) → f x = g x) : ∀ pre, wrg f n must pre l = wrg g n must pre l := by
  induction l with
  | nil => intro pre; rfl
  | cons x r ih =>
    intro pre
    simp only [wrg]
    split
    · rfl
    · rename_i h1
      rw [h x (by omega) (by omega), ih]
theorem wrg_code (f : Int → Bool) (n : Nat) (must : Bool) (l : List Int) : ∀ pre, wrg f n must pre l = 0 ∨ wrg f n must pre l = 9 ∨ wrg f n must pre l = 10 ∨ wrg f n must pre l = 11 := by
  induction l with
  | nil => intro pre; exact .inl rfl
  | cons x r ih =>
    intro pre
    simp only [wrg]
    split
    · simp
    · split
      · split <;> simp
      · exact ih _
def flips (ws : List Nat) (l : List Int) : List Nat := l.foldl (fun ws i => flip ws i.toNat) ws
theorem flips_len (l : List Int) : ∀ ws, (flips ws l).length = ws.length := by
  induction l with
  | nil => intro ws; rfl
  | cons x r ih => intro ws; simp only [flips, List.foldl_cons] at ih ⊢; rw [ih, flip_len]
def popAll (ws : List Nat) : Nat := (ws.map Pop.pop).sum
end Go.Proofs.Ytedjaahidncokaa
