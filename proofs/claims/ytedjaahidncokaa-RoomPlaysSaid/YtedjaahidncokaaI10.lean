/- Layer 10, plain: the bits of a room, held against the list of pages in use. -/
import Derived.Test.YtedjaahidncokaaL10
namespace Go.Proofs.Ytedjaahidncokaa

def Inv (ws : List Nat) (u : List Int) (n : Nat) : Prop :=
  (∀ j : Nat, bit ws j = hasI u j) ∧ u.Nodup ∧ (∀ x ∈ u, 0 ≤ x ∧ x < n) ∧ n ≤ 64 * ws.length

theorem hasI_false {l : List Int} {x : Int} (h : x ∉ l) : hasI l x = false := by
  rcases hb : hasI l x with _ | _
  · rfl
  · exact absurd ((hasI_mem l x).1 hb) h
theorem Inv.tidy {ws : List Nat} {u : List Int} {n : Nat} (h : Inv ws u n) : Tidy ws n := by
  intro i hi
  rw [h.1]
  exact hasI_false (fun hx => by have := h.2.2.1 _ hx; omega)
theorem Inv.used {ws : List Nat} {u : List Int} {n : Nat} (h : Inv ws u n) (x : Int) : usedB ws n x = hasI u x := by
  unfold usedB
  by_cases h0 : 0 ≤ x
  · by_cases h1 : x < n
    · obtain ⟨k, rfl⟩ := Int.eq_ofNat_of_zero_le h0
      simp [h1, h.1]
    · rw [hasI_false (fun hx => by have := h.2.2.1 _ hx; omega)]
      simp [h1]
  · rw [hasI_false (fun hx => by have := h.2.2.1 _ hx; omega)]
    simp [h0]
theorem Inv.wrg {ws : List Nat} {u : List Int} {n : Nat} (h : Inv ws u n) (must : Bool) (l : List Int) : wrg (usedB ws n) n must [] l = wrg (hasI u) n must [] l :=
  wrg_congr _ _ n must l (fun x _ _ => h.used x) []
theorem count_list (n : Nat) : ∀ u : List Int, u.Nodup → (∀ x ∈ u, 0 ≤ x ∧ x < n) → (List.range n).countP (fun i : Nat => hasI u (i : Int)) = u.length := by
  intro u
  induction u with
  | nil => intro _ _; simp [hasI]
  | cons x r ih =>
    intro hn hr
    rw [List.nodup_cons] at hn
    obtain ⟨h0, h1⟩ := hr x List.mem_cons_self
    obtain ⟨k, rfl⟩ := Int.eq_ofNat_of_zero_le h0
    have hk : k < n := by omega
    have ih' := ih hn.2 (fun y hy => hr y (List.mem_cons_of_mem _ hy))
    have e1 : ∀ i : Nat, hasI ((k : Int) :: r) i = (decide (i = k) || hasI r i) := by
      intro i
      unfold hasI
      simp only [List.any_cons]
      congr 1
      by_cases h : i = k
      · subst h; simp
      · have : ¬ (k : Int) = i := by omega
        simp [h, this]
    have e2 : (List.range n).countP (fun i : Nat => hasI ((k : Int) :: r) (i : Int)) = (List.range n).countP (fun i => decide (i = k)) + (List.range n).countP (fun i : Nat => hasI r (i : Int)) := by
      have hdis : ∀ l : List Nat, l.countP (fun i : Nat => hasI ((k : Int) :: r) (i : Int)) = l.countP (fun i => decide (i = k)) + l.countP (fun i : Nat => hasI r (i : Int)) := by
        intro l
        induction l with
        | nil => rfl
        | cons a b ihb =>
          rw [List.countP_cons, List.countP_cons, List.countP_cons, ihb, e1 a]
          by_cases ha : a = k
          · subst ha
            have : hasI r (a : Int) = false := hasI_false hn.1
            simp [this] <;> omega
          · simp [ha] <;> omega
      exact hdis _
    have e3 : (List.range n).countP (fun i => decide (i = k)) = 1 := by
      have : (List.range n).countP (fun i => decide (i = k)) = (List.range n).count k := by
        rw [List.count]
        apply List.countP_congr
        intro a _
        simp
      rw [this, List.nodup_range.count, if_pos (List.mem_range.2 hk)]
    rw [e2, e3, ih', List.length_cons]; omega
theorem Inv.count {ws : List Nat} {u : List Int} {n : Nat} (h : Inv ws u n) : popAll ws = u.length := by
  rw [pop_tidy h.tidy h.2.2.2]
  rw [← count_list n u h.2.1 h.2.2.1]
  apply Pop.countP_congr_range
  intro i _
  exact h.1 i
theorem Inv.free {ws : List Nat} {u : List Int} {n : Nat} (h : Inv ws u n) : freeTo (bit ws) n = freeTo (fun i => hasI u i) n ∧ (freeTo (bit ws) n).length + u.length = n := by
  refine ⟨?_, ?_⟩
  · unfold freeTo
    have : bit ws = fun i : Nat => hasI u i := funext h.1
    rw [this]
  · have := free_count h.tidy h.2.2.2
    rw [h.count] at this
    omega
theorem bit_flips (l : List Int) : ∀ ws : List Nat, (∀ x ∈ l, 0 ≤ x ∧ x.toNat / 64 < ws.length) → l.Nodup → ∀ j : Nat, bit (flips ws l) j = (bit ws j ^^ hasI l j) := by
  induction l with
  | nil => intro ws _ _ j; simp [flips, hasI]
  | cons x r ih =>
    intro ws h hn j
    rw [List.nodup_cons] at hn
    obtain ⟨h0, h1⟩ := h x List.mem_cons_self
    have e : flips ws (x :: r) = flips (flip ws x.toNat) r := rfl
    rw [e, ih (flip ws x.toNat) (fun y hy => by rw [flip_len]; exact h y (List.mem_cons_of_mem _ hy)) hn.2, bit_flip _ _ _ h1]
    have e1 : hasI (x :: r) j = (decide (x.toNat = j) || hasI r j) := by
      unfold hasI
      simp only [List.any_cons]
      congr 1
      by_cases hx : x.toNat = j
      · have : x = j := by omega
        simp [this]
      · have : ¬ x = j := by omega
        simp [hx, this]
    rw [e1]
    by_cases hx : x.toNat = j
    · have hxj : x = j := by omega
      have : hasI r (j : Int) = false := hasI_false (by rw [← hxj]; exact hn.1)
      simp [hx, this]
    · simp [hx]
theorem Inv.use {ws : List Nat} {u : List Int} {n : Nat} (h : Inv ws u n) (l : List Int) (h0 : _root_.Go.Proofs.Ytedjaahidncokaa.wrg (hasI u) n false [] l = 0) : Inv (flips ws l) (u ++ l) n := by
  obtain ⟨h1, h2⟩ := wrg_ok (hasI u) n false l [] h0
  have hr : ∀ x ∈ l, 0 ≤ x ∧ x.toNat / 64 < ws.length := fun x hx => by
    have := h1 x hx
    have := h.2.2.2
    exact ⟨by omega, by omega⟩
  refine ⟨fun j => ?_, ?_, fun x hx => ?_, by rw [flips_len]; exact h.2.2.2⟩
  · rw [bit_flips l ws hr h2, h.1]
    have e : hasI (u ++ l) (j : Int) = (hasI u j || hasI l j) := by unfold hasI; rw [List.any_append]
    rw [e]
    rcases hl : hasI l (j : Int) with _ | _
    · simp
    · have := (h1 _ ((hasI_mem l j).1 hl)).2.2.1
      simp [this]
  · rw [List.nodup_append]
    refine ⟨h.2.1, h2, fun a ha b hb => ?_⟩
    rintro rfl
    have := (h1 a hb).2.2.1
    rw [(hasI_mem u a).2 ha] at this
    cases this
  · rcases List.mem_append.1 hx with hx | hx
    · exact h.2.2.1 x hx
    · have := h1 x hx; exact ⟨this.1, this.2.1⟩
theorem Inv.freed {ws : List Nat} {u : List Int} {n : Nat} (h : Inv ws u n) (l : List Int) (h0 : _root_.Go.Proofs.Ytedjaahidncokaa.wrg (hasI u) n true [] l = 0) : Inv (flips ws l) (u.filter (fun x => !hasI l x)) n := by
  obtain ⟨h1, h2⟩ := wrg_ok (hasI u) n true l [] h0
  have hr : ∀ x ∈ l, 0 ≤ x ∧ x.toNat / 64 < ws.length := fun x hx => by
    have := h1 x hx
    have := h.2.2.2
    exact ⟨by omega, by omega⟩
  refine ⟨fun j => ?_, h.2.1.sublist List.filter_sublist, fun x hx => h.2.2.1 x (List.mem_filter.1 hx).1, by rw [flips_len]; exact h.2.2.2⟩
  rw [bit_flips l ws hr h2, h.1]
  have e : hasI (u.filter (fun x => !hasI l x)) (j : Int) = (hasI u j && !hasI l j) := by
    rw [Bool.eq_iff_iff]
    rw [hasI_mem, List.mem_filter, Bool.and_eq_true, hasI_mem]
  rw [e]
  rcases hl : hasI l (j : Int) with _ | _
  · simp
  · have := (h1 _ ((hasI_mem l j).1 hl)).2.2.1
    simp [this]
theorem inv_new (n : Nat) : Inv (List.replicate ((n + 63) / 64) 0) [] n :=
  ⟨fun j => by rw [bit_zero]; rfl, by simp, by simp, by simp; omega⟩
end Go.Proofs.Ytedjaahidncokaa
