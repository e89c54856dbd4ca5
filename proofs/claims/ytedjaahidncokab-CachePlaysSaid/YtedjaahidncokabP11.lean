/- Layer 11, plain: items by their places, the last one asked for first. -/
import Derived.Test.YtedjaahidncokabM
namespace Go.Proofs.Ytedjaahidncokab
abbrev Items := List (Int × ByteArray)
def keys (l : Items) : List Int := l.map (·.1)
def look : Items → Int → Option ByteArray
  | [], _ => none
  | x :: r, i => if x.1 = i then some x.2 else look r i
def without (l : Items) (i : Int) : Items := l.filter (fun x => x.1 != i)
def putIn (size : Nat) (l : Items) (i : Int) (s : ByteArray) : Items := ((i, s) :: without l i).take size
theorem look_none {l : Items} {i : Int} (h : look l i = none) : i ∉ keys l := by
  induction l with
  | nil => simp [keys]
  | cons x r ih =>
    simp only [look] at h
    by_cases hx : x.1 = i
    · simp [hx] at h
    · simp only [hx, if_false] at h
      have := ih h
      unfold keys at this ⊢
      simp only [List.map_cons, List.mem_cons, not_or]
      exact ⟨fun e => hx e.symm, this⟩
theorem look_none' {l : Items} {i : Int} (h : i ∉ keys l) : look l i = none := by
  induction l with
  | nil => rfl
  | cons x r ih =>
    unfold keys at h
    simp only [List.map_cons, List.mem_cons, not_or] at h
    simp only [look]
    rw [if_neg (fun e => h.1 e.symm)]
    exact ih h.2
theorem look_some {l : Items} {i : Int} {s : ByteArray} (h : look l i = some s) : i ∈ keys l := by
  rcases Classical.em (i ∈ keys l) with h1 | h1
  · exact h1
  · rw [look_none' h1] at h; cases h
theorem look_without (l : Items) (i j : Int) : look (without l i) j = if i = j then none else look l j := by
  induction l with
  | nil => simp [without, look]
  | cons x r ih =>
    unfold without at ih ⊢
    rw [List.filter_cons]
    by_cases hx : x.1 = i
    · have : (x.1 != i) = false := by simp [hx]
      rw [this]
      simp only [Bool.false_eq_true, if_false, ih, look]
      by_cases hj : i = j
      · simp [hj]
      · rw [if_neg hj, if_neg hj, if_neg (by rw [hx]; exact hj)]
    · have : (x.1 != i) = true := by simpa using hx
      rw [this]
      simp only [if_true, look, ih]
      by_cases hj : x.1 = j
      · simp only [hj, if_true]
        rw [if_neg (by rw [← hj]; exact fun e => hx e.symm)]
      · simp [hj]
theorem keys_without (l : Items) (i : Int) : keys (without l i) = (keys l).filter (· != i) := by
  unfold keys without
  rw [List.filter_map]; rfl
theorem without_nodup {l : Items} (h : (keys l).Nodup) (i : Int) : (i :: keys (without l i)).Nodup := by
  rw [List.nodup_cons, keys_without]
  exact ⟨fun hx => by have := (List.mem_filter.1 hx).2; simp at this, h.sublist List.filter_sublist⟩
theorem erase_filter {l : List Int} (h : l.Nodup) (k : Nat) (hk : k < l.length) : l.eraseIdx k = l.filter (· != l[k]) := by
  induction l generalizing k with
  | nil => simp at hk
  | cons x r ih =>
    rw [List.nodup_cons] at h
    cases k with
    | zero =>
      simp only [List.eraseIdx_cons_zero, List.getElem_cons_zero, List.filter_cons, bne_self_eq_false, Bool.false_eq_true, if_false]
      rw [List.filter_eq_self.2]
      intro y hy
      simp only [bne_iff_ne, ne_eq]
      rintro rfl; exact h.1 hy
    | succ k =>
      simp only [List.eraseIdx_cons_succ, List.getElem_cons_succ, List.filter_cons]
      have hk' : k < r.length := by simpa using hk
      have : (x != r[k]) = true := by
        simp only [bne_iff_ne, ne_eq]
        intro e; exact h.1 (by rw [e]; exact List.getElem_mem hk')
      rw [this, if_pos rfl, ih h.2 k hk']
theorem filter_ne {l : List Int} {i : Int} (h : i ∉ l) : l.filter (· != i) = l := by
  rw [List.filter_eq_self]
  intro y hy
  simp only [bne_iff_ne, ne_eq]
  rintro rfl; exact h hy
theorem without_len (l : Items) (i : Int) : (without l i).length ≤ l.length := List.length_filter_le _ _
theorem look_take (l : Items) (h : (keys l).Nodup) (k : Nat) (hk : l.length = k + 1) (j : Int) : look (l.take k) j = if (l[k]'(by omega)).1 = j then none else look l j := by
  have e : l = l.take k ++ [l[k]'(by omega)] := by
    rw [← List.take_succ_eq_append_getElem (by omega), List.take_of_length_le (by omega)]
  generalize hx : l[k]'(by omega) = x at *
  have hn : x.1 ∉ keys (l.take k) := by
    rw [e] at h
    unfold keys at h ⊢
    rw [List.map_append, List.nodup_append] at h
    intro hm
    exact h.2.2 _ hm _ (by simp) rfl
  have hl : look l j = look (l.take k ++ [x]) j := congrArg (fun y => look y j) e
  rw [hl]
  generalize l.take k = t at *
  clear e hl h hk hx
  induction t with
  | nil =>
    simp only [List.nil_append, look]
    by_cases hj : x.1 = j <;> simp [hj]
  | cons y r ih =>
    unfold keys at hn
    simp only [List.map_cons, List.mem_cons, not_or] at hn
    simp only [List.cons_append, look, ih hn.2]
    by_cases hj : x.1 = j
    · rw [if_pos hj, if_neg (by rw [← hj]; exact fun e => hn.1 e.symm)]
      rw [if_pos hj]
    · rw [if_neg hj]
      by_cases hy : y.1 = j
      · rw [if_pos hy, if_neg hj]
      · rw [if_neg hy, if_neg hj]
end Go.Proofs.Ytedjaahidncokab
