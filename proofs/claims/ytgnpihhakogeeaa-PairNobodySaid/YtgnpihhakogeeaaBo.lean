/- The abstract machine: plain data that came in, as trees. -/
import Derived.Test.YtgnpihhakogeeaaBn
import Derived.Test.YtgnpihhakogeeaaSh
namespace Go.Proofs.Ytgnpihhakogeeaa
set_option linter.unusedSimpArgs false
set_option linter.unusedVariables false
open Go.RowKit

def Sh.enc : (s : Sh) → s.D → List AV
  | .int k, n => [.sc (.int k n)]
  | .bool, b => [.sc (.bool b)]
  | .str, s => [.sc (.string s)]
  | .slice e, l => [.sl .no ((show List e.D from l).map e.enc)]
  | .unit, _ => []
  | .pair a b, x => a.enc x.1 ++ b.enc x.2
  | .arr _ e, l => ((show List e.D from l).map e.enc).flatten
/-- no slice of elements without cells -/
def Sh.pos : Sh → Prop
  | .slice e => 0 < e.size ∧ e.pos
  | .pair a b => a.pos ∧ b.pos
  | .arr _ e => e.pos
  | _ => True
theorem flatAt {α : Type} {l : List (List α)} {m : Nat} (h : ∀ r ∈ l, r.length = m) {i j : Nat} {r : List α} {x : α} (hr : l[i]? = some r) (hx : r[j]? = some x) : l.flatten[i * m + j]? = some x := by
  induction l generalizing i with
  | nil => simp at hr
  | cons y l ih =>
    have hy := h y List.mem_cons_self
    cases i with
    | zero =>
      simp at hr
      subst hr
      have hj : j < y.length := (List.getElem?_eq_some_iff.1 hx).1
      simp only [Nat.zero_mul, Nat.zero_add, List.flatten_cons]
      rw [List.getElem?_append_left hj]
      exact hx
    | succ i =>
      simp at hr
      have hi := ih (fun r hr => h r (List.mem_cons_of_mem _ hr)) hr
      rw [List.flatten_cons, List.getElem?_append_right (by rw [hy, Nat.add_mul]; omega), ← hi]
      congr 1
      rw [hy, Nat.add_mul]; omega
section
variable {w : World} {F : Nat → Prop} {g : Gh}
theorem Sh.Is.vr (hF : ∀ b, F b → ∀ j, g.RO b j) : ∀ {s : Sh} {cs : List Value} {x : s.D}, s.pos → s.Is w F cs x → VRs g w (s.enc x) cs ∧ ∀ y ∈ s.enc x, y.one = true
  | .int k, cs, n, _, h => by
    rw [h.1]
    exact ⟨VRs.nil.cons (.sc _), fun y hy => by simp [Sh.enc] at hy; subst hy; rfl⟩
  | .bool, cs, b, _, h => by
    rw [show cs = [.bool b] from h]
    exact ⟨VRs.nil.cons (.sc _), fun y hy => by simp [Sh.enc] at hy; subst hy; rfl⟩
  | .str, cs, s, _, h => by
    rw [h.1]
    exact ⟨VRs.nil.cons (.sc _), fun y hy => by simp [Sh.enc] at hy; subst hy; rfl⟩
  | .slice e, cs, l, hp, h => by
    obtain ⟨A, c, css, h1, h2, h3, h4, h5, h6⟩ := h
    refine ⟨?_, fun y hy => by simp [Sh.enc] at hy; subst hy; rfl⟩
    rw [h1]
    have hrow : ∀ (i : Nat) r, css[i]? = some r → r.length = e.size ∧ ∃ x, (show List e.D from l)[i]? = some x ∧ VRs g w (e.enc x) r ∧ ∀ y ∈ e.enc x, y.one = true := by
      intro i r hr
      have hi : i < List.length l := by rw [← h4]; exact (List.getElem?_eq_some_iff.1 hr).1
      have hx : (show List e.D from l)[i]? = some (List.get l ⟨i, hi⟩) := List.getElem?_eq_getElem hi
      have := h6 i r _ hr hx
      exact ⟨this.len, _, hx, Sh.Is.vr hF hp.2 this⟩
    have hlen : ∀ r ∈ css, r.length = e.size := by
      intro r hr
      obtain ⟨i, hi, rfl⟩ := List.getElem_of_mem hr
      exact (hrow i _ (List.getElem?_eq_getElem hi)).1
    have hget : ∀ (i : Nat) (q : List AV), ((show List e.D from l).map e.enc)[i]? = some q → ∃ r, css[i]? = some r ∧ VRs g w q r ∧ (∀ y ∈ q, y.one = true) ∧ r.length = e.size := by
      intro i q hq
      rw [List.getElem?_map] at hq
      cases hx : (show List e.D from l)[i]? with
      | none => rw [hx] at hq; cases hq
      | some x =>
        rw [hx] at hq
        simp only [Option.map_some, Option.some.injEq] at hq
        subst hq
        have hi : i < css.length := by rw [h4]; exact (List.getElem?_eq_some_iff.1 hx).1
        obtain ⟨k1, x', k2, k3, k4⟩ := hrow i css[i] (List.getElem?_eq_getElem hi)
        rw [hx] at k2
        injection k2 with k2
        subst k2
        exact ⟨_, List.getElem?_eq_getElem hi, k3, k4, k1⟩
    have hl : ((show List e.D from l).map e.enc).length = List.length l := List.length_map _
    have key : ∃ b o, (((show List e.D from l).map e.enc) ≠ [] → A = some ⟨b, o, none⟩) ∧ ∀ (i : Nat) r j u, css[i]? = some r → r[j]? = some u → w.cell? ⟨b, o + i * e.size + j, none⟩ = some u ∧ g.RO b (o + i * e.size + j) := by
      by_cases hn : 0 < List.length l
      · obtain ⟨b, o, k1, k2, k3⟩ := h5.lit hn hp.1
        exact ⟨b, o, fun _ => k1, fun i r j u hr hu => ⟨by rw [Nat.add_assoc]; exact k3 _ u (flatAt hlen hr hu), hF b k2 _⟩⟩
      · refine ⟨0, 0, fun h => absurd (List.eq_nil_of_length_eq_zero (by rw [hl]; omega)) h, fun i r j u hr hu => ?_⟩
        have := (List.getElem?_eq_some_iff.1 hr).1
        omega
    obtain ⟨b, o, hA, hcell⟩ := key
    have hv : VR g w (.sl .no ((show List e.D from l).map e.enc)) (.slice A ((show List e.D from l).map e.enc).length c) := by
      refine .sl .no _ A c e.size b o (fun i j => (css.getD i []).getD j undef) (by rw [hl]; exact h2) h3 hA (fun q hq => ?_) (fun i q j x hq hx => ?_) (fun i q j x hq hx => ?_) trivial
      · obtain ⟨i, hi, rfl⟩ := List.getElem_of_mem hq
        obtain ⟨r, k1, k2, k3, k4⟩ := hget i _ (List.getElem?_eq_getElem hi)
        exact ⟨by rw [k2.1, k4], k3⟩
      · obtain ⟨r, k1, k2, k3, k4⟩ := hget i q hq
        obtain ⟨u, k5, k6⟩ := k2.get hx
        have := hcell i r j u k1 k5
        simpa [List.getD_eq_getElem?_getD, k1, k5] using this
      · obtain ⟨r, k1, k2, k3, k4⟩ := hget i q hq
        obtain ⟨u, k5, k6⟩ := k2.get hx
        simpa [List.getD_eq_getElem?_getD, k1, k5] using k6
    rw [hl] at hv
    exact VRs.nil.cons hv
  | .unit, cs, x, _, h => by
    rw [show cs = [] from h]
    exact ⟨VRs.nil, fun y hy => by simp [Sh.enc] at hy⟩
  | .pair a b, cs, x, hp, h => by
    obtain ⟨c1, c2, rfl, h1, h2⟩ := h
    have k1 := Sh.Is.vr hF hp.1 h1
    have k2 := Sh.Is.vr hF hp.2 h2
    refine ⟨k1.1.app k2.1, fun y hy => ?_⟩
    rcases List.mem_append.1 (show y ∈ a.enc x.1 ++ b.enc x.2 from hy) with hy | hy
    · exact k1.2 y hy
    · exact k2.2 y hy
  | .arr n e, cs, l, hp, h => by
    obtain ⟨css, rfl, h1, h2, h3, h4⟩ := h
    have key : ∀ (m : Nat) (l : List e.D) (css : List (List Value)), l.length = m → css.length = m → (∀ (i : Nat) r x, css[i]? = some r → l[i]? = some x → e.Is w F r x) → VRs g w (l.map e.enc).flatten css.flatten ∧ ∀ y ∈ (l.map e.enc).flatten, y.one = true := by
      intro m
      induction m with
      | zero =>
        intro l css h1 h2 _
        obtain rfl := List.eq_nil_of_length_eq_zero h1
        obtain rfl := List.eq_nil_of_length_eq_zero h2
        exact ⟨VRs.nil, fun y hy => by simp at hy⟩
      | succ m ih =>
        intro l css h1 h2 h4
        cases l with
        | nil => simp at h1
        | cons x l =>
          cases css with
          | nil => simp at h2
          | cons r css =>
            have k1 := Sh.Is.vr hF (show e.pos from hp) (h4 0 r x rfl rfl)
            have k2 := ih l css (by simpa using h1) (by simpa using h2) (fun i r x hr hx => h4 (i + 1) r x (by simpa using hr) (by simpa using hx))
            simp only [List.map_cons, List.flatten_cons]
            refine ⟨k1.1.app k2.1, fun y hy => ?_⟩
            rcases List.mem_append.1 hy with hy | hy
            · exact k1.2 y hy
            · exact k2.2 y hy
    exact key n l css h2 h1 h4
end
end Go.Proofs.Ytgnpihhakogeeaa
