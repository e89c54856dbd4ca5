/- Texts of the walk, joined: U5 U6 U7. -/
import Derived.Test.YtgnpihhakogeeaaMj
import Derived.Test.YtgnpihhakogeeaaMf
import Derived.Test.YtgnpihhakogeeaaMi
namespace Go.Proofs.Ytgnpihhakogeeaa
set_option linter.unusedSimpArgs false
set_option linter.unusedVariables false
open Go.RowKit
structure Tab (n : Nat) (ids : List Nat) (T : List (List Bool)) (H : AHeap) : Prop where
 len : ids.length = T.length
 row : ∀ j (h : j < T.length) (h2 : j < ids.length), T[j].length = n ∧ H.get ids[j] = some (.cells (T[j].map AV.b) 4)
theorem nodAt_nat {l : List Nod} {k : Nat} (h : k < l.length) : nodAt l (k : Int) = l[k] := by
 unfold nodAt
 simp [h]
def part (r : List Bool) (k : Nat) : List Bool := r.take k ++ List.replicate (r.length - k) false
theorem Tab.hx {n : Nat} {ids : List Nat} {T : List (List Bool)} {H G : AHeap} {O : List (Nat × AObj)} (h : Tab n ids T H) (hx : HX O H G) (hO : ∀ p ∈ O, p.1 ∉ ids) : Tab n ids T G := ⟨h.len, fun j h1 h2 => ⟨(h.row j h1 h2).1, by
 have e := (h.row j h1 h2).2
 rw [hx.g _ (AHeap.lt e) ?_]
 ·exact e
 ·rw [List.any_eq_false]
  intro p hp
  have := hO p hp
  simp only [beq_iff_eq]
  intro e2
  exact this (e2 ▸ List.getElem_mem h2)⟩⟩
theorem Tab.ext {n : Nat} {ids : List Nat} {T : List (List Bool)} {H G : AHeap} (h : Tab n ids T H) (hx : AHeap.Ext H G) : Tab n ids T G := ⟨h.len, fun j h1 h2 => ⟨(h.row j h1 h2).1, hx.get _ _ (h.row j h1 h2).2⟩⟩
theorem Tab.lt {n : Nat} {ids : List Nat} {T : List (List Bool)} {H : AHeap} (h : Tab n ids T H) : ∀ i ∈ ids, i < H.next := by
 intro i hi
 obtain ⟨j, hj, rfl⟩ := List.getElem_of_mem hi
 exact AHeap.lt (h.row j (by rw [← h.len]; exact hj) hj).2
structure ArW (x : Shp) (l : List Nod) : Prop where
 may : shpMay x = true
 len : l.length ≤ 100000
 small : ∀ n ∈ l, smallN n
 down : Down x l
theorem ArW.bounds {x : Shp} {l : List Nod} (h : ArW x l) : 1 ≤ x.sizes.length ∧ x.sizes.length ≤ 16 ∧ ∀ s ∈ x.sizes, s.length ≤ 4 := by
 obtain ⟨b1, b2, b3, b4, b5⟩ := shpMay_bounds h.may
 exact ⟨b1, b2, fun s hs => (sizesMay_bounds (b5 s hs)).2.1⟩
theorem ArW.child {x : Shp} {l : List Nod} (h : ArW x l) : ∀ n ∈ l, lastB x n.dim = false → ∀ c ∈ each n, 0 ≤ c.child ∧ c.child < l.length := by
 intro n hn hl c hc
 obtain ⟨i, hi, rfl⟩ := List.getElem_of_mem hn
 have := h.down i hi
 rw [nodAt_nat hi] at this
 have := this hl c hc
 omega
theorem awhole_sound {H : AHeap} {id : Nat} {x : Shp} {l : List Nod} (ha : ArA H id x l) (hw : ArW x l) : Sound Try.prog 55 [.ptr id 0] H (Pure H (.b (wholeB x l))) := by
 obtain ⟨b1, b2, b3⟩ := hw.bounds
 exact whole_sound ha b1 (by omega) (by have := hw.len; omega) hw.small hw.child
theorem ArA.eAr {H : AHeap} {id : Nat} {x : Shp} {l : List Nod} (h : ArA H id x l) : ∃ tok nodes most, H.get id = some (.cells (eAr x tok nodes most) 75) := by
 obtain ⟨tok, nt, most, h⟩ := h
 exact ⟨_, _, _, h⟩
theorem bfc (b : Bool) : b = false ∨ b = true := by cases b <;> simp
theorem flat_mem_le {α : Type} {c : List α} : ∀ {ls : List (List α)}, c ∈ ls → c.length ≤ ls.flatten.length
 | [], h => by cases h
 | a :: ls, h => by
  rw [List.flatten_cons, List.length_append]
  rcases List.mem_cons.1 h with rfl | h
  ·omega
  ·have := flat_mem_le h; omega
theorem FewNods.small {most : Nat} {l : List Nod} (h : FewNods most l) : ∀ n ∈ l, smallN n := by
 intro n hn
 obtain ⟨h1, h2⟩ := h.2 n hn
 refine ⟨by omega, by omega, fun c hc => ?_⟩
 have : c.length ≤ n.lists.flatten.length := by
  exact flat_mem_le hc
 omega
theorem load_all {x : Shp} {l : List Nod} (h : loadErr x l = 0) : shpMay x = true ∧ ∀ i (hi : i < l.length), addErr x 131072 (l.take i) l[i] = 0 := by
 unfold loadErr at h
 cases hm : shpMay x with
 | false => rw [hm] at h; cases h
 | true =>
  rw [hm] at h
  simp only [Bool.true_eq_false, if_false] at h
  have h' : loadFrom x 131072 (l.take 0) (l.drop 0) = 0 := h
  refine ⟨rfl, ?_⟩
  have : ∀ k, loadFrom x 131072 (l.take k) (l.drop k) = 0 → ∀ i (hi : i < l.length), k ≤ i → addErr x 131072 (l.take i) l[i] = 0 := by
   intro k
   generalize hn : l.length - k = n
   induction n generalizing k with
   | zero => intro _ i hi hk; omega
   | succ n ih =>
    intro hk i hi hki
    have hkl : k < l.length := by omega
    rw [loadFrom_step x 131072 l k hkl] at hk
    by_cases he : addErr x 131072 (l.take k) l[k] = 0
    ·rw [if_neg (by simpa using he)] at hk
     rcases Nat.eq_or_lt_of_le hki with rfl | hlt
     ·exact he
     ·exact ih (k + 1) (by omega) hk i hi hlt
    ·rw [if_pos he] at hk; exact absurd hk he
  exact fun i hi => this 0 h' i hi (Nat.zero_le _)
theorem add_zero' {x : Shp} {most : Int} {l : List Nod} {n : Nod} (h : addErr x most l n = 0) : checkErr x n = 0 ∧ leadsB x l n = true ∧ (l.length : Int) < most := by
 unfold addErr at h
 split at h
 ·rename_i h1; exact absurd h h1
 ·rename_i h1
  split at h
  ·cases h
  ·rename_i h2
   split at h
   ·cases h
   ·rename_i h3
    exact ⟨by simpa using h1, by simpa using h2, by omega⟩
theorem load_w {x : Shp} {l : List Nod} (h : loadErr x l = 0) (hlen : l.length ≤ 100000) (hs : ∀ n ∈ l, smallN n) : ArW x l ∧ ∀ n ∈ l, 0 ≤ n.dim ∧ n.dim < x.sizes.length := by
 obtain ⟨hm, ha⟩ := load_all h
 refine ⟨⟨hm, hlen, hs, fun i hi hl c hc => ?_⟩, fun n hn => ?_⟩
 ·rw [nodAt_nat hi] at hl hc
  obtain ⟨h1, h2, _⟩ := add_zero' (ha i hi)
  unfold leadsB at h2
  rw [hl, Bool.false_or, List.all_eq_true] at h2
  have h3 := h2 c hc
  simp only [Bool.and_eq_true, decide_eq_true_eq, List.length_take] at h3
  exact ⟨check_child h1 hl c hc, by omega⟩
 ·obtain ⟨i, hi, rfl⟩ := List.getElem_of_mem hn
  have := check_dim (add_zero' (ha i hi)).1
  exact ⟨this.1, this.2.1⟩
theorem LoadQ.arw {x : Shp} {l : List Nod} {H H' : AHeap} {id : Nat} (h : ArNew x l 131072 H H' id) : ArA H' id x l := by
 obtain ⟨tk, tok, h, _⟩ := h
 exact h.ara
end Go.Proofs.Ytgnpihhakogeeaa
