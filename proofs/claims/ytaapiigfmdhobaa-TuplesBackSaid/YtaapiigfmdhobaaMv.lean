/- Texts of the walk, joined: Qt U4 U5 U6 U7. -/
import Derived.Test.YtaapiigfmdhobaaMf
import Derived.Test.YtaapiigfmdhobaaMd
import Derived.Test.YtaapiigfmdhobaaMj
import Derived.Test.YtaapiigfmdhobaaMi
namespace Go.Proofs.Ytaapiigfmdhobaa
set_option linter.unusedSimpArgs false
set_option linter.unusedVariables false
open Go.RowKit
def has (M : List ((Int × Int) × Int)) (p : Int × Int) : Prop := (aGet p M).isSome = true
def tails (l : List Cel) : List (Int × Ag) := l.map fun c => (c.key, c.agg)
def locT (p q : Nod) : Bool := decide (p.dim = q.dim) && (decide (p.lists.map List.length = q.lists.map List.length) && decide (tails (each p) = tails (each q)))
def chl (x : Shp) (p q : Nod) : List (Int × Int) := if lastB x p.dim = true then [] else ((each p).map Cel.child).zip ((each q).map Cel.child)
def good (x : Shp) (l k : List Nod) (M : List ((Int × Int) × Int)) (p : Int × Int) : Prop := locT (nodAt l p.1) (nodAt k p.2) = true ∧ ∀ q ∈ chl x (nodAt l p.1) (nodAt k p.2), has M q
structure Grow (x : Shp) (l k : List Nod) (M M' : List ((Int × Int) × Int)) : Prop where
 sub : ∀ p, has M p → has M' p
 new : ∀ p, has M' p → has M p ∨ good x l k M' p
theorem good.mono {x : Shp} {l k : List Nod} {M M' : List ((Int × Int) × Int)} {p : Int × Int} (h : good x l k M p) (hs : ∀ p, has M p → has M' p) : good x l k M' p := ⟨h.1, fun q hq => hs q (h.2 q hq)⟩
theorem Grow.refl (x : Shp) (l k : List Nod) (M : List ((Int × Int) × Int)) : Grow x l k M M := ⟨fun _ h => h, fun _ h => .inl h⟩
theorem Grow.trans {x : Shp} {l k : List Nod} {M M' M'' : List ((Int × Int) × Int)} (h : Grow x l k M M') (g : Grow x l k M' M'') : Grow x l k M M'' := ⟨fun p hp => g.sub p (h.sub p hp), fun p hp => by
 rcases g.new p hp with h1 | h1
 ·rcases h.new p h1 with h2 | h2
  ·exact .inl h2
  ·exact .inr (h2.mono g.sub)
 ·exact .inr h1⟩
theorem ExtB.lt {m i : Nat} {H H' : AHeap} (h : ExtB m H H') (hi : i < H.next) : i < H'.next := Nat.lt_of_lt_of_le hi h.next
section
variable {w a b m : Nat} {x : Shp} {l k : List Nod} {M : List ((Int × Int) × Int)} {H : AHeap}
end
theorem nodAt_small {l : List Nod} (i : Int) (h : ∀ n ∈ l, smallN n) : smallN (nodAt l i) := by
 have h0 : smallN ⟨0, [], ⟨0, 0, ⟨0, 0, 0, 0, 0, 0, 0, 0, 0, 0⟩⟩⟩ := by unfold smallN; simp
 unfold nodAt
 split
 ·cases he : l[i.toNat]? with
  | none => exact h0
  | some n => exact h n (List.mem_of_getElem? he)
 ·exact h0
def Down (x : Shp) (l : List Nod) : Prop := ∀ i : Nat, i < l.length → lastB x (nodAt l i).dim = false → ∀ c ∈ each (nodAt l i), 0 ≤ c.child ∧ c.child < i
structure Tab (n : Nat) (ids : List Nat) (T : List (List Bool)) (H : AHeap) : Prop where
 len : ids.length = T.length
 row : ∀ j (h : j < T.length) (h2 : j < ids.length), T[j].length = n ∧ H.get ids[j] = some (.cells (T[j].map AV.b) 4)
theorem nodAt_nat {l : List Nod} {k : Nat} (h : k < l.length) : nodAt l (k : Int) = l[k] := by
 unfold nodAt
 simp [h]
def part (r : List Bool) (k : Nat) : List Bool := r.take k ++ List.replicate (r.length - k) false
theorem Tab.hx {n : Nat} {ids : List Nat} {T : List (List Bool)} {H G : AHeap} {O : List (Nat × AObj)} (h : Tab n ids T H) (hx : HX O H G) (hO : ∀ p ∈ O, p.1 ∉ ids) : Tab n ids T G := ⟨h.len, fun j h1 h2 => ⟨(h.row j h1 h2).1, by
 have e := (h.row j h1 h2).2
 rw [hx.g _ (AHeap.lt e) ?_]
 ·exact e
 ·rw [List.any_eq_false]
  intro p hp
  have := hO p hp
  simp only [beq_iff_eq]
  intro e2
  exact this (e2 ▸ List.getElem_mem h2)⟩⟩
theorem Tab.ext {n : Nat} {ids : List Nat} {T : List (List Bool)} {H G : AHeap} (h : Tab n ids T H) (hx : AHeap.Ext H G) : Tab n ids T G := ⟨h.len, fun j h1 h2 => ⟨(h.row j h1 h2).1, hx.get _ _ (h.row j h1 h2).2⟩⟩
theorem Tab.lt {n : Nat} {ids : List Nat} {T : List (List Bool)} {H : AHeap} (h : Tab n ids T H) : ∀ i ∈ ids, i < H.next := by
 intro i hi
 obtain ⟨j, hj, rfl⟩ := List.getElem_of_mem hi
 exact AHeap.lt (h.row j (by rw [← h.len]; exact hj) hj).2
structure ArW (x : Shp) (l : List Nod) : Prop where
 may : shpMay x = true
 len : l.length ≤ 100000
 small : ∀ n ∈ l, smallN n
 down : Down x l
theorem ArW.bounds {x : Shp} {l : List Nod} (h : ArW x l) : 1 ≤ x.sizes.length ∧ x.sizes.length ≤ 16 ∧ ∀ s ∈ x.sizes, s.length ≤ 4 := by
 obtain ⟨b1, b2, b3, b4, b5⟩ := shpMay_bounds h.may
 exact ⟨b1, b2, fun s hs => (sizesMay_bounds (b5 s hs)).2.1⟩
theorem ArW.child {x : Shp} {l : List Nod} (h : ArW x l) : ∀ n ∈ l, lastB x n.dim = false → ∀ c ∈ each n, 0 ≤ c.child ∧ c.child < l.length := by
 intro n hn hl c hc
 obtain ⟨i, hi, rfl⟩ := List.getElem_of_mem hn
 have := h.down i hi
 rw [nodAt_nat hi] at this
 have := this hl c hc
 omega
theorem awhole_sound {H : AHeap} {id : Nat} {x : Shp} {l : List Nod} (ha : ArA H id x l) (hw : ArW x l) : Sound Try.prog 42 [.ptr id 0] H (Pure H (.b (wholeB x l))) := by
 obtain ⟨b1, b2, b3⟩ := hw.bounds
 exact whole_sound ha b1 (by omega) (by have := hw.len; omega) hw.small hw.child
theorem ArA.eAr {H : AHeap} {id : Nat} {x : Shp} {l : List Nod} (h : ArA H id x l) : ∃ tok nodes most, H.get id = some (.cells (eAr x tok nodes most) 93) := by
 obtain ⟨tok, nt, most, h⟩ := h
 exact ⟨_, _, _, h⟩
theorem alen_sound {H : AHeap} {id : Nat} {x : Shp} {l : List Nod} (ha : ArA H id x l) (hw : ArW x l) : Sound Try.prog 12 [.ptr id 0] H (PureE H (.i l.length)) := len_sound ha hw.bounds.1
theorem load_w {x : Shp} {l : List Nod} (h : loadErr x l = 0) (hlen : l.length ≤ 100000) (hs : ∀ n ∈ l, smallN n) : ArW x l ∧ ∀ n ∈ l, 0 ≤ n.dim ∧ n.dim < x.sizes.length := by
 obtain ⟨hm, ha⟩ := load_all h
 refine ⟨⟨hm, hlen, hs, fun i hi hl c hc => ?_⟩, fun n hn => ?_⟩
 ·rw [nodAt_nat hi] at hl hc
  obtain ⟨h1, h2, _⟩ := add_zero' (ha i hi)
  unfold leadsB at h2
  rw [hl, Bool.false_or, List.all_eq_true] at h2
  have h3 := h2 c hc
  simp only [Bool.and_eq_true, decide_eq_true_eq, List.length_take] at h3
  exact ⟨check_child h1 hl c hc, by omega⟩
 ·obtain ⟨i, hi, rfl⟩ := List.getElem_of_mem hn
  have := check_dim (add_zero' (ha i hi)).1
  exact ⟨this.1, this.2.1⟩
theorem LoadQ.arw {x : Shp} {l : List Nod} {H H' : AHeap} {id : Nat} (h : ArNew x l 131072 H H' id) : ArA H' id x l := by
 obtain ⟨tk, tok, h, _⟩ := h
 exact h.ara
end Go.Proofs.Ytaapiigfmdhobaa
