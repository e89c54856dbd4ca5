/- Texts of the walk, joined: U8 U9 Ua Ub Uc. -/
import Derived.Test.YtaapiigfmdhobaaMv
import Derived.Test.YtaapiigfmdhobaaMj
namespace Go.Proofs.Ytaapiigfmdhobaa
set_option linter.unusedSimpArgs false
set_option linter.unusedVariables false
open Go.RowKit
theorem bfd (b : Bool) : b = false ∨ b = true := by cases b <;> simp
def chs (x : Shp) (l : List Nod) (at_ : Int) : List Int := if lastB x (nodAt l at_).dim = true then [] else (each (nodAt l at_)).map Cel.child
structure Plc (n : Nat) (r : List Int) : Prop where
 nodup : r.Nodup
 lo : ∀ u ∈ r, 0 ≤ u ∧ u < n
theorem Plc.len {n : Nat} {r : List Int} (h : Plc n r) : r.length ≤ n := by
 have h1 : (r.map Int.toNat).Nodup := by
  refine List.Pairwise.map _ ?_ (List.Pairwise.and_mem.1 h.nodup)
  rintro a b ⟨ha, hb, hne⟩ e
  have := h.lo a ha
  have := h.lo b hb
  exact hne (by omega)
 have h2 : ∀ u ∈ r.map Int.toNat, u < n := by
  intro u hu
  obtain ⟨v, hv, rfl⟩ := List.mem_map.1 hu
  have := h.lo v hv
  omega
 have h3 := List.Nodup.length_le_of_subset (l₂ := List.range n) h1 (fun u hu => List.mem_range.2 (h2 u hu))
 simpa using h3
theorem Plc.nil (n : Nat) : Plc n [] := ⟨List.nodup_nil, by simp⟩
def Clo (x : Shp) (l : List Nod) (r : List Int) : Prop := ∀ i (h : i < r.length), ∀ c ∈ chs x l r[i], c ∈ r.take i
theorem chs_down {x : Shp} {l : List Nod} (hd : Down x l) {i : Int} (h0 : 0 ≤ i) (h1 : i < l.length) {c : Int} (hc : c ∈ chs x l i) : 0 ≤ c ∧ c < i := by
 unfold chs at hc
 split at hc
 ·cases hc
 ·rename_i hl
  obtain ⟨n, rfl⟩ : ∃ n : Nat, i = n := ⟨i.toNat, by omega⟩
  obtain ⟨e, he, rfl⟩ := List.mem_map.1 hc
  exact hd n (by omega) (by simpa using hl) e he
structure VisQ (x : Shp) (l : List Nod) (came r : List Int) (ats : List Int) : Prop where
 pre : ∃ new, r = came ++ new ∧ ∀ u ∈ new, (u ∈ ats ∨ ∃ v ∈ new, u ∈ chs x l v) ∧ ∃ a ∈ ats, u ≤ a
 plc : Plc l.length r
 clo : Clo x l r
 all : ∀ u ∈ ats, u ∈ r
def mvC (inner : Bool) (ps : List Int) (c : Cel) : Cel := if inner = true ∧ 0 ≤ c.child ∧ c.child < ps.length then ⟨c.key, ps.getD c.child.toNat 0, c.agg⟩ else c
structure MvAt (H : AHeap) (pid id7 id6 tk : Nat) (ps : List Int) (Z : List AV) (dim : Int) (done : List (List Cel)) (all : Cel) (S : AHeap) : Prop where
 ext : AHeap.Ext H S
 gp : S.get pid = some (.cells (ps.map AV.i) 3)
 g7 : ∃ ts : List (Tok × List Cel), ts.map (·.2) = done ∧ S.get id7 = some (.cells (eNodT (.own tk) dim ts all) 60)
 g6 : S.get id6 = some (.cells Z 60)
 gt : S.get tk = some (.tok done.length 61 1)
structure Ord (x : Shp) (l : List Nod) (r : List Int) (ps : List Int) : Prop where
 plc : Plc l.length r
 clo : Clo x l r
 len : ps.length = l.length
 get : ∀ j (h : j < r.length), ps.getD (r[j]).toNat 0 = (j : Int)
section
variable {x : Shp} {l : List Nod} {r ps : List Int}
theorem Ord.node (h : Ord x l r ps) {i : Nat} (hi : i < r.length) : nodAt l r[i] = l[(r[i]).toNat]'(by have := h.plc.lo _ (List.getElem_mem hi); omega) := by
 have := h.plc.lo _ (List.getElem_mem hi)
 obtain ⟨a, ha⟩ : ∃ a : Nat, r[i] = a := ⟨(r[i]).toNat, by omega⟩
 have ha1 : a < l.length := by omega
 simp only [ha, nodAt_nat ha1, Int.toNat_natCast]
theorem Ord.child (h : Ord x l r ps) {i : Nat} (hi : i < r.length) (hl : lastB x (nodAt l r[i]).dim = false) {c : Cel} (hc : c ∈ each (nodAt l r[i])) :
  ∃ j, ∃ hj : j < r.length, j < i ∧ c.child = r[j] ∧ (mvC true ps c).child = (j : Int) := by
 have hm : c.child ∈ chs x l r[i] := by
  unfold chs
  rw [hl]
  simp only [Bool.false_eq_true, if_false]
  exact List.mem_map.2 ⟨c, hc, rfl⟩
 have := h.clo i hi _ hm
 obtain ⟨j, hj, e⟩ := List.getElem_of_mem this
 rw [List.length_take] at hj
 rw [List.getElem_take] at e
 have hjr : j < r.length := by omega
 refine ⟨j, hjr, by omega, e.symm, ?_⟩
 have hlo := h.plc.lo _ (List.getElem_mem hjr)
 unfold mvC
 rw [if_pos ⟨rfl, by omega, by rw [h.len]; omega⟩]
 rw [← e]
 exact h.get j hjr
end
end Go.Proofs.Ytaapiigfmdhobaa
