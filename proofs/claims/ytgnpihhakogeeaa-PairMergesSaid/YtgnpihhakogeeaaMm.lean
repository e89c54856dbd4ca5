/- Texts of the walk, joined: Yd U8 U9 Ua Ub Uc. -/
import Derived.Test.YtgnpihhakogeeaaMi
import Derived.Test.YtgnpihhakogeeaaMk
namespace Go.Proofs.Ytgnpihhakogeeaa
set_option linter.unusedSimpArgs false
set_option linter.unusedVariables false
open Go.RowKit
inductive Wkn : AV → AV → Prop
 | refl (a : AV) : Wkn a a
 | sl (t : Tok) (rows rows' : List (List AV)) (hl : rows.length = rows'.length) (h1 : ∀ (i : Nat) (r r' : List AV), rows[i]? = some r → rows'[i]? = some r' → r.length = r'.length)
   (h2 : ∀ (i : Nat) (r r' : List AV) (j : Nat) (x y : AV), rows[i]? = some r → rows'[i]? = some r' → r[j]? = some x → r'[j]? = some y → Wkn x y) : Wkn (.sl t rows) (.sl .no rows')
 | agg (cs cs' : List AV) (hl : cs.length = cs'.length) (h : ∀ (i : Nat) (x y : AV), cs[i]? = some x → cs'[i]? = some y → Wkn x y) : Wkn (.agg cs) (.agg cs')
 | tup (cs cs' : List AV) (hl : cs.length = cs'.length) (h : ∀ (i : Nat) (x y : AV), cs[i]? = some x → cs'[i]? = some y → Wkn x y) : Wkn (.tup cs) (.tup cs')
section
variable {g : Gh} {w : World}
theorem Wkn.one {a b : AV} (h : Wkn a b) : a.one = b.one := by cases h <;> rfl
theorem get_of_len {α : Type} {l m : List α} (hl : l.length = m.length) {i : Nat} {y : α} (h : m[i]? = some y) : ∃ x, l[i]? = some x := by
 have := (List.getElem?_eq_some_iff.1 h).1
 exact ⟨l[i]'(by omega), List.getElem?_eq_getElem (by omega)⟩
theorem VR.wkn {a b : AV} {v : Value} (hw : Wkn a b) (h : VR g w a v) : VR g w b v := by
 induction hw generalizing v with
 | refl a => exact h
 | sl t rows rows' hl h1 h2 ih =>
  cases h with
  | sl tok _ A c sz b o f hc hm hA hsz hcell hv ht =>
   have := VR.sl (g := g) (w := w) .no rows' A c sz b o f (by rw [← hl]; exact hc) hm (fun hne => hA fun e => hne (by rw [e] at hl; exact List.length_eq_zero_iff.1 hl.symm)) (fun r' hr' => by
    obtain ⟨i, hi, rfl⟩ := List.getElem_of_mem hr'
    obtain ⟨r, hr⟩ := get_of_len hl (List.getElem?_eq_getElem hi)
    have hrm := List.mem_of_getElem? hr
    have e := h1 i r _ hr (List.getElem?_eq_getElem hi)
    refine ⟨by rw [← e]; exact (hsz r hrm).1, fun y hy => ?_⟩
    obtain ⟨j, hj, rfl⟩ := List.getElem_of_mem hy
    obtain ⟨x, hx⟩ := get_of_len e (List.getElem?_eq_getElem hj)
    rw [← (h2 i r _ j x _ hr (List.getElem?_eq_getElem hi) hx (List.getElem?_eq_getElem hj)).one]
    exact (hsz r hrm).2 x (List.mem_of_getElem? hx)) (fun i r' j y hr' hy => by
    obtain ⟨r, hr⟩ := get_of_len hl hr'
    obtain ⟨x, hx⟩ := get_of_len (h1 i r r' hr hr') hy
    exact hcell i r j x hr hx) (fun i r' j y hr' hy => by
    obtain ⟨r, hr⟩ := get_of_len hl hr'
    obtain ⟨x, hx⟩ := get_of_len (h1 i r r' hr hr') hy
    exact ih i r r' j x y hr hr' hx hy (hv i r j x hr hx)) trivial
   rw [hl]
   exact this
 | agg cs cs' hl hh ih =>
  cases h with
  | agg _ vs hl2 hone hv => exact .agg cs' vs (by rw [← hl]; exact hl2) (fun y hy => by
    obtain ⟨j, hj, rfl⟩ := List.getElem_of_mem hy
    obtain ⟨x, hx⟩ := get_of_len hl (List.getElem?_eq_getElem hj)
    rw [← (hh j x _ hx (List.getElem?_eq_getElem hj)).one]
    exact hone x (List.mem_of_getElem? hx)) (fun i y u hy hu => by
    obtain ⟨x, hx⟩ := get_of_len hl hy
    exact ih i x y hx hy (hv i x u hx hu))
 | tup cs cs' hl hh ih =>
  cases h with
  | tup _ vs hl2 hv => exact .tup cs' vs (by rw [← hl]; exact hl2) (fun i y u hy hu => by
    obtain ⟨x, hx⟩ := get_of_len hl hy
    exact ih i x y hx hy (hv i x u hx hu))
end
theorem RStep.wkn {r v : AV} {H H2 : AHeap} (hr : Wkn r v) (h : AHeap.Ext H2 H) : RStep r H v (H2.bump (H.next - H2.next)) := fun g w u hv hW => by
 obtain ⟨k1, k2⟩ := drop_ok hW (H2 := H2.bump (H.next - H2.next)) (fun i o hi => h.get i o hi) (by have := h.next; simp; omega)
 exact ⟨g, hv.wkn hr, k1, k2⟩
abbrev rLt (ts : List (Tok × List Cel)) : List (List AV) := ts.map fun p => [.sl p.1 (rC p.2)]
theorem wkn_lists (t : Tok) (ts : List (Tok × List Cel)) : Wkn (.sl t (rLt ts)) (.sl .no (rL (ts.map (·.2)))) := by
 refine .sl _ _ _ (by simp) (fun i r r' h h' => ?_) (fun i r r' j x y h h' hx hy => ?_)
 ·simp only [List.getElem?_map, List.map_map] at h h'
  cases hi : ts[i]? with
  | none => rw [hi] at h; cases h
  | some p => rw [hi] at h h'; simp at h h'; subst h h'; rfl
 ·simp only [List.getElem?_map, List.map_map] at h h'
  cases hi : ts[i]? with
  | none => rw [hi] at h; cases h
  | some p =>
   rw [hi] at h h'
   simp at h h'
   subst h h'
   cases j with
   | zero => simp at hx hy; subst hx hy; exact .sl _ _ _ rfl (fun i r r' h h' => by rw [h] at h'; injection h' with h'; rw [h']) (fun i r r' j x y h h' hx hy => by rw [h] at h'; injection h' with h'; subst h'; rw [hx] at hy; injection hy with hy; subst hy; exact .refl _)
   | succ j => simp at hx
def eNodT (t : Tok) (dim : Int) (ts : List (Tok × List Cel)) (all : Cel) : List AV := .i dim :: .sl t (rLt ts) :: eCel all
theorem wkn_node (t : Tok) (dim : Int) (ts : List (Tok × List Cel)) (all : Cel) : Wkn (.agg (eNodT t dim ts all)) (.agg (eNod .no ⟨dim, ts.map (·.2), all⟩)) := by
 refine .agg _ _ rfl (fun i x y hx hy => ?_)
 have e : eNod .no ⟨dim, ts.map (·.2), all⟩ = .i dim :: .sl .no (rL (ts.map (·.2))) :: eCel all := rfl
 rw [e] at hy
 unfold eNodT at hx
 match i with
 | 0 => simp at hx hy; subst hx hy; exact .refl _
 | 1 => simp at hx hy; subst hx hy; simpa using wkn_lists t ts
 | i + 2 => simp only [List.getElem?_cons_succ] at hx hy; rw [hx] at hy; injection hy with hy; subst hy; exact .refl _
theorem bfd (b : Bool) : b = false ∨ b = true := by cases b <;> simp
def chs (x : Shp) (l : List Nod) (at_ : Int) : List Int := if lastB x (nodAt l at_).dim = true then [] else (each (nodAt l at_)).map Cel.child
def visF (x : Shp) (l : List Nod) : Nat → List Int → Int → List Int
 | 0, came, _ => came
 | n + 1, came, at_ => if came.contains at_ = true then came else (chs x l at_).foldl (visF x l n) came ++ [at_]
structure Plc (n : Nat) (r : List Int) : Prop where
 nodup : r.Nodup
 lo : ∀ u ∈ r, 0 ≤ u ∧ u < n
theorem Plc.len {n : Nat} {r : List Int} (h : Plc n r) : r.length ≤ n := by
 have h1 : (r.map Int.toNat).Nodup := by
  refine List.Pairwise.map _ ?_ (List.Pairwise.and_mem.1 h.nodup)
  rintro a b ⟨ha, hb, hne⟩ e
  have := h.lo a ha
  have := h.lo b hb
  exact hne (by omega)
 have h2 : ∀ u ∈ r.map Int.toNat, u < n := by
  intro u hu
  obtain ⟨v, hv, rfl⟩ := List.mem_map.1 hu
  have := h.lo v hv
  omega
 have h3 := List.Nodup.length_le_of_subset (l₂ := List.range n) h1 (fun u hu => List.mem_range.2 (h2 u hu))
 simpa using h3
theorem Plc.nil (n : Nat) : Plc n [] := ⟨List.nodup_nil, by simp⟩
def Clo (x : Shp) (l : List Nod) (r : List Int) : Prop := ∀ i (h : i < r.length), ∀ c ∈ chs x l r[i], c ∈ r.take i
theorem chs_down {x : Shp} {l : List Nod} (hd : Down x l) {i : Int} (h0 : 0 ≤ i) (h1 : i < l.length) {c : Int} (hc : c ∈ chs x l i) : 0 ≤ c ∧ c < i := by
 unfold chs at hc
 split at hc
 ·cases hc
 ·rename_i hl
  obtain ⟨n, rfl⟩ : ∃ n : Nat, i = n := ⟨i.toNat, by omega⟩
  obtain ⟨e, he, rfl⟩ := List.mem_map.1 hc
  exact hd n (by omega) (by simpa using hl) e he
structure VisQ (x : Shp) (l : List Nod) (came r : List Int) (ats : List Int) : Prop where
 pre : ∃ new, r = came ++ new ∧ ∀ u ∈ new, (u ∈ ats ∨ ∃ v ∈ new, u ∈ chs x l v) ∧ ∃ a ∈ ats, u ≤ a
 plc : Plc l.length r
 clo : Clo x l r
 all : ∀ u ∈ ats, u ∈ r
def mvC (inner : Bool) (ps : List Int) (c : Cel) : Cel := if inner = true ∧ 0 ≤ c.child ∧ c.child < ps.length then ⟨c.key, ps.getD c.child.toNat 0, c.agg⟩ else c
structure MvAt (H : AHeap) (pid id7 id6 tk : Nat) (ps : List Int) (Z : List AV) (dim : Int) (done : List (List Cel)) (all : Cel) (S : AHeap) : Prop where
 ext : AHeap.Ext H S
 gp : S.get pid = some (.cells (ps.map AV.i) 3)
 g7 : ∃ ts : List (Tok × List Cel), ts.map (·.2) = done ∧ S.get id7 = some (.cells (eNodT (.own tk) dim ts all) 45)
 g6 : S.get id6 = some (.cells Z 45)
 gt : S.get tk = some (.tok done.length 83 1)
structure Ord (x : Shp) (l : List Nod) (r : List Int) (ps : List Int) : Prop where
 plc : Plc l.length r
 clo : Clo x l r
 len : ps.length = l.length
 get : ∀ j (h : j < r.length), ps.getD (r[j]).toNat 0 = (j : Int)
section
variable {x : Shp} {l : List Nod} {r ps : List Int}
theorem Ord.node (h : Ord x l r ps) {i : Nat} (hi : i < r.length) : nodAt l r[i] = l[(r[i]).toNat]'(by have := h.plc.lo _ (List.getElem_mem hi); omega) := by
 have := h.plc.lo _ (List.getElem_mem hi)
 obtain ⟨a, ha⟩ : ∃ a : Nat, r[i] = a := ⟨(r[i]).toNat, by omega⟩
 have ha1 : a < l.length := by omega
 simp only [ha, nodAt_nat ha1, Int.toNat_natCast]
theorem Ord.child (h : Ord x l r ps) {i : Nat} (hi : i < r.length) (hl : lastB x (nodAt l r[i]).dim = false) {c : Cel} (hc : c ∈ each (nodAt l r[i])) :
  ∃ j, ∃ hj : j < r.length, j < i ∧ c.child = r[j] ∧ (mvC true ps c).child = (j : Int) := by
 have hm : c.child ∈ chs x l r[i] := by
  unfold chs
  rw [hl]
  simp only [Bool.false_eq_true, if_false]
  exact List.mem_map.2 ⟨c, hc, rfl⟩
 have := h.clo i hi _ hm
 obtain ⟨j, hj, e⟩ := List.getElem_of_mem this
 rw [List.length_take] at hj
 rw [List.getElem_take] at e
 have hjr : j < r.length := by omega
 refine ⟨j, hjr, by omega, e.symm, ?_⟩
 have hlo := h.plc.lo _ (List.getElem_mem hjr)
 unfold mvC
 rw [if_pos ⟨rfl, by omega, by rw [h.len]; omega⟩]
 rw [← e]
 exact h.get j hjr
end
end Go.Proofs.Ytgnpihhakogeeaa
