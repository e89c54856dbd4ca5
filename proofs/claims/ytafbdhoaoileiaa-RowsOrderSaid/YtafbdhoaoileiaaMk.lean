/- Texts of the walk, joined: Gr Gs Gt Gu Gv Gw. -/
import Derived.Test.YtafbdhoaoileiaaMj
namespace Go.Proofs.Ytafbdhoaoileiaa
set_option linter.unusedSimpArgs false
set_option linter.unusedVariables false
open Go.RowKit
def metF (ks : List Int) (l : List Fct) : Bool := l.any fun g => decide (g.1 = ks)
@[simp] theorem metF_nil (ks : List Int) : metF ks [] = false := rfl
theorem metF_take {ks : List Int} {l : List Fct} {k : Nat} (h : k < l.length) : metF ks (l.take (k + 1)) = (metF ks (l.take k) || decide (l[k].1 = ks)) := by
 rw [List.take_succ_eq_append_getElem h, metF, List.any_append]; simp [metF]
theorem toNat_lt : ∀ {l m : List Int}, (∀ x ∈ l, 0 ≤ x) → (∀ x ∈ m, 0 ≤ x) → (l.map Int.toNat < m.map Int.toNat ↔ l < m)
 | [], [], _, _ => by simp
 | [], _ :: _, _, _ => by simp
 | _ :: _, [], _, _ => by simp
 | a :: l, b :: m, hl, hm => by
  have ih := toNat_lt (fun x hx => hl x (List.mem_cons_of_mem _ hx)) (fun x hx => hm x (List.mem_cons_of_mem _ hx))
  have h1 := hl a (by simp)
  have h2 := hm b (by simp)
  rw [List.map_cons, List.map_cons, List.cons_lt_cons_iff, List.cons_lt_cons_iff, ih]
  constructor
  ·rintro (h | ⟨h, h'⟩)
   ·exact .inl (by omega)
   ·exact .inr ⟨by omega, h'⟩
  ·rintro (h | ⟨h, h'⟩)
   ·exact .inl (by omega)
   ·exact .inr ⟨by omega, h'⟩
def KeyIn (ks : List Int) : Prop := ∀ x ∈ ks, 0 ≤ x ∧ x < 9223372036854775808
theorem KeyIn.nat {ks : List Int} (h : KeyIn ks) : ∀ x ∈ ks.map Int.toNat, x < 18446744073709551616 := fun x hx => by
 obtain ⟨y, hy, rfl⟩ := List.mem_map.1 hx
 have := h y hy; omega
theorem nmB_lt {a b : List Int} (hl : a.length = b.length) (ha : KeyIn a) (hb : KeyIn b) : nmB a < nmB b ↔ a < b := by
 rw [nmB, nmB, rowB_lt_iff (by simp [hl]) ha.nat hb.nat, toNat_lt (fun x hx => (ha x hx).1) (fun x hx => (hb x hx).1)]
theorem nmB_inj {a b : List Int} (hl : a.length = b.length) (ha : KeyIn a) (hb : KeyIn b) (h : nmB a = nmB b) : a = b := by
 refine keys_eq (fun h1 => ?_) (fun h1 => ?_)
 ·rw [← nmB_lt hl ha hb, h] at h1; exact List.lt_irrefl _ h1
 ·rw [← nmB_lt hl.symm hb ha, h] at h1; exact List.lt_irrefl _ h1
theorem nmB_len {ks : List Int} : (nmB ks).length ≤ 9 * ks.length := by
 have := rowB_len (ks.map Int.toNat)
 rw [List.length_map] at this; exact this
structure TW (w : Int) (M : Tbl) : Prop where
 nd : (M.map (·.1)).Nodup
 ok : ∀ p ∈ M, p.1 = nmB p.2.1 ∧ (p.2.1.length : Int) = w ∧ KeyIn p.2.1 ∧ AgIn p.2.2
theorem aGet_some_mem : ∀ {M : Tbl} {s : List UInt8} {f : Fct}, aGet s M = some f → (s, f) ∈ M
 | (t, g) :: M, s, f, h => by
  rw [aGet] at h
  by_cases e : s = t
  ·rw [if_pos e] at h
   obtain rfl := Option.some.inj h
   subst e; simp
  ·rw [if_neg e] at h
   exact List.mem_cons_of_mem _ (aGet_some_mem h)
theorem rowsM_mem {M : Tbl} (hn : (M.map (·.1)).Nodup) (f : Fct) : f ∈ rowsM M ↔ ∃ s, aGet s M = some f := by
 rw [rowsM, List.mem_filterMap]
 constructor
 ·rintro ⟨s, _, h⟩; exact ⟨s, h⟩
 ·rintro ⟨s, h⟩
  exact ⟨s, keyS_mem.2 (List.mem_map_of_mem (f := (·.1)) (aGet_some_mem h)), h⟩
theorem keyS_rise {M : Tbl} (hn : (M.map (·.1)).Nodup) : (keyS M).Pairwise (· < ·) := by
 have h1 : (keyS M).Pairwise fun a b => decide (a ≤ b) = true := List.pairwise_mergeSort (fun a b c h h' => by
  simp only [decide_eq_true_eq] at *; exact List.le_trans h h') (fun a b => by
  simp only [Bool.or_eq_true, decide_eq_true_eq]; exact List.le_total a b) _
 have h2 : (keyS M).Pairwise (· ≠ ·) := (List.mergeSort_perm _ _).nodup_iff.2 hn
 refine (h1.and h2).imp fun {a b} h => ?_
 simp only [decide_eq_true_eq] at h
 rcases List.le_iff_lt_or_eq.mp h.1 with h1 | h1
 ·exact h1
 ·exact absurd h1 h.2
theorem TW.at {w : Int} {M : Tbl} (h : TW w M) {s : List UInt8} {f : Fct} (hg : aGet s M = some f) : s = nmB f.1 ∧ (f.1.length : Int) = w ∧ KeyIn f.1 ∧ AgIn f.2 := h.ok _ (aGet_some_mem hg)
theorem TW.rise {w : Int} {M : Tbl} (h : TW w M) : RiseF (rowsM M) := by
 rw [RiseF, rowsM, List.pairwise_filterMap]
 refine (keyS_rise h.nd).imp fun {a b} hab f hf g hg => ?_
 obtain ⟨e1, l1, k1, _⟩ := h.at hf
 obtain ⟨e2, l2, k2, _⟩ := h.at hg
 rw [← nmB_lt (by omega) k1 k2, ← e1, ← e2]; exact hab
theorem rowsM_len (M : Tbl) : (rowsM M).length = M.length := by
 rw [← rowsK_all, rowsK_len _ (Nat.le_refl _), keyS_len]
theorem rise_ext : ∀ {l m : List Fct}, RiseF l → RiseF m → (∀ x, x ∈ l ↔ x ∈ m) → l = m
 | [], [], _, _, _ => rfl
 | [], y :: m, _, _, h => by have := (h y).2 (by simp); simp at this
 | x :: l, [], _, _, h => by have := (h x).1 (by simp); simp at this
 | x :: l, y :: m, hl, hm, h => by
  have hl' := List.pairwise_cons.1 hl
  have hm' := List.pairwise_cons.1 hm
  have e : x = y := by
   rcases List.mem_cons.1 ((h x).1 (by simp)) with e | hx
   ·exact e
   ·rcases List.mem_cons.1 ((h y).2 (by simp)) with e | hy
    ·exact e.symm
    ·exact absurd (hm'.1 _ hx) (List.lt_asymm (hl'.1 _ hy))
  subst e
  rw [rise_ext hl'.2 hm'.2 fun z => ?_]
  constructor
  ·intro hz
   rcases List.mem_cons.1 ((h z).1 (List.mem_cons_of_mem _ hz)) with e | hz'
   ·subst e; exact absurd (hl'.1 _ hz) (List.lt_irrefl _)
   ·exact hz'
  ·intro hz
   rcases List.mem_cons.1 ((h z).2 (List.mem_cons_of_mem _ hz)) with e | hz'
   ·subst e; exact absurd (hm'.1 _ hz) (List.lt_irrefl _)
   ·exact hz'
theorem aSet_keys (s : List UInt8) (f : Fct) : ∀ M : Tbl, (aSet s f M).map (·.1) = if s ∈ M.map (·.1) then M.map (·.1) else M.map (·.1) ++ [s]
 | [] => by simp [aSet]
 | (t, g) :: M => by
  have ih := aSet_keys s f M
  unfold aSet
  by_cases e : s = t
  ·subst e; simp
  ·rw [if_neg e, List.map_cons, ih]
   by_cases e2 : s ∈ M.map (·.1)
   ·rw [if_pos e2, if_pos (by simp [e2])]; rfl
   ·rw [if_neg e2, if_neg (by
     rw [List.map_cons, List.mem_cons]
     rintro (h | h)
     ·exact e h
     ·exact e2 h)]; rfl
theorem aSet_mem (s : List UInt8) (f : Fct) : ∀ (M : Tbl) (p : List UInt8 × Fct), p ∈ aSet s f M → p = (s, f) ∨ p ∈ M
 | [], p, h => by simpa [aSet] using h
 | (t, g) :: M, p, h => by
  unfold aSet at h
  by_cases e : s = t
  ·rw [if_pos e] at h
   rcases List.mem_cons.1 h with h | h
   ·exact .inl h
   ·exact .inr (List.mem_cons_of_mem _ h)
  ·rw [if_neg e] at h
   rcases List.mem_cons.1 h with h | h
   ·exact .inr (by rw [h]; simp)
   ·rcases aSet_mem s f M p h with h | h
    ·exact .inl h
    ·exact .inr (List.mem_cons_of_mem _ h)
theorem TW.set {w : Int} {M : Tbl} (h : TW w M) {ks : List Int} {a : Ag} (hl : (ks.length : Int) = w) (hk : KeyIn ks) (ha : AgIn a) : TW w (aSet (nmB ks) (ks, a) M) := by
 refine ⟨?_, fun p hp => ?_⟩
 ·rw [aSet_keys]
  split
  ·exact h.nd
  ·rename_i hn
   rw [List.nodup_append]
   refine ⟨h.nd, by simp, fun x hx y hy => ?_⟩
   rw [List.mem_singleton.1 hy]
   rintro rfl
   exact hn hx
 ·rcases aSet_mem _ _ _ _ hp with rfl | hp
  ·exact ⟨rfl, hl, hk, ha⟩
  ·exact h.ok p hp
theorem joinA_in {a b c : Ag} (ha : AgIn a) (hb : AgIn b) (h : joinA a b = some c) : AgIn c := by
 unfold joinA at h
 split at h
 ·exact Option.some.inj h ▸ hb
 split at h
 ·exact Option.some.inj h ▸ ha
 split at h
 ·cases h
 split at h
 ·cases h
 split at h
 ·cases h
 split at h
 ·cases h
 rename_i h1 h2 h3 h4
 simp only [fitB, decide_eq_false_iff_not, Decidable.not_not] at h1 h2 h3 h4
 obtain rfl := Option.some.inj h
 refine ⟨h1, ?_, ?_, ?_⟩ <;> simp [joinK, h2, h3, h4]
theorem TW.met {w : Int} {M : Tbl} (h : TW w M) {ks : List Int} (hl : (ks.length : Int) = w) (hk : KeyIn ks) {f : Fct} : f ∈ rowsM M ∧ f.1 = ks ↔ aGet (nmB ks) M = some f := by
 rw [rowsM_mem h.nd]
 constructor
 ·rintro ⟨⟨s, hs⟩, rfl⟩
  rw [← (h.at hs).1]; exact hs
 ·intro hs
  obtain ⟨e1, l1, k1, _⟩ := h.at hs
  exact ⟨⟨_, hs⟩, (nmB_inj (by omega) hk k1 e1).symm⟩
theorem TW.none {w : Int} {M : Tbl} (h : TW w M) {ks : List Int} (hl : (ks.length : Int) = w) (hk : KeyIn ks) (hg : aGet (nmB ks) M = none) : ∀ f ∈ rowsM M, f.1 ≠ ks := fun f hf e => by
 have := (h.met hl hk).1 ⟨hf, e⟩
 rw [hg] at this; cases this
theorem TW.nil (w : Int) : TW w [] := ⟨by simp, fun p hp => by cases hp⟩
theorem TW.len_le {w : Int} {M : Tbl} (h : TW w M) (hw : w ≤ 16) : ∀ p ∈ M, p.2.1.length ≤ 16 := fun p hp => by have := (h.ok p hp).2.1; omega
theorem TW.key_le {w : Int} {M : Tbl} (h : TW w M) (hw : w ≤ 16) : ∀ p ∈ M, p.1.length ≤ 1000 := fun p hp => by
 have h1 := h.ok p hp
 have h2 := nmB_len (ks := p.2.1)
 rw [h1.1]; omega
theorem TW.row_at {w : Int} {M : Tbl} (h : TW w M) : ∀ f ∈ rowsM M, (f.1.length : Int) = w ∧ AgIn f.2 := fun f hf => by
 obtain ⟨s, hs⟩ := (rowsM_mem h.nd f).1 hf
 obtain ⟨_, h1, _, h2⟩ := h.at hs
 exact ⟨h1, h2⟩
theorem TW.row_le {w : Int} {M : Tbl} (h : TW w M) (hw : w ≤ 16) (n : Nat) (hn : 16 ≤ n) : ∀ f ∈ rowsM M, f.1.length ≤ n := fun f hf => by have := (h.row_at f hf).1; omega
theorem same_refl (t u : Tok) {w : Int} {M : Tbl} (h : TW w M) (hw : w ≤ 16) (hl : M.length ≤ 1000000) (H : AHeap) : Sound Try.prog 11 [.sl t (rF (rowsM M)), .sl u (rF (rowsM M))] H (Pure H (.b true)) := by
 have := same19_sound t u (rowsM M) (rowsM M) H (by rw [rowsM_len]; exact hl) (h.row_le hw _ (by omega)) (h.row_le hw _ (by omega))
 rwa [decide_eq_true rfl] at this
@[simp] theorem rowsM_nil : rowsM [] = [] := by simp [rowsM, keyS]
theorem HX.thnO {id : Nat} {o o' : AObj} {H H1 G : AHeap} (h : HX [(id, o)] H H1) (k : HX [(id, o')] H1 G) : HX [(id, o')] H G :=
 ⟨Nat.le_trans h.n k.n, k.o, fun i hi hn => (k.g i (Nat.lt_of_lt_of_le hi h.n) (by simpa using hn)).trans (h.g i hi (by simpa using hn))⟩
structure WideA (a : Ag) : Prop where
 n : a.n ≤ 1000000000
 s0 : -1000000000000 ≤ a.s0 ∧ a.s0 ≤ 1000000000000
 s1 : -1000000000000 ≤ a.s1 ∧ a.s1 ≤ 1000000000000
 s2 : -1000000000000 ≤ a.s2 ∧ a.s2 ≤ 1000000000000
structure SumOf (g : Ag) (A : List Ag) : Prop where
 n : g.n = (A.map (·.n)).sum
 s0 : g.s0 = (A.map (·.s0)).sum
 s1 : g.s1 = (A.map (·.s1)).sum
 s2 : g.s2 = (A.map (·.s2)).sum
 l0 : (∃ x ∈ A, x.l0 = g.l0) ∧ ∀ x ∈ A, g.l0 ≤ x.l0
 l1 : (∃ x ∈ A, x.l1 = g.l1) ∧ ∀ x ∈ A, g.l1 ≤ x.l1
 l2 : (∃ x ∈ A, x.l2 = g.l2) ∧ ∀ x ∈ A, g.l2 ≤ x.l2
 h0 : (∃ x ∈ A, x.h0 = g.h0) ∧ ∀ x ∈ A, x.h0 ≤ g.h0
 h1 : (∃ x ∈ A, x.h1 = g.h1) ∧ ∀ x ∈ A, x.h1 ≤ g.h1
 h2 : (∃ x ∈ A, x.h2 = g.h2) ∧ ∀ x ∈ A, x.h2 ≤ g.h2
theorem low_uniq {A : List Ag} {f : Ag → Int} {u v : Int} (h : (∃ x ∈ A, f x = u) ∧ ∀ x ∈ A, u ≤ f x) (k : (∃ x ∈ A, f x = v) ∧ ∀ x ∈ A, v ≤ f x) : u = v := by
 obtain ⟨⟨x, hx, e⟩, hu⟩ := h
 obtain ⟨⟨y, hy, e'⟩, hv⟩ := k
 have := hu y hy
 have := hv x hx
 omega
theorem high_uniq {A : List Ag} {f : Ag → Int} {u v : Int} (h : (∃ x ∈ A, f x = u) ∧ ∀ x ∈ A, f x ≤ u) (k : (∃ x ∈ A, f x = v) ∧ ∀ x ∈ A, f x ≤ v) : u = v := by
 obtain ⟨⟨x, hx, e⟩, hu⟩ := h
 obtain ⟨⟨y, hy, e'⟩, hv⟩ := k
 have := hu y hy
 have := hv x hx
 omega
theorem SumOf.uniq {g g' : Ag} {A : List Ag} (h : SumOf g A) (k : SumOf g' A) : g = g' := by
 rw [ag_eq]
 exact ⟨h.n.trans k.n.symm, ⟨h.s0.trans k.s0.symm, low_uniq h.l0 k.l0, high_uniq h.h0 k.h0⟩, ⟨h.s1.trans k.s1.symm, low_uniq h.l1 k.l1, high_uniq h.h1 k.h1⟩, ⟨h.s2.trans k.s2.symm, low_uniq h.l2 k.l2, high_uniq h.h2 k.h2⟩⟩
theorem sum_rev {f : Ag → Int} : ∀ A : List Ag, (A.reverse.map f).sum = (A.map f).sum
 | [] => rfl
 | a :: A => by
  have ih := sum_rev (f := f) A
  rw [List.reverse_cons, List.map_append, List.sum_append, ih]
  simp only [List.map_cons, List.map_nil, List.sum_cons, List.sum_nil]; omega
theorem SumOf.rev {g : Ag} {A : List Ag} (h : SumOf g A.reverse) : SumOf g A := by
 obtain ⟨a, b, c, d, e0, e1, e2, f0, f1, f2⟩ := h
 rw [sum_rev] at a b c d
 simp only [List.mem_reverse] at e0 e1 e2 f0 f1 f2
 exact ⟨a, b, c, d, e0, e1, e2, f0, f1, f2⟩
theorem SumOf.one (a : Ag) : SumOf a [a] := by
 constructor <;> simp
theorem sum_one {f : Ag → Int} (A : List Ag) (a : Ag) : ((A ++ [a]).map f).sum = (A.map f).sum + f a := by
 rw [List.map_append, List.sum_append]; simp
theorem low_join {A : List Ag} {f : Ag → Int} {u : Int} {a : Ag} (h : (∃ x ∈ A, f x = u) ∧ ∀ x ∈ A, u ≤ f x) : (∃ x ∈ A ++ [a], f x = (if f a < u then f a else u)) ∧ ∀ x ∈ A ++ [a], (if f a < u then f a else u) ≤ f x := by
 obtain ⟨⟨x, hx, e⟩, hu⟩ := h
 by_cases c : f a < u
 ·rw [if_pos c]
  refine ⟨⟨a, by simp, rfl⟩, fun y hy => ?_⟩
  rcases List.mem_append.1 hy with hy | hy
  ·have := hu y hy; omega
  ·rw [List.mem_singleton.1 hy]; omega
 ·rw [if_neg c]
  refine ⟨⟨x, by simp [hx], e⟩, fun y hy => ?_⟩
  rcases List.mem_append.1 hy with hy | hy
  ·exact hu y hy
  ·rw [List.mem_singleton.1 hy]; omega
theorem high_join {A : List Ag} {f : Ag → Int} {u : Int} {a : Ag} (h : (∃ x ∈ A, f x = u) ∧ ∀ x ∈ A, f x ≤ u) : (∃ x ∈ A ++ [a], f x = (if f a > u then f a else u)) ∧ ∀ x ∈ A ++ [a], f x ≤ (if f a > u then f a else u) := by
 obtain ⟨⟨x, hx, e⟩, hu⟩ := h
 by_cases c : f a > u
 ·rw [if_pos c]
  refine ⟨⟨a, by simp, rfl⟩, fun y hy => ?_⟩
  rcases List.mem_append.1 hy with hy | hy
  ·have := hu y hy; omega
  ·rw [List.mem_singleton.1 hy]; omega
 ·rw [if_neg c]
  refine ⟨⟨x, by simp [hx], e⟩, fun y hy => ?_⟩
  rcases List.mem_append.1 hy with hy | hy
  ·exact hu y hy
  ·rw [List.mem_singleton.1 hy]; omega
theorem SumOf.join {g a : Ag} {A : List Ag} (h : SumOf g A) : SumOf (joinK g a 3) (A ++ [a]) := by
 refine ⟨?_, ?_, ?_, ?_, low_join h.l0, low_join h.l1, low_join h.l2, high_join h.h0, high_join h.h1, high_join h.h2⟩
 ·rw [sum_one]; simp only [joinK, h.n]
 ·rw [sum_one]; simp only [joinK, h.s0]; rfl
 ·rw [sum_one]; simp only [joinK, h.s1]; rfl
 ·rw [sum_one]; simp only [joinK, h.s2]; rfl
theorem sum_bd {f : Ag → Int} : ∀ {A : List Ag}, (∀ x ∈ A, -1000000000000 ≤ f x ∧ f x ≤ 1000000000000) → -1000000000000 * (A.length : Int) ≤ (A.map f).sum ∧ (A.map f).sum ≤ 1000000000000 * (A.length : Int)
 | [], _ => by simp
 | a :: A, h => by
  have ih := sum_bd (f := f) fun x hx => h x (List.mem_cons_of_mem _ hx)
  have := h a (by simp)
  simp only [List.map_cons, List.sum_cons, List.length_cons]; omega
theorem sum_pos {f : Ag → Int} : ∀ {A : List Ag}, (∀ x ∈ A, 1 ≤ f x) → (A.length : Int) ≤ (A.map f).sum
 | [], _ => by simp
 | a :: A, h => by
  have ih := sum_pos (f := f) fun x hx => h x (List.mem_cons_of_mem _ hx)
  have := h a (by simp)
  simp only [List.map_cons, List.sum_cons, List.length_cons]; omega
def sel (ks : List Int) (L : List Fct) : List Ag := (L.filter fun f => decide (f.1 = ks) && decide (1 ≤ f.2.n)).map (·.2)
theorem sel_yes {ks : List Int} {L : List Fct} {f : Fct} (h : f.1 = ks) (h1 : 1 ≤ f.2.n) : sel ks (L ++ [f]) = sel ks L ++ [f.2] := by
 simp [sel, List.filter_append, h, h1]
theorem sel_no {ks : List Int} {L : List Fct} {f : Fct} (h : ¬ (f.1 = ks ∧ 1 ≤ f.2.n)) : sel ks (L ++ [f]) = sel ks L := by
 have : (decide (f.1 = ks) && decide (1 ≤ f.2.n)) = false := by
  rw [Bool.and_eq_false_iff, decide_eq_false_iff_not, decide_eq_false_iff_not]
  exact Decidable.not_and_iff_not_or_not.1 h
 simp [sel, List.filter_append, this]
theorem sel_rev (ks : List Int) (L : List Fct) : sel ks L.reverse = (sel ks L).reverse := by
 rw [sel, sel, List.filter_reverse, List.map_reverse]
theorem sel_mem {ks : List Int} {L : List Fct} {a : Ag} (h : a ∈ sel ks L) : 1 ≤ a.n ∧ ∃ f ∈ L, f.2 = a := by
 obtain ⟨f, hf, rfl⟩ := List.mem_map.1 h
 obtain ⟨h1, h2⟩ := List.mem_filter.1 hf
 simp at h2
 exact ⟨h2.2, f, h1, rfl⟩
theorem sel_len (ks : List Int) (L : List Fct) : (sel ks L).length ≤ L.length := by
 rw [sel, List.length_map]; exact List.length_filter_le _ _
structure OrdT (w : Int) (L : List Fct) (M : Tbl) : Prop where
 t : TW w M
 len : M.length ≤ L.length
 none : ∀ ks, (ks.length : Int) = w → KeyIn ks → aGet (nmB ks) M = .none → sel ks L = []
 some : ∀ ks f, (ks.length : Int) = w → KeyIn ks → aGet (nmB ks) M = .some f → SumOf f.2 (sel ks L)
theorem OrdT.nil (w : Int) : OrdT w [] [] := ⟨⟨by simp, fun p hp => by cases hp⟩, Nat.le_refl _, fun _ _ _ _ => rfl, fun _ _ _ _ h => by cases h⟩
theorem OrdT.same {w : Int} {L : List Fct} {M : Tbl} (h : OrdT w L M) {f : Fct} (hf : ¬ ((f.1.length : Int) = w ∧ KeyIn f.1 ∧ 1 ≤ f.2.n)) : OrdT w (L ++ [f]) M := by
 have hs : ∀ ks, (ks.length : Int) = w → KeyIn ks → sel ks (L ++ [f]) = sel ks L := fun ks h1 h2 => sel_no fun h3 => hf (by
  obtain ⟨rfl, h3⟩ := h3
  exact ⟨h1, h2, h3⟩)
 refine ⟨h.t, by have := h.len; simp only [List.length_append, List.length_singleton]; omega, fun ks h1 h2 h3 => ?_, fun ks g h1 h2 h3 => ?_⟩
 ·rw [hs ks h1 h2]; exact h.none ks h1 h2 h3
 ·rw [hs ks h1 h2]; exact h.some ks g h1 h2 h3
theorem OrdT.set {w : Int} {L : List Fct} {M : Tbl} (h : OrdT w L M) {f : Fct} {s : Ag} (h1 : (f.1.length : Int) = w) (h2 : KeyIn f.1) (h3 : AgIn s) (hs : SumOf s (sel f.1 (L ++ [f]))) : OrdT w (L ++ [f]) (aSet (nmB f.1) (f.1, s) M) := by
 have hne : ∀ ks, (ks.length : Int) = w → KeyIn ks → nmB ks ≠ nmB f.1 → sel ks (L ++ [f]) = sel ks L := fun ks _ _ hn => sel_no fun h3 => hn (by rw [h3.1])
 refine ⟨h.t.set h1 h2 h3, ?_, fun ks k1 k2 k3 => ?_, fun ks g k1 k2 k3 => ?_⟩
 ·have := h.len
  rw [aSet_len, List.length_append, List.length_singleton]; split <;> omega
 ·rw [aGet_set] at k3
  split at k3
  ·cases k3
  ·rename_i hn
   rw [hne ks k1 k2 hn]; exact h.none ks k1 k2 k3
 ·rw [aGet_set] at k3
  split at k3
  ·rename_i e
   obtain rfl := nmB_inj (by omega) k2 h2 e
   obtain rfl := Option.some.inj k3
   exact hs
  ·rename_i hn
   rw [hne ks k1 k2 hn]; exact h.some ks g k1 k2 k3
theorem OrdT.put {w : Int} {L : List Fct} {M : Tbl} (h : OrdT w L M) {f : Fct} (hk : ∀ x ∈ f.1, x < 9223372036854775808) (ha : AgIn f.2) (hw : WideA f.2) (hL : ∀ x ∈ L, WideA x.2) (hlen : L.length ≤ 1000) :
  OrdT w (L ++ [f]) (putM w 4000 M f.1 f.2).1 := by
 unfold putM
 by_cases c : (f.1.length : Int) ≠ w ∨ (f.1.any fun k => decide (k < 0)) = true ∨ f.2.n < 1
 ·rw [if_pos c]
  refine h.same fun hg => ?_
  rcases c with c | c | c
  ·exact c hg.1
  ·obtain ⟨x, hx, h2⟩ := List.any_eq_true.1 c
   have := (hg.2.1 x hx).1
   simp at h2; omega
  ·have := hg.2.2; omega
 ·rw [if_neg c]
  have h1 : (f.1.length : Int) = w := Decidable.byContradiction fun e => c (.inl e)
  have hn : 1 ≤ f.2.n := by
   have : ¬ f.2.n < 1 := fun e => c (.inr (.inr e))
   omega
  have h2 : KeyIn f.1 := fun x hx => by
   have : (f.1.any fun k => decide (k < 0)) = false := Bool.eq_false_iff.2 fun e => c (.inr (.inl e))
   have := List.any_eq_false.1 this x hx
   simp at this
   exact ⟨this, hk x hx⟩
  have hy := sel_yes (L := L) (f := f) rfl hn
  cases hg : aGet (nmB f.1) M with
  | none =>
   simp only
   have := h.len
   rw [if_neg (by omega)]
   refine h.set h1 h2 ha ?_
   rw [hy, h.none _ h1 h2 hg]
   exact SumOf.one _
  | some g =>
   have hA := h.some _ g h1 h2 hg
   have hsl := sel_len f.1 L
   have b0 := sum_bd (A := sel f.1 L) (f := (·.s0)) fun x hx => by obtain ⟨_, y, hy, rfl⟩ := sel_mem hx; exact (hL y hy).s0
   have b1 := sum_bd (A := sel f.1 L) (f := (·.s1)) fun x hx => by obtain ⟨_, y, hy, rfl⟩ := sel_mem hx; exact (hL y hy).s1
   have b2 := sum_bd (A := sel f.1 L) (f := (·.s2)) fun x hx => by obtain ⟨_, y, hy, rfl⟩ := sel_mem hx; exact (hL y hy).s2
   have bn := sum_bd (A := sel f.1 L) (f := (·.n)) fun x hx => by
    obtain ⟨k, y, hy, rfl⟩ := sel_mem hx
    have := (hL y hy).n; omega
   have bp := sum_pos (A := sel f.1 L) (f := (·.n)) fun x hx => (sel_mem hx).1
   have hpos : 0 < (sel f.1 L).length := by
    obtain ⟨⟨x, hx, _⟩, _⟩ := hA.l0
    exact List.length_pos_of_mem hx
   rw [← hA.n] at bn bp
   rw [← hA.s0] at b0
   rw [← hA.s1] at b1
   rw [← hA.s2] at b2
   have e0 := hw.s0
   have e1 := hw.s1
   have e2 := hw.s2
   have en := hw.n
   have hj : joinA g.2 f.2 = Option.some (joinK g.2 f.2 3) := by
    unfold joinA
    rw [if_neg (by omega), if_neg (by omega), fitB_t (by unfold In64; omega), fitB_t (by unfold In64; omega), fitB_t (by unfold In64; omega), fitB_t (by unfold In64; omega)]
    rfl
   simp only [hj]
   refine h.set h1 h2 (joinA_in (h.t.at hg).2.2.2 ha hj) ?_
   rw [hy]
   exact hA.join
theorem OrdT.rows {w : Int} {L : List Fct} {M M' : Tbl} (h : OrdT w L M) (k : OrdT w L.reverse M') : rowsM M = rowsM M' := by
 have key : ∀ ks f g, (ks.length : Int) = w → KeyIn ks → aGet (nmB ks) M = .some f → aGet (nmB ks) M' = .some g → f = g := fun ks f g h1 h2 h3 h4 => by
  have e1 := h.some ks f h1 h2 h3
  have e2 := k.some ks g h1 h2 h4
  rw [sel_rev] at e2
  have e3 := e1.uniq e2.rev
  have k1 := ((h.t.met h1 h2).2 h3).2
  have k2 := ((k.t.met h1 h2).2 h4).2
  exact Prod.ext (k1.trans k2.symm) e3
 refine rise_ext h.t.rise k.t.rise fun x => ?_
 rw [rowsM_mem h.t.nd, rowsM_mem k.t.nd]
 constructor
 ·rintro ⟨s, hs⟩
  obtain ⟨rfl, h1, h2, _⟩ := h.t.at hs
  cases hg : aGet (nmB x.1) M' with
  | none =>
   have := k.none _ h1 h2 hg
   rw [sel_rev, List.reverse_eq_nil_iff] at this
   obtain ⟨⟨y, hy, _⟩, _⟩ := (h.some _ _ h1 h2 hs).l0
   rw [this] at hy; cases hy
  | some g =>
   obtain rfl := key _ _ _ h1 h2 hs hg
   exact ⟨_, hg⟩
 ·rintro ⟨s, hs⟩
  obtain ⟨rfl, h1, h2, _⟩ := k.t.at hs
  cases hg : aGet (nmB x.1) M with
  | none =>
   have := h.none _ h1 h2 hg
   obtain ⟨⟨y, hy, _⟩, _⟩ := (k.some _ _ h1 h2 hs).l0
   rw [sel_rev, this] at hy; cases hy
  | some g =>
   obtain rfl := key _ _ _ h1 h2 hg hs
   exact ⟨_, hg⟩
def WideQ (l : List Fct) (H : AHeap) (r : AV) (H' : AHeap) : Prop := HX [] H H' ∧ ∃ b, r = .b b ∧ (b = true → ∀ f ∈ l, WideA f.2)
def sN (a : Ag) (k : Nat) : Int := if k = 0 then a.s0 else if k = 1 then a.s1 else a.s2
theorem wide_all {l : List Fct} (h : ∀ j (hj : j < l.length), l[j].2.n ≤ 1000000000 ∧ ∀ i, i < 3 → -1000000000000 ≤ sN l[j].2 i ∧ sN l[j].2 i ≤ 1000000000000) : ∀ f ∈ l, WideA f.2 := fun f hf => by
 obtain ⟨j, hj, rfl⟩ := List.getElem_of_mem hf
 obtain ⟨h1, h2⟩ := h j hj
 exact ⟨h1, h2 0 (by omega), h2 1 (by omega), h2 2 (by omega)⟩
theorem sum_at {g : Fct} {k : Nat} (h : k < 3) : (eFct g)[2 + k * 3]? = some (.i (sN g.2 k)) := by
 match k, h with
 | 0, _ => rfl
 | 1, _ => rfl
 | 2, _ => rfl
set_option maxHeartbeats 4000000 in
theorem wide_sound (t : Tok) (l : List Fct) (H : AHeap) (hl : l.length ≤ 1000) : Sound Try.prog 7 [.sl t (rF l)] H (WideQ l H) := by
 have hfew := fun H => few19_sound t l 1000 H (by omega)
 refine fn_soundQ hE cf7 (Nat.le_of_ble_eq_true rfl) fun Q hQr hQn => ?_
 ((have hd := trivial; repeat' (first | ((first | apply GdK_st | apply GdK_sf | apply CondK_s) <;> intro hd <;> (try simp only [hd])) | simp (disch := first | assumption | omega | (simp only [nx] <;> omega) | fail) only [hd, hQr, hQn, c7_0, ↓YA, YB, YC, YE, YF, YZ, ↓reduceIte, Nat.reduceEqDiff, Nat.reduceAdd, Nat.reduceMul, Nat.reduceLeDiff, Int.reduceToNat, Int.reduceLE, Int.reduceLT, Int.reduceGT, Int.reduceGE, Int.reduceAdd, Int.reduceSub, Int.reduceNeg, Int.reduceBEq, Int.reduceBNe, List.length_map])) <;> (try (have hd_ : True := hd; clear hd_ hd)))
 refine AW_for [0, 6, 7] (σ := Unit) (fun (k : Nat) s => ∀ j (hj : j < l.length), j < k → l[j].2.n ≤ 1000000000 ∧ ∀ i, i < 3 → -1000000000000 ≤ sN l[j].2 i ∧ sN l[j].2 i ≤ 1000000000000) (fun k s => []) (fun k s => []) () (GStep.refl _ _) (by simp only [keep_nil, keep_cons, Fr.put, Fr.get, ↓reduceIte, Nat.reduceEqDiff]; rfl) (by intro k s; rfl) (by intro k s; rfl) (by rfl) (by unfold maxLen; omega) ?_ (by simp only [FrL_nil]) (by simp only [ObjL_nil]) ?_ ?_
 ·intro j hj h; omega
 ·(rintro k s G hk1 ht hG hn1; try simp only [nx] at hn1)
  have q1 : (eFct l[k]).length = 11 := rfl
  have q2 : (eFct l[k]).take 11 = eFct l[k] := rfl
  have q3 : (eFct l[k])[1]? = some (.i l[k].2.n) := rfl
  generalize hgk : l[k] = f at *
  ((have hd := trivial; repeat' (first | ((first | apply GdK_st | apply GdK_sf | apply CondK_s) <;> intro hd <;> (try simp only [hd])) | simp (disch := first | assumption | omega | (simp only [nx] <;> omega) | fail) only [hd, hQr, hQn, c7_0, ↓YA, YB, YC, YE, YF, YZ, ↓reduceIte, Nat.reduceEqDiff, Nat.reduceAdd, Nat.reduceMul, Nat.reduceLeDiff, Int.reduceToNat, Int.reduceLE, Int.reduceLT, Int.reduceGT, Int.reduceGE, Int.reduceAdd, Int.reduceSub, Int.reduceNeg, Int.reduceBEq, Int.reduceBNe, hk1, hgk, q1, q2, q3])) <;> (try (have hd_ : True := hd; clear hd_ hd)))
  ·exact fin_keep ⟨hG.alloc, _, rfl, fun e => by cases e⟩
  have hn : f.2.n ≤ 1000000000 := by simp at hd; omega
  have g1 : (G.alloc (.cells (eFct f) 38)).get G.next = some (.cells (eFct f) 38) := AHeap.get_alloc_self
  have hG1 : HX [] H (G.alloc (.cells (eFct f) 38)) := hG.alloc
  generalize G.next = id at *
  generalize G.alloc (.cells (eFct f) 38) = G1 at *
  refine AW_for (N := 3) [0, 4, 6, 7, 8] (σ := Unit) (fun (k : Nat) s => ∀ i, i < k → -1000000000000 ≤ sN f.2 i ∧ sN f.2 i ≤ 1000000000000) (fun k s => []) (fun k s => [(id, .cells (eFct f) 38)]) () (GStep.refl _ _) (by simp only [keep_nil, keep_cons, Fr.put, Fr.get, ↓reduceIte, Nat.reduceEqDiff]; rfl) (by intro k s; rfl) (by intro k s; rfl) (by rfl) (by unfold maxLen; omega) ?_ (by simp only [FrL_nil]) ?_ ?_ ?_
  ·intro i h; omega
  ·rw [ObjL_cons]
   exact ⟨g1, by simp [ObjL]⟩
  ·(rintro j s G2 hj1 ht2 hG2 hn2; try simp only [nx] at hn2)
   have g2 : G2.get id = some (.cells (eFct f) 38) := hG2.o (_, _) (List.mem_singleton.2 rfl)
   have hj2 := sum_at (g := f) hj1
   have lt3 : ((j : Nat) : Int) < ((3 : Nat) : Int) := by omega
   have hx2 : HX [] H G2 := hG1.trans hG2 (by simp; omega)
   ((have hd := trivial; repeat' (first | ((first | apply GdK_st | apply GdK_sf | apply CondK_s) <;> intro hd <;> (try simp only [hd])) | simp (disch := first | assumption | omega | (simp only [nx] <;> omega) | fail) only [hd, hQr, hQn, c7_0, ↓YA, YB, YC, YE, YF, YZ, ↓reduceIte, Nat.reduceEqDiff, Nat.reduceAdd, Nat.reduceMul, Nat.reduceLeDiff, Int.reduceToNat, Int.reduceLE, Int.reduceLT, Int.reduceGT, Int.reduceGE, Int.reduceAdd, Int.reduceSub, Int.reduceNeg, Int.reduceBEq, Int.reduceBNe, g2, lt3, hj2])) <;> (try (have hd_ : True := hd; clear hd_ hd)))
   all_goals first
    | exact fin_keep ⟨hx2, _, rfl, fun e => by cases e⟩
    | skip
   refine ⟨s, fun i hi => ?_, hG2⟩
   rcases Nat.lt_or_ge i j with h | h
   ·exact ht2 i h
   ·obtain rfl : i = j := by omega
    simp only [decide_eq_false_iff_not] at *
    omega
  ·(rintro s G2 ht2 hG2 hn2; try simp only [nx] at hn2)
   have hx2 : HX [] H G2 := hG1.trans hG2 (by simp; omega)
   ((have hd := trivial; repeat' (first | ((first | apply GdK_st | apply GdK_sf | apply CondK_s) <;> intro hd <;> (try simp only [hd])) | simp (disch := first | assumption | omega | (simp only [nx] <;> omega) | fail) only [hd, hQr, hQn, c7_0, ↓YA, YB, YC, YE, YF, YZ, ↓reduceIte, Nat.reduceEqDiff, Nat.reduceAdd, Nat.reduceMul, Nat.reduceLeDiff, Int.reduceToNat, Int.reduceLE, Int.reduceLT, Int.reduceGT, Int.reduceGE, Int.reduceAdd, Int.reduceSub, Int.reduceNeg, Int.reduceBEq, Int.reduceBNe])) <;> (try (have hd_ : True := hd; clear hd_ hd)))
   refine ⟨(), fun j hj hjk => ?_, hx2⟩
   rcases Nat.lt_or_ge j k with h | h
   ·exact ht j hj h
   ·obtain rfl : j = k := by omega
    rw [hgk]
    exact ⟨hn, fun i hi => ht2 i hi⟩
 ·(rintro s G ht hG hn1; try simp only [nx] at hn1)
  have hv := wide_all fun j hj => ht j hj hj
  have d1 : decide ((l.length : Int) ≤ 1000) = true := decide_eq_true (by omega)
  ((have hd := trivial; repeat' (first | ((first | apply GdK_st | apply GdK_sf | apply CondK_s) <;> intro hd <;> (try simp only [hd])) | simp (disch := first | assumption | omega | (simp only [nx] <;> omega) | fail) only [hd, hQr, hQn, c7_0, ↓YA, YB, YC, YE, YF, YZ, ↓reduceIte, Nat.reduceEqDiff, Nat.reduceAdd, Nat.reduceMul, Nat.reduceLeDiff, Int.reduceToNat, Int.reduceLE, Int.reduceLT, Int.reduceGT, Int.reduceGE, Int.reduceAdd, Int.reduceSub, Int.reduceNeg, Int.reduceBEq, Int.reduceBNe, List.length_map, d1])) <;> (try (have hd_ : True := hd; clear hd_ hd)))
  refine CallK.use (hfew _) ?_
  rintro _ G1 ⟨hx1, b, rfl, hb⟩
  ((have hd := trivial; repeat' (first | ((first | apply GdK_st | apply GdK_sf | apply CondK_s) <;> intro hd <;> (try simp only [hd])) | simp (disch := first | assumption | omega | (simp only [nx] <;> omega) | fail) only [hd, hQr, hQn, c7_0, ↓YA, YB, YC, YE, YF, YZ, ↓reduceIte, Nat.reduceEqDiff, Nat.reduceAdd, Nat.reduceMul, Nat.reduceLeDiff, Int.reduceToNat, Int.reduceLE, Int.reduceLT, Int.reduceGT, Int.reduceGE, Int.reduceAdd, Int.reduceSub, Int.reduceNeg, Int.reduceBEq, Int.reduceBNe])) <;> (try (have hd_ : True := hd; clear hd_ hd)))
  exact fin_keep ⟨hG.thn hx1, _, rfl, fun _ => hv⟩
theorem HX.thn1 {a b : Nat} {x x' y : AObj} {H G G1 : AHeap} (h : HX [(a, x), (b, y)] H G) (k : HX [(a, x')] G G1) (hab : a ≠ b) : HX [(a, x'), (b, y)] H G1 := by
 have hb := h.o (b, y) (by simp)
 refine ⟨Nat.le_trans h.n k.n, ?_, fun i hi hn => ?_⟩
 ·rw [ObjL_cons, ObjL_cons]
  exact ⟨k.o (a, x') (by simp), (k.g b (AHeap.lt hb) (by simpa using hab)).trans hb, by simp [ObjL]⟩
 ·have hn' : a ≠ i ∧ b ≠ i := by simpa using hn
  exact (k.g i (Nat.lt_of_lt_of_le hi h.n) (by simpa using hn'.1)).trans (h.g i hi (by simpa using hn'))
theorem HX.thn2 {a b : Nat} {x y y' : AObj} {H G G1 : AHeap} (h : HX [(a, x), (b, y)] H G) (k : HX [(b, y')] G G1) (hab : a ≠ b) : HX [(a, x), (b, y')] H G1 := by
 have ha := h.o (a, x) (by simp)
 refine ⟨Nat.le_trans h.n k.n, ?_, fun i hi hn => ?_⟩
 ·rw [ObjL_cons, ObjL_cons]
  exact ⟨(k.g a (AHeap.lt ha) (by simpa using Ne.symm hab)).trans ha, k.o (b, y') (by simp), by simp [ObjL]⟩
 ·have hn' : a ≠ i ∧ b ≠ i := by simpa using hn
  exact (k.g i (Nat.lt_of_lt_of_le hi h.n) (by simpa using hn'.2)).trans (h.g i hi (by simpa using hn'))
def NewQ (w : Int) (H : AHeap) (r : AV) (H' : AHeap) : Prop := r = .tup [.ptr (H.next + 1) 0, .i 0] ∧ H'.next = H.next + 2 ∧ H'.get H.next = some (eTbl []) ∧ H'.get (H.next + 1) = some (tab w 4000 H.next) ∧ HX [] H H'
theorem new_goodQ (w : Int) (h : 0 ≤ w ∧ w ≤ 16) (H : AHeap) : Sound Try.prog 9 [.i w, .i 4000] H (NewQ w H) := by
 refine (new_good w 4000 (by omega) H).mono ?_
 rintro r _ ⟨rfl, rfl⟩
 exact ⟨rfl, rfl, (AHeap.get_alloc_lt (AHeap.lt AHeap.get_alloc_self)).trans AHeap.get_alloc_self, AHeap.get_alloc_self (H := H.alloc _), (HX.refl H).alloc.alloc⟩
def Ords (w : Int) (l : List Fct) (k : Nat) (s : Tbl × Tbl) : Prop := OrdT w (l.take k) s.1 ∧ OrdT w (l.reverse.take k) s.2
theorem Ords.ini (w : Int) (l : List Fct) : Ords w l 0 ([], []) := ⟨OrdT.nil w, OrdT.nil w⟩
theorem Ords.step {w : Int} {l : List Fct} {k : Nat} {s : Tbl × Tbl} (h : Ords w l k s) (hk : k < l.length) (hlen : l.length ≤ 60) (hl : ∀ f ∈ l, FctIn f) (hw : ∀ f ∈ l, WideA f.2) {f g : Fct} (hf : l[k] = f) (hg : l[l.length - 1 - k] = g) :
  Ords w l (k + 1) ((putM w 4000 s.1 f.1 f.2).1, (putM w 4000 s.2 g.1 g.2).1) := by
 have hfm : f ∈ l := hf ▸ List.getElem_mem hk
 have hgm : g ∈ l := hg ▸ List.getElem_mem (by omega)
 have t1 : l.take (k + 1) = l.take k ++ [f] := by rw [← hf]; exact (List.take_append_getElem hk).symm
 have hk2 : k < l.reverse.length := by rw [List.length_reverse]; exact hk
 have e2 : l.reverse[k] = g := by rw [List.getElem_reverse]; exact hg
 have t2 : l.reverse.take (k + 1) = l.reverse.take k ++ [g] := by rw [← e2]; exact (List.take_append_getElem hk2).symm
 have n1 : (l.take k).length ≤ 1000 := by rw [List.length_take]; omega
 have n2 : (l.reverse.take k).length ≤ 1000 := by rw [List.length_take, List.length_reverse]; omega
 refine ⟨?_, ?_⟩
 ·rw [t1]
  exact h.1.put (fun x hx => by have := ((hl f hfm).k x hx).2; omega) (hl f hfm).a (hw f hfm) (fun x hx => hw x (List.mem_of_mem_take hx)) n1
 ·rw [t2]
  exact h.2.put (fun x hx => by have := ((hl g hgm).k x hx).2; omega) (hl g hgm).a (hw g hgm) (fun x hx => hw x (List.mem_reverse.1 (List.mem_of_mem_take hx))) n2
theorem Ords.fin {w : Int} {l : List Fct} {s : Tbl × Tbl} (h : Ords w l l.length s) : OrdT w l s.1 ∧ OrdT w l.reverse s.2 ∧ rowsM s.1 = rowsM s.2 := by
 have h1 := h.1
 have h2 := h.2
 rw [List.take_length] at h1
 rw [← List.length_reverse, List.take_length] at h2
 exact ⟨h1, h2, h1.rows h2⟩
set_option maxHeartbeats 4000000 in
theorem order_sound (t : Tok) (w : Int) (l : List Fct) (H : AHeap) (hl : ∀ f ∈ l, FctIn f) : Sound Try.prog 3 [.i w, .sl t (rF l)] H (Pure H (.b true)) := by
 have hfew := fun H => few19_sound t l 60 H (by omega)
 by_cases c1 : l.length ≤ 60
 case neg =>
  refine fn_soundQ hE cf3 (Nat.le_of_ble_eq_true rfl) fun Q hQr hQn => ?_
  ((have hd := trivial; repeat' (first | ((first | apply GdK_st | apply GdK_sf | apply CondK_s) <;> intro hd <;> (try simp only [hd])) | simp (disch := first | assumption | omega | (simp only [nx] <;> omega) | fail) only [hd, hQr, hQn, c3_0, ↓YA, YB, YC, YE, YF, YZ, ↓reduceIte, Nat.reduceEqDiff, Nat.reduceAdd, Nat.reduceMul, Nat.reduceLeDiff, Int.reduceToNat, Int.reduceLE, Int.reduceLT, Int.reduceGT, Int.reduceGE, Int.reduceAdd, Int.reduceSub, Int.reduceNeg, Int.reduceBEq, Int.reduceBNe])) <;> (try (have hd_ : True := hd; clear hd_ hd)))
  refine CallK.use (hfew _) ?_
  rintro _ G1 ⟨hx1, b, rfl, hb⟩
  have hx := hx1.ext
  cases b with
  | true => exact absurd (hb rfl) c1
  | false =>
   ((have hd := trivial; repeat' (first | ((first | apply GdK_st | apply GdK_sf | apply CondK_s) <;> intro hd <;> (try simp only [hd])) | simp (disch := first | assumption | omega | (simp only [nx] <;> omega) | fail) only [hd, hQr, hQn, c3_0, ↓YA, YB, YC, YE, YF, YZ, ↓reduceIte, Nat.reduceEqDiff, Nat.reduceAdd, Nat.reduceMul, Nat.reduceLeDiff, Int.reduceToNat, Int.reduceLE, Int.reduceLT, Int.reduceGT, Int.reduceGE, Int.reduceAdd, Int.reduceSub, Int.reduceNeg, Int.reduceBEq, Int.reduceBNe])) <;> (try (have hd_ : True := hd; clear hd_ hd)))
   (refine CallK.use (awake_sound _) ?_; rintro _ _ ⟨rfl, k1, rfl⟩)
   ((have hd := trivial; repeat' (first | ((first | apply GdK_st | apply GdK_sf | apply CondK_s) <;> intro hd <;> (try simp only [hd])) | simp (disch := first | assumption | omega | (simp only [nx] <;> omega) | fail) only [hd, hQr, hQn, c3_0, ↓YA, YB, YC, YE, YF, YZ, ↓reduceIte, Nat.reduceEqDiff, Nat.reduceAdd, Nat.reduceMul, Nat.reduceLeDiff, Int.reduceToNat, Int.reduceLE, Int.reduceLT, Int.reduceGT, Int.reduceGE, Int.reduceAdd, Int.reduceSub, Int.reduceNeg, Int.reduceBEq, Int.reduceBNe])) <;> (try (have hd_ : True := hd; clear hd_ hd)))
   refine fin_bA (by rfl)
 have hwide := fun H => wide_sound t l H (by omega)
 by_cases c0 : w < 0 ∨ 16 < w
 ·have hnew := fun H => new_bad w 4000 (by omega) H
  refine fn_soundQ hE cf3 (Nat.le_of_ble_eq_true rfl) fun Q hQr hQn => ?_
  ((have hd := trivial; repeat' (first | ((first | apply GdK_st | apply GdK_sf | apply CondK_s) <;> intro hd <;> (try simp only [hd])) | simp (disch := first | assumption | omega | (simp only [nx] <;> omega) | fail) only [hd, hQr, hQn, c3_0, ↓YA, YB, YC, YE, YF, YZ, ↓reduceIte, Nat.reduceEqDiff, Nat.reduceAdd, Nat.reduceMul, Nat.reduceLeDiff, Int.reduceToNat, Int.reduceLE, Int.reduceLT, Int.reduceGT, Int.reduceGE, Int.reduceAdd, Int.reduceSub, Int.reduceNeg, Int.reduceBEq, Int.reduceBNe])) <;> (try (have hd_ : True := hd; clear hd_ hd)))
  refine CallK.use (hfew _) ?_
  rintro _ G1 ⟨hx1, b, rfl, hb⟩
  have hx := hx1.ext
  cases b with
  | false =>
   ((have hd := trivial; repeat' (first | ((first | apply GdK_st | apply GdK_sf | apply CondK_s) <;> intro hd <;> (try simp only [hd])) | simp (disch := first | assumption | omega | (simp only [nx] <;> omega) | fail) only [hd, hQr, hQn, c3_0, ↓YA, YB, YC, YE, YF, YZ, ↓reduceIte, Nat.reduceEqDiff, Nat.reduceAdd, Nat.reduceMul, Nat.reduceLeDiff, Int.reduceToNat, Int.reduceLE, Int.reduceLT, Int.reduceGT, Int.reduceGE, Int.reduceAdd, Int.reduceSub, Int.reduceNeg, Int.reduceBEq, Int.reduceBNe])) <;> (try (have hd_ : True := hd; clear hd_ hd)))
   (refine CallK.use (awake_sound _) ?_; rintro _ _ ⟨rfl, k1, rfl⟩)
   ((have hd := trivial; repeat' (first | ((first | apply GdK_st | apply GdK_sf | apply CondK_s) <;> intro hd <;> (try simp only [hd])) | simp (disch := first | assumption | omega | (simp only [nx] <;> omega) | fail) only [hd, hQr, hQn, c3_0, ↓YA, YB, YC, YE, YF, YZ, ↓reduceIte, Nat.reduceEqDiff, Nat.reduceAdd, Nat.reduceMul, Nat.reduceLeDiff, Int.reduceToNat, Int.reduceLE, Int.reduceLT, Int.reduceGT, Int.reduceGE, Int.reduceAdd, Int.reduceSub, Int.reduceNeg, Int.reduceBEq, Int.reduceBNe])) <;> (try (have hd_ : True := hd; clear hd_ hd)))
   refine fin_bA (by rfl)
  | true =>
   ((have hd := trivial; repeat' (first | ((first | apply GdK_st | apply GdK_sf | apply CondK_s) <;> intro hd <;> (try simp only [hd])) | simp (disch := first | assumption | omega | (simp only [nx] <;> omega) | fail) only [hd, hQr, hQn, c3_0, ↓YA, YB, YC, YE, YF, YZ, ↓reduceIte, Nat.reduceEqDiff, Nat.reduceAdd, Nat.reduceMul, Nat.reduceLeDiff, Int.reduceToNat, Int.reduceLE, Int.reduceLT, Int.reduceGT, Int.reduceGE, Int.reduceAdd, Int.reduceSub, Int.reduceNeg, Int.reduceBEq, Int.reduceBNe])) <;> (try (have hd_ : True := hd; clear hd_ hd)))
   refine CallK.use (hwide _) ?_
   rintro _ G2 ⟨hx2, b, rfl, hb2⟩
   have hx := hx.trans hx2.ext
   cases b with
   | false =>
    ((have hd := trivial; repeat' (first | ((first | apply GdK_st | apply GdK_sf | apply CondK_s) <;> intro hd <;> (try simp only [hd])) | simp (disch := first | assumption | omega | (simp only [nx] <;> omega) | fail) only [hd, hQr, hQn, c3_0, ↓YA, YB, YC, YE, YF, YZ, ↓reduceIte, Nat.reduceEqDiff, Nat.reduceAdd, Nat.reduceMul, Nat.reduceLeDiff, Int.reduceToNat, Int.reduceLE, Int.reduceLT, Int.reduceGT, Int.reduceGE, Int.reduceAdd, Int.reduceSub, Int.reduceNeg, Int.reduceBEq, Int.reduceBNe])) <;> (try (have hd_ : True := hd; clear hd_ hd)))
    (refine CallK.use (awake_sound _) ?_; rintro _ _ ⟨rfl, k1, rfl⟩)
    ((have hd := trivial; repeat' (first | ((first | apply GdK_st | apply GdK_sf | apply CondK_s) <;> intro hd <;> (try simp only [hd])) | simp (disch := first | assumption | omega | (simp only [nx] <;> omega) | fail) only [hd, hQr, hQn, c3_0, ↓YA, YB, YC, YE, YF, YZ, ↓reduceIte, Nat.reduceEqDiff, Nat.reduceAdd, Nat.reduceMul, Nat.reduceLeDiff, Int.reduceToNat, Int.reduceLE, Int.reduceLT, Int.reduceGT, Int.reduceGE, Int.reduceAdd, Int.reduceSub, Int.reduceNeg, Int.reduceBEq, Int.reduceBNe])) <;> (try (have hd_ : True := hd; clear hd_ hd)))
    refine fin_bA (by rfl)
   | true =>
    ((have hd := trivial; repeat' (first | ((first | apply GdK_st | apply GdK_sf | apply CondK_s) <;> intro hd <;> (try simp only [hd])) | simp (disch := first | assumption | omega | (simp only [nx] <;> omega) | fail) only [hd, hQr, hQn, c3_0, ↓YA, YB, YC, YE, YF, YZ, ↓reduceIte, Nat.reduceEqDiff, Nat.reduceAdd, Nat.reduceMul, Nat.reduceLeDiff, Int.reduceToNat, Int.reduceLE, Int.reduceLT, Int.reduceGT, Int.reduceGE, Int.reduceAdd, Int.reduceSub, Int.reduceNeg, Int.reduceBEq, Int.reduceBNe])) <;> (try (have hd_ : True := hd; clear hd_ hd)))
    (refine CallK.use (hnew _) ?_; rintro _ _ ⟨rfl, k1, rfl⟩)
    ((have hd := trivial; repeat' (first | ((first | apply GdK_st | apply GdK_sf | apply CondK_s) <;> intro hd <;> (try simp only [hd])) | simp (disch := first | assumption | omega | (simp only [nx] <;> omega) | fail) only [hd, hQr, hQn, c3_0, ↓YA, YB, YC, YE, YF, YZ, ↓reduceIte, Nat.reduceEqDiff, Nat.reduceAdd, Nat.reduceMul, Nat.reduceLeDiff, Int.reduceToNat, Int.reduceLE, Int.reduceLT, Int.reduceGT, Int.reduceGE, Int.reduceAdd, Int.reduceSub, Int.reduceNeg, Int.reduceBEq, Int.reduceBNe])) <;> (try (have hd_ : True := hd; clear hd_ hd)))
    (refine CallK.use (hnew _) ?_; rintro _ _ ⟨rfl, k2, rfl⟩)
    ((have hd := trivial; repeat' (first | ((first | apply GdK_st | apply GdK_sf | apply CondK_s) <;> intro hd <;> (try simp only [hd])) | simp (disch := first | assumption | omega | (simp only [nx] <;> omega) | fail) only [hd, hQr, hQn, c3_0, ↓YA, YB, YC, YE, YF, YZ, ↓reduceIte, Nat.reduceEqDiff, Nat.reduceAdd, Nat.reduceMul, Nat.reduceLeDiff, Int.reduceToNat, Int.reduceLE, Int.reduceLT, Int.reduceGT, Int.reduceGE, Int.reduceAdd, Int.reduceSub, Int.reduceNeg, Int.reduceBEq, Int.reduceBNe])) <;> (try (have hd_ : True := hd; clear hd_ hd)))
    (refine CallK.use (awake_sound _) ?_; rintro _ _ ⟨rfl, k3, rfl⟩)
    ((have hd := trivial; repeat' (first | ((first | apply GdK_st | apply GdK_sf | apply CondK_s) <;> intro hd <;> (try simp only [hd])) | simp (disch := first | assumption | omega | (simp only [nx] <;> omega) | fail) only [hd, hQr, hQn, c3_0, ↓YA, YB, YC, YE, YF, YZ, ↓reduceIte, Nat.reduceEqDiff, Nat.reduceAdd, Nat.reduceMul, Nat.reduceLeDiff, Int.reduceToNat, Int.reduceLE, Int.reduceLT, Int.reduceGT, Int.reduceGE, Int.reduceAdd, Int.reduceSub, Int.reduceNeg, Int.reduceBEq, Int.reduceBNe])) <;> (try (have hd_ : True := hd; clear hd_ hd)))
    refine fin_bA (by rfl)
 ·have hw16 : w ≤ 16 := by omega
  have hnew := fun H => new_goodQ w (by omega) H
  refine fn_soundQ hE cf3 (Nat.le_of_ble_eq_true rfl) fun Q hQr hQn => ?_
  ((have hd := trivial; repeat' (first | ((first | apply GdK_st | apply GdK_sf | apply CondK_s) <;> intro hd <;> (try simp only [hd])) | simp (disch := first | assumption | omega | (simp only [nx] <;> omega) | fail) only [hd, hQr, hQn, c3_0, ↓YA, YB, YC, YE, YF, YZ, ↓reduceIte, Nat.reduceEqDiff, Nat.reduceAdd, Nat.reduceMul, Nat.reduceLeDiff, Int.reduceToNat, Int.reduceLE, Int.reduceLT, Int.reduceGT, Int.reduceGE, Int.reduceAdd, Int.reduceSub, Int.reduceNeg, Int.reduceBEq, Int.reduceBNe])) <;> (try (have hd_ : True := hd; clear hd_ hd)))
  refine CallK.use (hfew _) ?_
  rintro _ G1 ⟨hx1, b, rfl, hb⟩
  have hx := hx1.ext
  cases b with
  | false =>
   ((have hd := trivial; repeat' (first | ((first | apply GdK_st | apply GdK_sf | apply CondK_s) <;> intro hd <;> (try simp only [hd])) | simp (disch := first | assumption | omega | (simp only [nx] <;> omega) | fail) only [hd, hQr, hQn, c3_0, ↓YA, YB, YC, YE, YF, YZ, ↓reduceIte, Nat.reduceEqDiff, Nat.reduceAdd, Nat.reduceMul, Nat.reduceLeDiff, Int.reduceToNat, Int.reduceLE, Int.reduceLT, Int.reduceGT, Int.reduceGE, Int.reduceAdd, Int.reduceSub, Int.reduceNeg, Int.reduceBEq, Int.reduceBNe])) <;> (try (have hd_ : True := hd; clear hd_ hd)))
   (refine CallK.use (awake_sound _) ?_; rintro _ _ ⟨rfl, k1, rfl⟩)
   ((have hd := trivial; repeat' (first | ((first | apply GdK_st | apply GdK_sf | apply CondK_s) <;> intro hd <;> (try simp only [hd])) | simp (disch := first | assumption | omega | (simp only [nx] <;> omega) | fail) only [hd, hQr, hQn, c3_0, ↓YA, YB, YC, YE, YF, YZ, ↓reduceIte, Nat.reduceEqDiff, Nat.reduceAdd, Nat.reduceMul, Nat.reduceLeDiff, Int.reduceToNat, Int.reduceLE, Int.reduceLT, Int.reduceGT, Int.reduceGE, Int.reduceAdd, Int.reduceSub, Int.reduceNeg, Int.reduceBEq, Int.reduceBNe])) <;> (try (have hd_ : True := hd; clear hd_ hd)))
   refine fin_bA (by rfl)
  | true =>
   ((have hd := trivial; repeat' (first | ((first | apply GdK_st | apply GdK_sf | apply CondK_s) <;> intro hd <;> (try simp only [hd])) | simp (disch := first | assumption | omega | (simp only [nx] <;> omega) | fail) only [hd, hQr, hQn, c3_0, ↓YA, YB, YC, YE, YF, YZ, ↓reduceIte, Nat.reduceEqDiff, Nat.reduceAdd, Nat.reduceMul, Nat.reduceLeDiff, Int.reduceToNat, Int.reduceLE, Int.reduceLT, Int.reduceGT, Int.reduceGE, Int.reduceAdd, Int.reduceSub, Int.reduceNeg, Int.reduceBEq, Int.reduceBNe])) <;> (try (have hd_ : True := hd; clear hd_ hd)))
   refine CallK.use (hwide _) ?_
   rintro _ G2 ⟨hx2, b, rfl, hb2⟩
   have hx := hx.trans hx2.ext
   cases b with
   | false =>
    ((have hd := trivial; repeat' (first | ((first | apply GdK_st | apply GdK_sf | apply CondK_s) <;> intro hd <;> (try simp only [hd])) | simp (disch := first | assumption | omega | (simp only [nx] <;> omega) | fail) only [hd, hQr, hQn, c3_0, ↓YA, YB, YC, YE, YF, YZ, ↓reduceIte, Nat.reduceEqDiff, Nat.reduceAdd, Nat.reduceMul, Nat.reduceLeDiff, Int.reduceToNat, Int.reduceLE, Int.reduceLT, Int.reduceGT, Int.reduceGE, Int.reduceAdd, Int.reduceSub, Int.reduceNeg, Int.reduceBEq, Int.reduceBNe])) <;> (try (have hd_ : True := hd; clear hd_ hd)))
    (refine CallK.use (awake_sound _) ?_; rintro _ _ ⟨rfl, k1, rfl⟩)
    ((have hd := trivial; repeat' (first | ((first | apply GdK_st | apply GdK_sf | apply CondK_s) <;> intro hd <;> (try simp only [hd])) | simp (disch := first | assumption | omega | (simp only [nx] <;> omega) | fail) only [hd, hQr, hQn, c3_0, ↓YA, YB, YC, YE, YF, YZ, ↓reduceIte, Nat.reduceEqDiff, Nat.reduceAdd, Nat.reduceMul, Nat.reduceLeDiff, Int.reduceToNat, Int.reduceLE, Int.reduceLT, Int.reduceGT, Int.reduceGE, Int.reduceAdd, Int.reduceSub, Int.reduceNeg, Int.reduceBEq, Int.reduceBNe])) <;> (try (have hd_ : True := hd; clear hd_ hd)))
    refine fin_bA (by rfl)
   | true =>
    have hWd := hb2 rfl
    ((have hd := trivial; repeat' (first | ((first | apply GdK_st | apply GdK_sf | apply CondK_s) <;> intro hd <;> (try simp only [hd])) | simp (disch := first | assumption | omega | (simp only [nx] <;> omega) | fail) only [hd, hQr, hQn, c3_0, ↓YA, YB, YC, YE, YF, YZ, ↓reduceIte, Nat.reduceEqDiff, Nat.reduceAdd, Nat.reduceMul, Nat.reduceLeDiff, Int.reduceToNat, Int.reduceLE, Int.reduceLT, Int.reduceGT, Int.reduceGE, Int.reduceAdd, Int.reduceSub, Int.reduceNeg, Int.reduceBEq, Int.reduceBNe])) <;> (try (have hd_ : True := hd; clear hd_ hd)))
    refine CallK.use (hnew _) ?_
    rintro _ G3 ⟨rfl, n3, gm, gt, hx3⟩
    ((have hd := trivial; repeat' (first | ((first | apply GdK_st | apply GdK_sf | apply CondK_s) <;> intro hd <;> (try simp only [hd])) | simp (disch := first | assumption | omega | (simp only [nx] <;> omega) | fail) only [hd, hQr, hQn, c3_0, ↓YA, YB, YC, YE, YF, YZ, ↓reduceIte, Nat.reduceEqDiff, Nat.reduceAdd, Nat.reduceMul, Nat.reduceLeDiff, Int.reduceToNat, Int.reduceLE, Int.reduceLT, Int.reduceGT, Int.reduceGE, Int.reduceAdd, Int.reduceSub, Int.reduceNeg, Int.reduceBEq, Int.reduceBNe])) <;> (try (have hd_ : True := hd; clear hd_ hd)))
    refine CallK.use (hnew _) ?_
    rintro _ G4 ⟨rfl, n4, gm', gt', hx4⟩
    have gm2 := (hx4.get _ (AHeap.lt gm)).trans gm
    have gt2 := (hx4.get _ (AHeap.lt gt)).trans gt
    have hx5 : AHeap.Ext H G4 := (hx.trans hx3.ext).trans hx4.ext
    have hn5 : H.next ≤ G2.next := hx.next
    rw [n3] at gm' gt' n4
    generalize G2.next = mid at *
    ((have hd := trivial; repeat' (first | ((first | apply GdK_st | apply GdK_sf | apply CondK_s) <;> intro hd <;> (try simp only [hd])) | simp (disch := first | assumption | omega | (simp only [nx] <;> omega) | fail) only [hd, hQr, hQn, c3_0, ↓YA, YB, YC, YE, YF, YZ, ↓reduceIte, Nat.reduceEqDiff, Nat.reduceAdd, Nat.reduceMul, Nat.reduceLeDiff, Int.reduceToNat, Int.reduceLE, Int.reduceLT, Int.reduceGT, Int.reduceGE, Int.reduceAdd, Int.reduceSub, Int.reduceNeg, Int.reduceBEq, Int.reduceBNe, List.length_map, n3])) <;> (try (have hd_ : True := hd; clear hd_ hd)))
    clear hnew hfew hwide
    refine AW_for [1, 5, 7, 42] (σ := Tbl × Tbl) (fun (k : Nat) s => Ords w l k s) (fun k s => []) (fun k s => [(mid, eTbl s.1), (mid + 2, eTbl s.2)]) ([], []) (GStep.refl _ _) (by simp only [keep_nil, keep_cons, Fr.put, Fr.get, ↓reduceIte, Nat.reduceEqDiff]; rfl) (by intro k s; rfl) (by intro k s; rfl) (by rfl) (by unfold maxLen; omega) ?_ (by simp only [FrL_nil]) ?_ ?_ ?_
    ·exact Ords.ini w l
    ·rw [ObjL_cons, ObjL_cons]
     exact ⟨gm2, gm', by simp [ObjL]⟩
    ·(rintro k s G hk1 ht hG hn2; try simp only [nx] at hn2)
     obtain ⟨M, N⟩ := s
     have hst := ht.step hk1 c1 hl hWd rfl rfl
     have hf := hl _ (List.getElem_mem hk1)
     have hrk : l.length - 1 - k < l.length := by omega
     have hg := hl _ (List.getElem_mem hrk)
     obtain ⟨hTM, hTN⟩ := ht
     simp only at hG hTM hTN hst
     have em : G.get mid = some (eTbl M) := hG.o (mid, eTbl M) (by simp)
     have en : G.get (mid + 2) = some (eTbl N) := hG.o (mid + 2, eTbl N) (by simp)
     have e1 : G.get (mid + 1) = some (tab w 4000 mid) := (hG.g _ (AHeap.lt gt2) (by simp)).trans gt2
     have e2 : G.get (mid + 2 + 1) = some (tab w 4000 (mid + 2)) := (hG.g _ (AHeap.lt gt') (by simp; omega)).trans gt'
     have hksf : ∀ x ∈ l[k].1, x < 9223372036854775808 := fun x hx => by have := (hf.k x hx).2; omega
     have hksg : ∀ x ∈ l[l.length - 1 - k].1, x < 9223372036854775808 := fun x hx => by have := (hg.k x hx).2; omega
     have hPu : ∀ G, G.get (mid + 1) = some (tab w 4000 mid) → G.get mid = some (eTbl M) → Sound Try.prog 10 [.ptr (mid + 1) 0, .sl .no (rI l[k].1), .agg (eAg l[k].2)] G (PutQ mid (putM w 4000 M l[k].1 l[k].2) G) := fun G h1 h2 =>
      put_tab .no h1 h2 (by omega) hw16 hksf hf.a (fun f hf => (hTM.t.at hf).2.2.2)
     have hPv : ∀ G, G.get (mid + 2 + 1) = some (tab w 4000 (mid + 2)) → G.get (mid + 2) = some (eTbl N) → Sound Try.prog 10 [.ptr (mid + 2 + 1) 0, .sl .no (rI l[l.length - 1 - k].1), .agg (eAg l[l.length - 1 - k].2)] G (PutQ (mid + 2) (putM w 4000 N l[l.length - 1 - k].1 l[l.length - 1 - k].2) G) := fun G h1 h2 =>
      put_tab .no h1 h2 (by omega) hw16 hksg hg.a (fun f hf => (hTN.t.at hf).2.2.2)
     generalize putM w 4000 M l[k].1 l[k].2 = q at *
     generalize putM w 4000 N l[l.length - 1 - k].1 l[l.length - 1 - k].2 = r at *
     obtain ⟨M', n'⟩ := q
     obtain ⟨N', m'⟩ := r
     have hPu : ∀ G, G.get (mid + 1) = some (tab w 4000 mid) → G.get mid = some (eTbl M) → Sound Try.prog 10 [.ptr (mid + 1) 0, .sl .no (rI l[k].1), .agg (eAg l[k].2)] G (fun r H' => r = .i n' ∧ HX [(mid, eTbl M')] G H') := hPu
     have hPv : ∀ G, G.get (mid + 2 + 1) = some (tab w 4000 (mid + 2)) → G.get (mid + 2) = some (eTbl N) → Sound Try.prog 10 [.ptr (mid + 2 + 1) 0, .sl .no (rI l[l.length - 1 - k].1), .agg (eAg l[l.length - 1 - k].2)] G (fun r H' => r = .i m' ∧ HX [(mid + 2, eTbl N')] G H') := hPv
     have q0 : (eFct l[k])[0]? = some (.sl .no (rI l[k].1)) := rfl
     have q1 : (eFct l[k]).length = 11 := rfl
     have q3 : ((eFct l[k]).drop 1).take 10 = eAg l[k].2 := rfl
     have p1 : (eFct l[l.length - 1 - k]).length = 11 := rfl
     have p0 : (eFct l[l.length - 1 - k])[0]? = some (.sl .no (rI l[l.length - 1 - k].1)) := rfl
     have p3 : ((eFct l[l.length - 1 - k]).drop 1).take 10 = eAg l[l.length - 1 - k].2 := rfl
     generalize hgk : l[k] = f at *
     generalize hgr : l[l.length - 1 - k] = g at *
     have z0 : (0 : Int) ≤ (l.length : Int) - 1 - (k : Int) := by omega
     have ze : ((l.length : Int) - 1 - (k : Int)).toNat = l.length - 1 - k := by omega
     have hgr' : ∀ h, l[((l.length : Int) - 1 - (k : Int)).toNat]'h = g := fun h => by simp only [ze, hgr]
     clear hx4 hx3 hx2 hx1 hx hTM hTN hksf hksg hf hg
     ((have hd := trivial; repeat' (first | ((first | apply GdK_st | apply GdK_sf | apply CondK_s) <;> intro hd <;> (try simp only [hd])) | simp (disch := first | assumption | omega | (simp only [nx] <;> omega) | fail) only [hd, hQr, hQn, c3_0, ↓YA, YB, YC, YE, YF, YZ, ↓reduceIte, Nat.reduceEqDiff, Nat.reduceAdd, Nat.reduceMul, Nat.reduceLeDiff, Int.reduceToNat, Int.reduceLE, Int.reduceLT, Int.reduceGT, Int.reduceGE, Int.reduceAdd, Int.reduceSub, Int.reduceNeg, Int.reduceBEq, Int.reduceBNe, hk1, hgk, q0, q1, q3])) <;> (try (have hd_ : True := hd; clear hd_ hd)))
     refine CallK.use (hPu _ e1 em) ?_
     rintro _ G5 ⟨rfl, hx6⟩
     have f2 : G5.get (mid + 2 + 1) = some (tab w 4000 (mid + 2)) := (hx6.g _ (AHeap.lt e2) (by simp; omega)).trans e2
     have fn : G5.get (mid + 2) = some (eTbl N) := (hx6.g _ (AHeap.lt en) (by simp)).trans en
     ((have hd := trivial; repeat' (first | ((first | apply GdK_st | apply GdK_sf | apply CondK_s) <;> intro hd <;> (try simp only [hd])) | simp (disch := first | assumption | omega | (simp only [nx] <;> omega) | fail) only [hd, hQr, hQn, c3_0, ↓YA, YB, YC, YE, YF, YZ, ↓reduceIte, Nat.reduceEqDiff, Nat.reduceAdd, Nat.reduceMul, Nat.reduceLeDiff, Int.reduceToNat, Int.reduceLE, Int.reduceLT, Int.reduceGT, Int.reduceGE, Int.reduceAdd, Int.reduceSub, Int.reduceNeg, Int.reduceBEq, Int.reduceBNe, z0, hgr', p0, p1, p3, List.length_map])) <;> (try (have hd_ : True := hd; clear hd_ hd)))
     refine CallK.use (hPv _ f2 fn) ?_
     rintro _ G6 ⟨rfl, hx7⟩
     ((have hd := trivial; repeat' (first | ((first | apply GdK_st | apply GdK_sf | apply CondK_s) <;> intro hd <;> (try simp only [hd])) | simp (disch := first | assumption | omega | (simp only [nx] <;> omega) | fail) only [hd, hQr, hQn, c3_0, ↓YA, YB, YC, YE, YF, YZ, ↓reduceIte, Nat.reduceEqDiff, Nat.reduceAdd, Nat.reduceMul, Nat.reduceLeDiff, Int.reduceToNat, Int.reduceLE, Int.reduceLT, Int.reduceGT, Int.reduceGE, Int.reduceAdd, Int.reduceSub, Int.reduceNeg, Int.reduceBEq, Int.reduceBNe])) <;> (try (have hd_ : True := hd; clear hd_ hd)))
     exact ⟨(M', N'), hst, (hG.thn1 hx6 (by omega)).thn2 hx7 (by omega)⟩
    ·(rintro s G ht hG hn2; try simp only [nx] at hn2)
     obtain ⟨M, N⟩ := s
     obtain ⟨hTM, hTN, hMN⟩ := ht.fin
     simp only at hG hTM hTN hMN
     have em : G.get mid = some (eTbl M) := hG.o (mid, eTbl M) (by simp)
     have en : G.get (mid + 2) = some (eTbl N) := hG.o (mid + 2, eTbl N) (by simp)
     have e1 : G.get (mid + 1) = some (tab w 4000 mid) := (hG.g _ (AHeap.lt gt2) (by simp)).trans gt2
     have e2 : G.get (mid + 2 + 1) = some (tab w 4000 (mid + 2)) := (hG.g _ (AHeap.lt gt') (by simp; omega)).trans gt'
     have l1 := hTM.len
     have l2 := hTN.len
     rw [List.length_reverse] at l2
     have hR1 : ∀ G, G.get (mid + 1) = some (tab w 4000 mid) → G.get mid = some (eTbl M) → Sound Try.prog 12 [.ptr (mid + 1) 0] G (Pure G (.sl .no (rF (rowsM M)))) := fun G h1 h2 =>
      rows_tab h1 h2 (by omega) (hTM.t.key_le hw16) hTM.t.nd (hTM.t.len_le hw16)
     have hR2 : ∀ G, G.get (mid + 2 + 1) = some (tab w 4000 (mid + 2)) → G.get (mid + 2) = some (eTbl N) → Sound Try.prog 12 [.ptr (mid + 2 + 1) 0] G (Pure G (.sl .no (rF (rowsM M)))) := fun G h1 h2 => by
      rw [hMN]
      exact rows_tab h1 h2 (by omega) (hTN.t.key_le hw16) hTN.t.nd (hTN.t.len_le hw16)
     have hSa := fun H => same_refl .no .no hTM.t hw16 (by omega) H
     ((have hd := trivial; repeat' (first | ((first | apply GdK_st | apply GdK_sf | apply CondK_s) <;> intro hd <;> (try simp only [hd])) | simp (disch := first | assumption | omega | (simp only [nx] <;> omega) | fail) only [hd, hQr, hQn, c3_0, ↓YA, YB, YC, YE, YF, YZ, ↓reduceIte, Nat.reduceEqDiff, Nat.reduceAdd, Nat.reduceMul, Nat.reduceLeDiff, Int.reduceToNat, Int.reduceLE, Int.reduceLT, Int.reduceGT, Int.reduceGE, Int.reduceAdd, Int.reduceSub, Int.reduceNeg, Int.reduceBEq, Int.reduceBNe])) <;> (try (have hd_ : True := hd; clear hd_ hd)))
     (refine CallK.use (hR1 _ e1 em) ?_; rintro _ _ ⟨rfl, k1, rfl⟩)
     ((have hd := trivial; repeat' (first | ((first | apply GdK_st | apply GdK_sf | apply CondK_s) <;> intro hd <;> (try simp only [hd])) | simp (disch := first | assumption | omega | (simp only [nx] <;> omega) | fail) only [hd, hQr, hQn, c3_0, ↓YA, YB, YC, YE, YF, YZ, ↓reduceIte, Nat.reduceEqDiff, Nat.reduceAdd, Nat.reduceMul, Nat.reduceLeDiff, Int.reduceToNat, Int.reduceLE, Int.reduceLT, Int.reduceGT, Int.reduceGE, Int.reduceAdd, Int.reduceSub, Int.reduceNeg, Int.reduceBEq, Int.reduceBNe])) <;> (try (have hd_ : True := hd; clear hd_ hd)))
     (refine CallK.use (hR2 _ e2 en) ?_; rintro _ _ ⟨rfl, k2, rfl⟩)
     ((have hd := trivial; repeat' (first | ((first | apply GdK_st | apply GdK_sf | apply CondK_s) <;> intro hd <;> (try simp only [hd])) | simp (disch := first | assumption | omega | (simp only [nx] <;> omega) | fail) only [hd, hQr, hQn, c3_0, ↓YA, YB, YC, YE, YF, YZ, ↓reduceIte, Nat.reduceEqDiff, Nat.reduceAdd, Nat.reduceMul, Nat.reduceLeDiff, Int.reduceToNat, Int.reduceLE, Int.reduceLT, Int.reduceGT, Int.reduceGE, Int.reduceAdd, Int.reduceSub, Int.reduceNeg, Int.reduceBEq, Int.reduceBNe])) <;> (try (have hd_ : True := hd; clear hd_ hd)))
     (refine CallK.use (hSa _) ?_; rintro _ _ ⟨rfl, k3, rfl⟩)
     ((have hd := trivial; repeat' (first | ((first | apply GdK_st | apply GdK_sf | apply CondK_s) <;> intro hd <;> (try simp only [hd])) | simp (disch := first | assumption | omega | (simp only [nx] <;> omega) | fail) only [hd, hQr, hQn, c3_0, ↓YA, YB, YC, YE, YF, YZ, ↓reduceIte, Nat.reduceEqDiff, Nat.reduceAdd, Nat.reduceMul, Nat.reduceLeDiff, Int.reduceToNat, Int.reduceLE, Int.reduceLT, Int.reduceGT, Int.reduceGE, Int.reduceAdd, Int.reduceSub, Int.reduceNeg, Int.reduceBEq, Int.reduceBNe])) <;> (try (have hd_ : True := hd; clear hd_ hd)))
     (refine CallK.use (awake_sound _) ?_; rintro _ _ ⟨rfl, k4, rfl⟩)
     ((have hd := trivial; repeat' (first | ((first | apply GdK_st | apply GdK_sf | apply CondK_s) <;> intro hd <;> (try simp only [hd])) | simp (disch := first | assumption | omega | (simp only [nx] <;> omega) | fail) only [hd, hQr, hQn, c3_0, ↓YA, YB, YC, YE, YF, YZ, ↓reduceIte, Nat.reduceEqDiff, Nat.reduceAdd, Nat.reduceMul, Nat.reduceLeDiff, Int.reduceToNat, Int.reduceLE, Int.reduceLT, Int.reduceGT, Int.reduceGE, Int.reduceAdd, Int.reduceSub, Int.reduceNeg, Int.reduceBEq, Int.reduceBNe])) <;> (try (have hd_ : True := hd; clear hd_ hd)))
     refine fin_bA rfl ?_
     exact (hG.extO hx5 (by simp; omega)).bump.bump.bump.bump
end Go.Proofs.Ytafbdhoaoileiaa
