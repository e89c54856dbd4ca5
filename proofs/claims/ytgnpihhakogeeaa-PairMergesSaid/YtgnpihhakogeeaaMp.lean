/- Texts of the walk, joined: Wa Wb Wc Wd We Wf Wg Wh Wi. -/
import Derived.Test.YtgnpihhakogeeaaMm
import Derived.Test.YtgnpihhakogeeaaMn
import Derived.Test.YtgnpihhakogeeaaMf
import Derived.Test.YtgnpihhakogeeaaMo
namespace Go.Proofs.Ytgnpihhakogeeaa
set_option linter.unusedSimpArgs false
set_option linter.unusedVariables false
open Go.RowKit
abbrev Fct := List Int × Ag
def fcts (x : Shp) (l : List Nod) : Nat → List Int → Int → List Fct
 | 0, _, _ => []
 | n + 1, ks, a => ((nodAt l a).lists.headD []).flatMap fun c => if lastB x (nodAt l a).dim = true then [(ks ++ [c.key], c.agg)] else fcts x l n (ks ++ [c.key]) c.child
def fct (x : Shp) (l : List Nod) (ks : List Int) (a : Int) : List Fct := fcts x l (a.toNat + 1) ks a
def fill (most : Int) (out F : List Fct) : List Fct × Int := if ((out ++ F).length : Int) ≤ most then (out ++ F, 0) else ((out ++ F).take most.toNat, 6)
theorem fill_app {most : Int} {out F G : List Fct} (h : (fill most out F).2 = 0) : fill most (fill most out F).1 G = fill most out (F ++ G) := by
 unfold fill at h ⊢
 split at h
 ·rename_i h1
  rw [if_pos h1]
  simp only [List.append_assoc]
 ·cases h
theorem fill_len {most : Int} {out F : List Fct} (h : out.length ≤ most.toNat) : (fill most out F).1.length ≤ most.toNat := by
 unfold fill
 split
 ·rename_i h1; simp only; omega
 ·simp only [List.length_take]; omega
def eFct (f : Fct) : List AV := .sl .no (rI f.1) :: eAg f.2
abbrev rF (fs : List Fct) : List (List AV) := fs.map eFct
def wCells (aid : Nat) (last : Int) (kv : AV) (most : Int) (ov : AV) (err : Int) : List AV := [.ptr aid 0, .i last, kv, .i most, ov, .i err]
def KeysV (wid : Nat) (ks : List Int) (kv : AV) (G : AHeap) : Prop := (kv = .sl .full [] ∧ ks = []) ∨ ∃ kid cap tail, kv = .arr kid 0 ks.length cap ∧ G.get kid = some (.cells (ks.map AV.i ++ tail) 3) ∧ wid < kid ∧ (ks.map AV.i ++ tail).length = cap
def OutV (wid : Nat) (out : List Fct) (ov : AV) (G : AHeap) : Prop := (ov = .sl .full [] ∧ out = []) ∨ ∃ tk, ov = .sl (.own tk) (rF out) ∧ G.get tk = some (.tok out.length 113 11) ∧ wid < tk
structure Wkr (wid aid : Nat) (last most : Int) (ks : List Int) (out : List Fct) (err : Int) (G : AHeap) : Prop where
 ex : ∃ kv ov, G.get wid = some (.cells (wCells aid last kv most ov err) 116) ∧ KeysV wid ks kv G ∧ OutV wid out ov G
 a : aid < wid
theorem KeysV.keep {wid : Nat} {ks : List Int} {kv : AV} {G G' : AHeap} (h : KeysV wid ks kv G) (hk : ∀ i cs E, wid < i → G.get i = some (.cells cs E) → G'.get i = some (.cells cs E)) : KeysV wid ks kv G' := by
 rcases h with h | ⟨kid, cap, tail, h1, h2, h3, h4⟩
 ·exact .inl h
 ·exact .inr ⟨kid, cap, tail, h1, hk _ _ _ h3 h2, h3, h4⟩
theorem OutV.keep {wid : Nat} {out : List Fct} {ov : AV} {G G' : AHeap} (h : OutV wid out ov G) (hk : ∀ i n E sz, wid < i → G.get i = some (.tok n E sz) → G'.get i = some (.tok n E sz)) : OutV wid out ov G' := by
 rcases h with h | ⟨tk, h1, h2, h3⟩
 ·exact .inl h
 ·exact .inr ⟨tk, h1, hk _ _ _ _ h3 h2, h3⟩
structure ExtLo (b : Nat) (H H' : AHeap) : Prop where
 next : H.next ≤ H'.next
 get : ∀ i o, i < b → H.get i = some o → H'.get i = some o
theorem ExtLo.refl (b : Nat) (H : AHeap) : ExtLo b H H := ⟨Nat.le_refl _, fun _ _ _ h => h⟩
theorem ExtLo.trans {b : Nat} {H H' H'' : AHeap} (h : ExtLo b H H') (k : ExtLo b H' H'') : ExtLo b H H'' := ⟨Nat.le_trans h.next k.next, fun i o hi e => k.get i o hi (h.get i o hi e)⟩
theorem ExtLo.of {b : Nat} {H H' : AHeap} (h : AHeap.Ext H H') : ExtLo b H H' := ⟨h.next, fun i o _ e => h.get i o e⟩
theorem ExtLo.set {b id : Nat} {H H' : AHeap} {o : AObj} (h : ExtLo b H H') (hi : b ≤ id) : ExtLo b H (H'.set id o) := ⟨h.next, fun i o hl e => by rw [AHeap.get_set_ne (by omega)]; exact h.get i o hl e⟩
theorem ExtLo.alloc {b : Nat} {H H' : AHeap} {o : AObj} (h : ExtLo b H H') : ExtLo b H (H'.alloc o) := h.trans (.of (AHeap.Ext.refl _).alloc)
theorem ExtLo.bump {b k : Nat} {H H' : AHeap} (h : ExtLo b H H') : ExtLo b H (H'.bump k) := h.trans (.of (AHeap.Ext.refl _).bump)
theorem ExtLo.ara {b aid : Nat} {H H' : AHeap} {x : Shp} {l : List Nod} (h : ExtLo b H H') (ha : ArA H aid x l) (hb : aid < b) : ArA H' aid x l := by
 obtain ⟨tok, nt, most, e⟩ := ha
 exact ⟨tok, nt, most, h.get _ _ hb e⟩
theorem Wkr.ext {wid aid : Nat} {last most : Int} {ks : List Int} {out : List Fct} {e : Int} {G G' : AHeap} (h : Wkr wid aid last most ks out e G) (hx : AHeap.Ext G G') : Wkr wid aid last most ks out e G' := by
 obtain ⟨⟨kv, ov, hg, hK, hO⟩, haw⟩ := h
 exact ⟨⟨kv, ov, hx.get _ _ hg, hK.keep fun i cs E _ e => hx.get _ _ e, hO.keep fun i n E sz _ e => hx.get _ _ e⟩, haw⟩
def WkA (most : Int) (out : List Fct) (A : Nat → List Fct) (k : Nat) (o : List Fct) (e : Int) : Prop := (k = 0 ∧ o = out ∧ e = 0) ∨ (0 < k ∧ o = (fill most out (A k)).1 ∧ e = (fill most out (A k)).2)
theorem WkA.next {most : Int} {out o : List Fct} {A : Nat → List Fct} {k : Nat} {F : List Fct} (h : WkA most out A k o 0) (h0 : A 0 = []) (hA : A (k + 1) = A k ++ F) : WkA most out A (k + 1) (fill most o F).1 (fill most o F).2 := by
 refine .inr ⟨Nat.succ_pos _, ?_⟩
 rcases h with ⟨rfl, rfl, _⟩ | ⟨_, rfl, he⟩
 ·rw [hA, h0]; exact ⟨rfl, rfl⟩
 ·rw [fill_app he.symm, hA]; exact ⟨rfl, rfl⟩
theorem WkA.len {most : Int} {out o : List Fct} {A : Nat → List Fct} {k : Nat} {e : Int} (h : WkA most out A k o e) (ho : out.length ≤ most.toNat) : o.length ≤ most.toNat := by
 rcases h with ⟨_, rfl, _⟩ | ⟨_, rfl, _⟩
 ·exact ho
 ·exact fill_len ho
structure Wlk (x : Shp) (l : List Nod) : Prop where
 w : ArW x l
 ne : ∀ n ∈ l, n.lists ≠ []
 ne2 : ∀ n ∈ l, ∀ c ∈ n.lists, c ≠ []
 dm : ∀ i : Nat, i < l.length → 0 ≤ (nodAt l i).dim ∧ (nodAt l i).dim < x.sizes.length
 dim : ∀ i : Nat, i < l.length → lastB x (nodAt l i).dim = false → ∀ c ∈ each (nodAt l i), (nodAt l c.child).dim = (nodAt l i).dim + 1
theorem wlk_of {x : Shp} {l : List Nod} (h : loadErr x l = 0) (hlen : l.length ≤ 100000) (hs : ∀ n ∈ l, smallN n) : Wlk x l := by
 obtain ⟨hw, hd⟩ := load_w h hlen hs
 have ha := (load_all h).2
 refine ⟨hw, fun n hn => ?_, canon_nodes h, fun i hi => ?_, fun i hi hb c hc => ?_⟩
 ·obtain ⟨i, hi, rfl⟩ := List.getElem_of_mem hn
  have := (add_zero' (ha i hi)).1
  unfold checkErr at this
  simp only at this
  split at this
  ·cases this
  ·split at this
   ·cases this
   ·rename_i h2
    intro e
    rw [e] at h2
    simp at h2
 ·rw [nodAt_nat hi]
  exact hd _ (List.getElem_mem hi)
 ·have hl := (add_zero' (ha i hi)).2.1
  rw [nodAt_nat hi] at hb hc ⊢
  unfold leadsB at hl
  rw [hb, Bool.false_or, List.all_eq_true] at hl
  have := hl c hc
  rw [Bool.and_eq_true, decide_eq_true_eq, decide_eq_true_eq, List.length_take] at this
  have hc0 : 0 ≤ c.child ∧ c.child < i := by
   have := hw.down i hi
   rw [nodAt_nat hi] at this
   exact this hb c hc
  obtain ⟨b, hbb⟩ : ∃ b : Nat, c.child = b := ⟨c.child.toNat, by omega⟩
  have hbl : b < l.length := by omega
  have h2 := this.2
  rw [hbb, Int.toNat_natCast, List.getD_eq_getElem?_getD, List.getElem?_take, if_pos (by omega), List.getElem?_eq_getElem hbl, Option.getD_some] at h2
  rw [hbb, nodAt_nat hbl]
  exact h2
def fcn (x : Shp) (l : List Nod) (a : Int) : Nat := (fct x l [] a).length
def cntL (x : Shp) (l : List Nod) (m k : Nat) : List Int := (List.range k).map fun j : Nat => ((min (fcn x l (j : Int)) m : Nat) : Int)
@[simp] theorem cntL_zero (x : Shp) (l : List Nod) (m : Nat) : cntL x l m 0 = [] := rfl
theorem cntL_succ (x : Shp) (l : List Nod) (m k : Nat) : cntL x l m (k + 1) = cntL x l m k ++ [((min (fcn x l (k : Int)) m : Nat) : Int)] := by
 unfold cntL; rw [List.range_succ, List.map_append]; rfl
end Go.Proofs.Ytgnpihhakogeeaa
