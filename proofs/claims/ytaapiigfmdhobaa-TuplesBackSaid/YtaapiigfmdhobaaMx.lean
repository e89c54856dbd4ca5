/- Texts of the walk, joined: Vd Ve Vf Vg Vh Vi Vj Vk Vl. -/
import Derived.Test.YtaapiigfmdhobaaMf
import Derived.Test.YtaapiigfmdhobaaMw
import Derived.Test.YtaapiigfmdhobaaMj
namespace Go.Proofs.Ytaapiigfmdhobaa
set_option linter.unusedSimpArgs false
set_option linter.unusedVariables false
set_option linter.defProp false in
def YZv := YZi
open Go.RowKit
def Stk (x : Shp) (l : List Nod) : List (Int × List Int) → Prop
 | [] => True
 | (a, left) :: st => 0 ≤ a ∧ a < l.length ∧ (∀ c ∈ left, c ∈ chs x l a) ∧ (∀ p ∈ st, a < p.1) ∧ Stk x l st
theorem Stk.tail {x : Shp} {l : List Nod} {a c : Int} {left : List Int} {st : List (Int × List Int)} (h : Stk x l ((a, c :: left) :: st)) : Stk x l ((a, left) :: st) := ⟨h.1, h.2.1, fun d hd => h.2.2.1 d (List.mem_cons_of_mem _ hd), h.2.2.2⟩
theorem Stk.head {x : Shp} {l : List Nod} (hd : Down x l) {a c : Int} {left : List Int} {st : List (Int × List Int)} (h : Stk x l ((a, c :: left) :: st)) : 0 ≤ c ∧ c < a ∧ ∀ p ∈ (a, left) :: st, c < p.1 := by
 obtain ⟨h0, h1, h2, h3, h4⟩ := h
 have hc := chs_down hd h0 h1 (h2 c List.mem_cons_self)
 refine ⟨hc.1, hc.2, fun p hp => ?_⟩
 rcases List.mem_cons.1 hp with rfl | hp
 ·exact hc.2
 ·have := h3 p hp; omega
theorem Stk.push {x : Shp} {l : List Nod} (hd : Down x l) {a c : Int} {left : List Int} {st : List (Int × List Int)} (h : Stk x l ((a, c :: left) :: st)) : Stk x l ((c, chs x l c) :: (a, left) :: st) := by
 obtain ⟨h0, h1, h2⟩ := h.head hd
 exact ⟨h0, by have := h.2.1; omega, fun _ h => h, h2, h.tail⟩
structure Met (M : List (Int × Int)) (out : List Int) (st : List (Int × List Int)) (B : Nat) : Prop where
 iff : ∀ c, (aGet c M).isSome = true ↔ c ∈ out ∨ ∃ p ∈ st, p.1 = c
 lo : ∀ c v, aGet c M = some v → 1 ≤ v ∧ v + B ≤ 1000000000000000
abbrev rA (ts : List (Nat × Nat × List Cel)) : List (List AV) := ts.map fun p => [.arr p.1 0 p.2.2.length p.2.1]
structure LsAt (base : Nat) (ts : List (Nat × Nat × List Cel)) (G : AHeap) : Prop where
 get : ∀ p ∈ ts, ∃ tail, G.get p.1 = some (.cells ((rC p.2.2).flatten ++ tail) 58)
 lo : ∀ p ∈ ts, base ≤ p.1
 nd : (ts.map (·.1)).Nodup
theorem LsAt.ext {base : Nat} {ts : List (Nat × Nat × List Cel)} {G G' : AHeap} (h : LsAt base ts G) (hx : AHeap.Ext G G') : LsAt base ts G' :=
 ⟨fun p hp => by obtain ⟨t, e⟩ := h.get p hp; exact ⟨t, hx.get _ _ e⟩, h.lo, h.nd⟩
theorem LsAt.lt {base : Nat} {ts : List (Nat × Nat × List Cel)} {G : AHeap} (h : LsAt base ts G) : ∀ p ∈ ts, p.1 < G.next := fun p hp => by
 obtain ⟨t, e⟩ := h.get p hp
 exact AHeap.lt e
theorem LsAt.keep {base : Nat} {ts : List (Nat × Nat × List Cel)} {G G' : AHeap} (h : LsAt base ts G) (hk : ∀ p ∈ ts, G'.get p.1 = G.get p.1) : LsAt base ts G' :=
 ⟨fun p hp => by obtain ⟨t, e⟩ := h.get p hp; exact ⟨t, by rw [hk p hp]; exact e⟩, h.lo, h.nd⟩
theorem LsAt.snoc {base : Nat} {ts : List (Nat × Nat × List Cel)} {G : AHeap} {id cap : Nat} {l : List Cel} {tail : List AV} (h : LsAt base ts G) (hg : G.get id = some (.cells ((rC l).flatten ++ tail) 58)) (hb : base ≤ id) (hn : ∀ p ∈ ts, p.1 ≠ id) : LsAt base (ts ++ [(id, cap, l)]) G :=
 ⟨fun p hp => by
  rcases List.mem_append.1 hp with hp | hp
  ·exact h.get p hp
  ·rw [List.mem_singleton] at hp; subst hp; exact ⟨tail, hg⟩, fun p hp => by
  rcases List.mem_append.1 hp with hp | hp
  ·exact h.lo p hp
  ·rw [List.mem_singleton] at hp; subst hp; exact hb, by
  rw [List.map_append, List.nodup_append]
  refine ⟨h.nd, by simp, fun a ha b hb => ?_⟩
  obtain ⟨p, hp, rfl⟩ := List.mem_map.1 ha
  simp at hb
  subst hb
  exact hn p hp⟩
def eNodA (t : Tok) (dim : Int) (ts : List (Nat × Nat × List Cel)) (all : Cel) : List AV := .i dim :: .sl t (rA ts) :: eCel all
structure CpV (H0 : AHeap) (id t j : Nat) (n : Nod) (ts : List (Nat × Nat × List Cel)) (s : AHeap) : Prop where
 ne : id ≠ t
 lo : H0.next ≤ id
 lo2 : H0.next ≤ t
 cell : s.get id = some (.cells (eNodA (.own t) n.dim ts n.all) 60)
 tok : s.get t = some (.tok j 61 1)
 ext : AHeap.Ext H0 s
 ls : LsAt H0.next ts s
 of : ts.map (·.2.2) = n.lists.take j
theorem take_add_one' {α : Type} {l : List α} {k : Nat} (h : k < l.length) : l.take (k + 1) = l.take k ++ [l[k]] := by
 rw [List.take_add_one, List.getElem?_eq_getElem h]; rfl
def mvM (M : List (Int × Int)) (c : Cel) : Cel := ⟨c.key, (aGet c.child M).getD 0, c.agg⟩
structure Look (pid mid : Nat) (M : List (Int × Int)) (H : AHeap) : Prop where
 p : H.get pid = some (.cells [.mp mid] 50)
 m : H.get mid = some (.map (.one (.int .i64)) (eMap kI AV.i M) false)
theorem Look.ext {pid mid : Nat} {M : List (Int × Int)} {H H' : AHeap} (h : Look pid mid M H) (hx : AHeap.Ext H H') : Look pid mid M H' := ⟨hx.get _ _ h.p, hx.get _ _ h.m⟩
structure MvLs (M : List (Int × Int)) (ts : List (Nat × Nat × List Cel)) (k : Nat) (G : AHeap) : Prop where
 get : ∀ i (h : i < ts.length), ∃ tail, G.get ts[i].1 = some (.cells ((rC (if i < k then ts[i].2.2.map (mvM M) else ts[i].2.2)).flatten ++ tail) 58)
theorem listsErr_ne {x : Shp} {dim : Int} : ∀ (ls : List (List Cel)) (p : Option Nat) (s : List Int), ls.length = s.length → listsErr x dim p s ls = 0 → ∀ c ∈ ls, c ≠ []
 | [], _, _, _, _ => by simp
 | l :: ls, p, [], h, _ => by simp at h
 | l :: ls, p, s :: ss, h, he => by
  have he : (if listErr0 x dim s l ≠ 0 then listErr0 x dim s l else if overN p l.length = true then 14 else listsErr x dim (some l.length) ss ls) = 0 := by
   cases p <;> exact he
  split at he
  ·rename_i h1; exact absurd he h1
  ·rename_i h1
   split at he
   ·cases he
   ·intro c hc
    rcases List.mem_cons.1 hc with rfl | hc
    ·rintro rfl
     exact h1 (by unfold listErr0; simp)
    ·exact listsErr_ne ls _ ss (by simpa using h) he c hc
theorem lists_ne {x : Shp} {n : Nod} (h : checkErr x n = 0) : ∀ c ∈ n.lists, c ≠ [] := by
 unfold checkErr at h
 simp only at h
 split at h
 ·cases h
 ·split at h
  ·cases h
  ·rename_i h1
   split at h
   ·rename_i h2; exact absurd h h2
   ·rename_i h2
    have h2' : listsErr x n.dim none (x.sizes.getD n.dim.toNat []) n.lists = 0 := by simpa using h2
    exact listsErr_ne n.lists none _ (by omega) h2'
theorem canon_nodes {x : Shp} {l : List Nod} (he : loadErr x l = 0) : ∀ n ∈ l, ∀ c ∈ n.lists, c ≠ [] := by
 intro n hn
 obtain ⟨i, hi, rfl⟩ := List.getElem_of_mem hn
 exact lists_ne (add_zero' ((load_all he).2 i hi)).1
end Go.Proofs.Ytaapiigfmdhobaa
