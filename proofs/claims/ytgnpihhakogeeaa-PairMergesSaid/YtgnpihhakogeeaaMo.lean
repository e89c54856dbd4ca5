/- Texts of the walk, joined: Yf Vh Vi Vj Vk Vl Vm. -/
import Derived.Test.YtgnpihhakogeeaaMm
import Derived.Test.YtgnpihhakogeeaaMf
import Derived.Test.YtgnpihhakogeeaaMd
import Derived.Test.YtgnpihhakogeeaaMn
namespace Go.Proofs.Ytgnpihhakogeeaa
set_option linter.unusedSimpArgs false
set_option linter.unusedVariables false
open Go.RowKit
inductive Frz (H : AHeap) (D : Nat → Bool) : AV → AV → Prop
 | refl (a : AV) : Frz H D a a
 | arr (id off sz len cap E : Nat) (cs : List AV) (rows' : List (List AV)) (hd : D id = true) (ho : H.get id = some (.cells cs E)) (hb : off + len * sz ≤ cs.length) (hl : rows'.length = len)
   (h1 : ∀ (i : Nat) (r r' : List AV), (chunk sz len (cs.drop off))[i]? = some r → rows'[i]? = some r' → r.length = r'.length)
   (h2 : ∀ (i : Nat) (r r' : List AV) (j : Nat) (x y : AV), (chunk sz len (cs.drop off))[i]? = some r → rows'[i]? = some r' → r[j]? = some x → r'[j]? = some y → Frz H D x y) : Frz H D (.arr id off len cap) (.sl .no rows')
 | sl (t : Tok) (rows rows' : List (List AV)) (hl : rows.length = rows'.length) (h1 : ∀ (i : Nat) (r r' : List AV), rows[i]? = some r → rows'[i]? = some r' → r.length = r'.length)
   (h2 : ∀ (i : Nat) (r r' : List AV) (j : Nat) (x y : AV), rows[i]? = some r → rows'[i]? = some r' → r[j]? = some x → r'[j]? = some y → Frz H D x y) : Frz H D (.sl t rows) (.sl .no rows')
 | agg (cs cs' : List AV) (hl : cs.length = cs'.length) (h : ∀ (i : Nat) (x y : AV), cs[i]? = some x → cs'[i]? = some y → Frz H D x y) : Frz H D (.agg cs) (.agg cs')
 | tup (cs cs' : List AV) (hl : cs.length = cs'.length) (h : ∀ (i : Nat) (x y : AV), cs[i]? = some x → cs'[i]? = some y → Frz H D x y) : Frz H D (.tup cs) (.tup cs')
section
variable {g : Gh} {H : AHeap} {w : World} {D : Nat → Bool}
theorem Frz.one {a b : AV} (h : Frz H D a b) : a.one = b.one := by cases h <;> rfl
end
abbrev rA (ts : List (Nat × Nat × List Cel)) : List (List AV) := ts.map fun p => [.arr p.1 0 p.2.2.length p.2.1]
structure LsAt (base : Nat) (ts : List (Nat × Nat × List Cel)) (G : AHeap) : Prop where
 get : ∀ p ∈ ts, ∃ tail, G.get p.1 = some (.cells ((rC p.2.2).flatten ++ tail) 43)
 lo : ∀ p ∈ ts, base ≤ p.1
 nd : (ts.map (·.1)).Nodup
theorem LsAt.ext {base : Nat} {ts : List (Nat × Nat × List Cel)} {G G' : AHeap} (h : LsAt base ts G) (hx : AHeap.Ext G G') : LsAt base ts G' :=
 ⟨fun p hp => by obtain ⟨t, e⟩ := h.get p hp; exact ⟨t, hx.get _ _ e⟩, h.lo, h.nd⟩
theorem LsAt.lt {base : Nat} {ts : List (Nat × Nat × List Cel)} {G : AHeap} (h : LsAt base ts G) : ∀ p ∈ ts, p.1 < G.next := fun p hp => by
 obtain ⟨t, e⟩ := h.get p hp
 exact AHeap.lt e
theorem LsAt.keep {base : Nat} {ts : List (Nat × Nat × List Cel)} {G G' : AHeap} (h : LsAt base ts G) (hk : ∀ p ∈ ts, G'.get p.1 = G.get p.1) : LsAt base ts G' :=
 ⟨fun p hp => by obtain ⟨t, e⟩ := h.get p hp; exact ⟨t, by rw [hk p hp]; exact e⟩, h.lo, h.nd⟩
def eNodA (t : Tok) (dim : Int) (ts : List (Nat × Nat × List Cel)) (all : Cel) : List AV := .i dim :: .sl t (rA ts) :: eCel all
structure CpV (H0 : AHeap) (id t j : Nat) (n : Nod) (ts : List (Nat × Nat × List Cel)) (s : AHeap) : Prop where
 ne : id ≠ t
 lo : H0.next ≤ id
 lo2 : H0.next ≤ t
 cell : s.get id = some (.cells (eNodA (.own t) n.dim ts n.all) 45)
 tok : s.get t = some (.tok j 83 1)
 ext : AHeap.Ext H0 s
 ls : LsAt H0.next ts s
 of : ts.map (·.2.2) = n.lists.take j
theorem take_add_one' {α : Type} {l : List α} {k : Nat} (h : k < l.length) : l.take (k + 1) = l.take k ++ [l[k]] := by
 rw [List.take_add_one, List.getElem?_eq_getElem h]; rfl
def mvM (M : List (Int × Int)) (c : Cel) : Cel := ⟨c.key, (aGet c.child M).getD 0, c.agg⟩
structure Look (pid mid : Nat) (M : List (Int × Int)) (H : AHeap) : Prop where
 p : H.get pid = some (.cells [.mp mid] 103)
 m : H.get mid = some (.map (.one (.int .i64)) (eMap kI AV.i M) false)
theorem Look.ext {pid mid : Nat} {M : List (Int × Int)} {H H' : AHeap} (h : Look pid mid M H) (hx : AHeap.Ext H H') : Look pid mid M H' := ⟨hx.get _ _ h.p, hx.get _ _ h.m⟩
structure MvLs (M : List (Int × Int)) (ts : List (Nat × Nat × List Cel)) (k : Nat) (G : AHeap) : Prop where
 get : ∀ i (h : i < ts.length), ∃ tail, G.get ts[i].1 = some (.cells ((rC (if i < k then ts[i].2.2.map (mvM M) else ts[i].2.2)).flatten ++ tail) 43)
theorem listsErr_ne {x : Shp} {dim : Int} : ∀ (ls : List (List Cel)) (p : Option Nat) (s : List Int), ls.length = s.length → listsErr x dim p s ls = 0 → ∀ c ∈ ls, c ≠ []
 | [], _, _, _, _ => by simp
 | l :: ls, p, [], h, _ => by simp at h
 | l :: ls, p, s :: ss, h, he => by
  have he : (if listErr0 x dim s l ≠ 0 then listErr0 x dim s l else if overN p l.length = true then 14 else listsErr x dim (some l.length) ss ls) = 0 := by
   cases p <;> exact he
  split at he
  ·rename_i h1; exact absurd he h1
  ·rename_i h1
   split at he
   ·cases he
   ·intro c hc
    rcases List.mem_cons.1 hc with rfl | hc
    ·rintro rfl
     exact h1 (by unfold listErr0; simp)
    ·exact listsErr_ne ls _ ss (by simpa using h) he c hc
theorem lists_ne {x : Shp} {n : Nod} (h : checkErr x n = 0) : ∀ c ∈ n.lists, c ≠ [] := by
 unfold checkErr at h
 simp only at h
 split at h
 ·cases h
 ·split at h
  ·cases h
  ·rename_i h1
   split at h
   ·rename_i h2; exact absurd h h2
   ·rename_i h2
    have h2' : listsErr x n.dim none (x.sizes.getD n.dim.toNat []) n.lists = 0 := by simpa using h2
    exact listsErr_ne n.lists none _ (by omega) h2'
theorem Sound.wknA {P : Program} {f : FuncId} {xs bs : List AV} {H : AHeap} {R : AV → AHeap → Prop} (h : Sound P f bs H R) (hl : xs.length = bs.length) (hw : ∀ (i : Nat) x y, xs[i]? = some x → bs[i]? = some y → Wkn x y) : Sound P f xs H R :=
 ⟨h.1, fun g w vs hW hV => h.2 g w vs hW ⟨by rw [← hl]; exact hV.1, fun i y u hy hu => by
  obtain ⟨x, hx⟩ := get_of_len hl hy
  exact (hV.2 i x u hx hu).wkn (hw i x y hx hy)⟩⟩
theorem wkn_tok (t : Tok) (rows : List (List AV)) : Wkn (.sl t rows) (.sl .no rows) :=
 .sl _ _ _ rfl (fun i r r' h h' => by rw [h] at h'; injection h' with h'; rw [h']) (fun i r r' j x y h h' hx hy => by rw [h] at h'; injection h' with h'; subst h'; rw [hx] at hy; injection hy with hy; subst hy; exact .refl _)
theorem canon_nodes {x : Shp} {l : List Nod} (he : loadErr x l = 0) : ∀ n ∈ l, ∀ c ∈ n.lists, c ≠ [] := by
 intro n hn
 obtain ⟨i, hi, rfl⟩ := List.getElem_of_mem hn
 exact lists_ne (add_zero' ((load_all he).2 i hi)).1
def incK (r : List Int) (k : Nat) : Bool := (r.take k) == (List.range k).map fun i : Nat => (i : Int)
@[simp] theorem incK_zero (r : List Int) : incK r 0 = true := by simp [incK]
theorem incK_step {r : List Int} {k : Nat} (hk : k < r.length) : incK r (k + 1) = (incK r k && (k : Int) == r[k]) := by
 unfold incK
 rw [take_add_one' hk, List.range_succ, List.map_append, Bool.eq_iff_iff]
 simp only [beq_iff_eq, Bool.and_eq_true, List.map_cons, List.map_nil]
 constructor
 ·intro h
  have := List.append_inj h (by simp; omega)
  exact ⟨this.1, by have := this.2; simp at this; exact this.symm⟩
 ·rintro ⟨h1, h2⟩
  rw [h1, h2]
end Go.Proofs.Ytgnpihhakogeeaa
