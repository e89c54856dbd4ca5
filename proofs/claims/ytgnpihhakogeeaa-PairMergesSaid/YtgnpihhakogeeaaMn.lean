/- Texts of the walk, joined: Vc Vd Ve Vf Vg. -/
import Derived.Test.YtgnpihhakogeeaaMd
import Derived.Test.YtgnpihhakogeeaaMq
import Derived.Test.YtgnpihhakogeeaaMm
namespace Go.Proofs.Ytgnpihhakogeeaa
set_option linter.unusedSimpArgs false
set_option linter.unusedVariables false
open Go.RowKit
def visV (x : Shp) (l : List Nod) (came : List Int) (a : Int) : List Int := visF x l (a.toNat + 1) came a
def finV (x : Shp) (l : List Nod) : List Int → List (Int × List Int) → List Int
 | out, [] => out
 | out, (a, left) :: st => finV x l (left.foldl (visV x l) out ++ [a]) st
def Stk (x : Shp) (l : List Nod) : List (Int × List Int) → Prop
 | [] => True
 | (a, left) :: st => 0 ≤ a ∧ a < l.length ∧ (∀ c ∈ left, c ∈ chs x l a) ∧ (∀ p ∈ st, a < p.1) ∧ Stk x l st
theorem Stk.tail {x : Shp} {l : List Nod} {a c : Int} {left : List Int} {st : List (Int × List Int)} (h : Stk x l ((a, c :: left) :: st)) : Stk x l ((a, left) :: st) := ⟨h.1, h.2.1, fun d hd => h.2.2.1 d (List.mem_cons_of_mem _ hd), h.2.2.2⟩
theorem Stk.head {x : Shp} {l : List Nod} (hd : Down x l) {a c : Int} {left : List Int} {st : List (Int × List Int)} (h : Stk x l ((a, c :: left) :: st)) : 0 ≤ c ∧ c < a ∧ ∀ p ∈ (a, left) :: st, c < p.1 := by
 obtain ⟨h0, h1, h2, h3, h4⟩ := h
 have hc := chs_down hd h0 h1 (h2 c List.mem_cons_self)
 refine ⟨hc.1, hc.2, fun p hp => ?_⟩
 rcases List.mem_cons.1 hp with rfl | hp
 ·exact hc.2
 ·have := h3 p hp; omega
theorem Stk.push {x : Shp} {l : List Nod} (hd : Down x l) {a c : Int} {left : List Int} {st : List (Int × List Int)} (h : Stk x l ((a, c :: left) :: st)) : Stk x l ((c, chs x l c) :: (a, left) :: st) := by
 obtain ⟨h0, h1, h2⟩ := h.head hd
 exact ⟨h0, by have := h.2.1; omega, fun _ h => h, h2, h.tail⟩
def undone (x : Shp) (l : List Nod) (met : Int → Bool) : Nat := ((List.range l.length).map fun i : Nat => bif met (i : Int) then 0 else 2 + (chs x l (i : Int)).length).sum
def left_ : List (Int × List Int) → Nat
 | [] => 0
 | p :: st => 1 + p.2.length + left_ st
def stC : List (Int × List Int) → List AV → List AV
 | [], t => t
 | p :: st, t => stC st (.i p.1 :: .sl .no (rI p.2) :: t)
structure Met (M : List (Int × Int)) (out : List Int) (st : List (Int × List Int)) (B : Nat) : Prop where
 iff : ∀ c, (aGet c M).isSome = true ↔ c ∈ out ∨ ∃ p ∈ st, p.1 = c
 lo : ∀ c v, aGet c M = some v → 1 ≤ v ∧ v + B ≤ 1000000000000000
def mB (M : List (Int × Int)) (v : Int) : Bool := (aGet v M).isSome
structure VSt (H : AHeap) (x : Shp) (l : List Nod) (R : List Int) (mid tid id cap n : Nat) (M : List (Int × Int)) (out : List Int) (st : List (Int × List Int)) (tail : List AV) (G : AHeap) : Prop where
 ext : AHeap.Ext H G
 gm : G.get mid = some (.map (.one (.int .i64)) (eMap kI AV.i M) false)
 gt : G.get tid = some (.tok out.length 3 1)
 gs : G.get id = some (.cells (stC st tail) 107)
 i1 : H.next ≤ mid
 i2 : H.next ≤ tid
 i3 : H.next ≤ id
 n1 : tid ≠ mid
 n2 : id ≠ mid
 n3 : id ≠ tid
 len : (stC st tail).length = cap * 2
 le : st.length ≤ cap
 stk : Stk x l st
 met : Met M out st n
 mu : undone x l (mB M) + left_ st ≤ n
 fin : finV x l out st = R
 b1 : out.length + n ≤ 1000000000000
 b2 : st.length + n ≤ 1000000000000
end Go.Proofs.Ytgnpihhakogeeaa
