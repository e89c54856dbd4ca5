/- Texts of the walk, joined: Vc Vd Ve Vf Vg. -/
import Derived.Test.YtgnpihhakogeeaaMd
import Derived.Test.YtgnpihhakogeeaaMq
import Derived.Test.YtgnpihhakogeeaaMm
namespace Go.Proofs.Ytgnpihhakogeeaa
set_option linter.unusedSimpArgs false
set_option linter.unusedVariables false
open Go.RowKit

theorem flat_lenA {sz : Nat} : ∀ {rows : List (List AV)}, (∀ q ∈ rows, q.length = sz) → rows.flatten.length = rows.length * sz
  | [], _ => by simp
  | q :: rows, h => by
    simp only [List.flatten_cons, List.length_append, List.length_cons]
    rw [flat_lenA fun q hq => h q (List.mem_cons_of_mem _ hq), h q (List.mem_cons_self ..), Nat.add_mul]
    omega
/-- what is appended to an object of rows: in place, or a new object -/
theorem apv_push {H : AHeap} {E sz bytes id cap : Nat} {zero : List AV} {rows : List (List AV)} {tail r : List AV} {x : AV} {K : AV → AHeap → Prop}
    (ho : H.get id = some (.cells (rows.flatten ++ tail) E)) (hl : ∀ q ∈ rows, q.length = sz) (hx : rowsIn H sz x = some [r]) (hr : r.length = sz)
    (hcl : (rows.flatten ++ tail).length = cap * sz) (hn : rows.length ≤ cap) (h63 : rows.length + 1 ≤ maxLen) (hby : (rows.length + 1) * bytes ≤ 140737488355328) (hz : zero.length = sz)
    (k : ∀ id' cap' tail' H', (id' = id ∧ H' = H.set id (.cells ((rows ++ [r]).flatten ++ tail') E)) ∨ (id' = H.next ∧ H' = H.alloc (.cells ((rows ++ [r]).flatten ++ tail') E)) → ((rows ++ [r]).flatten ++ tail').length = cap' * sz → rows.length + 1 ≤ cap' → cap' ≤ maxLen ∨ cap' = cap → K (.arr id' 0 (rows.length + 1) cap') H') :
    ApvK H E sz bytes zero (.arr id 0 rows.length cap) x K := by
  have hfl := flat_lenA hl
  unfold ApvK
  rw [hx]
  simp only [ho]
  refine ⟨⟨trivial, trivial, by simp, by simp [allLen, hr], hcl, hn, h63, hby⟩, fun h1 => ?_, fun h1 c h2 h3 => ?_⟩
  · have htl : sz ≤ tail.length := by
      rw [List.length_append, hfl] at hcl
      have : (rows.length + 1) * sz ≤ cap * sz := Nat.mul_le_mul_right _ h1
      rw [Nat.add_mul] at this
      omega
    have e : splice (rows.flatten ++ tail) (rows.length * sz) [r].flatten = (rows ++ [r]).flatten ++ tail.drop sz := by
      unfold splice
      rw [← hfl, List.take_left]
      simp only [List.flatten_append, List.flatten_cons, List.flatten_nil, List.append_nil, hr]
      rw [List.drop_length_add_append]
    rw [e]
    refine k id cap (tail.drop sz) _ (.inl ⟨rfl, rfl⟩) ?_ h1 (.inr rfl)
    rw [← hcl]
    simp only [List.flatten_append, List.flatten_cons, List.flatten_nil, List.append_nil, List.length_append, List.length_drop, hr]
    omega
  · have e : (rows.flatten ++ tail).take (rows.length * sz) ++ ([r].flatten ++ (List.replicate (c - (rows.length + 1)) zero).flatten) = (rows ++ [r]).flatten ++ (List.replicate (c - (rows.length + 1)) zero).flatten := by
      rw [← hfl, List.take_left]
      simp
    have hlen1 : [r].length = 1 := rfl
    simp only [hlen1] at h1 h2 ⊢
    rw [e]
    refine k H.next c _ _ (.inr ⟨rfl, rfl⟩) ?_ h2 (.inl h3)
    have hrep := flat_lenA (sz := sz) (rows := List.replicate (c - (rows.length + 1)) zero) (fun q hq => by rw [(List.mem_replicate.1 hq).2]; exact hz)
    rw [List.length_append, hrep, List.length_replicate]
    simp only [List.flatten_append, List.flatten_cons, List.flatten_nil, List.append_nil, List.length_append, hfl, hr]
    have : c * sz = (rows.length + 1) * sz + (c - (rows.length + 1)) * sz := by rw [← Nat.add_mul]; congr 1; omega
    rw [this, Nat.add_mul]
    omega
end Go.Proofs.Ytgnpihhakogeeaa

namespace Go.Proofs.Ytgnpihhakogeeaa
set_option linter.unusedSimpArgs false
set_option linter.unusedVariables false
open Go.RowKit

def zvl0 : List AV := [.sc (.pointer none), .sc (.int .i64 0), .sl .full [], .sc (.int .i64 0), .sl .full [], .sc (.int .i64 0)]
def zva1 : AV := .agg [.sc (.int .i64 0), .sl .full [], .sc (.int .i64 0), .sc (.int .i64 0), .sc (.int .i64 0), .sc (.int .i64 0), .sc (.int .i64 0), .sc (.int .i64 0), .sc (.int .i64 0), .sc (.int .i64 0), .sc (.int .i64 0), .sc (.int .i64 0), .sc (.int .i64 0), .sc (.int .i64 0)]
def zva2 : AV := .agg [.sc (.int .i64 0), .sc (.int .i64 0), .sc (.int .i64 0), .sc (.int .i64 0), .sc (.int .i64 0), .sc (.int .i64 0), .sc (.int .i64 0), .sc (.int .i64 0), .sc (.int .i64 0), .sc (.int .i64 0), .sc (.int .i64 0), .sc (.int .i64 0)]
def zvl3 : List AV := [.sl .full [], .sc (.int .i64 0), .sc (.int .i64 0), .sc (.int .i64 0), .sc (.int .i64 0), .sc (.int .i64 0), .sc (.int .i64 0), .sc (.int .i64 0), .sc (.int .i64 0), .sc (.int .i64 0), .sc (.int .i64 0)]
theorem YZv : True ∧ zvl0 = [.sc (.pointer none), .sc (.int .i64 0), .sl .full [], .sc (.int .i64 0), .sl .full [], .sc (.int .i64 0)] ∧ zva1 = .agg [.sc (.int .i64 0), .sl .full [], .sc (.int .i64 0), .sc (.int .i64 0), .sc (.int .i64 0), .sc (.int .i64 0), .sc (.int .i64 0), .sc (.int .i64 0), .sc (.int .i64 0), .sc (.int .i64 0), .sc (.int .i64 0), .sc (.int .i64 0), .sc (.int .i64 0), .sc (.int .i64 0)] ∧ zva2 = .agg [.sc (.int .i64 0), .sc (.int .i64 0), .sc (.int .i64 0), .sc (.int .i64 0), .sc (.int .i64 0), .sc (.int .i64 0), .sc (.int .i64 0), .sc (.int .i64 0), .sc (.int .i64 0), .sc (.int .i64 0), .sc (.int .i64 0), .sc (.int .i64 0)] ∧ zvl3 = [.sl .full [], .sc (.int .i64 0), .sc (.int .i64 0), .sc (.int .i64 0), .sc (.int .i64 0), .sc (.int .i64 0), .sc (.int .i64 0), .sc (.int .i64 0), .sc (.int .i64 0), .sc (.int .i64 0), .sc (.int .i64 0)] := ⟨trivial, rfl, rfl, rfl, rfl⟩
def v67_1 : ACode := .blk 0 (.loop (.seq (.reg [io 34 (.bin .lss (.t 33) (.t 32))]) (.seq (.cond (.t 34) .skip (.exit 0)) (.seq (.blk 1 (.seq (.reg [io 35 (.ixa 12 (.t 31) (.t 33)), io 36 (.ld 12 true (.t 35)), io 10 (.box 43 (.c zva2)), iz (.st 12 (.t 10) (.t 36))]) (.seq (.seq (.reg [im 37 0, io 38 (.nck (.t 37)), io 39 (.fla 5 (.t 38)), io 40 (.ld 1 false (.t 39)), io 41 (.bin .neq (.t 40) (ik 0))]) (.cond (.t 41) .ret .skip)) (.reg [im 42 8, im 43 1, io 44 (.ld 12 true (.t 10)), io 45 (.call (.t 42) [.t 43, .t 44])])))) (.reg [io 46 (.bin .add (.t 33) (ik 1)), im 33 46])))))
def v67_0 : ACode := .seq (.reg [im 12 0, io 13 (.nck (.t 12)), io 14 (.fla 0 (.t 13)), io 15 (.ld 1 false (.t 14)), im 16 2, io 17 (.call (jf 48) [.t 15, .t 16]), im 11 17, io 18 (.ext (.t 11) 0), io 19 (.ext (.t 11) 1), io 6 (.box 45 (.c zva1)), iz (.st 14 (.t 6) (.t 18)), im 7 19]) (.seq (.seq (.reg [im 20 7, io 21 (.bin .neq (.t 20) (ik 0))]) (.cond (.t 21) (.seq (.reg [im 22 0, im 23 7, io 24 (.nck (.t 22)), io 25 (.fla 5 (.t 24)), iz (.st 1 (.t 25) (.t 23))]) .ret) .skip)) (.seq (.reg [im 26 0, io 27 (.mkf 90 [.t 26] []), im 8 27]) (.seq (.reg [io 28 (.fla 1 (.t 6)), io 29 (.ld 1 false (.t 28)), io 30 (.ixa 1 (.t 29) (ik 0)), io 31 (.ld 1 false (.t 30)), io 32 (.len false (.t 31)), jm 33 0]) v67_1)))
theorem vf67 : cFn Try.prog eqTi 67 = some (v67_0, [], 47) := by kernel_rfl
def v69_1 : ACode := .blk 0 (.loop (.seq (.reg [io 13 (.bin .lss (.t 12) (.t 11))]) (.seq (.cond (.t 13) .skip (.exit 0)) (.seq (.blk 1 (.seq (.reg [io 14 (.ixa 12 (.t 10) (.t 12)), io 15 (.ld 12 true (.t 14)), io 5 (.box 43 (.c zva2)), iz (.st 12 (.t 5) (.t 15))]) (.seq (.seq (.reg [im 16 0, io 17 (.nck (.t 16)), io 18 (.fla 5 (.t 17)), io 19 (.ld 1 false (.t 18)), io 20 (.bin .neq (.t 19) (ik 0))]) (.cond (.t 20) .ret .skip)) (.reg [im 21 0, io 22 (.ld 12 true (.t 5)), io 23 (.call (jf 90) [.t 21, ik 0, .t 22])])))) (.reg [io 24 (.bin .add (.t 12) (ik 1)), im 12 24])))))
def v69_0 : ACode := .seq (.reg [io 3 (.box 45 (.t 1))]) (.seq (.reg [io 6 (.ld 14 true (.t 3)), io 7 (.call (jf 66) [.t 6]), io 8 (.fld 1 1 false (.t 7)), io 9 (.ixa 1 (.t 8) (ik 0)), io 10 (.ld 1 false (.t 9)), io 11 (.len false (.t 10)), jm 12 0]) v69_1)
theorem vf69 : cFn Try.prog eqTi 69 = some (v69_0, [], 25) := by kernel_rfl
def v90_0 : ACode := .seq (.reg [io 5 (.box 43 (.t 2))]) (.seq (.drw [ip (im 6 0), ip (im 7 0), ip (io 8 (.nck (.t 7))), ip (io 9 (.fla 2 (.t 8))), ip (io 10 (.ld 1 false (.t 9))), ip (io 11 (.fla 0 (.t 5))), ip (io 12 (.ld 1 false (.t 11))), (io 13 (.bsv 3 1 [.t 12]), [io 10 (.ld 1 false (.t 9))]), ip (io 14 (.apv 3 1 8 [.sc (.int .i64 0)] (.t 10) (.t 13))), ip (io 15 (.nck (.t 6))), ip (io 16 (.fla 2 (.t 15))), ip (iz (.st 1 (.t 16) (.t 14)))]) (.seq (.seq (.reg [im 17 1, im 18 0, io 19 (.nck (.t 18)), io 20 (.fla 1 (.t 19)), io 21 (.ld 1 false (.t 20)), io 22 (.bin .eql (.t 17) (.t 21))]) (.cond (.t 22) (.reg [im 23 0, io 24 (.fla 2 (.t 5)), io 25 (.ld 10 true (.t 24)), io 26 (.call (jf 106) [.t 23, .t 25])]) (.reg [im 27 0, im 28 1, io 29 (.bin .add (.t 28) (ik 1)), io 30 (.fla 1 (.t 5)), io 31 (.ld 1 false (.t 30)), io 32 (.call (jf 67) [.t 27, .t 29, .t 31])]))) (.reg [im 33 0, im 34 0, io 35 (.nck (.t 34)), io 36 (.fla 2 (.t 35)), io 37 (.ld 1 false (.t 36)), im 38 1, io 39 (.slc 1 (.t 37) none (some (.t 38)) none), io 40 (.nck (.t 33)), io 41 (.fla 2 (.t 40)), iz (.st 1 (.t 41) (.t 39))])))
theorem vf90 : cFn Try.prog eqTi 90 = some (v90_0, [], 42) := by kernel_rfl
def v106_0 : ACode := .seq (.reg [io 3 (.box 41 (.t 1))]) (.seq (.seq (.drw [ip (im 4 0), ip (io 5 (.nck (.t 4))), ip (io 6 (.fla 4 (.t 5))), ip (io 7 (.ld 1 false (.t 6))), ip (io 8 (.len false (.t 7))), ip (im 9 0), ip (io 10 (.nck (.t 9))), ip (io 11 (.fla 3 (.t 10))), ip (io 12 (.ld 1 false (.t 11))), ip (io 13 (.bin .geq (.t 8) (.t 12)))]) (.cond (.t 13) (.seq (.reg [im 14 0, io 15 (.nck (.t 14)), io 16 (.fla 5 (.t 15)), iz (.st 1 (.t 16) (ik 6))]) .ret) .skip)) (.drw [ip (im 17 0), ip (im 18 0), ip (io 19 (.nck (.t 18))), ip (io 20 (.fla 4 (.t 19))), ip (io 21 (.ld 1 false (.t 20))), ip (im 22 0), ip (io 23 (.nck (.t 22))), ip (io 24 (.fla 2 (.t 23))), ip (io 25 (.ld 1 false (.t 24))), ip (io 27 (.ld 10 true (.t 3))), (io 26 (.call (jf 74) [.t 25]), [io 21 (.ld 1 false (.t 20)), io 27 (.ld 10 true (.t 3))]), ip (io 28 (.bld zvl3 [(0, (1, .t 26)), (1, (10, .t 27))])), ip (io 29 (.bsl 11 [.t 28])), ip (io 30 (.app 113 11 104 (.t 21) (.t 29))), ip (io 31 (.nck (.t 17))), ip (io 32 (.fla 4 (.t 31))), ip (iz (.st 1 (.t 32) (.t 30)))]))
theorem vf106 : cFn Try.prog eqTi 106 = some (v106_0, [], 33) := by kernel_rfl
end Go.Proofs.Ytgnpihhakogeeaa

namespace Go.Proofs.Ytgnpihhakogeeaa
set_option linter.unusedSimpArgs false
set_option linter.unusedVariables false
open Go.RowKit

end Go.Proofs.Ytgnpihhakogeeaa

namespace Go.Proofs.Ytgnpihhakogeeaa
set_option linter.unusedSimpArgs false
set_option linter.unusedVariables false
open Go.RowKit

def visV (x : Shp) (l : List Nod) (came : List Int) (a : Int) : List Int := visF x l (a.toNat + 1) came a
def finV (x : Shp) (l : List Nod) : List Int → List (Int × List Int) → List Int
  | out, [] => out
  | out, (a, left) :: st => finV x l (left.foldl (visV x l) out ++ [a]) st
/-- the stack: each one's own that are left, each below the one beneath -/
def Stk (x : Shp) (l : List Nod) : List (Int × List Int) → Prop
  | [] => True
  | (a, left) :: st => 0 ≤ a ∧ a < l.length ∧ (∀ c ∈ left, c ∈ chs x l a) ∧ (∀ p ∈ st, a < p.1) ∧ Stk x l st
theorem Stk.tail {x : Shp} {l : List Nod} {a c : Int} {left : List Int} {st : List (Int × List Int)} (h : Stk x l ((a, c :: left) :: st)) : Stk x l ((a, left) :: st) := ⟨h.1, h.2.1, fun d hd => h.2.2.1 d (List.mem_cons_of_mem _ hd), h.2.2.2⟩
theorem Stk.head {x : Shp} {l : List Nod} (hd : Down x l) {a c : Int} {left : List Int} {st : List (Int × List Int)} (h : Stk x l ((a, c :: left) :: st)) : 0 ≤ c ∧ c < a ∧ ∀ p ∈ (a, left) :: st, c < p.1 := by
  obtain ⟨h0, h1, h2, h3, h4⟩ := h
  have hc := chs_down hd h0 h1 (h2 c List.mem_cons_self)
  refine ⟨hc.1, hc.2, fun p hp => ?_⟩
  rcases List.mem_cons.1 hp with rfl | hp
  · exact hc.2
  · have := h3 p hp; omega
theorem Stk.push {x : Shp} {l : List Nod} (hd : Down x l) {a c : Int} {left : List Int} {st : List (Int × List Int)} (h : Stk x l ((a, c :: left) :: st)) : Stk x l ((c, chs x l c) :: (a, left) :: st) := by
  obtain ⟨h0, h1, h2⟩ := h.head hd
  exact ⟨h0, by have := h.2.1; omega, fun _ h => h, h2, h.tail⟩
/-- how much there is to do -/
def undone (x : Shp) (l : List Nod) (met : Int → Bool) : Nat := ((List.range l.length).map fun i : Nat => bif met (i : Int) then 0 else 2 + (chs x l (i : Int)).length).sum
def left_ : List (Int × List Int) → Nat
  | [] => 0
  | p :: st => 1 + p.2.length + left_ st
end Go.Proofs.Ytgnpihhakogeeaa

namespace Go.Proofs.Ytgnpihhakogeeaa
set_option linter.unusedSimpArgs false
set_option linter.unusedVariables false
open Go.RowKit

/-- a stack's cells, the lowest first, and what lies behind it -/
def stC : List (Int × List Int) → List AV → List AV
  | [], t => t
  | p :: st, t => stC st (.i p.1 :: .sl .no (rI p.2) :: t)
/-- what is met: just what is out or under way; how often, it is bounded -/
structure Met (M : List (Int × Int)) (out : List Int) (st : List (Int × List Int)) (B : Nat) : Prop where
  iff : ∀ c, (aGet c M).isSome = true ↔ c ∈ out ∨ ∃ p ∈ st, p.1 = c
  lo : ∀ c v, aGet c M = some v → 1 ≤ v ∧ v + B ≤ 1000000000000000
def mB (M : List (Int × Int)) (v : Int) : Bool := (aGet v M).isSome
structure VSt (H : AHeap) (x : Shp) (l : List Nod) (R : List Int) (mid tid id cap n : Nat) (M : List (Int × Int)) (out : List Int) (st : List (Int × List Int)) (tail : List AV) (G : AHeap) : Prop where
  ext : AHeap.Ext H G
  gm : G.get mid = some (.map (.one (.int .i64)) (eMap kI AV.i M) false)
  gt : G.get tid = some (.tok out.length 3 1)
  gs : G.get id = some (.cells (stC st tail) 107)
  i1 : H.next ≤ mid
  i2 : H.next ≤ tid
  i3 : H.next ≤ id
  n1 : tid ≠ mid
  n2 : id ≠ mid
  n3 : id ≠ tid
  len : (stC st tail).length = cap * 2
  le : st.length ≤ cap
  stk : Stk x l st
  met : Met M out st n
  mu : undone x l (mB M) + left_ st ≤ n
  fin : finV x l out st = R
  b1 : out.length + n ≤ 1000000000000
  b2 : st.length + n ≤ 1000000000000
end Go.Proofs.Ytgnpihhakogeeaa
