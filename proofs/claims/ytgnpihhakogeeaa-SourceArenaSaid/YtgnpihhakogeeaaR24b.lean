/- Layer 24, the program: node.Last, cell, list. -/
import Derived.Test.YtgnpihhakogeeaaR24
import Derived.StillTailTactics
namespace Go.Proofs.Ytgnpihhakogeeaa
open Go.RowKit

theorem Blk.newA (w : World) (t : TypeId) (cs : Array Value) : Blk (w.alloc (.cells cs t)) w.heap.size t cs.toList := by
  exact heap_alloc_new w _
theorem below1 (w : World) (o : Obj) : Below w.heap.size w (w.alloc o) := (Below.refl _ _).alloc (Nat.le_refl _) _
theorem below2 (w : World) (o o2 : Obj) : Below w.heap.size w ((w.alloc o).alloc o2) := (below1 w o).alloc (by simp) _
/-- on, from a world that is above -/
theorem bon {a b c : World} (h : Below a.heap.size a b) (k : Below b.heap.size b c) : Below a.heap.size a c := h.trans (k.mono h.size)
theorem RetV.imp {w w' : World} {v : Value} {e : Ending} (h : RetV w v e w') : e = .returned v ∧ Below w.heap.size w w' ∧ w.heap.size ≤ w'.heap.size ∧ (∀ b o, b < w.heap.size → w'.cell? ⟨b, o, none⟩ = w.cell? ⟨b, o, none⟩) ∧ (∀ b o, b < w.heap.size → w'.frozen? ⟨b, o, none⟩ = w.frozen? ⟨b, o, none⟩) :=
  ⟨h.1, h.2, h.2.size, (bcell h.2).1, (bcell h.2).2⟩

set_option maxHeartbeats 1000000 in
theorem last_any (A : Option Addr) (c : Nat) (x : Shp) (dim : Int) (w : World) (hn : x.sizes.length ≤ maxLen) : Calls Try.prog 83 #[.agg #[.slice A x.sizes.length c, .int .i64 x.measures], .int .i64 dim] w (RetV w (.bool (lastB x dim))) := by
  unfold maxLen at hn
  go_enter Try.func83, Try.ntmps83
  go_wp2
  go_ret
  exact ⟨rfl, below1 _ _⟩

set_option maxHeartbeats 1000000 in
set_option maxRecDepth 100000 in
theorem cell_any (A : Option Addr) (c : Nat) (x : Shp) (dim : Int) (y : Cel) (w : World) (hn : x.sizes.length ≤ maxLen) : Calls Try.prog 100 #[.agg #[.slice A x.sizes.length c, .int .i64 x.measures], .int .i64 dim, .agg y.arr] w (RetV w (.bool (cellOk x dim y))) := by
  have hsp : Hid (∀ b, lastB x dim = b → cellOk x dim y = if b then decide (y.child = 0) && aggMay x.measures y.agg else decide (0 ≤ y.child) && decide (y.agg = ag0)) := by
    intro b hb; unfold cellOk; rw [hb]
  have hl := fun W => Lib.hid (last_any A c x dim W hn)
  have HL := Lib.hid hl
  clear hl
  unfold Cel.arr
  have hq := fun d W => eq_ag0 d W y.agg
  unfold Ag.arr at hq
  cases hlast : lastB x dim with
  | true =>
    have hf := hsp.out true hlast
    rw [hlast] at HL
    clear hlast
    cases hc0 : (y.child == 0) with
    | true =>
      have hfin : Hid (cellOk x dim y = aggMay x.measures y.agg) := by unfold Hid; rw [hf, if_pos rfl, decide_eq_true (by simpa using hc0), Bool.true_and]
      clear hf hsp
      go_enter Try.func100, Try.ntmps100
      go_wp2_with (first | (go_at_call 83; refine ((HL.out _).out).mono ?_; rintro e w1 h1; obtain ⟨rfl, hb1, hz1, hc1, hf1⟩ := h1.imp; clear h1) | (go_at_call 110; refine (pmay_any _ y.agg _).mono ?_; rintro e w2 h2; obtain ⟨rfl, hb2, hz2, hc2, hf2⟩ := h2.imp; clear h2))
      go_ret
      exact ⟨by rw [hfin.out]; rfl, bon (below2 _ _ _) (bon hb1 hb2)⟩
    | false =>
      have hfin : Hid (cellOk x dim y = false) := by unfold Hid; rw [hf, if_pos rfl, decide_eq_false (by simpa using hc0), Bool.false_and]
      clear hf hsp
      go_enter Try.func100, Try.ntmps100
      go_wp2_with (first | (go_at_call 83; refine (HL.out _).out.mono ?_; rintro e w1 h1; obtain ⟨rfl, hb1, hz1, hc1, hf1⟩ := h1.imp))
      go_ret
      exact ⟨by rw [hfin.out]; rfl, bon (below2 _ _ _) hb1⟩
  | false =>
    have hf := hsp.out false hlast
    rw [hlast] at HL
    clear hlast
    cases hc0 : decide (0 ≤ y.child) with
    | true =>
      have hfin : Hid (cellOk x dim y = decide (y.agg = ag0)) := by unfold Hid; rw [hf, hc0]; simp
      clear hf hsp
      go_enter Try.func100, Try.ntmps100
      go_wp2_with (first | (go_at_call 83; refine (HL.out _).out.mono ?_; rintro e w1 h1; obtain ⟨rfl, hb1, hz1, hc1, hf1⟩ := h1.imp))
      go_ret
      exact ⟨by rw [hfin.out]; rfl, bon (below2 _ _ _) hb1⟩
    | false =>
      have hfin : Hid (cellOk x dim y = false) := by unfold Hid; rw [hf, hc0]; simp
      clear hf hsp
      go_enter Try.func100, Try.ntmps100
      go_wp2_with (first | (go_at_call 83; refine (HL.out _).out.mono ?_; rintro e w1 h1; obtain ⟨rfl, hb1, hz1, hc1, hf1⟩ := h1.imp))
      go_ret
      exact ⟨by rw [hfin.out]; rfl, bon (below2 _ _ _) hb1⟩
end Go.Proofs.Ytgnpihhakogeeaa
