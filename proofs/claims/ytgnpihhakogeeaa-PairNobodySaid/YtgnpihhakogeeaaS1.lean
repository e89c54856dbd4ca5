/- Shapes: ref24.Small. -/
import Derived.Test.YtgnpihhakogeeaaQ9a
import Derived.Test.YtgnpihhakogeeaaQg
import Derived.Test.YtgnpihhakogeeaaBq
namespace Go.Proofs.Ytgnpihhakogeeaa
set_option linter.unusedSimpArgs false
set_option linter.unusedVariables false
open Go.RowKit

def eI (l : List Int) : AV := .sl .no (l.map fun n => [.i n])
def eII (l : List (List Int)) : AV := .sl .no (l.map fun l => [eI l])
def eShp (x : Shp) : List AV := [eII x.sizes, .i x.measures]
def small (x : Shp) : Bool := (x.sizes.take 21).all (fun l => decide (l.length ≤ 10)) && decide (x.sizes.length ≤ 20)
theorem small_sound (x : Shp) (H : AHeap) : Sound Try.prog 11 [.agg (eShp x)] H (Pure H (.b (small x))) := by
  refine fn_sound hE cf11 (Nat.le_of_ble_eq_true rfl) ?_
  simp (disch := first | omega | (simp only [nx_alloc, nx_bump, nx_set] <;> omega) | fail) only [undefA, undef, RetQ, resA, resL, ARes.ev, AW_seq, AW_reg, AW_blk, AW_cond, AW_skip, AW_ret, AW_exit, AW_drw, AWOps, AWDraw, AI.want, AI.step, AOp.ev, AX.ev, evs, List.map_cons, List.map_nil, argsFr, Fr.get, Fr.put, AV.cells, SeqQ_n, SeqQ_r, SeqQ_e, BlkQ_n, BlkQ_r, BlkQ_e, LoopQ_n, LoopQ_r, LoopQ_e, RngQ_n, RngQ_r, RngQ_e, RnsQ_n, RnsQ_r, RnsQ_e, List.nil_append, AHeap.get_bump, AHeap.next_alloc, AHeap.next_bump, AHeap.next_set, AHeap.get_alloc_at, AHeap.get_alloc_ne, AHeap.get_set_self, AHeap.get_set_ne, set_alloc_at, set_alloc_lt, set_bump, ↓reduceIte, Nat.reduceEqDiff, AHeap.get_alloc_self, ldRow, cond_false, cond_true, Nat.add_zero, Nat.zero_add, List.getElem?_cons_zero, List.getElem?_cons_succ, Option.map_some, binSc, intSc, unSc, beq_self_eq_true, BEq.rfl, Bool.false_beq, Bool.true_beq, Bool.not_true, Bool.not_false, wrap_of, Int.toNat_natCast, List.not_mem_nil, false_implies, implies_true, true_and, and_true, c11_0, c11_1, c11_2, c11_3, c11_4, c11_5, c11_6]
  refine AW_loop (σ := Nat) (fun k => k ≤ x.sizes.length ∧ k ≤ 21 ∧ ∀ l ∈ x.sizes.take k, l.length ≤ 10) (fun k => x.sizes.length - k) (fun k => [(3, .i k), (1, .ptr H.next 0), (2, .b false)]) (fun _ => H.alloc (.cells (eShp x) 24)) 0 ⟨by omega, by omega, by simp⟩ (GStep.fr (by simp [Fr.get])) ?_
  rintro k ⟨hk1, hk2, hk3⟩
  have hx : AHeap.Ext H (H.alloc (.cells [.sl .no (x.sizes.map fun l => [eI l]), .i x.measures] 24)) := (AHeap.Ext.refl H).alloc
  have hx' : AHeap.Ext H (H.alloc (.cells [.sl .no (x.sizes.map fun l => [AV.sl .no (l.map fun n => [.i n])]), .i x.measures] 24)) := (AHeap.Ext.refl H).alloc
  by_cases h1 : k < x.sizes.length
  · have d1 : decide ((k : Int) < (x.sizes.length : Int)) = true := by simp; omega
    by_cases h2 : k ≤ 20
    · have d2 : decide ((k : Int) ≤ 20) = true := by simp; omega
      have hg : (x.sizes.map fun l => [AV.sl .no (l.map fun n => [.i n])])[k]? = some [AV.sl .no (x.sizes[k].map fun n => [.i n])] := by simp [h1]
      have h0 : (0 : Int) ≤ k := by omega
      cases d3 : decide ((x.sizes[k].length : Int) > 10) with
      | true =>
        simp (disch := first | omega | (simp only [nx_alloc, nx_bump, nx_set] <;> omega) | fail) only [undefA, undef, RetQ, resA, resL, ARes.ev, AW_seq, AW_reg, AW_blk, AW_cond, AW_skip, AW_ret, AW_exit, AW_drw, AWOps, AWDraw, AI.want, AI.step, AOp.ev, AX.ev, evs, List.map_cons, List.map_nil, argsFr, Fr.get, Fr.put, AV.cells, SeqQ_n, SeqQ_r, SeqQ_e, BlkQ_n, BlkQ_r, BlkQ_e, LoopQ_n, LoopQ_r, LoopQ_e, RngQ_n, RngQ_r, RngQ_e, RnsQ_n, RnsQ_r, RnsQ_e, List.nil_append, AHeap.get_bump, AHeap.next_alloc, AHeap.next_bump, AHeap.next_set, AHeap.get_alloc_at, AHeap.get_alloc_ne, AHeap.get_set_self, AHeap.get_set_ne, set_alloc_at, set_alloc_lt, set_bump, ↓reduceIte, Nat.reduceEqDiff, AHeap.get_alloc_self, ldRow, cond_false, cond_true, Nat.add_zero, Nat.zero_add, List.getElem?_cons_zero, List.getElem?_cons_succ, Option.map_some, binSc, intSc, unSc, beq_self_eq_true, BEq.rfl, Bool.false_beq, Bool.true_beq, Bool.not_true, Bool.not_false, wrap_of, Int.toNat_natCast, List.not_mem_nil, false_implies, implies_true, true_and, and_true, c11_7, c11_8, c11_9, c11_10, c11_11, c11_12, c11_13, c11_14, c11_15, c11_16, c11_17, eShp, eII, d1, d2, hg, h0, eI, List.length_map, List.length_cons, List.length_nil, d3]
        refine fin_pure hx' ?_
        have : small x = false := by
          simp only [decide_eq_true_eq] at d3
          simp only [small, Bool.and_eq_false_iff, List.all_eq_false]
          exact .inl ⟨x.sizes[k], by rw [List.mem_take_iff_getElem]; exact ⟨k, by omega, rfl⟩, by simp; omega⟩
        rw [this]
        rfl
      | false =>
        simp (disch := first | omega | (simp only [nx_alloc, nx_bump, nx_set] <;> omega) | fail) only [undefA, undef, RetQ, resA, resL, ARes.ev, AW_seq, AW_reg, AW_blk, AW_cond, AW_skip, AW_ret, AW_exit, AW_drw, AWOps, AWDraw, AI.want, AI.step, AOp.ev, AX.ev, evs, List.map_cons, List.map_nil, argsFr, Fr.get, Fr.put, AV.cells, SeqQ_n, SeqQ_r, SeqQ_e, BlkQ_n, BlkQ_r, BlkQ_e, LoopQ_n, LoopQ_r, LoopQ_e, RngQ_n, RngQ_r, RngQ_e, RnsQ_n, RnsQ_r, RnsQ_e, List.nil_append, AHeap.get_bump, AHeap.next_alloc, AHeap.next_bump, AHeap.next_set, AHeap.get_alloc_at, AHeap.get_alloc_ne, AHeap.get_set_self, AHeap.get_set_ne, set_alloc_at, set_alloc_lt, set_bump, ↓reduceIte, Nat.reduceEqDiff, AHeap.get_alloc_self, ldRow, cond_false, cond_true, Nat.add_zero, Nat.zero_add, List.getElem?_cons_zero, List.getElem?_cons_succ, Option.map_some, binSc, intSc, unSc, beq_self_eq_true, BEq.rfl, Bool.false_beq, Bool.true_beq, Bool.not_true, Bool.not_false, wrap_of, Int.toNat_natCast, List.not_mem_nil, false_implies, implies_true, true_and, and_true, c11_7, c11_8, c11_9, c11_10, c11_11, c11_12, c11_13, c11_14, c11_15, c11_16, c11_17, c11_18, eShp, eII, d1, d2, hg, h0, eI, List.length_map, List.length_cons, List.length_nil, d3]
        refine ⟨k + 1, ⟨by omega, by omega, fun l hl => ?_⟩, by omega, GStep.fr (by simp [Fr.get])⟩
        rw [List.take_add_one, List.getElem?_eq_getElem h1] at hl
        simp only [decide_eq_false_iff_not] at d3
        rcases List.mem_append.1 hl with hl | hl
        · exact hk3 l hl
        · simp at hl; subst hl; omega
    · have d2 : decide ((k : Int) ≤ 20) = false := by simp; omega
      simp (disch := first | omega | (simp only [nx_alloc, nx_bump, nx_set] <;> omega) | fail) only [undefA, undef, RetQ, resA, resL, ARes.ev, AW_seq, AW_reg, AW_blk, AW_cond, AW_skip, AW_ret, AW_exit, AW_drw, AWOps, AWDraw, AI.want, AI.step, AOp.ev, AX.ev, evs, List.map_cons, List.map_nil, argsFr, Fr.get, Fr.put, AV.cells, SeqQ_n, SeqQ_r, SeqQ_e, BlkQ_n, BlkQ_r, BlkQ_e, LoopQ_n, LoopQ_r, LoopQ_e, RngQ_n, RngQ_r, RngQ_e, RnsQ_n, RnsQ_r, RnsQ_e, List.nil_append, AHeap.get_bump, AHeap.next_alloc, AHeap.next_bump, AHeap.next_set, AHeap.get_alloc_at, AHeap.get_alloc_ne, AHeap.get_set_self, AHeap.get_set_ne, set_alloc_at, set_alloc_lt, set_bump, ↓reduceIte, Nat.reduceEqDiff, AHeap.get_alloc_self, ldRow, cond_false, cond_true, Nat.add_zero, Nat.zero_add, List.getElem?_cons_zero, List.getElem?_cons_succ, Option.map_some, binSc, intSc, unSc, beq_self_eq_true, BEq.rfl, Bool.false_beq, Bool.true_beq, Bool.not_true, Bool.not_false, wrap_of, Int.toNat_natCast, List.not_mem_nil, false_implies, implies_true, true_and, and_true, c11_7, c11_8, c11_9, c11_10, c11_19, c11_20, eShp, eII, d1, d2, List.length_map]
      refine fin_pure hx ?_
      have : small x = decide ((x.sizes.length : Int) ≤ 20) := by
        rw [small, decide_eq_false (show ¬ x.sizes.length ≤ 20 by omega), Bool.and_false]
        symm; simp; omega
      rw [this]
      rfl
  · have d1 : decide ((k : Int) < (x.sizes.length : Int)) = false := by simp; omega
    simp (disch := first | omega | (simp only [nx_alloc, nx_bump, nx_set] <;> omega) | fail) only [undefA, undef, RetQ, resA, resL, ARes.ev, AW_seq, AW_reg, AW_blk, AW_cond, AW_skip, AW_ret, AW_exit, AW_drw, AWOps, AWDraw, AI.want, AI.step, AOp.ev, AX.ev, evs, List.map_cons, List.map_nil, argsFr, Fr.get, Fr.put, AV.cells, SeqQ_n, SeqQ_r, SeqQ_e, BlkQ_n, BlkQ_r, BlkQ_e, LoopQ_n, LoopQ_r, LoopQ_e, RngQ_n, RngQ_r, RngQ_e, RnsQ_n, RnsQ_r, RnsQ_e, List.nil_append, AHeap.get_bump, AHeap.next_alloc, AHeap.next_bump, AHeap.next_set, AHeap.get_alloc_at, AHeap.get_alloc_ne, AHeap.get_set_self, AHeap.get_set_ne, set_alloc_at, set_alloc_lt, set_bump, ↓reduceIte, Nat.reduceEqDiff, AHeap.get_alloc_self, ldRow, cond_false, cond_true, Nat.add_zero, Nat.zero_add, List.getElem?_cons_zero, List.getElem?_cons_succ, Option.map_some, binSc, intSc, unSc, beq_self_eq_true, BEq.rfl, Bool.false_beq, Bool.true_beq, Bool.not_true, Bool.not_false, wrap_of, Int.toNat_natCast, List.not_mem_nil, false_implies, implies_true, true_and, and_true, c11_7, c11_8, c11_9, c11_10, c11_19, c11_20, eShp, eII, d1, List.length_map]
    refine fin_pure hx ?_
    have : small x = decide ((x.sizes.length : Int) ≤ 20) := by
      have hk : x.sizes.take 21 = x.sizes.take k := by rw [List.take_of_length_le (by omega), List.take_of_length_le (by omega)]
      have : (x.sizes.take 21).all (fun l => decide (l.length ≤ 10)) = true := by
        rw [hk, List.all_eq_true]
        intro l hl
        simp [hk3 l hl]
      rw [small, this, Bool.true_and]
      by_cases h : x.sizes.length ≤ 20 <;> simp [h] <;> omega
    rw [this]
    rfl
end Go.Proofs.Ytgnpihhakogeeaa
