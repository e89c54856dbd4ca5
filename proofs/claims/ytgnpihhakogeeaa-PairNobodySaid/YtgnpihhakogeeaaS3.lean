/- ref24.May, by the abstract machine. -/
import Derived.Test.YtgnpihhakogeeaaS2
import Derived.Test.YtgnpihhakogeeaaQ9b
import Derived.Test.YtgnpihhakogeeaaQ9c
namespace Go.Proofs.Ytgnpihhakogeeaa
set_option linter.unusedSimpArgs false
set_option linter.unusedVariables false
open Go.RowKit

theorem rmay_sound (x : Shp) (H : AHeap) : Sound Try.prog 46 [.agg (eShp x)] H (Pure H (.b (shpMay x))) := by
  refine fn_sound hE cf46 (Nat.le_of_ble_eq_true rfl) ?_
  have hx : AHeap.Ext H (H.alloc (.cells [.sl .no (rII x.sizes), .i x.measures] 24)) := (AHeap.Ext.refl H).alloc
  have hs := shpMay_eq x
  rw [eShp_eq]
  cases d1 : decide ((x.sizes.length : Int) < 1) with
  | true =>
    simp (disch := first | omega | (simp only [nx_alloc, nx_bump, nx_set] <;> omega) | fail) only [undefA, undef, RetQ, resA, resL, ARes.ev, AW_seq, AW_reg, AW_blk, AW_cond, AW_skip, AW_ret, AW_exit, AW_drw, AWOps, AWDraw, AI.want, AI.step, AOp.ev, AX.ev, evs, List.map_cons, List.map_nil, argsFr, Fr.get, Fr.put, AV.cells, SeqQ_n, SeqQ_r, SeqQ_e, BlkQ_n, BlkQ_r, BlkQ_e, LoopQ_n, LoopQ_r, LoopQ_e, RngQ_n, RngQ_r, RngQ_e, RnsQ_n, RnsQ_r, RnsQ_e, List.nil_append, AHeap.get_bump, AHeap.next_alloc, AHeap.next_bump, AHeap.next_set, AHeap.get_alloc_at, AHeap.get_alloc_ne, AHeap.get_set_self, AHeap.get_set_ne, set_alloc_at, set_alloc_lt, set_bump, ↓reduceIte, Nat.reduceEqDiff, AHeap.get_alloc_self, ldRow, cond_false, cond_true, Nat.add_zero, Nat.zero_add, List.getElem?_cons_zero, List.getElem?_cons_succ, Option.map_some, binSc, intSc, unSc, beq_self_eq_true, BEq.rfl, Bool.false_beq, Bool.true_beq, Bool.not_true, Bool.not_false, wrap_of, Int.toNat_natCast, List.not_mem_nil, false_implies, implies_true, true_and, and_true, c46_0, c46_1, c46_2, c46_3, c46_4, c46_5, c46_6, c46_7, List.length_map, d1]
    refine fin_pure hx ?_
    rw [hs, d1]; rfl
  | false =>
    cases d2 : decide ((x.sizes.length : Int) > 16) with
    | true =>
      simp (disch := first | omega | (simp only [nx_alloc, nx_bump, nx_set] <;> omega) | fail) only [undefA, undef, RetQ, resA, resL, ARes.ev, AW_seq, AW_reg, AW_blk, AW_cond, AW_skip, AW_ret, AW_exit, AW_drw, AWOps, AWDraw, AI.want, AI.step, AOp.ev, AX.ev, evs, List.map_cons, List.map_nil, argsFr, Fr.get, Fr.put, AV.cells, SeqQ_n, SeqQ_r, SeqQ_e, BlkQ_n, BlkQ_r, BlkQ_e, LoopQ_n, LoopQ_r, LoopQ_e, RngQ_n, RngQ_r, RngQ_e, RnsQ_n, RnsQ_r, RnsQ_e, List.nil_append, AHeap.get_bump, AHeap.next_alloc, AHeap.next_bump, AHeap.next_set, AHeap.get_alloc_at, AHeap.get_alloc_ne, AHeap.get_set_self, AHeap.get_set_ne, set_alloc_at, set_alloc_lt, set_bump, ↓reduceIte, Nat.reduceEqDiff, AHeap.get_alloc_self, ldRow, cond_false, cond_true, Nat.add_zero, Nat.zero_add, List.getElem?_cons_zero, List.getElem?_cons_succ, Option.map_some, binSc, intSc, unSc, beq_self_eq_true, BEq.rfl, Bool.false_beq, Bool.true_beq, Bool.not_true, Bool.not_false, wrap_of, Int.toNat_natCast, List.not_mem_nil, false_implies, implies_true, true_and, and_true, c46_0, c46_1, c46_2, c46_3, c46_4, c46_5, c46_6, c46_7, List.length_map, d1, d2]
      refine fin_pure hx ?_
      rw [hs, d1, d2]; rfl
    | false =>
      cases d3 : decide (x.measures < 1) with
      | true =>
        simp (disch := first | omega | (simp only [nx_alloc, nx_bump, nx_set] <;> omega) | fail) only [undefA, undef, RetQ, resA, resL, ARes.ev, AW_seq, AW_reg, AW_blk, AW_cond, AW_skip, AW_ret, AW_exit, AW_drw, AWOps, AWDraw, AI.want, AI.step, AOp.ev, AX.ev, evs, List.map_cons, List.map_nil, argsFr, Fr.get, Fr.put, AV.cells, SeqQ_n, SeqQ_r, SeqQ_e, BlkQ_n, BlkQ_r, BlkQ_e, LoopQ_n, LoopQ_r, LoopQ_e, RngQ_n, RngQ_r, RngQ_e, RnsQ_n, RnsQ_r, RnsQ_e, List.nil_append, AHeap.get_bump, AHeap.next_alloc, AHeap.next_bump, AHeap.next_set, AHeap.get_alloc_at, AHeap.get_alloc_ne, AHeap.get_set_self, AHeap.get_set_ne, set_alloc_at, set_alloc_lt, set_bump, ↓reduceIte, Nat.reduceEqDiff, AHeap.get_alloc_self, ldRow, cond_false, cond_true, Nat.add_zero, Nat.zero_add, List.getElem?_cons_zero, List.getElem?_cons_succ, Option.map_some, binSc, intSc, unSc, beq_self_eq_true, BEq.rfl, Bool.false_beq, Bool.true_beq, Bool.not_true, Bool.not_false, wrap_of, Int.toNat_natCast, List.not_mem_nil, false_implies, implies_true, true_and, and_true, c46_0, c46_1, c46_2, c46_3, c46_4, c46_5, c46_6, c46_7, List.length_map, d1, d2, d3]
        refine fin_pure hx ?_
        rw [hs, d1, d2, d3]; rfl
      | false =>
        cases d4 : decide (x.measures > 3) with
        | true =>
          simp (disch := first | omega | (simp only [nx_alloc, nx_bump, nx_set] <;> omega) | fail) only [undefA, undef, RetQ, resA, resL, ARes.ev, AW_seq, AW_reg, AW_blk, AW_cond, AW_skip, AW_ret, AW_exit, AW_drw, AWOps, AWDraw, AI.want, AI.step, AOp.ev, AX.ev, evs, List.map_cons, List.map_nil, argsFr, Fr.get, Fr.put, AV.cells, SeqQ_n, SeqQ_r, SeqQ_e, BlkQ_n, BlkQ_r, BlkQ_e, LoopQ_n, LoopQ_r, LoopQ_e, RngQ_n, RngQ_r, RngQ_e, RnsQ_n, RnsQ_r, RnsQ_e, List.nil_append, AHeap.get_bump, AHeap.next_alloc, AHeap.next_bump, AHeap.next_set, AHeap.get_alloc_at, AHeap.get_alloc_ne, AHeap.get_set_self, AHeap.get_set_ne, set_alloc_at, set_alloc_lt, set_bump, ↓reduceIte, Nat.reduceEqDiff, AHeap.get_alloc_self, ldRow, cond_false, cond_true, Nat.add_zero, Nat.zero_add, List.getElem?_cons_zero, List.getElem?_cons_succ, Option.map_some, binSc, intSc, unSc, beq_self_eq_true, BEq.rfl, Bool.false_beq, Bool.true_beq, Bool.not_true, Bool.not_false, wrap_of, Int.toNat_natCast, List.not_mem_nil, false_implies, implies_true, true_and, and_true, c46_0, c46_1, c46_2, c46_3, c46_4, c46_5, c46_6, c46_7, List.length_map, d1, d2, d3, d4]
          refine fin_pure hx ?_
          rw [hs, d1, d2, d3, d4]; rfl
        | false =>
          have hlen : x.sizes.length ≤ 16 := by simp at d2; omega
          rw [d1, d2, d3, d4] at hs
          simp only [Bool.not_false, Bool.true_and] at hs
          simp (disch := first | omega | (simp only [nx_alloc, nx_bump, nx_set] <;> omega) | fail) only [undefA, undef, RetQ, resA, resL, ARes.ev, AW_seq, AW_reg, AW_blk, AW_cond, AW_skip, AW_ret, AW_exit, AW_drw, AWOps, AWDraw, AI.want, AI.step, AOp.ev, AX.ev, evs, List.map_cons, List.map_nil, argsFr, Fr.get, Fr.put, AV.cells, SeqQ_n, SeqQ_r, SeqQ_e, BlkQ_n, BlkQ_r, BlkQ_e, LoopQ_n, LoopQ_r, LoopQ_e, RngQ_n, RngQ_r, RngQ_e, RnsQ_n, RnsQ_r, RnsQ_e, List.nil_append, AHeap.get_bump, AHeap.next_alloc, AHeap.next_bump, AHeap.next_set, AHeap.get_alloc_at, AHeap.get_alloc_ne, AHeap.get_set_self, AHeap.get_set_ne, set_alloc_at, set_alloc_lt, set_bump, ↓reduceIte, Nat.reduceEqDiff, AHeap.get_alloc_self, ldRow, cond_false, cond_true, Nat.add_zero, Nat.zero_add, List.getElem?_cons_zero, List.getElem?_cons_succ, Option.map_some, binSc, intSc, unSc, beq_self_eq_true, BEq.rfl, Bool.false_beq, Bool.true_beq, Bool.not_true, Bool.not_false, wrap_of, Int.toNat_natCast, List.not_mem_nil, false_implies, implies_true, true_and, and_true, c46_0, c46_1, c46_2, c46_3, c46_4, c46_5, c46_6, c46_7, c46_8, c46_9, c46_10, List.length_map, d1, d2, d3, d4]
          refine AW_range (fun k => shpMay x = (x.sizes.drop k).all sizesMay) (fun _ => [(27, .sl .no (rII x.sizes)), (1, .ptr H.next 0), (2, .b false)]) (fun _ => H.alloc (.cells [.sl .no (rII x.sizes), .i x.measures] 24)) (N := x.sizes.length) (by unfold maxLen; omega) (by decide) (by decide) (by decide) (by rw [hs]; rfl) (GStep.fr (by simp [Fr.get])) ?_ ?_
          · intro k hk hinv
            rw [all_step _ _ hk, sizesMay_eq] at hinv
            have hg := rII_get hk
            have h0 : (0 : Int) ≤ k := by omega
            generalize hl : x.sizes[k] = l at hinv hg
            cases d5 : decide ((l.length : Int) < 1) with
            | true =>
              simp (disch := first | omega | (simp only [nx_alloc, nx_bump, nx_set] <;> omega) | fail) only [undefA, undef, RetQ, resA, resL, ARes.ev, AW_seq, AW_reg, AW_blk, AW_cond, AW_skip, AW_ret, AW_exit, AW_drw, AWOps, AWDraw, AI.want, AI.step, AOp.ev, AX.ev, evs, List.map_cons, List.map_nil, argsFr, Fr.get, Fr.put, AV.cells, SeqQ_n, SeqQ_r, SeqQ_e, BlkQ_n, BlkQ_r, BlkQ_e, LoopQ_n, LoopQ_r, LoopQ_e, RngQ_n, RngQ_r, RngQ_e, RnsQ_n, RnsQ_r, RnsQ_e, List.nil_append, AHeap.get_bump, AHeap.next_alloc, AHeap.next_bump, AHeap.next_set, AHeap.get_alloc_at, AHeap.get_alloc_ne, AHeap.get_set_self, AHeap.get_set_ne, set_alloc_at, set_alloc_lt, set_bump, ↓reduceIte, Nat.reduceEqDiff, AHeap.get_alloc_self, ldRow, cond_false, cond_true, Nat.add_zero, Nat.zero_add, List.getElem?_cons_zero, List.getElem?_cons_succ, Option.map_some, binSc, intSc, unSc, beq_self_eq_true, BEq.rfl, Bool.false_beq, Bool.true_beq, Bool.not_true, Bool.not_false, wrap_of, Int.toNat_natCast, List.not_mem_nil, false_implies, implies_true, true_and, and_true, c46_18, c46_19, c46_20, c46_21, c46_22, c46_23, c46_24, c46_25, c46_26, List.length_cons, List.length_nil, hg, h0, List.length_map, d5]
              refine fin_pure hx ?_
              rw [hinv, d5]; rfl
            | false =>
              cases d6 : decide ((l.length : Int) > 4) with
              | true =>
                simp (disch := first | omega | (simp only [nx_alloc, nx_bump, nx_set] <;> omega) | fail) only [undefA, undef, RetQ, resA, resL, ARes.ev, AW_seq, AW_reg, AW_blk, AW_cond, AW_skip, AW_ret, AW_exit, AW_drw, AWOps, AWDraw, AI.want, AI.step, AOp.ev, AX.ev, evs, List.map_cons, List.map_nil, argsFr, Fr.get, Fr.put, AV.cells, SeqQ_n, SeqQ_r, SeqQ_e, BlkQ_n, BlkQ_r, BlkQ_e, LoopQ_n, LoopQ_r, LoopQ_e, RngQ_n, RngQ_r, RngQ_e, RnsQ_n, RnsQ_r, RnsQ_e, List.nil_append, AHeap.get_bump, AHeap.next_alloc, AHeap.next_bump, AHeap.next_set, AHeap.get_alloc_at, AHeap.get_alloc_ne, AHeap.get_set_self, AHeap.get_set_ne, set_alloc_at, set_alloc_lt, set_bump, ↓reduceIte, Nat.reduceEqDiff, AHeap.get_alloc_self, ldRow, cond_false, cond_true, Nat.add_zero, Nat.zero_add, List.getElem?_cons_zero, List.getElem?_cons_succ, Option.map_some, binSc, intSc, unSc, beq_self_eq_true, BEq.rfl, Bool.false_beq, Bool.true_beq, Bool.not_true, Bool.not_false, wrap_of, Int.toNat_natCast, List.not_mem_nil, false_implies, implies_true, true_and, and_true, c46_18, c46_19, c46_20, c46_21, c46_22, c46_23, c46_24, c46_25, c46_26, List.length_cons, List.length_nil, hg, h0, List.length_map, d5, d6]
                refine fin_pure hx ?_
                rw [hinv, d5, d6]; rfl
              | false =>
                rw [d5, d6] at hinv
                simp only [Bool.not_false, Bool.true_and] at hinv
                have hl4 : l.length ≤ 4 := by simp at d6; omega
                simp (disch := first | omega | (simp only [nx_alloc, nx_bump, nx_set] <;> omega) | fail) only [undefA, undef, RetQ, resA, resL, ARes.ev, AW_seq, AW_reg, AW_blk, AW_cond, AW_skip, AW_ret, AW_exit, AW_drw, AWOps, AWDraw, AI.want, AI.step, AOp.ev, AX.ev, evs, List.map_cons, List.map_nil, argsFr, Fr.get, Fr.put, AV.cells, SeqQ_n, SeqQ_r, SeqQ_e, BlkQ_n, BlkQ_r, BlkQ_e, LoopQ_n, LoopQ_r, LoopQ_e, RngQ_n, RngQ_r, RngQ_e, RnsQ_n, RnsQ_r, RnsQ_e, List.nil_append, AHeap.get_bump, AHeap.next_alloc, AHeap.next_bump, AHeap.next_set, AHeap.get_alloc_at, AHeap.get_alloc_ne, AHeap.get_set_self, AHeap.get_set_ne, set_alloc_at, set_alloc_lt, set_bump, ↓reduceIte, Nat.reduceEqDiff, AHeap.get_alloc_self, ldRow, cond_false, cond_true, Nat.add_zero, Nat.zero_add, List.getElem?_cons_zero, List.getElem?_cons_succ, Option.map_some, binSc, intSc, unSc, beq_self_eq_true, BEq.rfl, Bool.false_beq, Bool.true_beq, Bool.not_true, Bool.not_false, wrap_of, Int.toNat_natCast, List.not_mem_nil, false_implies, implies_true, true_and, and_true, c46_18, c46_19, c46_20, c46_21, c46_22, c46_23, c46_24, c46_25, c46_26, c46_27, c46_28, List.length_cons, List.length_nil, hg, h0, List.length_map, d5, d6]
                refine AW_range (fun j => shpMay x = (rowMay (intAhead l j) (l.drop j) && (x.sizes.drop (k + 1)).all sizesMay)) (fun _ => [(41, .sl .no (rI l)), (4, .sl .no (rI l)), (29, .i k), (28, .i x.sizes.length), (27, .sl .no (rII x.sizes)), (1, .ptr H.next 0), (2, .b false)]) (fun _ => H.alloc (.cells [.sl .no (rII x.sizes), .i x.measures] 24)) (N := l.length) (by unfold maxLen; omega) (by decide) (by decide) (by decide) hinv (GStep.fr (by simp [Fr.get])) ?_ ?_
                · intro j hj hinv
                  rw [rowMay_step l j hj] at hinv
                  have hgj := rI_get hj
                  have h0j : (0 : Int) ≤ j := by omega
                  cases e1 : decide (l[j] < 1) with
                  | true =>
                    simp (disch := first | omega | (simp only [nx_alloc, nx_bump, nx_set] <;> omega) | fail) only [undefA, undef, RetQ, resA, resL, ARes.ev, AW_seq, AW_reg, AW_blk, AW_cond, AW_skip, AW_ret, AW_exit, AW_drw, AWOps, AWDraw, AI.want, AI.step, AOp.ev, AX.ev, evs, List.map_cons, List.map_nil, argsFr, Fr.get, Fr.put, AV.cells, SeqQ_n, SeqQ_r, SeqQ_e, BlkQ_n, BlkQ_r, BlkQ_e, LoopQ_n, LoopQ_r, LoopQ_e, RngQ_n, RngQ_r, RngQ_e, RnsQ_n, RnsQ_r, RnsQ_e, List.nil_append, AHeap.get_bump, AHeap.next_alloc, AHeap.next_bump, AHeap.next_set, AHeap.get_alloc_at, AHeap.get_alloc_ne, AHeap.get_set_self, AHeap.get_set_ne, set_alloc_at, set_alloc_lt, set_bump, ↓reduceIte, Nat.reduceEqDiff, AHeap.get_alloc_self, ldRow, cond_false, cond_true, Nat.add_zero, Nat.zero_add, List.getElem?_cons_zero, List.getElem?_cons_succ, Option.map_some, binSc, intSc, unSc, beq_self_eq_true, BEq.rfl, Bool.false_beq, Bool.true_beq, Bool.not_true, Bool.not_false, wrap_of, Int.toNat_natCast, List.not_mem_nil, false_implies, implies_true, true_and, and_true, c46_36, c46_37, c46_38, c46_39, c46_40, c46_41, c46_42, c46_43, List.length_cons, List.length_nil, hgj, h0j, e1]
                    refine fin_pure hx ?_
                    have : decide (1 ≤ l[j]) = false := by simp at e1 ⊢; omega
                    rw [hinv, this]; rfl
                  | false =>
                    have f1 : decide (1 ≤ l[j]) = true := by simp at e1 ⊢; omega
                    cases e2 : decide (l[j] > 200) with
                    | true =>
                      simp (disch := first | omega | (simp only [nx_alloc, nx_bump, nx_set] <;> omega) | fail) only [undefA, undef, RetQ, resA, resL, ARes.ev, AW_seq, AW_reg, AW_blk, AW_cond, AW_skip, AW_ret, AW_exit, AW_drw, AWOps, AWDraw, AI.want, AI.step, AOp.ev, AX.ev, evs, List.map_cons, List.map_nil, argsFr, Fr.get, Fr.put, AV.cells, SeqQ_n, SeqQ_r, SeqQ_e, BlkQ_n, BlkQ_r, BlkQ_e, LoopQ_n, LoopQ_r, LoopQ_e, RngQ_n, RngQ_r, RngQ_e, RnsQ_n, RnsQ_r, RnsQ_e, List.nil_append, AHeap.get_bump, AHeap.next_alloc, AHeap.next_bump, AHeap.next_set, AHeap.get_alloc_at, AHeap.get_alloc_ne, AHeap.get_set_self, AHeap.get_set_ne, set_alloc_at, set_alloc_lt, set_bump, ↓reduceIte, Nat.reduceEqDiff, AHeap.get_alloc_self, ldRow, cond_false, cond_true, Nat.add_zero, Nat.zero_add, List.getElem?_cons_zero, List.getElem?_cons_succ, Option.map_some, binSc, intSc, unSc, beq_self_eq_true, BEq.rfl, Bool.false_beq, Bool.true_beq, Bool.not_true, Bool.not_false, wrap_of, Int.toNat_natCast, List.not_mem_nil, false_implies, implies_true, true_and, and_true, c46_36, c46_37, c46_38, c46_39, c46_40, c46_41, c46_42, c46_43, List.length_cons, List.length_nil, hgj, h0j, e1, e2]
                      refine fin_pure hx ?_
                      have : decide (l[j] ≤ 200) = false := by simp at e2 ⊢; omega
                      rw [hinv, this, f1]; rfl
                    | false =>
                      have f2 : decide (l[j] ≤ 200) = true := by simp at e2 ⊢; omega
                      rw [f1, f2, Bool.true_and, Bool.true_and] at hinv
                      by_cases hj0 : j = 0
                      · subst hj0
                        have e3 : decide (((0 : Nat) : Int) > 0) = false := by simp
                        simp (disch := first | omega | (simp only [nx_alloc, nx_bump, nx_set] <;> omega) | fail) only [undefA, undef, RetQ, resA, resL, ARes.ev, AW_seq, AW_reg, AW_blk, AW_cond, AW_skip, AW_ret, AW_exit, AW_drw, AWOps, AWDraw, AI.want, AI.step, AOp.ev, AX.ev, evs, List.map_cons, List.map_nil, argsFr, Fr.get, Fr.put, AV.cells, SeqQ_n, SeqQ_r, SeqQ_e, BlkQ_n, BlkQ_r, BlkQ_e, LoopQ_n, LoopQ_r, LoopQ_e, RngQ_n, RngQ_r, RngQ_e, RnsQ_n, RnsQ_r, RnsQ_e, List.nil_append, AHeap.get_bump, AHeap.next_alloc, AHeap.next_bump, AHeap.next_set, AHeap.get_alloc_at, AHeap.get_alloc_ne, AHeap.get_set_self, AHeap.get_set_ne, set_alloc_at, set_alloc_lt, set_bump, ↓reduceIte, Nat.reduceEqDiff, AHeap.get_alloc_self, ldRow, cond_false, cond_true, Nat.add_zero, Nat.zero_add, List.getElem?_cons_zero, List.getElem?_cons_succ, Option.map_some, binSc, intSc, unSc, beq_self_eq_true, BEq.rfl, Bool.false_beq, Bool.true_beq, Bool.not_true, Bool.not_false, wrap_of, Int.toNat_natCast, List.not_mem_nil, false_implies, implies_true, true_and, and_true, c46_36, c46_37, c46_38, c46_39, c46_40, c46_41, c46_42, c46_43, c46_44, List.length_cons, List.length_nil, hgj, h0j, e1, e2, e3]
                        refine ⟨?_, GStep.fr (by simp [Fr.get])⟩
                        rw [hinv]; rfl
                      · have e3 : decide ((j : Int) > 0) = true := by simp; omega
                        have hj1 : j - 1 < l.length := by omega
                        have hgi := rI_get hj1
                        have h0i : (0 : Int) ≤ (j : Int) - 1 := by omega
                        have hti : ((j : Int) - 1).toNat = j - 1 := by omega
                        have hai : leI (intAhead l j) l[j] = decide (l[j] ≤ l[j - 1]) := by
                          unfold intAhead
                          rw [if_neg hj0, List.getElem?_eq_getElem hj1]
                          rfl
                        rw [hai] at hinv
                        cases e4 : decide (l[j] > l[j - 1]) with
                        | true =>
                          simp (disch := first | omega | (simp only [nx_alloc, nx_bump, nx_set] <;> omega) | fail) only [undefA, undef, RetQ, resA, resL, ARes.ev, AW_seq, AW_reg, AW_blk, AW_cond, AW_skip, AW_ret, AW_exit, AW_drw, AWOps, AWDraw, AI.want, AI.step, AOp.ev, AX.ev, evs, List.map_cons, List.map_nil, argsFr, Fr.get, Fr.put, AV.cells, SeqQ_n, SeqQ_r, SeqQ_e, BlkQ_n, BlkQ_r, BlkQ_e, LoopQ_n, LoopQ_r, LoopQ_e, RngQ_n, RngQ_r, RngQ_e, RnsQ_n, RnsQ_r, RnsQ_e, List.nil_append, AHeap.get_bump, AHeap.next_alloc, AHeap.next_bump, AHeap.next_set, AHeap.get_alloc_at, AHeap.get_alloc_ne, AHeap.get_set_self, AHeap.get_set_ne, set_alloc_at, set_alloc_lt, set_bump, ↓reduceIte, Nat.reduceEqDiff, AHeap.get_alloc_self, ldRow, cond_false, cond_true, Nat.add_zero, Nat.zero_add, List.getElem?_cons_zero, List.getElem?_cons_succ, Option.map_some, binSc, intSc, unSc, beq_self_eq_true, BEq.rfl, Bool.false_beq, Bool.true_beq, Bool.not_true, Bool.not_false, wrap_of, Int.toNat_natCast, List.not_mem_nil, false_implies, implies_true, true_and, and_true, c46_36, c46_37, c46_38, c46_39, c46_40, c46_41, c46_42, c46_43, List.length_cons, List.length_nil, hgj, h0j, e1, e2, e3, h0i, hti, hgi, e4]
                          refine fin_pure hx ?_
                          have : decide (l[j] ≤ l[j - 1]) = false := by simp at e4 ⊢; omega
                          rw [hinv, this]; rfl
                        | false =>
                          simp (disch := first | omega | (simp only [nx_alloc, nx_bump, nx_set] <;> omega) | fail) only [undefA, undef, RetQ, resA, resL, ARes.ev, AW_seq, AW_reg, AW_blk, AW_cond, AW_skip, AW_ret, AW_exit, AW_drw, AWOps, AWDraw, AI.want, AI.step, AOp.ev, AX.ev, evs, List.map_cons, List.map_nil, argsFr, Fr.get, Fr.put, AV.cells, SeqQ_n, SeqQ_r, SeqQ_e, BlkQ_n, BlkQ_r, BlkQ_e, LoopQ_n, LoopQ_r, LoopQ_e, RngQ_n, RngQ_r, RngQ_e, RnsQ_n, RnsQ_r, RnsQ_e, List.nil_append, AHeap.get_bump, AHeap.next_alloc, AHeap.next_bump, AHeap.next_set, AHeap.get_alloc_at, AHeap.get_alloc_ne, AHeap.get_set_self, AHeap.get_set_ne, set_alloc_at, set_alloc_lt, set_bump, ↓reduceIte, Nat.reduceEqDiff, AHeap.get_alloc_self, ldRow, cond_false, cond_true, Nat.add_zero, Nat.zero_add, List.getElem?_cons_zero, List.getElem?_cons_succ, Option.map_some, binSc, intSc, unSc, beq_self_eq_true, BEq.rfl, Bool.false_beq, Bool.true_beq, Bool.not_true, Bool.not_false, wrap_of, Int.toNat_natCast, List.not_mem_nil, false_implies, implies_true, true_and, and_true, c46_36, c46_37, c46_38, c46_39, c46_40, c46_41, c46_42, c46_43, c46_44, List.length_cons, List.length_nil, hgj, h0j, e1, e2, e3, h0i, hti, hgi, e4]
                          refine ⟨?_, GStep.fr (by simp [Fr.get])⟩
                          have : decide (l[j] ≤ l[j - 1]) = true := by simp at e4 ⊢; omega
                          rw [hinv, this, Bool.true_and]
                · intro hinv
                  simp (disch := first | omega | (simp only [nx_alloc, nx_bump, nx_set] <;> omega) | fail) only [undefA, undef, RetQ, resA, resL, ARes.ev, AW_seq, AW_reg, AW_blk, AW_cond, AW_skip, AW_ret, AW_exit, AW_drw, AWOps, AWDraw, AI.want, AI.step, AOp.ev, AX.ev, evs, List.map_cons, List.map_nil, argsFr, Fr.get, Fr.put, AV.cells, SeqQ_n, SeqQ_r, SeqQ_e, BlkQ_n, BlkQ_r, BlkQ_e, LoopQ_n, LoopQ_r, LoopQ_e, RngQ_n, RngQ_r, RngQ_e, RnsQ_n, RnsQ_r, RnsQ_e, List.nil_append, AHeap.get_bump, AHeap.next_alloc, AHeap.next_bump, AHeap.next_set, AHeap.get_alloc_at, AHeap.get_alloc_ne, AHeap.get_set_self, AHeap.get_set_ne, set_alloc_at, set_alloc_lt, set_bump, ↓reduceIte, Nat.reduceEqDiff, AHeap.get_alloc_self, ldRow, cond_false, cond_true, Nat.add_zero, Nat.zero_add, List.getElem?_cons_zero, List.getElem?_cons_succ, Option.map_some, binSc, intSc, unSc, beq_self_eq_true, BEq.rfl, Bool.false_beq, Bool.true_beq, Bool.not_true, Bool.not_false, wrap_of, Int.toNat_natCast, List.not_mem_nil, false_implies, implies_true, true_and, and_true, c46_18]
                  refine ⟨?_, GStep.fr (by simp [Fr.get])⟩
                  rw [hinv, List.drop_of_length_le (Nat.le_refl _)]
                  rfl
          · intro hinv
            simp (disch := first | omega | (simp only [nx_alloc, nx_bump, nx_set] <;> omega) | fail) only [undefA, undef, RetQ, resA, resL, ARes.ev, AW_seq, AW_reg, AW_blk, AW_cond, AW_skip, AW_ret, AW_exit, AW_drw, AWOps, AWDraw, AI.want, AI.step, AOp.ev, AX.ev, evs, List.map_cons, List.map_nil, argsFr, Fr.get, Fr.put, AV.cells, SeqQ_n, SeqQ_r, SeqQ_e, BlkQ_n, BlkQ_r, BlkQ_e, LoopQ_n, LoopQ_r, LoopQ_e, RngQ_n, RngQ_r, RngQ_e, RnsQ_n, RnsQ_r, RnsQ_e, List.nil_append, AHeap.get_bump, AHeap.next_alloc, AHeap.next_bump, AHeap.next_set, AHeap.get_alloc_at, AHeap.get_alloc_ne, AHeap.get_set_self, AHeap.get_set_ne, set_alloc_at, set_alloc_lt, set_bump, ↓reduceIte, Nat.reduceEqDiff, AHeap.get_alloc_self, ldRow, cond_false, cond_true, Nat.add_zero, Nat.zero_add, List.getElem?_cons_zero, List.getElem?_cons_succ, Option.map_some, binSc, intSc, unSc, beq_self_eq_true, BEq.rfl, Bool.false_beq, Bool.true_beq, Bool.not_true, Bool.not_false, wrap_of, Int.toNat_natCast, List.not_mem_nil, false_implies, implies_true, true_and, and_true, c46_46, c46_47]
            refine fin_pure hx ?_
            rw [hinv, List.drop_of_length_le (Nat.le_refl _)]; rfl
end Go.Proofs.Ytgnpihhakogeeaa
