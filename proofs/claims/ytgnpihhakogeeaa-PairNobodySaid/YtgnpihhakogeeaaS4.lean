/- slices.Clone of ints, by the abstract machine. -/
import Derived.Test.YtgnpihhakogeeaaS3
namespace Go.Proofs.Ytgnpihhakogeeaa
set_option linter.unusedSimpArgs false
set_option linter.unusedVariables false
open Go.RowKit

theorem allLen_rI (l : List Int) : allLen 1 (rI l) = true := allLen_map (f := fun n => [AV.i n]) (fun _ => rfl) l
theorem allLen_nil {sz : Nat} : allLen sz [] = true := rfl
theorem clone_sound (tok : Tok) (l : List Int) (H : AHeap) (hl : l.length ≤ 1000000) : Sound Try.prog 74 [.sl tok (rI l)] H (Pure H (.sl .no (rI l))) := by
  refine fn_sound hE cf74 (Nat.le_of_ble_eq_true rfl) ?_
  cases l with
  | nil =>
    simp (disch := first | omega | (simp only [nx_alloc, nx_bump, nx_set] <;> omega) | fail) only [undefA, undef, RetQ, resA, resL, ARes.ev, AW_seq, AW_reg, AW_blk, AW_cond, AW_skip, AW_ret, AW_exit, AW_drw, AWOps, AWDraw, AI.want, AI.step, AOp.ev, AX.ev, evs, List.map_cons, List.map_nil, argsFr, Fr.get, Fr.put, AV.cells, SeqQ_n, SeqQ_r, SeqQ_e, BlkQ_n, BlkQ_r, BlkQ_e, LoopQ_n, LoopQ_r, LoopQ_e, RngQ_n, RngQ_r, RngQ_e, RnsQ_n, RnsQ_r, RnsQ_e, List.nil_append, AHeap.get_bump, AHeap.next_alloc, AHeap.next_bump, AHeap.next_set, AHeap.get_alloc_at, AHeap.get_alloc_ne, AHeap.get_set_self, AHeap.get_set_ne, set_alloc_at, set_alloc_lt, set_bump, ↓reduceIte, Nat.reduceEqDiff, AHeap.get_alloc_self, ldRow, cond_false, cond_true, Nat.add_zero, Nat.zero_add, List.getElem?_cons_zero, List.getElem?_cons_succ, Option.map_some, binSc, intSc, unSc, beq_self_eq_true, BEq.rfl, Bool.false_beq, Bool.true_beq, Bool.not_true, Bool.not_false, wrap_of, Int.toNat_natCast, List.not_mem_nil, false_implies, implies_true, true_and, and_true, c74_0, c74_1, c74_2, c74_3, c74_4, c74_5, c74_6, c74_7, c74_8, c74_9, rowsOf, rowsIn, allLen_nil, List.length_nil, List.append_nil, Nat.zero_mul, Nat.zero_le]
    exact ⟨fin_pure (.refl _) rfl, fin_pure (.refl _) rfl⟩
  | cons a l =>
    have hal := allLen_rI (a :: l)
    have h1 : (rI (a :: l)).length ≤ maxLen := by simp at hl ⊢; unfold maxLen; omega
    have h2 : (rI (a :: l)).length * 8 ≤ 140737488355328 := by simp at hl ⊢; omega
    have hc : rI (a :: l) = [.i a] :: rI l := rfl
    generalize hr : rI (a :: l) = r at *
    subst hc
    simp (disch := first | omega | (simp only [nx_alloc, nx_bump, nx_set] <;> omega) | fail) only [undefA, undef, RetQ, resA, resL, ARes.ev, AW_seq, AW_reg, AW_blk, AW_cond, AW_skip, AW_ret, AW_exit, AW_drw, AWOps, AWDraw, AI.want, AI.step, AOp.ev, AX.ev, evs, List.map_cons, List.map_nil, argsFr, Fr.get, Fr.put, AV.cells, SeqQ_n, SeqQ_r, SeqQ_e, BlkQ_n, BlkQ_r, BlkQ_e, LoopQ_n, LoopQ_r, LoopQ_e, RngQ_n, RngQ_r, RngQ_e, RnsQ_n, RnsQ_r, RnsQ_e, List.nil_append, AHeap.get_bump, AHeap.next_alloc, AHeap.next_bump, AHeap.next_set, AHeap.get_alloc_at, AHeap.get_alloc_ne, AHeap.get_set_self, AHeap.get_set_ne, set_alloc_at, set_alloc_lt, set_bump, ↓reduceIte, Nat.reduceEqDiff, AHeap.get_alloc_self, ldRow, cond_false, cond_true, Nat.add_zero, Nat.zero_add, List.getElem?_cons_zero, List.getElem?_cons_succ, Option.map_some, binSc, intSc, unSc, beq_self_eq_true, BEq.rfl, Bool.false_beq, Bool.true_beq, Bool.not_true, Bool.not_false, wrap_of, Int.toNat_natCast, List.not_mem_nil, false_implies, implies_true, true_and, and_true, c74_0, c74_1, c74_2, c74_3, c74_4, c74_5, c74_6, c74_7, c74_8, c74_9, rowsOf, rowsIn, hal, h1, h2, List.nil_append, List.length_nil, allLen_nil, Bool.xor_false, Bool.false_bne]
    exact fin_pure (AHeap.Ext.refl _).alloc rfl
end Go.Proofs.Ytgnpihhakogeeaa
