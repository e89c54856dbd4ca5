/- arena.New, by the abstract machine. -/
import Derived.Test.YtgnpihhakogeeaaS4
import Derived.Test.YtgnpihhakogeeaaBr
namespace Go.Proofs.Ytgnpihhakogeeaa
set_option linter.unusedSimpArgs false
set_option linter.unusedVariables false
open Go.RowKit

def eAr (x : Shp) (tok : Tok) (nodes : AV) (most : Int) : List AV := [.sl tok (rII x.sizes), .i x.measures, nodes, .i most]
def NewQ (x : Shp) (most : Int) (H : AHeap) (r : AV) (H' : AHeap) : Prop :=
  AHeap.Ext H H' ∧ if shpMay x = true ∧ 0 ≤ most ∧ most ≤ 131072 then ∃ id tok, r = .tup [.ptr id 0, .i 0] ∧ H.next ≤ id ∧ H'.get id = some (.cells (eAr x tok (.sl .full []) most) 75)
  else r = .tup [.sc (.pointer none), .i 2]
theorem allLen_rII (l : List (List Int)) : allLen 1 (rII l) = true := allLen_map (f := fun l => [AV.sl .no (rI l)]) (fun _ => rfl) l
theorem allLen_one {sz : Nat} {r : List AV} (h : r.length = sz) : allLen sz [r] = true := by simp [allLen, h]
theorem rII_snoc {l : List (List Int)} {j : Nat} (h : j < l.length) : rII (l.take j) ++ [[AV.sl .no (rI l[j])]] = rII (l.take (j + 1)) := by
  rw [List.take_add_one, List.getElem?_eq_getElem h]
  simp only [Option.toList_some, List.map_append, List.map_cons, List.map_nil]
/-- where a list of lists is copied: an object's first cell, its token, how far -/
structure CopyAt (H0 : AHeap) (id t j : Nat) (l : List (List Int)) (m : Int) (s : AHeap) : Prop where
  ne : id ≠ t
  lo : H0.next ≤ id
  lo2 : H0.next ≤ t
  cell : s.get id = some (.cells [.sl (.own t) (rII (l.take j)), .i m] 24)
  tok : s.get t = some (.tok j 26 1)
  ext : AHeap.Ext H0 s
theorem CopyAt.next {H0 : AHeap} {id t j k : Nat} {l : List (List Int)} {m : Int} {s : AHeap} (h : CopyAt H0 id t j l m s) : CopyAt H0 id t (j + 1) l m (((s.bump k).set t (.tok (j + 1) 26 1)).set id (.cells [.sl (.own t) (rII (l.take (j + 1))), .i m] 24)) := by
  have h1 := AHeap.lt h.cell
  have h2 := AHeap.lt h.tok
  refine ⟨h.ne, h.lo, h.lo2, AHeap.get_set_self (by simp; omega), ?_, (h.ext.bump.set h.lo2).set h.lo⟩
  rw [AHeap.get_set_ne (Ne.symm h.ne)]
  exact AHeap.get_set_self (by simp; omega)
set_option maxHeartbeats 1000000 in
theorem new_sound (x : Shp) (most : Int) (H : AHeap) : Sound Try.prog 45 [.agg (eShp x), .i most] H (NewQ x most H) := by
  refine fn_sound hE cf45 (Nat.le_of_ble_eq_true rfl) ?_
  have hx : AHeap.Ext H (H.alloc (.cells [.sl .no (rII x.sizes), .i x.measures] 24)) := (AHeap.Ext.refl H).alloc
  rw [eShp_eq]
  simp (disch := first | assumption | omega | (simp only [nx_alloc, nx_bump, nx_set] <;> omega) | fail) only [↓AW_seq, ↓AW_reg, ↓AW_blk, ↓AW_cond, ↓AW_skip, ↓AW_ret, ↓AW_exit, ↓AW_drw, ↓AWOps, ↓AWDraw, AI.want, ↓AI.step, ↓Sound_box, AOp.ev, AX.ev, evs, List.map_cons, List.map_nil, argsFr, Fr.get, Fr.put, AV.cells, ↓SeqQ_n, ↓SeqQ_r, ↓SeqQ_e, ↓BlkQ_n, ↓BlkQ_r, ↓BlkQ_e, LoopQ_n, LoopQ_r, LoopQ_e, RngQ_n, RngQ_r, RngQ_e, RnsQ_n, RnsQ_r, RnsQ_e, undefA, undef, ↓RetQ_r, ↓RetQ_n, resA, resL, ARes.ev, ↓reduceIte, Nat.reduceEqDiff, ldRow, ↓cond_false, ↓cond_true, cond_false, cond_true, Nat.add_zero, Nat.zero_add, Nat.reduceAdd, Nat.reduceMul, Nat.one_mul, Nat.mul_one, Nat.reduceLeDiff, List.getElem?_cons_zero, List.getElem?_cons_succ, Option.map_some, binSc, intSc, unSc, beq_self_eq_true, BEq.rfl, Bool.false_beq, Bool.true_beq, Bool.not_true, Bool.not_false, wrap_of, Int.toNat_natCast, List.not_mem_nil, false_implies, implies_true, true_and, and_true, and_self, List.nil_append, List.append_nil, List.cons_append, Value.oneCell', fillA, splice, rowsOf, rowsIn, List.take_succ_cons, List.take_zero, List.drop_succ_cons, List.drop_zero, List.drop_nil, List.take_nil, List.length_cons, List.length_nil, Nat.le_refl, AHeap.get_bump, AHeap.next_bump, AHeap.next_set, AHeap.next_alloc, AHeap.get_set_self, AHeap.get_set_ne, AHeap.get_alloc_self, AHeap.get_alloc_at, AHeap.get_alloc_ne, c45_0, c45_1, c45_2, c45_3, c45_4, List.take, List.drop, List.length_cons, List.length_nil, Nat.le_refl, Nat.reduceAdd, List.append_nil, AV.cells]
  refine CallK.use (may_sound x _) ?_
  rintro r H' ⟨rfl, k, rfl⟩
  have bad : ¬ (shpMay x = true ∧ 0 ≤ most ∧ most ≤ 131072) → ∃ r2 H2, RStep (.tup [.sc (.pointer none), .i 2]) ((H.alloc (.cells [.sl .no (rII x.sizes), .i x.measures] 24)).bump k) r2 H2 ∧ NewQ x most H r2 H2 := by
    intro hn
    refine fin_keep ⟨hx.bump, ?_⟩
    rw [if_neg hn]
  cases hm : shpMay x with
  | false =>
    simp (disch := first | assumption | omega | (simp only [nx_alloc, nx_bump, nx_set] <;> omega) | fail) only [↓AW_seq, ↓AW_reg, ↓AW_blk, ↓AW_cond, ↓AW_skip, ↓AW_ret, ↓AW_exit, ↓AW_drw, ↓AWOps, ↓AWDraw, AI.want, ↓AI.step, ↓Sound_box, AOp.ev, AX.ev, evs, List.map_cons, List.map_nil, argsFr, Fr.get, Fr.put, AV.cells, ↓SeqQ_n, ↓SeqQ_r, ↓SeqQ_e, ↓BlkQ_n, ↓BlkQ_r, ↓BlkQ_e, LoopQ_n, LoopQ_r, LoopQ_e, RngQ_n, RngQ_r, RngQ_e, RnsQ_n, RnsQ_r, RnsQ_e, undefA, undef, ↓RetQ_r, ↓RetQ_n, resA, resL, ARes.ev, ↓reduceIte, Nat.reduceEqDiff, ldRow, ↓cond_false, ↓cond_true, cond_false, cond_true, Nat.add_zero, Nat.zero_add, Nat.reduceAdd, Nat.reduceMul, Nat.one_mul, Nat.mul_one, Nat.reduceLeDiff, List.getElem?_cons_zero, List.getElem?_cons_succ, Option.map_some, binSc, intSc, unSc, beq_self_eq_true, BEq.rfl, Bool.false_beq, Bool.true_beq, Bool.not_true, Bool.not_false, wrap_of, Int.toNat_natCast, List.not_mem_nil, false_implies, implies_true, true_and, and_true, and_self, List.nil_append, List.append_nil, List.cons_append, Value.oneCell', fillA, splice, rowsOf, rowsIn, List.take_succ_cons, List.take_zero, List.drop_succ_cons, List.drop_zero, List.drop_nil, List.take_nil, List.length_cons, List.length_nil, Nat.le_refl, AHeap.get_bump, AHeap.next_bump, AHeap.next_set, AHeap.next_alloc, AHeap.get_set_self, AHeap.get_set_ne, AHeap.get_alloc_self, AHeap.get_alloc_at, AHeap.get_alloc_ne, c45_5, c45_6, c45_7]
    exact bad (by simp [hm])
  | true =>
    cases d1 : decide (most < 0) with
    | true =>
      simp (disch := first | assumption | omega | (simp only [nx_alloc, nx_bump, nx_set] <;> omega) | fail) only [↓AW_seq, ↓AW_reg, ↓AW_blk, ↓AW_cond, ↓AW_skip, ↓AW_ret, ↓AW_exit, ↓AW_drw, ↓AWOps, ↓AWDraw, AI.want, ↓AI.step, ↓Sound_box, AOp.ev, AX.ev, evs, List.map_cons, List.map_nil, argsFr, Fr.get, Fr.put, AV.cells, ↓SeqQ_n, ↓SeqQ_r, ↓SeqQ_e, ↓BlkQ_n, ↓BlkQ_r, ↓BlkQ_e, LoopQ_n, LoopQ_r, LoopQ_e, RngQ_n, RngQ_r, RngQ_e, RnsQ_n, RnsQ_r, RnsQ_e, undefA, undef, ↓RetQ_r, ↓RetQ_n, resA, resL, ARes.ev, ↓reduceIte, Nat.reduceEqDiff, ldRow, ↓cond_false, ↓cond_true, cond_false, cond_true, Nat.add_zero, Nat.zero_add, Nat.reduceAdd, Nat.reduceMul, Nat.one_mul, Nat.mul_one, Nat.reduceLeDiff, List.getElem?_cons_zero, List.getElem?_cons_succ, Option.map_some, binSc, intSc, unSc, beq_self_eq_true, BEq.rfl, Bool.false_beq, Bool.true_beq, Bool.not_true, Bool.not_false, wrap_of, Int.toNat_natCast, List.not_mem_nil, false_implies, implies_true, true_and, and_true, and_self, List.nil_append, List.append_nil, List.cons_append, Value.oneCell', fillA, splice, rowsOf, rowsIn, List.take_succ_cons, List.take_zero, List.drop_succ_cons, List.drop_zero, List.drop_nil, List.take_nil, List.length_cons, List.length_nil, Nat.le_refl, AHeap.get_bump, AHeap.next_bump, AHeap.next_set, AHeap.next_alloc, AHeap.get_set_self, AHeap.get_set_ne, AHeap.get_alloc_self, AHeap.get_alloc_at, AHeap.get_alloc_ne, c45_5, c45_6, c45_7, d1]
      exact bad (by simp at d1; omega)
    | false =>
      cases d2 : decide (most > 131072) with
      | true =>
        simp (disch := first | assumption | omega | (simp only [nx_alloc, nx_bump, nx_set] <;> omega) | fail) only [↓AW_seq, ↓AW_reg, ↓AW_blk, ↓AW_cond, ↓AW_skip, ↓AW_ret, ↓AW_exit, ↓AW_drw, ↓AWOps, ↓AWDraw, AI.want, ↓AI.step, ↓Sound_box, AOp.ev, AX.ev, evs, List.map_cons, List.map_nil, argsFr, Fr.get, Fr.put, AV.cells, ↓SeqQ_n, ↓SeqQ_r, ↓SeqQ_e, ↓BlkQ_n, ↓BlkQ_r, ↓BlkQ_e, LoopQ_n, LoopQ_r, LoopQ_e, RngQ_n, RngQ_r, RngQ_e, RnsQ_n, RnsQ_r, RnsQ_e, undefA, undef, ↓RetQ_r, ↓RetQ_n, resA, resL, ARes.ev, ↓reduceIte, Nat.reduceEqDiff, ldRow, ↓cond_false, ↓cond_true, cond_false, cond_true, Nat.add_zero, Nat.zero_add, Nat.reduceAdd, Nat.reduceMul, Nat.one_mul, Nat.mul_one, Nat.reduceLeDiff, List.getElem?_cons_zero, List.getElem?_cons_succ, Option.map_some, binSc, intSc, unSc, beq_self_eq_true, BEq.rfl, Bool.false_beq, Bool.true_beq, Bool.not_true, Bool.not_false, wrap_of, Int.toNat_natCast, List.not_mem_nil, false_implies, implies_true, true_and, and_true, and_self, List.nil_append, List.append_nil, List.cons_append, Value.oneCell', fillA, splice, rowsOf, rowsIn, List.take_succ_cons, List.take_zero, List.drop_succ_cons, List.drop_zero, List.drop_nil, List.take_nil, List.length_cons, List.length_nil, Nat.le_refl, AHeap.get_bump, AHeap.next_bump, AHeap.next_set, AHeap.next_alloc, AHeap.get_set_self, AHeap.get_set_ne, AHeap.get_alloc_self, AHeap.get_alloc_at, AHeap.get_alloc_ne, c45_5, c45_6, c45_7, d1, d2]
        exact bad (by simp at d2; omega)
      | false =>
        obtain ⟨b1, b2, b3, b4, b5⟩ := shpMay_bounds hm
        simp (disch := first | assumption | omega | (simp only [nx_alloc, nx_bump, nx_set] <;> omega) | fail) only [↓AW_seq, ↓AW_reg, ↓AW_blk, ↓AW_cond, ↓AW_skip, ↓AW_ret, ↓AW_exit, ↓AW_drw, ↓AWOps, ↓AWDraw, AI.want, ↓AI.step, ↓Sound_box, AOp.ev, AX.ev, evs, List.map_cons, List.map_nil, argsFr, Fr.get, Fr.put, AV.cells, ↓SeqQ_n, ↓SeqQ_r, ↓SeqQ_e, ↓BlkQ_n, ↓BlkQ_r, ↓BlkQ_e, LoopQ_n, LoopQ_r, LoopQ_e, RngQ_n, RngQ_r, RngQ_e, RnsQ_n, RnsQ_r, RnsQ_e, undefA, undef, ↓RetQ_r, ↓RetQ_n, resA, resL, ARes.ev, ↓reduceIte, Nat.reduceEqDiff, ldRow, ↓cond_false, ↓cond_true, cond_false, cond_true, Nat.add_zero, Nat.zero_add, Nat.reduceAdd, Nat.reduceMul, Nat.one_mul, Nat.mul_one, Nat.reduceLeDiff, List.getElem?_cons_zero, List.getElem?_cons_succ, Option.map_some, binSc, intSc, unSc, beq_self_eq_true, BEq.rfl, Bool.false_beq, Bool.true_beq, Bool.not_true, Bool.not_false, wrap_of, Int.toNat_natCast, List.not_mem_nil, false_implies, implies_true, true_and, and_true, and_self, List.nil_append, List.append_nil, List.cons_append, Value.oneCell', fillA, splice, rowsOf, rowsIn, List.take_succ_cons, List.take_zero, List.drop_succ_cons, List.drop_zero, List.drop_nil, List.take_nil, List.length_cons, List.length_nil, Nat.le_refl, AHeap.get_bump, AHeap.next_bump, AHeap.next_set, AHeap.next_alloc, AHeap.get_set_self, AHeap.get_set_ne, AHeap.get_alloc_self, AHeap.get_alloc_at, AHeap.get_alloc_ne, c45_5, c45_6, c45_7, c45_8, c45_9, c45_10, c45_11, c45_12, d1, d2, List.length_map, List.append_nil]
        refine AW_let fun G hG => ?_
        have hGn : G.next = H.next + 1 + k + 1 := by rw [hG]; simp
        have hg0 : G.get (H.next + 1 + k) = some (.cells [.sl .full [], .i x.measures] 24) := by rw [hG]; exact AHeap.get_set_self (by simp)
        have hGe : AHeap.Ext H G := by rw [hG]; exact hx.bump.alloc.set (by omega)
        clear hG
        refine AW_rangeS (σ := AHeap) (N := x.sizes.length) (fun j s => CopyAt H (H.next + 1 + k) G.next j x.sizes x.measures s) (fun j s => [(24, .sl .no (rII x.sizes)), (6, .ptr (H.next + 1 + k) 0), (1, .i most)])
          (fun j s => s) (by unfold maxLen; omega) (by decide) ((G.set (H.next + 1 + k) (.cells [.sl (.own G.next) [], .i x.measures] 24)).alloc (.tok 0 26 1)) ?_ ?_ ?_ ?_
        · refine ⟨by omega, by omega, by omega, ?_, AHeap.get_alloc_self (H := G.set _ _), (hGe.set (by omega)).alloc⟩
          rw [AHeap.get_alloc_ne (by simp; omega)]
          exact AHeap.get_set_self (by omega)
        · exact (GStep.fr (F' := [(26, .i ((0 : Nat) : Int)), (25, .i x.sizes.length), (24, .sl .no (rII x.sizes)), (6, .ptr (H.next + 1 + k) 0), (1, .i most)]) (by simp [Fr.get])).trans (GStep.tokCell (H.next + 1 + k) 0 24 26 1 hg0 rfl)
        · intro j s hj hinv
          have hg := rII_get hj
          have h0 : (0 : Int) ≤ j := by omega
          have hlj : (rII (x.sizes.take j)).length = j := by simp; omega
          have hl1 := (sizesMay_bounds (b5 _ (List.getElem_mem hj))).2.1
          have hc := hinv.cell
          have ht := hinv.tok
          have hc1 := AHeap.lt hc
          have ht1 := AHeap.lt ht
          have hne := hinv.ne
          have hne' := Ne.symm hne
          simp (disch := first | assumption | omega | (simp only [nx_alloc, nx_bump, nx_set] <;> omega) | fail) only [↓AW_seq, ↓AW_reg, ↓AW_blk, ↓AW_cond, ↓AW_skip, ↓AW_ret, ↓AW_exit, ↓AW_drw, ↓AWOps, ↓AWDraw, AI.want, ↓AI.step, ↓Sound_box, AOp.ev, AX.ev, evs, List.map_cons, List.map_nil, argsFr, Fr.get, Fr.put, AV.cells, ↓SeqQ_n, ↓SeqQ_r, ↓SeqQ_e, ↓BlkQ_n, ↓BlkQ_r, ↓BlkQ_e, LoopQ_n, LoopQ_r, LoopQ_e, RngQ_n, RngQ_r, RngQ_e, RnsQ_n, RnsQ_r, RnsQ_e, undefA, undef, ↓RetQ_r, ↓RetQ_n, resA, resL, ARes.ev, ↓reduceIte, Nat.reduceEqDiff, ldRow, ↓cond_false, ↓cond_true, cond_false, cond_true, Nat.add_zero, Nat.zero_add, Nat.reduceAdd, Nat.reduceMul, Nat.one_mul, Nat.mul_one, Nat.reduceLeDiff, List.getElem?_cons_zero, List.getElem?_cons_succ, Option.map_some, binSc, intSc, unSc, beq_self_eq_true, BEq.rfl, Bool.false_beq, Bool.true_beq, Bool.not_true, Bool.not_false, wrap_of, Int.toNat_natCast, List.not_mem_nil, false_implies, implies_true, true_and, and_true, and_self, List.nil_append, List.append_nil, List.cons_append, Value.oneCell', fillA, splice, rowsOf, rowsIn, List.take_succ_cons, List.take_zero, List.drop_succ_cons, List.drop_zero, List.drop_nil, List.take_nil, List.length_cons, List.length_nil, Nat.le_refl, AHeap.get_bump, AHeap.next_bump, AHeap.next_set, AHeap.next_alloc, AHeap.get_set_self, AHeap.get_set_ne, AHeap.get_alloc_self, AHeap.get_alloc_at, AHeap.get_alloc_ne, c45_20, c45_21, c45_22, hg, h0]
          simp (disch := first | assumption | omega | (simp only [nx_alloc, nx_bump, nx_set] <;> omega) | fail) only [↓AW_seq, ↓AW_reg, ↓AW_blk, ↓AW_cond, ↓AW_skip, ↓AW_ret, ↓AW_exit, ↓AW_drw, ↓AWOps, ↓AWDraw, AI.want, ↓AI.step, ↓Sound_box, AOp.ev, AX.ev, evs, List.map_cons, List.map_nil, argsFr, Fr.get, Fr.put, AV.cells, ↓SeqQ_n, ↓SeqQ_r, ↓SeqQ_e, ↓BlkQ_n, ↓BlkQ_r, ↓BlkQ_e, LoopQ_n, LoopQ_r, LoopQ_e, RngQ_n, RngQ_r, RngQ_e, RnsQ_n, RnsQ_r, RnsQ_e, undefA, undef, ↓RetQ_r, ↓RetQ_n, resA, resL, ARes.ev, ↓reduceIte, Nat.reduceEqDiff, ldRow, ↓cond_false, ↓cond_true, cond_false, cond_true, Nat.add_zero, Nat.zero_add, Nat.reduceAdd, Nat.reduceMul, Nat.one_mul, Nat.mul_one, Nat.reduceLeDiff, List.getElem?_cons_zero, List.getElem?_cons_succ, Option.map_some, binSc, intSc, unSc, beq_self_eq_true, BEq.rfl, Bool.false_beq, Bool.true_beq, Bool.not_true, Bool.not_false, wrap_of, Int.toNat_natCast, List.not_mem_nil, false_implies, implies_true, true_and, and_true, and_self, List.nil_append, List.append_nil, List.cons_append, Value.oneCell', fillA, splice, rowsOf, rowsIn, List.take_succ_cons, List.take_zero, List.drop_succ_cons, List.drop_zero, List.drop_nil, List.take_nil, List.length_cons, List.length_nil, Nat.le_refl, AHeap.get_bump, AHeap.next_bump, AHeap.next_set, AHeap.next_alloc, AHeap.get_set_self, AHeap.get_set_ne, AHeap.get_alloc_self, AHeap.get_alloc_at, AHeap.get_alloc_ne, c45_23, hc]
          refine CallK.use (clone_sound .no x.sizes[j] _ (by omega)) ?_
          rintro r H' ⟨rfl, k', rfl⟩
          have ha1 := allLen_rII (x.sizes.take j)
          have hb1 : j + 1 ≤ maxLen := by unfold maxLen; omega
          have hb2 : (j + 1) * 24 ≤ 140737488355328 := by omega
          refine ⟨stable_one rfl rfl (by simp (disch := first | assumption | omega | (simp only [nx_alloc, nx_bump, nx_set] <;> omega) | fail) only [↓AW_seq, ↓AW_reg, ↓AW_blk, ↓AW_cond, ↓AW_skip, ↓AW_ret, ↓AW_exit, ↓AW_drw, ↓AWOps, ↓AWDraw, AI.want, ↓AI.step, ↓Sound_box, AOp.ev, AX.ev, evs, List.map_cons, List.map_nil, argsFr, Fr.get, Fr.put, AV.cells, ↓SeqQ_n, ↓SeqQ_r, ↓SeqQ_e, ↓BlkQ_n, ↓BlkQ_r, ↓BlkQ_e, LoopQ_n, LoopQ_r, LoopQ_e, RngQ_n, RngQ_r, RngQ_e, RnsQ_n, RnsQ_r, RnsQ_e, undefA, undef, ↓RetQ_r, ↓RetQ_n, resA, resL, ARes.ev, ↓reduceIte, Nat.reduceEqDiff, ldRow, ↓cond_false, ↓cond_true, cond_false, cond_true, Nat.add_zero, Nat.zero_add, Nat.reduceAdd, Nat.reduceMul, Nat.one_mul, Nat.mul_one, Nat.reduceLeDiff, List.getElem?_cons_zero, List.getElem?_cons_succ, Option.map_some, binSc, intSc, unSc, beq_self_eq_true, BEq.rfl, Bool.false_beq, Bool.true_beq, Bool.not_true, Bool.not_false, wrap_of, Int.toNat_natCast, List.not_mem_nil, false_implies, implies_true, true_and, and_true, and_self, List.nil_append, List.append_nil, List.cons_append, Value.oneCell', fillA, splice, rowsOf, rowsIn, List.take_succ_cons, List.take_zero, List.drop_succ_cons, List.drop_zero, List.drop_nil, List.take_nil, List.length_cons, List.length_nil, Nat.le_refl, AHeap.get_bump, AHeap.next_bump, AHeap.next_set, AHeap.next_alloc, AHeap.get_set_self, AHeap.get_set_ne, AHeap.get_alloc_self, AHeap.get_alloc_at, AHeap.get_alloc_ne, hc]), ?_⟩
          have ho1 : allLen 1 [[AV.sl .no (rI x.sizes[j])]] = true := rfl
          simp (disch := first | assumption | omega | (simp only [nx_alloc, nx_bump, nx_set] <;> omega) | fail) only [↓AW_seq, ↓AW_reg, ↓AW_blk, ↓AW_cond, ↓AW_skip, ↓AW_ret, ↓AW_exit, ↓AW_drw, ↓AWOps, ↓AWDraw, AI.want, ↓AI.step, ↓Sound_box, AOp.ev, AX.ev, evs, List.map_cons, List.map_nil, argsFr, Fr.get, Fr.put, AV.cells, ↓SeqQ_n, ↓SeqQ_r, ↓SeqQ_e, ↓BlkQ_n, ↓BlkQ_r, ↓BlkQ_e, LoopQ_n, LoopQ_r, LoopQ_e, RngQ_n, RngQ_r, RngQ_e, RnsQ_n, RnsQ_r, RnsQ_e, undefA, undef, ↓RetQ_r, ↓RetQ_n, resA, resL, ARes.ev, ↓reduceIte, Nat.reduceEqDiff, ldRow, ↓cond_false, ↓cond_true, cond_false, cond_true, Nat.add_zero, Nat.zero_add, Nat.reduceAdd, Nat.reduceMul, Nat.one_mul, Nat.mul_one, Nat.reduceLeDiff, List.getElem?_cons_zero, List.getElem?_cons_succ, Option.map_some, binSc, intSc, unSc, beq_self_eq_true, BEq.rfl, Bool.false_beq, Bool.true_beq, Bool.not_true, Bool.not_false, wrap_of, Int.toNat_natCast, List.not_mem_nil, false_implies, implies_true, true_and, and_true, and_self, List.nil_append, List.append_nil, List.cons_append, Value.oneCell', fillA, splice, rowsOf, rowsIn, List.take_succ_cons, List.take_zero, List.drop_succ_cons, List.drop_zero, List.drop_nil, List.take_nil, List.length_cons, List.length_nil, Nat.le_refl, AHeap.get_bump, AHeap.next_bump, AHeap.next_set, AHeap.next_alloc, AHeap.get_set_self, AHeap.get_set_ne, AHeap.get_alloc_self, AHeap.get_alloc_at, AHeap.get_alloc_ne, hlj, ha1, hb1, hb2, hc, ht, ho1]
          rw [rII_snoc hj]
          exact ⟨_, hinv.next (k := k'), GStep.fr (by simp [Fr.get])⟩
        · intro s hinv
          have hc := hinv.cell
          have hc1 := AHeap.lt hc
          simp (disch := first | assumption | omega | (simp only [nx_alloc, nx_bump, nx_set] <;> omega) | fail) only [↓AW_seq, ↓AW_reg, ↓AW_blk, ↓AW_cond, ↓AW_skip, ↓AW_ret, ↓AW_exit, ↓AW_drw, ↓AWOps, ↓AWDraw, AI.want, ↓AI.step, ↓Sound_box, AOp.ev, AX.ev, evs, List.map_cons, List.map_nil, argsFr, Fr.get, Fr.put, AV.cells, ↓SeqQ_n, ↓SeqQ_r, ↓SeqQ_e, ↓BlkQ_n, ↓BlkQ_r, ↓BlkQ_e, LoopQ_n, LoopQ_r, LoopQ_e, RngQ_n, RngQ_r, RngQ_e, RnsQ_n, RnsQ_r, RnsQ_e, undefA, undef, ↓RetQ_r, ↓RetQ_n, resA, resL, ARes.ev, ↓reduceIte, Nat.reduceEqDiff, ldRow, ↓cond_false, ↓cond_true, cond_false, cond_true, Nat.add_zero, Nat.zero_add, Nat.reduceAdd, Nat.reduceMul, Nat.one_mul, Nat.mul_one, Nat.reduceLeDiff, List.getElem?_cons_zero, List.getElem?_cons_succ, Option.map_some, binSc, intSc, unSc, beq_self_eq_true, BEq.rfl, Bool.false_beq, Bool.true_beq, Bool.not_true, Bool.not_false, wrap_of, Int.toNat_natCast, List.not_mem_nil, false_implies, implies_true, true_and, and_true, and_self, List.nil_append, List.append_nil, List.cons_append, Value.oneCell', fillA, splice, rowsOf, rowsIn, List.take_succ_cons, List.take_zero, List.drop_succ_cons, List.drop_zero, List.drop_nil, List.take_nil, List.length_cons, List.length_nil, Nat.le_refl, AHeap.get_bump, AHeap.next_bump, AHeap.next_set, AHeap.next_alloc, AHeap.get_set_self, AHeap.get_set_ne, AHeap.get_alloc_self, AHeap.get_alloc_at, AHeap.get_alloc_ne, c45_25, c45_26, List.append_nil, hc]
          refine fin_keep ⟨hinv.ext.alloc, ?_⟩
          rw [if_pos ⟨hm, by simp at d1; omega, by simp at d2; omega⟩]
          refine ⟨s.next, .own G.next, rfl, by have := hinv.ext.next; omega, ?_⟩
          rw [AHeap.get_alloc_self, List.take_length]
          rfl
end Go.Proofs.Ytgnpihhakogeeaa
