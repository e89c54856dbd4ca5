/- The abstract machine: a loop over a range. -/
import Derived.Test.YtgnpihhakogeeaaBo
namespace Go.Proofs.Ytgnpihhakogeeaa
set_option linter.unusedSimpArgs false
set_option linter.unusedVariables false
open Go.RowKit

theorem wrap_of {n : Int} (h1 : -9223372036854775808 ≤ n) (h2 : n < 9223372036854775808) : IntKind.i64.wrap n = n := by
  rw [IntKind.wrap_i64]; omega
theorem fin_pure {r v : AV} {H0 H : AHeap} (hx : AHeap.Ext H0 H) (hv : r.weak = v) : ∃ r2 H2, RStep r H r2 H2 ∧ Pure H0 v r2 H2 := ⟨_, _, RStep.ext hx, hv, _, rfl⟩
/-- behind the body of a range loop: another round -/
def RngQ (inv : Nat → Prop) (id i n t2 N k : Nat) (Fs : Nat → Fr) (Hs : Nat → AHeap) (Q : AEx → Fr → AHeap → Prop) : AEx → Fr → AHeap → Prop := fun e F H => match e with
  | .normal => inv (k + 1) ∧ Fr.get F i = .i k ∧ GStep ((i, .i ((k + 1 : Nat) : Int)) :: (t2, .i ((k + 1 : Nat) : Int)) :: F) H ((i, .i ((k + 1 : Nat) : Int)) :: (n, .i (N : Int)) :: Fs (k + 1)) (Hs (k + 1))
  | .exit j => if j = id then Q .normal F H else Q (.exit j) F H
  | .ret => Q .ret F H
section
variable {P : Program} {Q : AEx → Fr → AHeap → Prop} {F : Fr} {H : AHeap} {i n t2 N k id : Nat} {inv : Nat → Prop} {Fs : Nat → Fr} {Hs : Nat → AHeap}
theorem RngQ_n : RngQ inv id i n t2 N k Fs Hs Q .normal F H = (inv (k + 1) ∧ Fr.get F i = .i k ∧ GStep ((i, .i ((k + 1 : Nat) : Int)) :: (t2, .i ((k + 1 : Nat) : Int)) :: F) H ((i, .i ((k + 1 : Nat) : Int)) :: (n, .i (N : Int)) :: Fs (k + 1)) (Hs (k + 1))) := rfl
theorem RngQ_r : RngQ inv id i n t2 N k Fs Hs Q .ret F H = Q .ret F H := rfl
theorem RngQ_e {j : Nat} : RngQ inv id i n t2 N k Fs Hs Q (.exit j) F H = if j = id then Q .normal F H else Q (.exit j) F H := rfl
theorem AW_mono {P : Program} : ∀ (c : ACode) (Q Q' : AEx → Fr → AHeap → Prop) (F : Fr) (H : AHeap), (∀ e F H, Q e F H → Q' e F H) → AW P c Q F H → AW P c Q' F H := by
  intro c
  induction c with
  | skip => intro Q Q' F H hq h; exact hq _ _ _ h
  | reg l =>
    intro Q Q' F H hq h
    simp only [AW] at h ⊢
    induction l generalizing F H with
    | nil => exact hq _ _ _ h
    | cons i l ih =>
      simp only [AWOps] at h ⊢
      split at h
      · exact AI.step_mono h (fun F H h => ih F H h)
      · exact ih _ _ h
      · exact h
  | drw l =>
    intro Q Q' F H hq h
    simp only [AW] at h ⊢
    induction l generalizing F H with
    | nil => exact hq _ _ _ h
    | cons p l ih =>
      obtain ⟨i, chk⟩ := p
      simp only [AWDraw] at h ⊢
      split at h
      · exact AI.step_mono h (fun F H h => ⟨h.1, ih F H h.2⟩)
      · exact ih _ _ h
      · exact h
  | seq x y ihx ihy =>
    intro Q Q' F H hq h
    simp only [AW] at h ⊢
    refine ihx _ _ F H (fun e F H h => ?_) h
    cases e
    · exact ihy _ _ F H hq h
    · exact hq _ _ _ h
    · exact hq _ _ _ h
  | cond c x y ihx ihy =>
    intro Q Q' F H hq h
    simp only [AW] at h ⊢
    split at h
    · rename_i t _
      cases t
      · exact ihy _ _ F H hq h
      · exact ihx _ _ F H hq h
    · exact ⟨ihx _ _ F H hq h.1, ihy _ _ F H hq h.2⟩
    · exact h
  | blk id x ih =>
    intro Q Q' F H hq h
    simp only [AW] at h ⊢
    refine ih _ _ F H (fun e F H h => ?_) h
    cases e with
    | normal => exact hq _ _ _ h
    | ret => exact hq _ _ _ h
    | exit k =>
      simp only at h ⊢
      split
      · rename_i hk; rw [if_pos hk] at h; exact hq _ _ _ h
      · rename_i hk; rw [if_neg hk] at h; exact hq _ _ _ h
  | loop x ih =>
    intro Q Q' F H hq h
    simp only [AW] at h ⊢
    obtain ⟨I, h0, hr⟩ := h
    refine ⟨I, h0, fun n F H hI => ih _ _ F H (fun e F H h => ?_) (hr n F H hI)⟩
    cases e
    · exact h
    · exact hq _ _ _ h
    · exact hq _ _ _ h
  | exit id => intro Q Q' F H hq h; exact hq _ _ _ h
  | ret => intro Q Q' F H hq h; exact hq _ _ _ h
  | bad => intro Q Q' F H hq h; exact h
/-- for i := 0; i < n; i++: what is known at each round is given; inv: what holds there besides -/
theorem AW_range {body : ACode} {t1 id : Nat} (inv : Nat → Prop) (Fs : Nat → Fr) (Hs : Nat → AHeap) (hN : N ≤ maxLen) (hin : i ≠ n) (hit : t1 ≠ i) (htn : t1 ≠ n)
    (h0 : inv 0) (hg : GStep F H ((i, .i ((0 : Nat) : Int)) :: (n, .i (N : Int)) :: Fs 0) (Hs 0))
    (round : ∀ k, k < N → inv k → AW P body (RngQ inv id i n t2 N k Fs Hs Q) ((t1, .b true) :: (i, .i (k : Int)) :: (n, .i (N : Int)) :: Fs k) (Hs k))
    (fin : inv N → Q .normal ((t1, .b false) :: (i, .i (N : Int)) :: (n, .i (N : Int)) :: Fs N) (Hs N)) :
    AW P (.blk id (.loop (.seq (.reg [⟨none, some t1, .bin .lss (.t i) (.t n)⟩]) (.seq (.cond (.t t1) .skip (.exit id)) (.seq body (.reg [⟨none, some t2, .bin .add (.t i) (.c (.sc (.int .i64 1)))⟩, ⟨none, some i, .mv (.t t2)⟩])))))) Q F H := by
  rw [AW_blk]
  refine AW_loop (σ := Nat) (fun k => k ≤ N ∧ inv k) (fun k => N - k) (fun k => (i, .i (k : Int)) :: (n, .i (N : Int)) :: Fs k) Hs 0 ⟨Nat.zero_le _, h0⟩ hg ?_
  rintro k ⟨hk, hik⟩
  have hni : n ≠ i := Ne.symm hin
  by_cases h1 : k < N
  · have d1 : decide ((k : Int) < (N : Int)) = true := by simp; omega
    simp only [AW_seq, AW_reg, AWOps, AI.want, AI.step, AOp.ev, AX.ev, Fr.get, Fr.put, SeqQ_n, if_true, if_neg hni, binSc, intSc, Option.map_some, d1, AW_cond, cond_true, AW_skip]
    refine AW_mono body _ _ _ _ (fun e F' H' h => ?_) (round k h1 hik)
    cases e with
    | normal =>
      obtain ⟨h2, h3, h4⟩ := h
      have hw : IntKind.i64.wrap ((k : Int) + 1) = ((k + 1 : Nat) : Int) := by
        rw [wrap_of (by omega) (by unfold maxLen at hN; omega)]; omega
      simp only [SeqQ_n, AW_reg, AWOps, AI.want, AI.step, AOp.ev, AX.ev, Fr.put, h3, binSc, intSc, if_true, Option.map_some, hw, Fr.get, LoopQ_n]
      exact ⟨k + 1, ⟨h1, h2⟩, by omega, h4⟩
    | exit j =>
      simp only [SeqQ_e, LoopQ_e, BlkQ_e]
      exact h
    | ret => exact h
  · have d1 : decide ((k : Int) < (N : Int)) = false := by simp; omega
    obtain rfl : k = N := by omega
    simp only [AW_seq, AW_reg, AWOps, AI.want, AI.step, AOp.ev, AX.ev, Fr.get, Fr.put, SeqQ_n, if_true, if_neg hni, binSc, intSc, Option.map_some, d1, AW_cond, cond_false, AW_exit, SeqQ_e, LoopQ_e, BlkQ_e]
    exact fin hik
end
end Go.Proofs.Ytgnpihhakogeeaa
