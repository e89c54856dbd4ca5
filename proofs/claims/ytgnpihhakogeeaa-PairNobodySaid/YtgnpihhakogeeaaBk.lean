/- The abstract machine: rules to walk by. -/
import Derived.Test.YtgnpihhakogeeaaBj
namespace Go.Proofs.Ytgnpihhakogeeaa
set_option linter.unusedSimpArgs false
set_option linter.unusedVariables false
open Go.RowKit

def SeqQ (P : Program) (b : ACode) (Q : AEx → Fr → AHeap → Prop) : AEx → Fr → AHeap → Prop := fun e F H => match e with
  | .normal => AW P b Q F H
  | e => Q e F H
def BlkQ (id : Nat) (Q : AEx → Fr → AHeap → Prop) : AEx → Fr → AHeap → Prop := fun e F H => match e with
  | .exit k => if k = id then Q .normal F H else Q (.exit k) F H
  | e => Q e F H
def LoopQ {σ : Type} (inv : σ → Prop) (μ : σ → Nat) (Fs : σ → Fr) (Hs : σ → AHeap) (Q : AEx → Fr → AHeap → Prop) (s : σ) : AEx → Fr → AHeap → Prop := fun e F' H' => match e with
  | .normal => ∃ s', inv s' ∧ μ s' < μ s ∧ GStep F' H' (Fs s') (Hs s')
  | e => Q e F' H'
section
variable {P : Program} {a b : ACode} {Q : AEx → Fr → AHeap → Prop} {F F' : Fr} {H H' : AHeap}
theorem AW_seq : AW P (.seq a b) Q F H = AW P a (SeqQ P b Q) F H := rfl
theorem SeqQ_n : SeqQ P b Q .normal F H = AW P b Q F H := rfl
theorem SeqQ_r : SeqQ P b Q .ret F H = Q .ret F H := rfl
theorem SeqQ_e {id : Nat} : SeqQ P b Q (.exit id) F H = Q (.exit id) F H := rfl
theorem AW_reg {l : List AI} : AW P (.reg l) Q F H = AWOps P l F H (Q .normal) := rfl
theorem AW_drw {l : List (AI × List AI)} : AW P (.drw l) Q F H = AWDraw P l F H (Q .normal) := rfl
theorem AW_blk {id : Nat} : AW P (.blk id a) Q F H = AW P a (BlkQ id Q) F H := rfl
theorem BlkQ_n {id : Nat} : BlkQ id Q .normal F H = Q .normal F H := rfl
theorem BlkQ_r {id : Nat} : BlkQ id Q .ret F H = Q .ret F H := rfl
theorem BlkQ_e {id k : Nat} : BlkQ id Q (.exit k) F H = if k = id then Q .normal F H else Q (.exit k) F H := rfl
theorem AW_cond {c : AX} : AW P (.cond c a b) Q F H = match c.ev F with
    | .sc (.bool t) => bif t then AW P a Q F H else AW P b Q F H
    | .ub => AW P a Q F H ∧ AW P b Q F H
    | _ => False := rfl
theorem AW_skip : AW P .skip Q F H = Q .normal F H := rfl
theorem AW_ret : AW P .ret Q F H = Q .ret F H := rfl
theorem AW_exit {id : Nat} : AW P (.exit id) Q F H = Q (.exit id) F H := rfl
section
variable {σ : Type} {inv : σ → Prop} {μ : σ → Nat} {Fs : σ → Fr} {Hs : σ → AHeap} {s : σ}
theorem LoopQ_n : LoopQ inv μ Fs Hs Q s .normal F H = ∃ s', inv s' ∧ μ s' < μ s ∧ GStep F H (Fs s') (Hs s') := rfl
theorem LoopQ_r : LoopQ inv μ Fs Hs Q s .ret F H = Q .ret F H := rfl
theorem LoopQ_e {k : Nat} : LoopQ inv μ Fs Hs Q s (.exit k) F H = Q (.exit k) F H := rfl
theorem AW_loop (inv : σ → Prop) (μ : σ → Nat) (Fs : σ → Fr) (Hs : σ → AHeap) (s0 : σ) (h0 : inv s0) (hg : GStep F H (Fs s0) (Hs s0)) (round : ∀ s, inv s → AW P a (LoopQ inv μ Fs Hs Q s) (Fs s) (Hs s)) : AW P (.loop a) Q F H := by
  refine ⟨fun n F H => ∃ s, inv s ∧ μ s = n ∧ F = Fs s ∧ H = Hs s, ⟨μ s0, _, _, hg, s0, h0, rfl, rfl, rfl⟩, ?_⟩
  rintro n F H ⟨s, hs, rfl, rfl, rfl⟩
  have := round s hs
  have mono : ∀ (c : ACode) (Q Q' : AEx → Fr → AHeap → Prop) (F : Fr) (H : AHeap), (∀ e F H, Q e F H → Q' e F H) → AW P c Q F H → AW P c Q' F H := by
    intro c
    induction c with
    | skip => intro Q Q' F H hq h; exact hq _ _ _ h
    | reg l =>
      intro Q Q' F H hq h
      simp only [AW] at h ⊢
      induction l generalizing F H with
      | nil => exact hq _ _ _ h
      | cons i l ih =>
        simp only [AWOps] at h ⊢
        split at h
        · exact AI.step_mono h (fun F H h => ih F H h)
        · exact ih _ _ h
        · exact h
    | drw l =>
      intro Q Q' F H hq h
      simp only [AW] at h ⊢
      induction l generalizing F H with
      | nil => exact hq _ _ _ h
      | cons p l ih =>
        obtain ⟨i, chk⟩ := p
        simp only [AWDraw] at h ⊢
        split at h
        · exact AI.step_mono h (fun F H h => ⟨h.1, ih F H h.2⟩)
        · exact ih _ _ h
        · exact h
    | seq x y ihx ihy =>
      intro Q Q' F H hq h
      simp only [AW] at h ⊢
      refine ihx _ _ F H (fun e F H h => ?_) h
      cases e
      · exact ihy _ _ F H hq h
      · exact hq _ _ _ h
      · exact hq _ _ _ h
    | cond c x y ihx ihy =>
      intro Q Q' F H hq h
      simp only [AW] at h ⊢
      split at h
      · rename_i t _
        cases t
        · exact ihy _ _ F H hq h
        · exact ihx _ _ F H hq h
      · exact ⟨ihx _ _ F H hq h.1, ihy _ _ F H hq h.2⟩
      · exact h
    | blk id x ih =>
      intro Q Q' F H hq h
      simp only [AW] at h ⊢
      refine ih _ _ F H (fun e F H h => ?_) h
      cases e with
      | normal => exact hq _ _ _ h
      | ret => exact hq _ _ _ h
      | exit k =>
        simp only at h ⊢
        split
        · rename_i hk; rw [if_pos hk] at h; exact hq _ _ _ h
        · rename_i hk; rw [if_neg hk] at h; exact hq _ _ _ h
    | loop x ih =>
      intro Q Q' F H hq h
      simp only [AW] at h ⊢
      obtain ⟨I, h0, hr⟩ := h
      refine ⟨I, h0, fun n F H hI => ih _ _ F H (fun e F H h => ?_) (hr n F H hI)⟩
      cases e
      · exact h
      · exact hq _ _ _ h
      · exact hq _ _ _ h
    | exit id => intro Q Q' F H hq h; exact hq _ _ _ h
    | ret => intro Q Q' F H hq h; exact hq _ _ _ h
    | bad => intro Q Q' F H hq h; exact h
  refine mono a _ _ _ _ (fun e F H h => ?_) this
  cases e with
  | normal =>
    obtain ⟨s', h1, h2, h3⟩ := h
    exact ⟨μ s', _, _, h2, h3, s', h1, rfl, rfl, rfl⟩
  | exit k => exact h
  | ret => exact h
end
theorem AHeap.ext {H H' : AHeap} (h1 : H.get = H'.get) (h2 : H.next = H'.next) : H = H' := by
  cases H; cases H'; simp at h1 h2; subst h1 h2; rfl
theorem set_alloc {o o' : AObj} : (H.alloc o).set H.next o' = H.alloc o' := by
  refine AHeap.ext ?_ rfl
  funext i
  simp only [AHeap.set, AHeap.alloc]
  by_cases h : i = H.next
  · simp [h]
  · simp [h]
theorem bump_bump {k j : Nat} : (H.bump k).bump j = H.bump (k + j) := AHeap.ext rfl (by simp [Nat.add_assoc])
theorem bump_zero : H.bump 0 = H := AHeap.ext rfl rfl
theorem GStep.both {F2 : Fr} {H2 : AHeap} (h1 : ∀ p ∈ F2, Fr.get F p.1 = p.2) (h2 : ∀ i o, H2.get i = some o → H.get i = some o) (h3 : H.next ≤ H2.next) : GStep F H F2 H2 := (GStep.fr h1).trans (GStep.drop h2 h3)
/-- a call that only computes -/
def Pure (H : AHeap) (v : AV) (r : AV) (H' : AHeap) : Prop := r = v ∧ ∃ k, H' = H.bump k
theorem allLen_map {α : Type} {f : α → List AV} {sz : Nat} (h : ∀ x, (f x).length = sz) (l : List α) : allLen sz (l.map f) = true := by
  unfold allLen
  rw [List.all_eq_true]
  intro r hr
  obtain ⟨x, _, rfl⟩ := List.mem_map.1 hr
  simp [h x]
theorem allLen_app {sz : Nat} {a b : List (List AV)} (ha : allLen sz a = true) (hb : allLen sz b = true) : allLen sz (a ++ b) = true := by
  unfold allLen at *
  simp [List.all_append, ha, hb]
/-- the end of a function that only computes -/
theorem ret_pure {rs : List ARes} {v r : AV} {H0 : AHeap} (hr : resA F H rs = some r) (hv : r.weak = v) (hx : AHeap.Ext H0 H) : RetQ rs (Pure H0 v) .ret F H := by
  simp only [RetQ, hr]
  exact ⟨_, _, RStep.ext hx, hv, _, rfl⟩
theorem ret_pure_n {rs : List ARes} {v r : AV} {H0 : AHeap} (hr : resA F H rs = some r) (hv : r.weak = v) (hx : AHeap.Ext H0 H) : RetQ rs (Pure H0 v) .normal F H := by
  simp only [RetQ, hr]
  exact ⟨_, _, RStep.ext hx, hv, _, rfl⟩
end
end Go.Proofs.Ytgnpihhakogeeaa
