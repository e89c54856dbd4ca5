/- The abstract machine: a nil slice in an object's cell may be appended to. -/
import Derived.Test.YtgnpihhakogeeaaBp
namespace Go.Proofs.Ytgnpihhakogeeaa
set_option linter.unusedSimpArgs false
set_option linter.unusedVariables false
open Go.RowKit

theorem GStep.tokCell {F : Fr} {H : AHeap} (id j E0 E sz : Nat) {cs : List AV} (hget : H.get id = some (.cells cs E0)) (hj : cs[j]? = some (.sl .full [])) : GStep F H F ((H.set id (.cells (cs.set j (.sl (.own H.next) [])) E0)).alloc (.tok 0 E sz)) := fun N g w a hF hW => by
  have hdom := hW.dom H.next (Nat.le_refl _)
  have hid := AHeap.lt hget
  let g' : Gh := { g with τ := fun i => if i = H.next then some (0, 0, 0) else g.τ i }
  have hle : g.le g' w w := ⟨fun _ _ h => h, fun i fr c b h => by
    have : i ≠ H.next := by rintro rfl; rw [hdom.2.1] at h; cases h
    exact ⟨fr, c, b, by simp [g', this, h], .inr ⟨rfl, rfl, rfl⟩⟩, fun _ _ _ h => h, fun _ _ h => h, fun _ _ _ => rfl⟩
  have hown : ∀ i o b, i < H.next → (Owns g' i o b ↔ Owns g i o b) := fun i o b hl => Owns.le (by simp [g']; omega) rfl
  have hnew : ∀ b, ¬ Owns g' H.next (.tok 0 E sz) b := by
    rintro b ⟨fr, c, h, hc⟩
    simp [g'] at h
    omega
  have hg2 : ∀ i o', ((H.set id (.cells (cs.set j (.sl (.own H.next) [])) E0)).alloc (.tok 0 E sz)).get i = some o' → (i = H.next ∧ o' = .tok 0 E sz) ∨ (i = id ∧ o' = .cells (cs.set j (.sl (.own H.next) [])) E0) ∨ (i ≠ id ∧ i < H.next ∧ H.get i = some o') := by
    intro i o' h
    by_cases e : i = H.next
    · subst e
      have hn : ((H.set id (.cells (cs.set j (.sl (.own H.next) [])) E0)).alloc (.tok 0 E sz)).get H.next = some (.tok 0 E sz) := AHeap.get_alloc_self (H := H.set id (.cells (cs.set j (.sl (.own H.next) [])) E0))
      rw [hn] at h
      injection h with h
      exact .inl ⟨rfl, h.symm⟩
    · rw [AHeap.get_alloc_ne (H := H.set id (.cells (cs.set j (.sl (.own H.next) [])) E0)) e] at h
      by_cases e2 : i = id
      · subst e2
        rw [AHeap.get_set_self hid] at h
        injection h with h
        exact .inr (.inl ⟨rfl, h.symm⟩)
      · rw [AHeap.get_set_ne e2] at h
        exact .inr (.inr ⟨e2, AHeap.lt h, h⟩)
  have hobj : ORel g' w id (.cells (cs.set j (.sl (.own H.next) [])) E0) := by
    obtain ⟨b, carr, h1, h2, h3, h4, h5⟩ := hW.obj id _ hget
    refine ⟨b, carr, h1, h2, ⟨by rw [List.length_set]; exact h3.1, fun i x u hx hu => ?_⟩, fun x hx => ?_, h5⟩
    · rw [List.getElem?_set] at hx
      by_cases e : j = i
      · subst e
        rw [if_pos rfl] at hx
        split at hx
        · injection hx with hx
          subst hx
          have hv := (h3.2 j _ u hj hu).mono hle
          cases hv with
          | sl _ _ A c sz' b' o f hc hm hA hsz hcell hval ht =>
            exact .sl _ [] A c sz' b' o f hc hm hA hsz hcell hval ⟨0, 0, 0, by simp [g'], Nat.le_refl _, fun _ => ⟨ht, fun h => by omega⟩⟩
        · cases hx
      · rw [if_neg e] at hx
        exact (h3.2 i x u hx hu).mono hle
    · rcases List.mem_or_eq_of_mem_set hx with hx | rfl
      · exact h4 x hx
      · rfl
  refine ⟨g', hF.mono hle, ⟨fun i o' h => ?_, fun i i' o1 o2 b h1 h2 h3 h4 => ?_, fun i hi => ?_, fun i o' b h1 h2 => ?_, hW.ro⟩, ⟨hle, Nat.le_succ _, rfl, rfl, rfl, Nat.le_refl _, fun _ _ _ => rfl, fun b hb ⟨i, o', h1, h2⟩ => ?_, fun _ _ _ h => .inl h⟩⟩
  · rcases hg2 i o' h with ⟨rfl, rfl⟩ | ⟨rfl, rfl⟩ | ⟨_, hl, h⟩
    · exact ⟨0, 0, by simp [g'], Nat.le_refl _, by unfold maxLen; omega, fun h => by omega⟩
    · exact hobj
    · exact (hW.obj i o' h).mono hle (fun _ _ => rfl) (fun _ _ _ h => h) (by simp [g']; omega) rfl (fun _ => rfl)
  · have key : ∀ i o b, ((H.set id (.cells (cs.set j (.sl (.own H.next) [])) E0)).alloc (.tok 0 E sz)).get i = some o → Owns g' i o b → ∃ o', H.get i = some o' ∧ Owns g i o' b := by
      intro i o b hi ho
      rcases hg2 i o hi with ⟨rfl, rfl⟩ | ⟨rfl, rfl⟩ | ⟨_, hl, h⟩
      · exact absurd ho (hnew b)
      · exact ⟨_, hget, ho⟩
      · exact ⟨_, h, (hown i o b hl).1 ho⟩
    obtain ⟨o1', k1, k2⟩ := key i o1 b h1 h3
    obtain ⟨o2', k3, k4⟩ := key i' o2 b h2 h4
    exact hW.inj i i' o1' o2' b k1 k3 k2 k4
  · simp only [AHeap.next_alloc, AHeap.next_set] at hi
    have h := hW.dom i (by omega)
    refine ⟨h.1, ?_, h.2.2⟩
    simp [g', h.2.1]; omega
  · rcases hg2 i o' h1 with ⟨rfl, rfl⟩ | ⟨rfl, rfl⟩ | ⟨_, hl, h⟩
    · exact absurd h2 (hnew b)
    · exact hW.bd i _ b hget h2
    · exact hW.bd i o' b h ((hown i o' b hl).1 h2)
  · rcases hg2 i o' h1 with ⟨rfl, rfl⟩ | ⟨rfl, rfl⟩ | ⟨_, hl, h⟩
    · exact absurd h2 (hnew b)
    · exact ⟨i, _, hget, h2⟩
    · exact ⟨i, o', h, (hown i o' b hl).1 h2⟩
/-- behind the body of a range loop with more state: another round -/
def RnsQ {σ : Type} (inv : Nat → σ → Prop) (id i n t2 N k : Nat) (Fs : Nat → σ → Fr) (Hs : Nat → σ → AHeap) (Q : AEx → Fr → AHeap → Prop) : AEx → Fr → AHeap → Prop := fun e F H => match e with
  | .normal => ∃ s, inv (k + 1) s ∧ Fr.get F i = .i k ∧ GStep ((i, .i ((k + 1 : Nat) : Int)) :: (t2, .i ((k + 1 : Nat) : Int)) :: F) H ((i, .i ((k + 1 : Nat) : Int)) :: (n, .i (N : Int)) :: Fs (k + 1) s) (Hs (k + 1) s)
  | .exit j => if j = id then Q .normal F H else Q (.exit j) F H
  | .ret => Q .ret F H
section
variable {σ : Type} {P : Program} {Q : AEx → Fr → AHeap → Prop} {F : Fr} {H : AHeap} {i n t2 N k id : Nat} {inv : Nat → σ → Prop} {Fs : Nat → σ → Fr} {Hs : Nat → σ → AHeap}
theorem RnsQ_n : RnsQ inv id i n t2 N k Fs Hs Q .normal F H = ∃ s, inv (k + 1) s ∧ Fr.get F i = .i k ∧ GStep ((i, .i ((k + 1 : Nat) : Int)) :: (t2, .i ((k + 1 : Nat) : Int)) :: F) H ((i, .i ((k + 1 : Nat) : Int)) :: (n, .i (N : Int)) :: Fs (k + 1) s) (Hs (k + 1) s) := rfl
theorem RnsQ_r : RnsQ inv id i n t2 N k Fs Hs Q .ret F H = Q .ret F H := rfl
theorem RnsQ_e {j : Nat} : RnsQ inv id i n t2 N k Fs Hs Q (.exit j) F H = if j = id then Q .normal F H else Q (.exit j) F H := rfl
/-- AW_range with a state s besides the place -/
theorem AW_rangeS {body : ACode} {t1 : Nat} (inv : Nat → σ → Prop) (Fs : Nat → σ → Fr) (Hs : Nat → σ → AHeap) (hN : N ≤ maxLen) (hin : i ≠ n) (s0 : σ)
    (h0 : inv 0 s0) (hg : GStep F H ((i, .i ((0 : Nat) : Int)) :: (n, .i (N : Int)) :: Fs 0 s0) (Hs 0 s0))
    (round : ∀ k s, k < N → inv k s → AW P body (RnsQ inv id i n t2 N k Fs Hs Q) ((t1, .b true) :: (i, .i (k : Int)) :: (n, .i (N : Int)) :: Fs k s) (Hs k s))
    (fin : ∀ s, inv N s → Q .normal ((t1, .b false) :: (i, .i (N : Int)) :: (n, .i (N : Int)) :: Fs N s) (Hs N s)) :
    AW P (.blk id (.loop (.seq (.reg [⟨none, some t1, .bin .lss (.t i) (.t n)⟩]) (.seq (.cond (.t t1) .skip (.exit id)) (.seq body (.reg [⟨none, some t2, .bin .add (.t i) (.c (.sc (.int .i64 1)))⟩, ⟨none, some i, .mv (.t t2)⟩])))))) Q F H := by
  rw [AW_blk]
  refine AW_loop (σ := Nat × σ) (fun p => p.1 ≤ N ∧ inv p.1 p.2) (fun p => N - p.1) (fun p => (i, .i (p.1 : Int)) :: (n, .i (N : Int)) :: Fs p.1 p.2) (fun p => Hs p.1 p.2) (0, s0) ⟨Nat.zero_le _, h0⟩ hg ?_
  rintro ⟨k, s⟩ ⟨hk, hik⟩
  simp only at hk hik ⊢
  have hni : n ≠ i := Ne.symm hin
  by_cases h1 : k < N
  · have d1 : decide ((k : Int) < (N : Int)) = true := by simp; omega
    simp only [AW_seq, AW_reg, AWOps, AI.want, AI.step, AOp.ev, AX.ev, Fr.get, Fr.put, SeqQ_n, if_true, if_neg hni, binSc, intSc, Option.map_some, d1, AW_cond, cond_true, AW_skip]
    refine AW_mono body _ _ _ _ (fun e F' H' h => ?_) (round k s h1 hik)
    cases e with
    | normal =>
      obtain ⟨s', h2, h3, h4⟩ := h
      have hw : IntKind.i64.wrap ((k : Int) + 1) = ((k + 1 : Nat) : Int) := by
        rw [wrap_of (by omega) (by unfold maxLen at hN; omega)]; omega
      simp only [SeqQ_n, AW_reg, AWOps, AI.want, AI.step, AOp.ev, AX.ev, Fr.put, h3, binSc, intSc, if_true, Option.map_some, hw, Fr.get, LoopQ_n]
      exact ⟨(k + 1, s'), ⟨h1, h2⟩, by simp only; omega, h4⟩
    | exit j =>
      simp only [SeqQ_e, LoopQ_e, BlkQ_e]
      exact h
    | ret => exact h
  · have d1 : decide ((k : Int) < (N : Int)) = false := by simp; omega
    obtain rfl : k = N := by omega
    simp only [AW_seq, AW_reg, AWOps, AI.want, AI.step, AOp.ev, AX.ev, Fr.get, Fr.put, SeqQ_n, if_true, if_neg hni, binSc, intSc, Option.map_some, d1, AW_cond, cond_false, AW_exit, SeqQ_e, LoopQ_e, BlkQ_e]
    exact fin s hik
theorem nx_alloc {o : AObj} : (H.alloc o).next = H.next + 1 := by simp
theorem nx_bump {k : Nat} : (H.bump k).next = H.next + k := by simp
theorem nx_set {o : AObj} : (H.set id o).next = H.next := by simp
theorem set_alloc_at {o o' : AObj} (h : id = H.next) : (H.alloc o).set id o' = H.alloc o' := by subst h; exact set_alloc
theorem set_alloc_lt {o o' : AObj} (h : id < H.next) : (H.alloc o).set id o' = (H.set id o').alloc o := by
  refine AHeap.ext ?_ rfl
  funext m
  simp only [AHeap.set, AHeap.alloc]
  by_cases h1 : m = id
  · subst h1
    have h2 : m ≠ H.next := by omega
    have h3 : m < H.next + 1 := by omega
    simp [h2, h, h3]
  · simp [h1]
theorem set_bump {o' : AObj} {k : Nat} (h : id < H.next) : (H.bump k).set id o' = (H.set id o').bump k := by
  refine AHeap.ext ?_ rfl
  funext m
  simp only [AHeap.set, AHeap.bump]
  by_cases h1 : m = id
  · subst h1
    have h3 : m < H.next + k := by omega
    simp [h, h3]
  · simp [h1]
end
end Go.Proofs.Ytgnpihhakogeeaa
