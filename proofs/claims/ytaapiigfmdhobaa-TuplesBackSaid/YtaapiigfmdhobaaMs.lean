/- Texts of the walk, joined: Nd Ne. -/
import Derived.Test.YtaapiigfmdhobaaMr
import Derived.Test.YtaapiigfmdhobaaMj
import Derived.Test.YtaapiigfmdhobaaMf
namespace Go.Proofs.Ytaapiigfmdhobaa
set_option linter.unusedSimpArgs false
set_option linter.unusedVariables false
open Go.RowKit
theorem sq_le_pow : ∀ c : Nat, 4 * ((1 + c) * (1 + c)) ≤ 9 * 2 ^ c
 | 0 => by decide
 | 1 => by decide
 | 2 => by decide
 | 3 => by decide
 | c + 4 => by
  have ih := sq_le_pow (c + 3)
  have e : 9 * 2 ^ (c + 4) = 2 * (9 * 2 ^ (c + 3)) := by rw [Nat.pow_succ]; omega
  rw [e]
  refine Nat.le_trans ?_ (Nat.mul_le_mul_left 2 ih)
  have h1 : (1 + (c + 4)) * (1 + (c + 4)) = (1 + (c + 3)) * (1 + (c + 3)) + 2 * (1 + (c + 3)) + 1 := by
   have : 1 + (c + 4) = (1 + (c + 3)) + 1 := by omega
   rw [this, Nat.add_mul, Nat.mul_add]; omega
  have h2 : 4 * (1 + (c + 3)) ≤ (1 + (c + 3)) * (1 + (c + 3)) := Nat.mul_le_mul_right _ (by omega)
  generalize (1 + (c + 3)) * (1 + (c + 3)) = q at *
  omega
def Bnd (k s m : Nat) : Prop := 4 ^ k * ((m + 1) * (m + 1)) ≤ 9 ^ k * 2 ^ s
theorem Bnd.zero : Bnd 0 0 0 := by unfold Bnd; decide
theorem Bnd.step {k s m c : Nat} (h : Bnd k s m) : Bnd (k + 1) (s + c) (c + c * m) := by
 unfold Bnd at *
 have e1 : c + c * m + 1 ≤ (1 + c) * (m + 1) := by rw [Nat.add_mul, Nat.one_mul, Nat.mul_succ]; omega
 have h1 : (c + c * m + 1) * (c + c * m + 1) ≤ ((1 + c) * (1 + c)) * ((m + 1) * (m + 1)) := by
  refine Nat.le_trans (Nat.mul_le_mul e1 e1) (Nat.le_of_eq ?_)
  rw [Nat.mul_mul_mul_comm]
 calc 4 ^ (k + 1) * ((c + c * m + 1) * (c + c * m + 1)) ≤ 4 ^ (k + 1) * (((1 + c) * (1 + c)) * ((m + 1) * (m + 1))) := Nat.mul_le_mul_left _ h1
  _ = (4 * ((1 + c) * (1 + c))) * (4 ^ k * ((m + 1) * (m + 1))) := by rw [Nat.pow_succ]; simp only [Nat.mul_assoc, Nat.mul_comm, Nat.mul_left_comm]
  _ ≤ (9 * 2 ^ c) * (9 ^ k * 2 ^ s) := Nat.mul_le_mul (sq_le_pow c) h
  _ = 9 ^ (k + 1) * 2 ^ (s + c) := by rw [Nat.pow_succ, Nat.pow_add]; simp only [Nat.mul_assoc, Nat.mul_comm, Nat.mul_left_comm]
theorem Bnd.le {k s m : Nat} (h : Bnd k s m) (hk : k ≤ 12) (hs : s ≤ 60) : m < 549755813888 := by
 refine Classical.byContradiction fun hm => ?_
 have hm : 549755813888 ≤ m := by omega
 unfold Bnd at h
 have h1 : 4 ^ k * (549755813888 * 549755813888) ≤ 9 ^ k * 2 ^ 60 := Nat.le_trans (Nat.mul_le_mul_left _ (Nat.mul_le_mul (by omega) (by omega))) (Nat.le_trans h (Nat.mul_le_mul_left _ (Nat.pow_le_pow_right (by decide) hs)))
 have h2 : ∀ k : Fin 13, 9 ^ k.val * 2 ^ 60 < 4 ^ k.val * (549755813888 * 549755813888) := by decide
 have := h2 ⟨k, by omega⟩
 simp only at this
 omega
theorem Bnd.mono {k s s' m : Nat} (h : Bnd k s m) (hs : s ≤ s') : Bnd (k + 1) s' m := by
 unfold Bnd at *
 rw [Nat.pow_succ, Nat.pow_succ]
 have h1 : 9 ^ k * 2 ^ s ≤ 9 ^ k * 2 ^ s' := Nat.mul_le_mul_left _ (Nat.pow_le_pow_right (by decide) hs)
 have e1 : 4 ^ k * 4 * ((m + 1) * (m + 1)) = 4 * (4 ^ k * ((m + 1) * (m + 1))) := by simp only [Nat.mul_assoc, Nat.mul_comm, Nat.mul_left_comm]
 have e2 : 9 ^ k * 9 * 2 ^ s' = 9 * (9 ^ k * 2 ^ s') := by simp only [Nat.mul_assoc, Nat.mul_comm, Nat.mul_left_comm]
 rw [e1, e2]
 generalize 4 ^ k * ((m + 1) * (m + 1)) = p at *
 generalize 9 ^ k * 2 ^ s' = q at *
 omega
def VL (o : List Int) (id cap : Nat) : AV := match o with
 | [] => .sl .full []
 | _ :: _ => .arr id 0 o.length cap
@[simp] theorem VL_nil (id cap : Nat) : VL [] id cap = .sl .full [] := rfl
theorem VL_ne {o : List Int} (h : o ≠ []) (id cap : Nat) : VL o id cap = .arr id 0 o.length cap := by
 cases o with
 | nil => exact absurd rfl h
 | cons a r => rfl
def LsI (G : AHeap) (o : List Int) (id cap : Nat) (tail : List AV) : Prop := o ≠ [] → G.get id = some (.cells (cI o ++ tail) 3) ∧ (cI o ++ tail).length = cap ∧ o.length ≤ cap
theorem ard_of {x : Shp} {most : Int} {l : List Nod} (hm : shpMay x = true) (hs : ∀ n ∈ l, smallN n) (hl : l.length ≤ 200000) (ha : ∀ i (hi : i < l.length), addErr x most (l.take i) l[i] = 0) : Ard x l := by
 refine ⟨hm, hs, hl, fun n hn => ?_, fun k hk hd c hc => ?_⟩
 ·obtain ⟨i, hi, rfl⟩ := List.getElem_of_mem hn
  have := check_dim (add_zero' (ha i hi)).1
  exact ⟨this.1, this.2.1⟩
 ·have hb : lastB x l[k].dim = false := by unfold lastB; rw [beq_eq_false_iff_ne]; omega
  obtain ⟨h1, h2, _⟩ := add_zero' (ha k hk)
  unfold leadsB at h2
  rw [hb, Bool.false_or, List.all_eq_true] at h2
  have h3 := h2 c hc
  simp only [Bool.and_eq_true, decide_eq_true_eq, List.length_take] at h3
  exact ⟨check_child h1 hb c hc, by omega⟩
end Go.Proofs.Ytaapiigfmdhobaa
