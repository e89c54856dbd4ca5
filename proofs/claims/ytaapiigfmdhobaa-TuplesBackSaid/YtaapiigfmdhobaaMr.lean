/- Texts of the walk, joined: Na Nb Nc. -/
import Derived.Test.YtaapiigfmdhobaaMp
namespace Go.Proofs.Ytaapiigfmdhobaa
set_option linter.unusedSimpArgs false
set_option linter.unusedVariables false
open Go.RowKit
structure Ard (x : Shp) (l : List Nod) : Prop where
 may : shpMay x = true
 sm : ∀ n ∈ l, smallN n
 len : l.length ≤ 200000
 dim : ∀ n ∈ l, 0 ≤ n.dim ∧ n.dim < x.sizes.length
 led : ∀ (k : Nat) (h : k < l.length), l[k].dim < (x.sizes.length : Int) - 1 → ∀ c ∈ each l[k], 0 ≤ c.child ∧ c.child < k
theorem HX.quiet {O : List (Nat × AObj)} {H G G1 : AHeap} (h : HX O H G) (k : HX [] G G1) : HX O H G1 :=
 ⟨Nat.le_trans h.n k.n, fun p hp => (k.g _ (AHeap.lt (h.o p hp)) (by simp)).trans (h.o p hp), fun j hj hne => (k.g _ (Nat.lt_of_lt_of_le hj h.n) (by simp)).trans (h.g j hj hne)⟩
def cntN (n : Nod) : Nat := n.lists.flatten.length + 1
def capT (n : Int) : Int := if 1125899906842624 < n then 1125899906842624 else n
def treeF (out : List Int) (n : Nod) (inner : Bool) : Int := if inner = true then (each n).foldl (fun s c => capT (s + out.getD c.child.toNat 0)) (cntN n) else cntN n
def treesL (x : Shp) (l : List Nod) : List Int := l.foldl (fun out n => out ++ [treeF out n (decide (n.dim < (x.sizes.length : Int) - 1))]) []
@[simp] theorem treesL_nil (x : Shp) : treesL x [] = [] := rfl
theorem treesL_snoc {x : Shp} {l : List Nod} {k : Nat} (h : k < l.length) : treesL x (l.take (k + 1)) = treesL x (l.take k) ++ [treeF (treesL x (l.take k)) l[k] (decide (l[k].dim < (x.sizes.length : Int) - 1))] := by
 rw [List.take_succ_eq_append_getElem h, treesL, List.foldl_append]; rfl
abbrev cI (l : List Int) : List AV := l.map AV.i
structure Sha where
 M : List (Int × Int)
 w : Int
def shaC (s : Sha) (c : Cel) : Sha := ⟨aSet c.child ((aGet c.child s.M).getD 0 + 1) s.M, s.w + 1⟩
def shaN (x : Shp) (s : Sha) (n : Nod) : Sha := if n.dim = (x.sizes.length : Int) - 1 then s else (each n).foldl shaC s
def shaL (x : Shp) (l : List Nod) : Sha := l.foldl (shaN x) ⟨[], 0⟩
@[simp] theorem shaL_nil (x : Shp) : shaL x [] = ⟨[], 0⟩ := rfl
theorem shaL_snoc {x : Shp} {l : List Nod} {k : Nat} (h : k < l.length) : shaL x (l.take (k + 1)) = shaN x (shaL x (l.take k)) l[k] := by
 rw [List.take_succ_eq_append_getElem h, shaL, List.foldl_append]; rfl
structure ShaI (s : Sha) (m : Nat) : Prop where
 w : 0 ≤ s.w ∧ s.w ≤ m
 v : ∀ e ∈ s.M, 0 ≤ e.2 ∧ e.2 ≤ m
 l : (s.M.length : Int) ≤ s.w
theorem ShaI.step {s : Sha} {m : Nat} (h : ShaI s m) (c : Cel) : ShaI ⟨aSet c.child ((aGet c.child s.M).getD 0 + 1) s.M, s.w + 1⟩ (m + 1) := by
 have hg : 0 ≤ (aGet c.child s.M).getD 0 ∧ (aGet c.child s.M).getD 0 ≤ m := by
  cases hg : aGet c.child s.M with
  | none => simp
  | some v => exact h.v _ (aGet_mem hg)
 refine ⟨by have := h.w; simp only; omega, fun e he => ?_, ?_⟩
 ·have : ∀ {M : List (Int × Int)} {v : Int} {e : Int × Int}, e ∈ aSet c.child v M → e.2 = v ∨ e ∈ M := by
   intro M
   induction M with
   | nil => intro v e h; simp [aSet] at h; exact .inl (by rw [h])
   | cons a r ih =>
    intro v e h
    unfold aSet at h
    split at h
    ·rcases List.mem_cons.1 h with rfl | h
     ·exact .inl rfl
     ·exact .inr (List.mem_cons_of_mem _ h)
    ·rcases List.mem_cons.1 h with rfl | h
     ·exact .inr List.mem_cons_self
     ·rcases ih h with h | h
      ·exact .inl h
      ·exact .inr (List.mem_cons_of_mem _ h)
  rcases this he with h1 | h1
  ·rw [h1]; omega
  ·have := h.v e h1; omega
 ·have := aSet_le c.child ((aGet c.child s.M).getD 0 + 1) s.M
  have := h.l
  simp only
  omega
theorem ShaI.le {s : Sha} {m m' : Nat} (h : ShaI s m) (hm : m ≤ m') : ShaI s m' := ⟨by have := h.w; omega, fun e he => by have := h.v e he; omega, h.l⟩
abbrev mpS (M : List (Int × Int)) : AObj := .map (.one (.int .i64)) (eMap kI AV.i M) false
end Go.Proofs.Ytaapiigfmdhobaa
