/- Closed runs of this seat. -/
import Derived.Test.YtgnpihhakogeeaaQg
namespace Go.Proofs.Ytgnpihhakogeeaa
set_option linter.unusedSimpArgs false
set_option linter.unusedVariables false
open Go.RowKit

def tabGet {α : Type} : List (FuncId × α) → FuncId → Option α
  | [], _ => none
  | (k, x) :: l, f => if f = k then some x else tabGet l f
def TabAll {α : Type} (Pr : FuncId → α → Prop) : List (FuncId × α) → Prop
  | [] => True
  | (k, x) :: l => Pr k x ∧ TabAll Pr l
theorem tabGet_ok {α : Type} {Pr : FuncId → α → Prop} : ∀ {l : List (FuncId × α)} {f : FuncId} {x : α}, TabAll Pr l → tabGet l f = some x → Pr f x
  | [], f, x, _, h => by simp [tabGet] at h
  | (k, y) :: l, f, x, ha, h => by
    simp only [tabGet] at h
    split at h
    · rename_i e
      subst e
      injection h with h
      subst h
      exact ha.1
    · exact tabGet_ok ha.2 h
def L8 : List (FuncId × ACode × List ARes × Nat) := [(8, c8_0, [(.tmp 6)], 51), (13, c13_0, [(.tmp 0)], 25), (14, c14_0, [(.tmp 4), (.tmp 5)], 40), (15, c15_0, [(.tmp 2)], 9), (18, c18_0, [(.tmp 2)], 16), (19, c19_0, [(.tmp 2)], 9), (33, c33_0, [(.tmp 4)], 26), (35, c35_0, [(.tmp 2)], 25), (36, c36_0, [(.tmp 0)], 49), (37, c37_0, [(.tmp 4), (.tmp 5)], 43), (38, c38_0, [(.tmp 4)], 72), (41, c41_0, [(.tmp 6), (.tmp 7)], 48), (45, c45_0, [(.tmp 4), (.tmp 5)], 42), (47, c47_0, [(.tmp 4), (.tmp 5)], 50), (48, c48_0, [(.cell 14 true 4), (.tmp 5)], 32), (49, c49_0, [(.tmp 2)], 6), (52, c52_0, [(.cell 2 true 2)], 35), (55, c55_0, [(.tmp 2)], 73), (56, c56_0, [(.tmp 2)], 11), (65, c65_0, [(.tmp 2)], 14), (66, c66_0, [(.cell 14 true 2)], 27), (67, c67_0, [], 47), (69, c69_0, [], 25), (73, c73_0, [(.tmp 2)], 70), (74, c74_0, [(.tmp 2)], 8), (75, c75_0, [(.tmp 4)], 91), (76, c76_0, [(.tmp 4)], 28), (83, c83_0, [(.tmp 4)], 11), (84, c84_0, [(.tmp 2)], 12), (85, c85_0, [(.tmp 4)], 19), (89, c89_0, [(.tmp 2)], 8), (90, c90_0, [], 42), (99, c99_0, [(.tmp 8)], 52), (100, c100_0, [(.tmp 6)], 29), (101, c101_0, [(.tmp 4)], 28), (103, c103_0, [(.tmp 2)], 36), (106, c106_0, [], 33), (110, c110_0, [(.tmp 4)], 68)]
def T8 : FuncId → Option (ACode × List ARes × Nat) := tabGet L8
theorem hT8 : ∀ f x, T8 f = some x → cFn Try.prog eqT f = some x := fun f x h => tabGet_ok (Pr := fun f x => cFn Try.prog eqT f = some x) (l := L8) ⟨cf8, cf13, cf14, cf15, cf18, cf19, cf33, cf35, cf36, cf37, cf38, cf41, cf45, cf47, cf48, cf49, cf52, cf55, cf56, cf65, cf66, cf67, cf69, cf73, cf74, cf75, cf76, cf83, cf84, cf85, cf89, cf90, cf99, cf100, cf101, cf103, cf106, cf110, trivial⟩ h
def X8 : FuncId → List AV → CH → Option (AV × CH) := fun f args C => match args with
  | [.sl .full [], .sc (.int .i64 n)] => if f = 112 then (if n = 0 then some (.sl .full [], C) else if 0 < n ∧ n ≤ 1000000 then some (.sl (.own C.length) [], C ++ [some (.tok 0 43 12)]) else none) else none
  | _ => none
theorem up_snoc (C : CH) (o : AObj) : CH.up (C ++ [some o]) = C.up.alloc o := by
  refine AHeap.ext ?_ (by simp [CH.up])
  funext i
  by_cases hi : i = C.length
  · subst hi
    have hn : (C.up.alloc o).get C.length = some o := AHeap.get_alloc_self (H := C.up)
    rw [hn]
    simp [CH.up]
  · rw [AHeap.get_alloc_ne (H := C.up) hi]
    simp only [CH.up]
    by_cases hl : i < C.length
    · rw [List.getElem?_append_left hl]
    · rw [List.getElem?_eq_none (by simp; omega), List.getElem?_eq_none (by omega)]
theorem hX8 : ∀ f args C r C', X8 f args C = some (r, C') → Sound Try.prog f args (CH.up C) fun r' H' => r' = r ∧ H' = CH.up C' := by
  intro f args C r C' h
  unfold X8 at h
  split at h
  · rename_i n
    split at h
    · rename_i e
      subst e
      split at h
      · rename_i e
        subst e
        simp only [Option.some.injEq, Prod.mk.injEq] at h
        obtain ⟨rfl, rfl⟩ := h
        exact grow_sound0 _
      · split at h
        · rename_i hn
          simp only [Option.some.injEq, Prod.mk.injEq] at h
          obtain ⟨rfl, rfl⟩ := h
          obtain ⟨m, rfl⟩ : ∃ m : Nat, n = m := ⟨n.toNat, by omega⟩
          refine (grow_sound m (CH.up C) (by omega) (by omega)).mono fun r' H' ⟨h1, h2⟩ => ⟨h1, ?_⟩
          rw [h2, up_snoc]
        · cases h
    · cases h
  · cases h
def isT : AV → CH → Bool := fun r _ => match r with
  | .sc (.bool true) => true
  | _ => false
theorem isT_ok {r : AV} {C : CH} (h : isT r C = true) : r = .sc (.bool true) := by
  unfold isT at h
  split at h
  · rfl
  · cases h
theorem run_true {f : FuncId} {vs : List Value} (h : runF X8 T8 60 40 f (vs.map .sc) isT [] = true) : Sound Try.prog f (vs.map .sc) AHeap.emp fun r _ => r = .sc (.bool true) := by
  have := runF_ok hE hX8 hT8 60 40 f _ _ _ h
  rw [CH.up_nil] at this
  exact this.mono fun r H' ⟨C', _, h2⟩ => isT_ok h2
theorem run_aw37 : runF X8 T8 60 40 13 [] isT [] = true := by kernel_rfl
theorem run_aw29 : runF X8 T8 60 40 36 [] isT [] = true := by kernel_rfl
theorem run_tn1 (i j : Int) : runF X8 T8 60 40 8 ([.int .i64 i, .int .i64 j, .bool true].map .sc) isT [] = true := by kernel_rfl
theorem run_tn0 (i j : Int) : runF X8 T8 60 40 8 ([.int .i64 i, .int .i64 j, .bool false].map .sc) isT [] = true := by kernel_rfl
theorem nobody_sound (i j : Int) (b : Bool) : Sound Try.prog 8 ([.int .i64 i, .int .i64 j, .bool b].map .sc) AHeap.emp fun r _ => r = .sc (.bool true) := by
  cases b
  · exact run_true (run_tn0 i j)
  · exact run_true (run_tn1 i j)
end Go.Proofs.Ytgnpihhakogeeaa
