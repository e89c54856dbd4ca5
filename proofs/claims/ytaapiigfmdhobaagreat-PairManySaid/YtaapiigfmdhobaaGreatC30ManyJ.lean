/- The statement of PairMany, out of its walk: for every input the call returns true, and each argument reads afterwards as it read before. No condition. -/
import Derived.Test.YtaapiigfmdhobaaGreatRows
import Derived.Test.YtaapiigfmdhobaaGreatP9
import Derived.ProofKit
import Derived.OpenShut
import Derived.ShutString
import Derived.ChangeOld
import Derived.Below
import Derived.SizedLaws
namespace Go.Proofs.YtaapiigfmdhobaaGreat
set_option linter.unusedSimpArgs false
set_option linter.unusedVariables false
open Go.ChangeShapes Go.WideShapes Go.ChangeAt Go.RowKit
open Go.ChangeMaps (open_string shut_string)
set_option linter.unusedVariables false

theorem pairMany_own : ownKnob Tryz.prog.godebug = none := by kernel_rfl
theorem pairMany_laidOut : laidOutB Tryz.prog = true := by kernel_rfl

set_option maxRecDepth 100000 in
theorem pairMany_lifted (os : Os) (started : os.Started) (H : Type) (enc : TypeId × Value → H) :
    ReturnsInHanded {} Tryz.checked os 7 .any (Rows.pairManySpec.pre6 enc Tryz.prog Tryz.f7 Rows.pairManyRow.domain false) (Rows.pairManySpec.post enc Tryz.prog Tryz.f7 false true false false) := by
  refine returnsInHanded_of_change_sized (C := Tryz.checked) pairMany_own started (by kernel_rfl) Tryz.func7
    (ChangeSpec.witness6 (enc := enc) (C := Tryz.checked) false ⟨#[], #[.agg #[.slice none 0 0, .slice none 0 0], .slice none 0 0], []⟩ 8 (by kernel_rfl) (by kernel_rfl) (by kernel_rfl) (by kernel_rfl)) ?_
  intro W base args ds gs before hval0 hW hcnd hsz0 _
  have hval : ∀ (j : Nat) t v, Tryz.f7.params[j]? = some t → args[j]? = some v → Value.okWide Tryz.prog W .any base t v := hval0
  have hW' := hW
  obtain ⟨p, q, hA0, hV, rfl, hfz, hnd⟩ := hW
  have hA : DataW.TrodAll enc Tryz.prog W 0 (fun _ => true) true Tryz.f7.params.toList args.toList ds p := hA0
  rw [Tryz.params7] at hA hval
  obtain ⟨v0, vs0, d0, ds0, p0, q0, hargs, rfl, rfl, h0, r0⟩ := trodAll_cons hA
  obtain ⟨v1, vs1, d1, ds1, p1, q1, rfl, rfl, rfl, h1, r1⟩ := trodAll_cons r0
  obtain ⟨rfl, rfl, rfl⟩ := trodAll_nil r1
  obtain rfl : args = #[v0, v1] := by cases args; simp_all
  obtain ⟨rfl, rfl⟩ := trodVars_none hV
  have hsz : ∀ {i : Nat} {t : TypeId} {d : DataW H}, Tryz.f7.params.toList[i]? = some t → [d0, d1][i]? = some d → ∀ k ∈ d.weights Tryz.prog t, k ≤ reachBytes := fun h1 h2 k hk => by
    have := List.all_eq_true.1 hsz0 k (ZpV (by rw [List.getElem?_append_left (List.getElem?_eq_some_iff.1 h1).1]; exact h1) (by rw [List.append_nil]; exact h2) k hk)
    simpa using this
  rw [Tryz.params7] at hsz
  have k0 := h0
  have lt0 : ∀ x ∈ p0, x.block < W.heap.size := by obtain ⟨m, hm⟩ := k0; exact DataW.trod_lt m _ _ _ hm
  have k1 := h1
  have lt1 : ∀ x ∈ p1, x.block < W.heap.size := by obtain ⟨m, hm⟩ := k1; exact DataW.trod_lt m _ _ _ hm
  obtain ⟨x0c, rfl, _⟩ := okWide_struct Tryz.underlying25 (hval 0 25 v0 rfl rfl)
  obtain ⟨x0, hx0⟩ : ∃ y, Sh.Is W (· < W.heap.size) ZqP _ y ∧ Sh.Wt Tryz.prog reachBytes ZqP (.inl 25) y := by obtain ⟨fuel, hf⟩ := h0; exact Sh.of_trodW reachBytes ZqP _ fuel _ _ fits_sc hf (hsz (i := 0) rfl rfl)
  obtain ⟨x1a, x1l, x1c, rfl⟩ := okWide_slice Tryz.underlying71 (hval 1 71 v1 rfl rfl)
  obtain ⟨x1, hx1⟩ : ∃ y, Sh.Is W (· < W.heap.size) (.slice (.slice Zik)) _ y ∧ Sh.Wt Tryz.prog reachBytes (.slice (.slice Zik)) (.inl 71) y := by obtain ⟨fuel, hf⟩ := h1; exact Sh.of_trodW reachBytes (.slice (.slice Zik)) _ fuel _ _ fits_fctss hf (hsz (i := 1) rfl rfl)
  clear hA0 hval0
  obtain ⟨y0, hy0, hd0, ht0⟩ := arg_scW hx0.1 hx0.2
  obtain ⟨y1, hy1⟩ := arg_fctss hx1.1
  refine (Zay.true (pairmany_walk y0 y1 Zaa.emp hd0 ht0) ((VRs.nil.cons hy1).cons hy0)).mono fun e W' ⟨he, bel⟩ => ?_
  subst he
  exact ⟨_, rfl, _, _, _, [], _, [], hW', trodAll_mk1 (shut_bool Tryz.underlying4 _), (trodAll_cons_mk (Below.trod pairMany_laidOut (by kernel_rfl) (of_decide_eq_true (by kernel_rfl)) k0 bel lt0) (trodAll_cons_mk (Below.trod pairMany_laidOut (by kernel_rfl) (of_decide_eq_true (by kernel_rfl)) k1 bel lt1) trodAll_mk0)), rfl, bel.frame _, fun h => by cases h⟩

theorem pairMany_holds : Rows.PairManySaid :=
  OpenClaim.holds_of_wide 7 Tryz.f7 rfl rfl rfl rfl rfl rfl rfl ⟨rfl, rfl, rfl, rfl, rfl⟩ rfl rfl rfl rfl rfl (by kernel_rfl) Tryz.func7 (by kernel_rfl)
    (of_decide_eq_true (by kernel_rfl)) (by unfold Func.isWrapper; first | (rw [if_pos (by decide +kernel)]; kernel_rfl) | (rw [if_neg (by decide +kernel)]; exact ⟨rfl, rfl⟩))
    (fun os started H enc _ => pairMany_lifted os started H enc)
end Go.Proofs.YtaapiigfmdhobaaGreat
