/- The statement of SourceArena, out of its walk: for every input the call returns true, and each argument reads afterwards as it read before. No condition. -/
import Derived.Test.YtgnpihhakogeeaaRows
import Derived.Test.YtgnpihhakogeeaaW37
import Derived.Test.YtgnpihhakogeeaaArg
import Derived.ProofKit
import Derived.OpenShut
import Derived.ShutString
import Derived.ChangeOld
import Derived.Below
namespace Go.Proofs.Ytgnpihhakogeeaa
open Go.ChangeShapes Go.WideShapes Go.ChangeAt Go.RowKit
open Go.ChangeMaps (open_string shut_string)
set_option linter.unusedVariables false

theorem sourceArena_own : ownKnob Try.prog.godebug = none := by kernel_rfl
theorem sourceArena_laidOut : laidOutB Try.prog = true := by kernel_rfl

set_option maxRecDepth 100000 in
theorem sourceArena_lifted (os : Os) (started : os.Started) (H : Type) (enc : TypeId × Value → H) :
    ReturnsInHanded {} Try.checked os 3 .any (Rows.sourceArenaSpec.pre6 enc Try.prog Try.f3 Rows.sourceArenaRow.domain false) (Rows.sourceArenaSpec.post enc Try.prog Try.f3 false true false false) := by
  refine returnsInHanded_of_change (C := Try.checked) sourceArena_own started (by kernel_rfl) Try.func3
    (ChangeSpec.witness6 (enc := enc) (C := Try.checked) false ⟨#[], #[.agg #[.slice none 0 0, .int .i64 0], .slice none 0 0, .slice none 0 0], []⟩ 8 (by kernel_rfl) (by kernel_rfl) (by kernel_rfl) (by kernel_rfl)) ?_
  intro W base args ds gs before hval0 hW hcnd _
  have hval : ∀ (j : Nat) t v, Try.f3.params[j]? = some t → args[j]? = some v → Value.okWide Try.prog W .any base t v := hval0
  have hW' := hW
  obtain ⟨p, q, hA0, hV, rfl, hfz, hnd⟩ := hW
  have hA : DataW.TrodAll enc Try.prog W 0 (fun _ => true) true Try.f3.params.toList args.toList ds p := hA0
  rw [Try.params3] at hA hval
  obtain ⟨v0, vs0, d0, ds0, p0, q0, hargs, rfl, rfl, h0, r0⟩ := trodAll_cons hA
  obtain ⟨v1, vs1, d1, ds1, p1, q1, rfl, rfl, rfl, h1, r1⟩ := trodAll_cons r0
  obtain ⟨v2, vs2, d2, ds2, p2, q2, rfl, rfl, rfl, h2, r2⟩ := trodAll_cons r1
  obtain ⟨rfl, rfl, rfl⟩ := trodAll_nil r2
  obtain rfl : args = #[v0, v1, v2] := by cases args; simp_all
  obtain ⟨rfl, rfl⟩ := trodVars_none hV
  have k0 := h0
  have lt0 : ∀ x ∈ p0, x.block < W.heap.size := by obtain ⟨m, hm⟩ := k0; exact DataW.trod_lt m _ _ _ hm
  have k1 := h1
  have lt1 : ∀ x ∈ p1, x.block < W.heap.size := by obtain ⟨m, hm⟩ := k1; exact DataW.trod_lt m _ _ _ hm
  have k2 := h2
  have lt2 : ∀ x ∈ p2, x.block < W.heap.size := by obtain ⟨m, hm⟩ := k2; exact DataW.trod_lt m _ _ _ hm
  obtain ⟨x0c, rfl, _⟩ := okWide_struct Try.underlying24 (hval 0 24 v0 rfl rfl)
  obtain ⟨x0, hx0⟩ : ∃ y, Sh.Is W (· < W.heap.size) shpSh _ y := by obtain ⟨fuel, hf⟩ := h0; exact Sh.of_trod shpSh _ fuel _ _ fits_shp hf
  obtain ⟨x1a, x1l, x1c, rfl⟩ := okWide_slice Try.underlying25 (hval 1 25 v1 rfl rfl)
  obtain ⟨x1, hx1⟩ : ∃ y, Sh.Is W (· < W.heap.size) (Sh.slice nodSh) _ y := by obtain ⟨fuel, hf⟩ := h1; exact Sh.of_trod (Sh.slice nodSh) _ fuel _ _ fits_nods hf
  obtain ⟨x2a, x2l, x2c, rfl⟩ := okWide_slice Try.underlying26 (hval 2 26 v2 rfl rfl)
  obtain ⟨x2, hx2⟩ : ∃ y, Sh.Is W (· < W.heap.size) (Sh.slice i64Sh) _ y := by obtain ⟨fuel, hf⟩ := h2; exact Sh.of_trod (Sh.slice i64Sh) _ fuel _ _ fits_ints hf
  clear hA0 hval0
  obtain ⟨X, SA, sc, hc0, j1, j2, j3, _⟩ := shp_arg hx0
  obtain rfl : x0c = [Value.slice SA X.sizes.length sc, .int .i64 X.measures].toArray := by rw [← hc0]; rfl
  obtain ⟨L, LA, lc, hv1, j4, j5, j6⟩ := nods_arg (v := .slice x1a x1l x1c) (by simpa [Value.cells] using hx1)
  obtain ⟨K, KA, kc, hv2, j7, j8, j9⟩ := ints_arg (v := .slice x2a x2l x2c) (by simpa [Value.cells] using hx2)
  injection hv1 with i1 i2 i3
  injection hv2 with i4 i5 i6
  subst i1 i2 i3 i4 i5 i6
  refine (srcArena_any SA sc X _ _ L _ _ K W (· < W.heap.size) j3 j6 j9 (fun _ h => h) (by omega) (by omega) (by omega)).mono fun e W' ⟨he, bel⟩ => ?_
  subst he
  exact ⟨_, rfl, _, _, _, [], _, [], hW', trodAll_mk1 (shut_bool Try.underlying4 _), (trodAll_cons_mk (Below.trod sourceArena_laidOut (by kernel_rfl) (of_decide_eq_true (by kernel_rfl)) k0 bel lt0) (trodAll_cons_mk (Below.trod sourceArena_laidOut (by kernel_rfl) (of_decide_eq_true (by kernel_rfl)) k1 bel lt1) (trodAll_cons_mk (Below.trod sourceArena_laidOut (by kernel_rfl) (of_decide_eq_true (by kernel_rfl)) k2 bel lt2) trodAll_mk0))), rfl, bel.frame _, fun h => by cases h⟩

theorem sourceArena_holds : Rows.SourceArenaSaid :=
  OpenClaim.holds_of_wide 3 Try.f3 rfl rfl rfl rfl rfl rfl rfl ⟨rfl, rfl, rfl, rfl, rfl⟩ rfl rfl rfl rfl rfl (by kernel_rfl) Try.func3 (by kernel_rfl)
    (of_decide_eq_true (by kernel_rfl)) (by unfold Func.isWrapper; first | (rw [if_pos (by decide +kernel)]; kernel_rfl) | (rw [if_neg (by decide +kernel)]; exact ⟨rfl, rfl⟩))
    (fun os started H enc _ => sourceArena_lifted os started H enc)
end Go.Proofs.Ytgnpihhakogeeaa
