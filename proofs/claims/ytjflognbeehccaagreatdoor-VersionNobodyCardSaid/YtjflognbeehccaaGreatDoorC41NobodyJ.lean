/- The statement of VersionNobody, out of its walk: for every input the call returns true, and each argument reads afterwards as it read before. No condition. -/
import Derived.Test.YtjflognbeehccaaGreatDoorCards
import Derived.Test.YtjflognbeehccaaGreatDoorTie
import Derived.Deep.DeepHandedRow
import Derived.Lib.LaidTab
import Derived.Test.YtjflognbeehccaaGreatDoorMm
import Derived.Test.YtjflognbeehccaaGreatDoorMd
import Derived.ProofKit
import Derived.OpenShut
import Derived.ShutString
import Derived.ChangeOld
import Derived.Below
namespace Go.Proofs.YtjflognbeehccaaGreatDoor
set_option linter.unusedSimpArgs false
set_option linter.unusedVariables false
open Go.ChangeShapes Go.WideShapes Go.ChangeAt Go.RowKit
open Go.ChangeMaps (open_string shut_string)
set_option linter.unusedVariables false

theorem versionNobody_own : ownKnob Tryz.prog.godebug = none := by kernel_rfl
theorem versionNobody_laidOut : laidOutB Tryz.prog = true := by kernel_rfl

set_option maxRecDepth 100000 in
theorem versionNobody_contract (H : Type) (enc : TypeId × Value → H) (W : World) (base : Nat) (args : Array Value) (ds gs : List (DataW H)) (before : List MemPlace)
    (hval0 : ∀ (j : Nat) t v, Tryz.f3.params[j]? = some t → args[j]? = some v → Value.okWide Tryz.prog W .any base t v)
    (hW : DataW.Whole enc Tryz.prog Tryz.f3.params.toList Rows.versionNobodySpec.vars false W args.toList ds gs before) :
    Calls Tryz.prog 3 args W fun e W' => ∃ v, e = .returned v ∧ Rows.versionNobodySpec.post enc Tryz.prog Tryz.f3 false true false false W args v W' := by
  have hval : ∀ (j : Nat) t v, Tryz.f3.params[j]? = some t → args[j]? = some v → Value.okWide Tryz.prog W .any base t v := hval0
  have hW' := hW
  obtain ⟨p, q, hA0, hV, rfl, hfz, hnd⟩ := hW
  have hA : DataW.TrodAll enc Tryz.prog W 0 (fun _ => true) true Tryz.f3.params.toList args.toList ds p := hA0
  rw [Tryz.params3] at hA hval
  obtain ⟨v0, vs0, d0, ds0, p0, q0, hargs, rfl, rfl, h0, r0⟩ := trodAll_cons hA
  obtain ⟨v1, vs1, d1, ds1, p1, q1, rfl, rfl, rfl, h1, r1⟩ := trodAll_cons r0
  obtain ⟨rfl, rfl, rfl⟩ := trodAll_nil r1
  obtain rfl : args = #[v0, v1] := by cases args; simp_all
  obtain ⟨rfl, rfl⟩ := trodVars_none hV
  have k0 := h0
  have lt0 : ∀ x ∈ p0, x.block < W.heap.size := by obtain ⟨m, hm⟩ := k0; exact DataW.trod_lt m _ _ _ hm
  have k1 := h1
  have lt1 : ∀ x ∈ p1, x.block < W.heap.size := by obtain ⟨m, hm⟩ := k1; exact DataW.trod_lt m _ _ _ hm
  obtain ⟨x0c, rfl, _⟩ := okWide_struct Tryz.underlying30 (hval 0 30 v0 rfl rfl)
  obtain ⟨x0, hx0⟩ : ∃ y, Sh.Is W (· < W.heap.size) Zxc _ y := by obtain ⟨fuel, hf⟩ := h0; exact Sh.of_trod Zxc _ fuel _ _ fits_cat hf
  obtain ⟨x1, rfl, rfl, rfl⟩ := open_bool Tryz.underlying4 (hval 1 4 v1 rfl rfl) h1
  clear hA0 hval0
  obtain ⟨S, a0, a1, a2, a3, a4, a5, a6, hcat⟩ := arg_cat hx0
  refine (Zay.true (Zxf S a0 a1 a2 a3 a4 a5 a6 x1 Zaa.emp) ((VRs.nil.cons (.sc _)).cons hcat)).mono fun e W' ⟨he, bel⟩ => ?_
  subst he
  exact ⟨_, rfl, _, _, _, [], _, [], hW', trodAll_mk1 (shut_bool Tryz.underlying4 _), (trodAll_cons_mk (Below.trod versionNobody_laidOut (by kernel_rfl) (of_decide_eq_true (by kernel_rfl)) k0 bel lt0) (trodAll_cons_mk (Below.trod versionNobody_laidOut (by kernel_rfl) (of_decide_eq_true (by kernel_rfl)) k1 bel lt1) trodAll_mk0)), rfl, bel.frame _, fun h => by cases h⟩

/-- a world for the witness: the settled one, the listed variables as their text lays them -/
noncomputable def versionNobody_world (os : Os) : World :=
  { World.holding Tryz.prog os ⟨#[], #[], []⟩ with heap := (((World.holding Tryz.prog os ⟨#[], #[], []⟩).heap.modify 1 fun | .cells _ t frozen => .cells (Go.Pinned.utf8FirstZ.map fun (n : Nat) => Value.int .u8 (n : Int)).toArray t frozen | o => o).modify 2 fun | .cells _ t frozen => .cells #[.int .u8 128, .int .u8 191, .int .u8 160, .int .u8 191, .int .u8 128, .int .u8 159, .int .u8 144, .int .u8 191, .int .u8 128, .int .u8 143, .int .u8 0, .int .u8 0, .int .u8 0, .int .u8 0, .int .u8 0, .int .u8 0, .int .u8 0, .int .u8 0, .int .u8 0, .int .u8 0, .int .u8 0, .int .u8 0, .int .u8 0, .int .u8 0, .int .u8 0, .int .u8 0, .int .u8 0, .int .u8 0, .int .u8 0, .int .u8 0, .int .u8 0, .int .u8 0] t frozen | o => o) }
set_option maxRecDepth 100000 in
theorem versionNobody_met (os : Os) : laidMet Tryz.prog Rows.versionNobodyRow.laid ((versionNobody_world os).forCall (fun _ _ => 0) ⟨#[], #[.agg #[.slice none 0 0, .slice none 0 0, .int .i64 0, .int .i64 0, .int .i64 0, .int .i64 0, .int .i64 0, .int .i64 0, .int .i64 0], .bool false], []⟩).memory :=
  laidMet_of_run' 8 (by kernel_rfl) (by kernel_rfl)
set_option maxRecDepth 100000 in
theorem versionNobody_reads (os : Os) {H : Type} (enc : TypeId × Value → H) : ∃ places, DataW.whole enc Tryz.prog ((versionNobody_world os).forCall (fun _ _ => 0) ⟨#[], #[.agg #[.slice none 0 0, .slice none 0 0, .int .i64 0, .int .i64 0, .int .i64 0, .int .i64 0, .int .i64 0, .int .i64 0, .int .i64 0], .bool false], []⟩).memory Tryz.f3.params.toList Rows.versionNobodySpec.vars false #[.agg #[.slice none 0 0, .slice none 0 0, .int .i64 0, .int .i64 0, .int .i64 0, .int .i64 0, .int .i64 0, .int .i64 0, .int .i64 0], .bool false].toList 8 = some ([.agg [.agg [.nil, .nil], .lit (.int .i64 0), .agg [.agg [.lit (.int .i64 0), .lit (.int .i64 0)], .agg [.lit (.int .i64 0), .lit (.int .i64 0)], .agg [.lit (.int .i64 0), .lit (.int .i64 0)]]], .lit (.bool false)], [], places) :=
  ⟨[], by kernel_rfl⟩
set_option maxRecDepth 100000 in
theorem versionNobody_lifted (os : Os) (started : os.Started) (H : Type) (enc : TypeId × Value → H) (F : Stop.Interp) :
    ReturnsInHanded {} Tryz.checked os 3 .any ((OpenSpec.ofChange Rows.versionNobodySpec).preRow enc Tryz.prog Tryz.f3 Rows.versionNobodyRow.domain false Rows.versionNobodyRow.laid) (((OpenSpec.ofChange Rows.versionNobodySpec).at F).post enc Tryz.prog Tryz.f3 false true false false) := by
  obtain ⟨places, hx⟩ := versionNobody_reads os enc
  refine returnsInHanded_of_row (C := Tryz.checked) (s := OpenSpec.ofChange Rows.versionNobodySpec) versionNobody_own started (by kernel_rfl) Tryz.func3
    (witness_row_at (enc := enc) (C := Tryz.checked) false (versionNobody_world os) #[.agg #[.slice none 0 0, .slice none 0 0, .int .i64 0, .int .i64 0, .int .i64 0, .int .i64 0, .int .i64 0, .int .i64 0, .int .i64 0], .bool false] rfl (by kernel_rfl) (by kernel_rfl) (by kernel_rfl)
      (OpenSpec.preRow_of_cond 8 hx (by kernel_rfl) (fun k hk => by cases hk) (by kernel_rfl) (versionNobody_met os))) ?_
  intro W base args ds gs before hval hW _ _ _ _ _ _
  exact versionNobody_contract H enc W base args ds gs before hval hW
theorem versionNobody_clo : Tryz.prog.closure 3 = [3, 5, 15, 52, 112, 6, 16, 18, 17, 53, 54, 19, 55, 79, 137, 192, 237, 225, 236, 267, 265, 268, 194, 195, 142, 113, 114, 178, 198, 197, 176, 177, 224, 256, 266, 115, 179, 226, 56, 95, 70, 86, 149, 150, 204, 240, 151, 23, 152, 116, 99, 148, 203, 85, 117, 146, 200, 201, 239, 180, 227, 118, 119, 181, 228, 120, 20, 57, 59, 122, 121, 182, 183, 184, 229, 185, 230, 257, 58, 21, 60, 123, 61, 89, 153, 63, 62, 64, 65, 124, 186, 231, 255, 281, 292, 309, 254, 232, 77, 138, 139, 143, 196, 140, 134, 193, 233, 259, 258, 260, 262, 282, 261, 264, 285, 295, 283, 293, 284, 294, 310, 319, 321, 311, 312, 313, 263, 80, 74, 133, 234, 106, 103, 174, 67, 127, 188, 128, 189, 218, 66, 125, 104, 126, 187, 69, 131, 68, 129, 190, 166, 130, 22, 24, 71, 88, 105, 165, 51, 72, 132, 92, 50, 107, 108, 167, 169, 219, 168, 217, 253, 109, 170, 220, 171, 221, 173, 222, 172, 223, 110, 111, 175, 9, 7, 26, 73, 35, 91, 90, 154, 205, 241, 242, 269, 270, 286, 296, 155, 27, 28, 75, 76, 135, 136, 191, 235, 78, 141, 8, 29, 32, 81, 31, 87, 30, 82, 83, 102, 144, 145, 199, 238, 84, 147, 202, 25] := by kernel_rfl
theorem versionNobody_inPlace : Tryz.prog.inPlace 3 = ["internal/abi.NoEscape", "internal/bytealg.MakeNoZero", "internal/bytealg.IndexByteString", "internal/bytealg.IndexString", "slices.overlaps[int]"] := by
  unfold Program.inPlace
  rw [versionNobody_clo]
  kernel_rfl
theorem versionNobody_unf : Tryz.prog.unfollowed 3 = true := by
  unfold Program.unfollowed
  rw [versionNobody_clo]
  kernel_rfl
theorem versionNobody_rec : Tryz.prog.recurses 3 = true := by
  unfold Program.recurses
  rw [versionNobody_unf]
  rfl
theorem versionNobody_named : Tryz.prog.varsNamed 3 = ["unicode/utf8.first", "unicode/utf8.acceptRanges", "internal/bytealg.MaxLen"] := by
  unfold Program.varsNamed
  rw [versionNobody_clo]
  kernel_rfl
theorem versionNobody_maps : mapsRowed Tryz.prog = true := by kernel_rfl
theorem versionNobody_closed : joinedFacts Tryz.prog 3 Tryz.f3 (OpenSpec.ofChange Rows.versionNobodySpec).bare Rows.versionNobodyRow = true := by
  unfold joinedFacts
  rw [versionNobody_inPlace, versionNobody_unf, versionNobody_rec, versionNobody_named, versionNobody_laidOut, versionNobody_maps]
  kernel_rfl
theorem versionNobody_said : Rows.VersionNobodySaid :=
  OpenClaim.holds_of_cond 3 Tryz.f3 rfl rfl rfl rfl rfl rfl rfl ⟨rfl, rfl, rfl, rfl, rfl⟩ rfl rfl rfl rfl rfl (by kernel_rfl) Tryz.func3 versionNobody_closed
    (of_decide_eq_true (by kernel_rfl)) (by unfold Func.isWrapper; first | (rw [if_pos (by decide +kernel)]; kernel_rfl) | (rw [if_neg (by decide +kernel)]; exact ⟨rfl, rfl⟩))
    (fun os started H enc _ F => by rw [OpenClaim.pre_eq_preRow]; exact versionNobody_lifted os started H enc F)
theorem versionNobody_plain (f : FuncId) (fn : Func) (hf : Tryz.pinned.checked.prog.funcNamed "pithead/pitheadlaw41.VersionNobody" = some f) (hfn : Tryz.pinned.checked.prog.funcs[f]? = some fn) :
    true = Tryz.pinned.checked.prog.looks [] ∧ ∀ (j : Nat) t, fn.params[j]? = some t → Tryz.pinned.checked.prog.wantsStandIn t = false := by
  obtain rfl : f = 3 := Option.some.inj ((show Tryz.prog.funcNamed "pithead/pitheadlaw41.VersionNobody" = some 3 by kernel_rfl).symm.trans hf) |>.symm
  obtain rfl : fn = Tryz.f3 := (Option.some.inj (Tryz.func3.symm.trans hfn)).symm
  refine ⟨by kernel_rfl, fun j t ht => ?_⟩
  rw [Tryz.params3] at ht
  have hm := Array.mem_of_getElem? ht
  have : t = 30 ∨ t = 4 := by simpa using hm
  rcases this with rfl | rfl
  · exact (show Tryz.prog.wantsStandIn 30 = false by kernel_rfl)
  · exact (show Tryz.prog.wantsStandIn 4 = false by kernel_rfl)
/-- the tied card -/
theorem versionNobody_holds : Rows.VersionNobodyCardSaid :=
  Claim7.holds_tied_plain_at .later [] _ _ _ _ versionNobody_said (fun _ h => by cases h) (by kernel_rfl) (fun _ h => by cases h) versionNobody_row_tie rfl ⟨rfl, rfl⟩ (by kernel_rfl) rfl versionNobody_plain (by kernel_rfl)
end Go.Proofs.YtjflognbeehccaaGreatDoor
