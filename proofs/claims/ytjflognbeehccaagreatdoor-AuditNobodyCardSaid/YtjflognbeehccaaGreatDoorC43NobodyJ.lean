/- The statement of AuditNobody, out of its walk: for every input the call returns true, and each argument reads afterwards as it read before. No condition. -/
import Derived.Test.YtjflognbeehccaaGreatDoorCards
import Derived.Test.YtjflognbeehccaaGreatDoorTie
import Derived.Deep.DeepHandedRow
import Derived.Lib.LaidTab
import Derived.Test.YtjflognbeehccaaGreatDoorMl
import Derived.Test.YtjflognbeehccaaGreatDoorMd
import Derived.ProofKit
import Derived.OpenShut
import Derived.ShutString
import Derived.ChangeOld
import Derived.Below
namespace Go.Proofs.YtjflognbeehccaaGreatDoor
set_option linter.unusedSimpArgs false
set_option linter.unusedVariables false
open Go.ChangeShapes Go.WideShapes Go.ChangeAt Go.RowKit
open Go.ChangeMaps (open_string shut_string)
set_option linter.unusedVariables false

theorem auditNobody_own : ownKnob Tryz.prog.godebug = none := by kernel_rfl
theorem auditNobody_laidOut : laidOutB Tryz.prog = true := by kernel_rfl

set_option maxRecDepth 100000 in
theorem auditNobody_contract (H : Type) (enc : TypeId × Value → H) (W : World) (base : Nat) (args : Array Value) (ds gs : List (DataW H)) (before : List MemPlace)
    (hval0 : ∀ (j : Nat) t v, Tryz.f4.params[j]? = some t → args[j]? = some v → Value.okWide Tryz.prog W .any base t v)
    (hW : DataW.Whole enc Tryz.prog Tryz.f4.params.toList Rows.auditNobodySpec.vars false W args.toList ds gs before) :
    Calls Tryz.prog 4 args W fun e W' => ∃ v, e = .returned v ∧ Rows.auditNobodySpec.post enc Tryz.prog Tryz.f4 false true false false W args v W' := by
  have hval : ∀ (j : Nat) t v, Tryz.f4.params[j]? = some t → args[j]? = some v → Value.okWide Tryz.prog W .any base t v := hval0
  have hW' := hW
  obtain ⟨p, q, hA0, hV, rfl, hfz, hnd⟩ := hW
  have hA : DataW.TrodAll enc Tryz.prog W 0 (fun _ => true) true Tryz.f4.params.toList args.toList ds p := hA0
  rw [Tryz.params4] at hA hval
  obtain ⟨v0, vs0, d0, ds0, p0, q0, hargs, rfl, rfl, h0, r0⟩ := trodAll_cons hA
  obtain ⟨rfl, rfl, rfl⟩ := trodAll_nil r0
  obtain rfl : args = #[v0] := by cases args; simp_all
  obtain ⟨rfl, rfl⟩ := trodVars_none hV
  have k0 := h0
  have lt0 : ∀ x ∈ p0, x.block < W.heap.size := by obtain ⟨m, hm⟩ := k0; exact DataW.trod_lt m _ _ _ hm
  obtain ⟨x0, rfl, rfl, rfl⟩ := open_bool Tryz.underlying4 (hval 0 4 v0 rfl rfl) h0
  clear hA0 hval0
  refine (Zay.true (audit_sound x0) (VRs.nil.cons (.sc _))).mono fun e W' ⟨he, bel⟩ => ?_
  subst he
  exact ⟨_, rfl, _, _, _, [], _, [], hW', trodAll_mk1 (shut_bool Tryz.underlying4 _), (trodAll_cons_mk (Below.trod auditNobody_laidOut (by kernel_rfl) (of_decide_eq_true (by kernel_rfl)) k0 bel lt0) trodAll_mk0), rfl, bel.frame _, fun h => by cases h⟩

/-- a world for the witness: the settled one, the listed variables as their text lays them -/
noncomputable def auditNobody_world (os : Os) : World :=
  { World.holding Tryz.prog os ⟨#[], #[], []⟩ with heap := (((World.holding Tryz.prog os ⟨#[], #[], []⟩).heap.modify 1 fun | .cells _ t frozen => .cells (Go.Pinned.utf8FirstZ.map fun (n : Nat) => Value.int .u8 (n : Int)).toArray t frozen | o => o).modify 2 fun | .cells _ t frozen => .cells #[.int .u8 128, .int .u8 191, .int .u8 160, .int .u8 191, .int .u8 128, .int .u8 159, .int .u8 144, .int .u8 191, .int .u8 128, .int .u8 143, .int .u8 0, .int .u8 0, .int .u8 0, .int .u8 0, .int .u8 0, .int .u8 0, .int .u8 0, .int .u8 0, .int .u8 0, .int .u8 0, .int .u8 0, .int .u8 0, .int .u8 0, .int .u8 0, .int .u8 0, .int .u8 0, .int .u8 0, .int .u8 0, .int .u8 0, .int .u8 0, .int .u8 0, .int .u8 0] t frozen | o => o) }
set_option maxRecDepth 100000 in
theorem auditNobody_met (os : Os) : laidMet Tryz.prog Rows.auditNobodyRow.laid ((auditNobody_world os).forCall (fun _ _ => 0) ⟨#[], #[.bool false], []⟩).memory :=
  laidMet_of_run' 8 (by kernel_rfl) (by kernel_rfl)
set_option maxRecDepth 100000 in
theorem auditNobody_reads (os : Os) {H : Type} (enc : TypeId × Value → H) : ∃ places, DataW.whole enc Tryz.prog ((auditNobody_world os).forCall (fun _ _ => 0) ⟨#[], #[.bool false], []⟩).memory Tryz.f4.params.toList Rows.auditNobodySpec.vars false #[.bool false].toList 8 = some ([.lit (.bool false)], [], places) :=
  ⟨[], by kernel_rfl⟩
set_option maxRecDepth 100000 in
theorem auditNobody_lifted (os : Os) (started : os.Started) (H : Type) (enc : TypeId × Value → H) (F : Stop.Interp) :
    ReturnsInHanded {} Tryz.checked os 4 .any ((OpenSpec.ofChange Rows.auditNobodySpec).preRow enc Tryz.prog Tryz.f4 Rows.auditNobodyRow.domain false Rows.auditNobodyRow.laid) (((OpenSpec.ofChange Rows.auditNobodySpec).at F).post enc Tryz.prog Tryz.f4 false true false false) := by
  obtain ⟨places, hx⟩ := auditNobody_reads os enc
  refine returnsInHanded_of_row (C := Tryz.checked) (s := OpenSpec.ofChange Rows.auditNobodySpec) auditNobody_own started (by kernel_rfl) Tryz.func4
    (witness_row_at (enc := enc) (C := Tryz.checked) false (auditNobody_world os) #[.bool false] rfl (by kernel_rfl) (by kernel_rfl) (by kernel_rfl)
      (OpenSpec.preRow_of_cond 8 hx (by kernel_rfl) (fun k hk => by cases hk) (by kernel_rfl) (auditNobody_met os))) ?_
  intro W base args ds gs before hval hW _ _ _ _ _ _
  exact auditNobody_contract H enc W base args ds gs before hval hW
theorem auditNobody_clo : Tryz.prog.closure 4 = [4, 10, 21, 60, 123, 61, 89, 153, 63, 62, 64, 65, 124, 186, 231, 255, 281, 292, 309, 254, 232, 77, 138, 139, 143, 196, 197, 198, 140, 134, 193, 233, 259, 258, 260, 262, 282, 261, 264, 285, 295, 283, 293, 284, 294, 310, 319, 321, 311, 312, 313, 263, 80, 74, 133, 234, 106, 103, 174, 67, 127, 188, 128, 189, 218, 66, 125, 104, 126, 187, 69, 131, 68, 129, 190, 166, 130, 34, 33, 32, 88, 35, 72, 132, 92, 91, 90, 154, 175, 205, 152, 241, 242, 269, 270, 286, 296, 155, 11, 36, 93, 7, 26, 73, 27, 28, 75, 76, 135, 136, 191, 235, 265, 266, 236, 237, 267, 268, 192, 225, 137, 194, 195, 78, 141, 79, 142, 12, 37, 94, 38, 9, 8, 29, 81, 31, 87, 30, 17, 53, 54, 82, 83, 102, 144, 145, 199, 149, 238, 239, 146, 200, 201, 85, 148, 203, 84, 70, 147, 202, 150, 204, 240, 86, 151, 23, 39, 55, 113, 114, 178, 176, 177, 224, 256, 115, 179, 226, 40, 95, 96, 156, 158, 157, 206, 243, 271, 272, 273, 287, 41, 42, 97, 159, 207, 208, 209, 160, 210, 244, 274, 161, 211, 245, 246, 275, 212, 247, 276, 277, 288, 213, 248, 249, 278, 290, 305, 306, 289, 297, 298, 314, 299, 315, 316, 300, 317, 318, 320, 301, 302, 303, 304, 279, 250, 280, 291, 307, 308, 162, 99, 214, 215, 251, 252, 43, 98, 163, 216, 44, 13, 45, 100, 101, 164, 46, 47, 48, 49, 50, 14, 20, 57, 59, 122, 121, 182, 183, 184, 229, 185, 181, 228, 230, 257, 119, 118, 120, 58, 51, 105, 165, 107, 108, 167, 169, 219, 168, 217, 253, 109, 170, 220, 171, 221, 173, 222, 172, 223, 110, 111] := by kernel_rfl
theorem auditNobody_inPlace : Tryz.prog.inPlace 4 = ["internal/bytealg.IndexByteString", "internal/bytealg.IndexString", "slices.overlaps[int]", "internal/abi.NoEscape", "internal/bytealg.MakeNoZero"] := by
  unfold Program.inPlace
  rw [auditNobody_clo]
  kernel_rfl
theorem auditNobody_unf : Tryz.prog.unfollowed 4 = true := by
  unfold Program.unfollowed
  rw [auditNobody_clo]
  kernel_rfl
theorem auditNobody_rec : Tryz.prog.recurses 4 = true := by
  unfold Program.recurses
  rw [auditNobody_unf]
  rfl
theorem auditNobody_named : Tryz.prog.varsNamed 4 = ["unicode/utf8.first", "unicode/utf8.acceptRanges", "internal/bytealg.MaxLen"] := by
  unfold Program.varsNamed
  rw [auditNobody_clo]
  kernel_rfl
theorem auditNobody_maps : mapsRowed Tryz.prog = true := by kernel_rfl
theorem auditNobody_closed : joinedFacts Tryz.prog 4 Tryz.f4 (OpenSpec.ofChange Rows.auditNobodySpec).bare Rows.auditNobodyRow = true := by
  unfold joinedFacts
  rw [auditNobody_inPlace, auditNobody_unf, auditNobody_rec, auditNobody_named, auditNobody_laidOut, auditNobody_maps]
  kernel_rfl
theorem auditNobody_said : Rows.AuditNobodySaid :=
  OpenClaim.holds_of_cond 4 Tryz.f4 rfl rfl rfl rfl rfl rfl rfl ⟨rfl, rfl, rfl, rfl, rfl⟩ rfl rfl rfl rfl rfl (by kernel_rfl) Tryz.func4 auditNobody_closed
    (of_decide_eq_true (by kernel_rfl)) (by unfold Func.isWrapper; first | (rw [if_pos (by decide +kernel)]; kernel_rfl) | (rw [if_neg (by decide +kernel)]; exact ⟨rfl, rfl⟩))
    (fun os started H enc _ F => by rw [OpenClaim.pre_eq_preRow]; exact auditNobody_lifted os started H enc F)
theorem auditNobody_plain (f : FuncId) (fn : Func) (hf : Tryz.pinned.checked.prog.funcNamed "pithead/pitheadlaw43.AuditNobody" = some f) (hfn : Tryz.pinned.checked.prog.funcs[f]? = some fn) :
    true = Tryz.pinned.checked.prog.looks [] ∧ ∀ (j : Nat) t, fn.params[j]? = some t → Tryz.pinned.checked.prog.wantsStandIn t = false := by
  obtain rfl : f = 4 := Option.some.inj ((show Tryz.prog.funcNamed "pithead/pitheadlaw43.AuditNobody" = some 4 by kernel_rfl).symm.trans hf) |>.symm
  obtain rfl : fn = Tryz.f4 := (Option.some.inj (Tryz.func4.symm.trans hfn)).symm
  refine ⟨by kernel_rfl, fun j t ht => ?_⟩
  rw [Tryz.params4] at ht
  have hm := Array.mem_of_getElem? ht
  have : t = 4 := by simpa using hm
  rcases this with rfl
  · exact (show Tryz.prog.wantsStandIn 4 = false by kernel_rfl)
/-- the tied card -/
theorem auditNobody_holds : Rows.AuditNobodyCardSaid :=
  Claim7.holds_tied_plain_at .later [] _ _ _ _ auditNobody_said (fun _ h => by cases h) (by kernel_rfl) (fun _ h => by cases h) auditNobody_row_tie rfl ⟨rfl, rfl⟩ (by kernel_rfl) rfl auditNobody_plain (by kernel_rfl)
end Go.Proofs.YtjflognbeehccaaGreatDoor
