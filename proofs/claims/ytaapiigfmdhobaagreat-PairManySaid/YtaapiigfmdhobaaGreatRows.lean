/-
  No cell of these rows narrows 'for every input' (looked for: loops, veiled, ifaces, maps, wideKeys, modest, calm, conditions, laid).
  DERIVED. THE GIVEN ROWS OF THIS SEAT. 7 by the template 'for every input the law returns true; each argument reads behind the call as it read before'; 0 by the template 'total and deterministic' (their statements: YtaapiigfmdhobaaGreatTotals.lean).
  GIVEN WITH THE SEED: the statements are not yours to turn. If you find one false, say at which input.
  Laid BY PROGRAM, IN A SANDBOX (cutbox-rows.mjs): the forced cells as the released guide's own fill.sh prints them over the translation c724cdb9957aec0f… (all of the seat's roots in one cut). By AI agents, Wed Nov 11 2026. No macro, syntax, notation, axiom, sorry.
-/
import Derived.Test.YtaapiigfmdhobaaGreatChecked
import GoSem.Claim
import GoSem.ClaimJoined
import GoSem.ClaimMapViews
import Derived.JoinedTies
import Derived.KernelRfl
namespace Go.Proofs.YtaapiigfmdhobaaGreat
/- THE CELL 'sum', in the pinned program and in every row, IS THE sha256 OF THE DUMP (.gsa) THAT YtaapiigfmdhobaaGreatProg.lean LOADS. Nothing in Lean hashes anything: it is a label: what it is worth is what the hold of that sum in a sandbox is worth. -/
noncomputable def Tryz.pinned : Pinned := { name := "ytaapiigfmdhobaagreat", sum := "c724cdb9957aec0f75e64af8d7308562bc0a68c56bc8a1643bbe5bd673189a21", checked := Tryz.checked }
namespace Rows
def none {H : Type} : Left H := { results := [], args := [] }

/-- 'pitheadlaw26.BuildBuilds': WHATEVER THE INPUT: true; the input reads as it did. -/
def buildBuildsSpec : ChangeSpec := { name := "buildBuilds", fn := fun _ => fun
  | [d1, d2, d3] => { results := [.lit (.bool true)], args := [d1, d2, d3] }
  | _ => none }
def buildBuildsRow : OpenClaim := { program := "ytaapiigfmdhobaagreat", sum := "c724cdb9957aec0f75e64af8d7308562bc0a68c56bc8a1643bbe5bd673189a21", func := "pithead/pitheadlaw26.BuildBuilds", spec := "buildBuilds", unfollowed := true, recurses := true, plainKeys := false, apart := false }
def BuildBuildsSaid : Prop := buildBuildsRow.holds Tryz.pinned (OpenSpec.ofChange buildBuildsSpec)

/-- ITS FALSE NEIGHBOUR: 'it returns false'. Refute it at one input. -/
def buildBuildsWrong : ChangeSpec := { name := "buildBuilds", fn := fun _ => fun
  | [d1, d2, d3] => { results := [.lit (.bool false)], args := [d1, d2, d3] }
  | _ => none }
def BuildBuildsWrongFalsely : Prop := buildBuildsRow.holds Tryz.pinned (OpenSpec.ofChange buildBuildsWrong)

/-- 'pitheadlaw26.BuildTells': WHATEVER THE INPUT: true; the input reads as it did. -/
def buildTellsSpec : ChangeSpec := { name := "buildTells", fn := fun _ => fun
  | [d1, d2] => { results := [.lit (.bool true)], args := [d1, d2] }
  | _ => none }
def buildTellsRow : OpenClaim := { program := "ytaapiigfmdhobaagreat", sum := "c724cdb9957aec0f75e64af8d7308562bc0a68c56bc8a1643bbe5bd673189a21", func := "pithead/pitheadlaw26.BuildTells", spec := "buildTells", unfollowed := true, recurses := true, plainKeys := false, apart := false }
def BuildTellsSaid : Prop := buildTellsRow.holds Tryz.pinned (OpenSpec.ofChange buildTellsSpec)

/-- ITS FALSE NEIGHBOUR: 'it returns false'. Refute it at one input. -/
def buildTellsWrong : ChangeSpec := { name := "buildTells", fn := fun _ => fun
  | [d1, d2] => { results := [.lit (.bool false)], args := [d1, d2] }
  | _ => none }
def BuildTellsWrongFalsely : Prop := buildTellsRow.holds Tryz.pinned (OpenSpec.ofChange buildTellsWrong)

/-- 'pitheadlaw26.BuildShares': WHATEVER THE INPUT: true; the input reads as it did. -/
def buildSharesSpec : ChangeSpec := { name := "buildShares", fn := fun _ => fun
  | [d1, d2] => { results := [.lit (.bool true)], args := [d1, d2] }
  | _ => none }
def buildSharesRow : OpenClaim := { program := "ytaapiigfmdhobaagreat", sum := "c724cdb9957aec0f75e64af8d7308562bc0a68c56bc8a1643bbe5bd673189a21", func := "pithead/pitheadlaw26.BuildShares", spec := "buildShares", unfollowed := true, recurses := true, plainKeys := false, apart := false }
def BuildSharesSaid : Prop := buildSharesRow.holds Tryz.pinned (OpenSpec.ofChange buildSharesSpec)

/-- ITS FALSE NEIGHBOUR: 'it returns false'. Refute it at one input. -/
def buildSharesWrong : ChangeSpec := { name := "buildShares", fn := fun _ => fun
  | [d1, d2] => { results := [.lit (.bool false)], args := [d1, d2] }
  | _ => none }
def BuildSharesWrongFalsely : Prop := buildSharesRow.holds Tryz.pinned (OpenSpec.ofChange buildSharesWrong)

/-- 'pitheadlaw30.PairAll': WHATEVER THE INPUT: true; the input reads as it did. -/
def pairAllSpec : ChangeSpec := { name := "pairAll", fn := fun _ => fun
  | [d1, d2, d3] => { results := [.lit (.bool true)], args := [d1, d2, d3] }
  | _ => none }
def pairAllRow : OpenClaim := { program := "ytaapiigfmdhobaagreat", sum := "c724cdb9957aec0f75e64af8d7308562bc0a68c56bc8a1643bbe5bd673189a21", func := "pithead/pitheadlaw30.PairAll", spec := "pairAll", unfollowed := true, recurses := true, plainKeys := false, apart := false }
def PairAllSaid : Prop := pairAllRow.holds Tryz.pinned (OpenSpec.ofChange pairAllSpec)

/-- ITS FALSE NEIGHBOUR: 'it returns false'. Refute it at one input. -/
def pairAllWrong : ChangeSpec := { name := "pairAll", fn := fun _ => fun
  | [d1, d2, d3] => { results := [.lit (.bool false)], args := [d1, d2, d3] }
  | _ => none }
def PairAllWrongFalsely : Prop := pairAllRow.holds Tryz.pinned (OpenSpec.ofChange pairAllWrong)

/-- 'pitheadlaw30.PairMany': WHATEVER THE INPUT: true; the input reads as it did. -/
def pairManySpec : ChangeSpec := { name := "pairMany", fn := fun _ => fun
  | [d1, d2] => { results := [.lit (.bool true)], args := [d1, d2] }
  | _ => none }
def pairManyRow : OpenClaim := { program := "ytaapiigfmdhobaagreat", sum := "c724cdb9957aec0f75e64af8d7308562bc0a68c56bc8a1643bbe5bd673189a21", func := "pithead/pitheadlaw30.PairMany", spec := "pairMany", unfollowed := true, recurses := true, plainKeys := false, apart := false }
def PairManySaid : Prop := pairManyRow.holds Tryz.pinned (OpenSpec.ofChange pairManySpec)

/-- ITS FALSE NEIGHBOUR: 'it returns false'. Refute it at one input. -/
def pairManyWrong : ChangeSpec := { name := "pairMany", fn := fun _ => fun
  | [d1, d2] => { results := [.lit (.bool false)], args := [d1, d2] }
  | _ => none }
def PairManyWrongFalsely : Prop := pairManyRow.holds Tryz.pinned (OpenSpec.ofChange pairManyWrong)

/-- 'pitheadlaw31.SameSound': WHATEVER THE INPUT: true; the input reads as it did. -/
def sameSoundSpec : ChangeSpec := { name := "sameSound", fn := fun _ => fun
  | [d1, d2, d3, d4] => { results := [.lit (.bool true)], args := [d1, d2, d3, d4] }
  | _ => none }
def sameSoundRow : OpenClaim := { program := "ytaapiigfmdhobaagreat", sum := "c724cdb9957aec0f75e64af8d7308562bc0a68c56bc8a1643bbe5bd673189a21", func := "pithead/pitheadlaw31.SameSound", spec := "sameSound", unfollowed := true, recurses := true, plainKeys := false, apart := false }
def SameSoundSaid : Prop := sameSoundRow.holds Tryz.pinned (OpenSpec.ofChange sameSoundSpec)

/-- ITS FALSE NEIGHBOUR: 'it returns false'. Refute it at one input. -/
def sameSoundWrong : ChangeSpec := { name := "sameSound", fn := fun _ => fun
  | [d1, d2, d3, d4] => { results := [.lit (.bool false)], args := [d1, d2, d3, d4] }
  | _ => none }
def SameSoundWrongFalsely : Prop := sameSoundRow.holds Tryz.pinned (OpenSpec.ofChange sameSoundWrong)

/-- 'pitheadlaw33.OrderKeeps': WHATEVER THE INPUT: true; the input reads as it did. -/
def orderKeepsSpec : ChangeSpec := { name := "orderKeeps", fn := fun _ => fun
  | [d1, d2, d3, d4] => { results := [.lit (.bool true)], args := [d1, d2, d3, d4] }
  | _ => none }
def orderKeepsRow : OpenClaim := { program := "ytaapiigfmdhobaagreat", sum := "c724cdb9957aec0f75e64af8d7308562bc0a68c56bc8a1643bbe5bd673189a21", func := "pithead/pitheadlaw33.OrderKeeps", spec := "orderKeeps", unfollowed := true, recurses := true, plainKeys := false, apart := false }
def OrderKeepsSaid : Prop := orderKeepsRow.holds Tryz.pinned (OpenSpec.ofChange orderKeepsSpec)

/-- ITS FALSE NEIGHBOUR: 'it returns false'. Refute it at one input. -/
def orderKeepsWrong : ChangeSpec := { name := "orderKeeps", fn := fun _ => fun
  | [d1, d2, d3, d4] => { results := [.lit (.bool false)], args := [d1, d2, d3, d4] }
  | _ => none }
def OrderKeepsWrongFalsely : Prop := orderKeepsRow.holds Tryz.pinned (OpenSpec.ofChange orderKeepsWrong)

/- THE SECOND FORM. 'bulk': how many values and letters a reading holds, each counted each time it is reached (what is shared counts as often as it is met; a slice's spare places count too). A statement '..UptoSaid' is the law's where the arguments, and the package variables that the reading takes, are together of bulk at most 1048576: NARROWER than '..Said'. Prove '..Said' where nothing that the law and all that it calls make is longer than what came in: it says more and counts as full. Else prove '..UptoSaid'. A law counts once. -/
mutual
def uptoBulk {H : Type} : DataW H → Nat
  | .lit (.string bytes) => bytes.length + 1
  | .lit _ => 1
  | .nil => 1
  | .ptr d => uptoBulk d + 1
  | .slice elems spare => uptoBulkAll elems + uptoBulkAll spare + 1
  | .agg parts => uptoBulkAll parts + 1
  | .iface _ d => uptoBulk d + 1
  | .map entries => uptoBulkEntries entries + 1
  | .held _ => 1
def uptoBulkAll {H : Type} : List (DataW H) → Nat
  | [] => 0
  | d :: r => uptoBulk d + uptoBulkAll r
def uptoBulkEntries {H : Type} : List (Lit × DataW H) → Nat
  | [] => 0
  | x :: r => uptoBulkEntry x + uptoBulkEntries r
def uptoBulkEntry {H : Type} : Lit × DataW H → Nat
  | (.string bytes, d) => bytes.length + uptoBulk d + 1
  | (_, d) => uptoBulk d + 1
 end
def uptoSmall : (H : Type) → List (DataW H) → Bool := fun _ ds => decide (uptoBulkAll ds ≤ 1048576)
def OpenSpec.upto (s : _root_.Go.ChangeSpec) : _root_.Go.OpenSpec := { _root_.Go.OpenSpec.ofChange s with cond := some uptoSmall }

/-- 'pitheadlaw26.BuildBuilds', WHERE WHAT IT READS IS OF BULK AT MOST 1048576: true; the input reads as it did. -/
def buildBuildsUptoRow : OpenClaim := { program := "ytaapiigfmdhobaagreat", sum := "c724cdb9957aec0f75e64af8d7308562bc0a68c56bc8a1643bbe5bd673189a21", func := "pithead/pitheadlaw26.BuildBuilds", spec := "buildBuilds", unfollowed := true, recurses := true, plainKeys := false, apart := false, narrowed := true }
def BuildBuildsUptoSaid : Prop := buildBuildsUptoRow.holds Tryz.pinned (OpenSpec.upto buildBuildsSpec)

/-- 'pitheadlaw26.BuildTells', WHERE WHAT IT READS IS OF BULK AT MOST 1048576: true; the input reads as it did. -/
def buildTellsUptoRow : OpenClaim := { program := "ytaapiigfmdhobaagreat", sum := "c724cdb9957aec0f75e64af8d7308562bc0a68c56bc8a1643bbe5bd673189a21", func := "pithead/pitheadlaw26.BuildTells", spec := "buildTells", unfollowed := true, recurses := true, plainKeys := false, apart := false, narrowed := true }
def BuildTellsUptoSaid : Prop := buildTellsUptoRow.holds Tryz.pinned (OpenSpec.upto buildTellsSpec)

/-- 'pitheadlaw26.BuildShares', WHERE WHAT IT READS IS OF BULK AT MOST 1048576: true; the input reads as it did. -/
def buildSharesUptoRow : OpenClaim := { program := "ytaapiigfmdhobaagreat", sum := "c724cdb9957aec0f75e64af8d7308562bc0a68c56bc8a1643bbe5bd673189a21", func := "pithead/pitheadlaw26.BuildShares", spec := "buildShares", unfollowed := true, recurses := true, plainKeys := false, apart := false, narrowed := true }
def BuildSharesUptoSaid : Prop := buildSharesUptoRow.holds Tryz.pinned (OpenSpec.upto buildSharesSpec)

/-- 'pitheadlaw30.PairAll', WHERE WHAT IT READS IS OF BULK AT MOST 1048576: true; the input reads as it did. -/
def pairAllUptoRow : OpenClaim := { program := "ytaapiigfmdhobaagreat", sum := "c724cdb9957aec0f75e64af8d7308562bc0a68c56bc8a1643bbe5bd673189a21", func := "pithead/pitheadlaw30.PairAll", spec := "pairAll", unfollowed := true, recurses := true, plainKeys := false, apart := false, narrowed := true }
def PairAllUptoSaid : Prop := pairAllUptoRow.holds Tryz.pinned (OpenSpec.upto pairAllSpec)

/-- 'pitheadlaw30.PairMany', WHERE WHAT IT READS IS OF BULK AT MOST 1048576: true; the input reads as it did. -/
def pairManyUptoRow : OpenClaim := { program := "ytaapiigfmdhobaagreat", sum := "c724cdb9957aec0f75e64af8d7308562bc0a68c56bc8a1643bbe5bd673189a21", func := "pithead/pitheadlaw30.PairMany", spec := "pairMany", unfollowed := true, recurses := true, plainKeys := false, apart := false, narrowed := true }
def PairManyUptoSaid : Prop := pairManyUptoRow.holds Tryz.pinned (OpenSpec.upto pairManySpec)

/-- 'pitheadlaw31.SameSound', WHERE WHAT IT READS IS OF BULK AT MOST 1048576: true; the input reads as it did. -/
def sameSoundUptoRow : OpenClaim := { program := "ytaapiigfmdhobaagreat", sum := "c724cdb9957aec0f75e64af8d7308562bc0a68c56bc8a1643bbe5bd673189a21", func := "pithead/pitheadlaw31.SameSound", spec := "sameSound", unfollowed := true, recurses := true, plainKeys := false, apart := false, narrowed := true }
def SameSoundUptoSaid : Prop := sameSoundUptoRow.holds Tryz.pinned (OpenSpec.upto sameSoundSpec)

/-- 'pitheadlaw33.OrderKeeps', WHERE WHAT IT READS IS OF BULK AT MOST 1048576: true; the input reads as it did. -/
def orderKeepsUptoRow : OpenClaim := { program := "ytaapiigfmdhobaagreat", sum := "c724cdb9957aec0f75e64af8d7308562bc0a68c56bc8a1643bbe5bd673189a21", func := "pithead/pitheadlaw33.OrderKeeps", spec := "orderKeeps", unfollowed := true, recurses := true, plainKeys := false, apart := false, narrowed := true }
def OrderKeepsUptoSaid : Prop := orderKeepsUptoRow.holds Tryz.pinned (OpenSpec.upto orderKeepsSpec)

end Rows
end Go.Proofs.YtaapiigfmdhobaaGreat
