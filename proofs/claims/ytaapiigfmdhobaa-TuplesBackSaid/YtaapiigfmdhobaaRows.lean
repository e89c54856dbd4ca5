/-
  No cell of these rows narrows 'for every input' (looked for: loops, veiled, ifaces, maps, wideKeys, modest, calm, conditions, laid).
  DERIVED. THE GIVEN ROWS OF THIS SEAT. 3 by the template 'for every input the law returns true; each argument reads behind the call as it read before'; 0 by the template 'total and deterministic' (their statements: YtaapiigfmdhobaaTotals.lean).
  GIVEN WITH THE SEED: the statements are not yours to turn. If you find one false, say at which input.
  Laid BY PROGRAM, IN A SANDBOX (cutbox-rows.mjs): the forced cells as the released guide's own fill.sh prints them over the translation 8891429cd8eeab17… (all of the seat's roots in one cut). By AI agents, Wed Nov 11 2026. No macro, syntax, notation, axiom, sorry.
-/
import Derived.Test.YtaapiigfmdhobaaChecked
import GoSem.Claim
import GoSem.ClaimJoined
import GoSem.ClaimMapViews
import Derived.JoinedTies
import Derived.KernelRfl
namespace Go.Proofs.Ytaapiigfmdhobaa
/- THE CELL 'sum', in the pinned program and in every row, IS THE sha256 OF THE DUMP (.gsa) THAT YtaapiigfmdhobaaProg.lean LOADS. Nothing in Lean hashes anything: it is a label: what it is worth is what the hold of that sum in a sandbox is worth. -/
noncomputable def Try.pinned : Pinned := { name := "ytaapiigfmdhobaa", sum := "8891429cd8eeab177f477733f9afc615d6f766dc953c7df44d3a01a813988eac", checked := Try.checked }
namespace Rows
def none {H : Type} : Left H := { results := [], args := [] }

/-- 'pitheadlaw28.CensusTree': WHATEVER THE INPUT: true; the input reads as it did. -/
def censusTreeSpec : ChangeSpec := { name := "censusTree", fn := fun _ => fun
  | [d1, d2] => { results := [.lit (.bool true)], args := [d1, d2] }
  | _ => none }
def censusTreeRow : OpenClaim := { program := "ytaapiigfmdhobaa", sum := "8891429cd8eeab177f477733f9afc615d6f766dc953c7df44d3a01a813988eac", func := "pithead/pitheadlaw28.CensusTree", spec := "censusTree", unfollowed := true, recurses := true, apart := false }
def CensusTreeSaid : Prop := censusTreeRow.holds Try.pinned (OpenSpec.ofChange censusTreeSpec)

/-- ITS FALSE NEIGHBOUR: 'it returns false'. Refute it at one input. -/
def censusTreeWrong : ChangeSpec := { name := "censusTree", fn := fun _ => fun
  | [d1, d2] => { results := [.lit (.bool false)], args := [d1, d2] }
  | _ => none }
def CensusTreeWrongFalsely : Prop := censusTreeRow.holds Try.pinned (OpenSpec.ofChange censusTreeWrong)

/-- 'pitheadlaw28.CensusCounts': WHATEVER THE INPUT: true; the input reads as it did. -/
def censusCountsSpec : ChangeSpec := { name := "censusCounts", fn := fun _ => fun
  | [d1, d2] => { results := [.lit (.bool true)], args := [d1, d2] }
  | _ => none }
def censusCountsRow : OpenClaim := { program := "ytaapiigfmdhobaa", sum := "8891429cd8eeab177f477733f9afc615d6f766dc953c7df44d3a01a813988eac", func := "pithead/pitheadlaw28.CensusCounts", spec := "censusCounts", unfollowed := true, recurses := true, apart := false }
def CensusCountsSaid : Prop := censusCountsRow.holds Try.pinned (OpenSpec.ofChange censusCountsSpec)

/-- ITS FALSE NEIGHBOUR: 'it returns false'. Refute it at one input. -/
def censusCountsWrong : ChangeSpec := { name := "censusCounts", fn := fun _ => fun
  | [d1, d2] => { results := [.lit (.bool false)], args := [d1, d2] }
  | _ => none }
def CensusCountsWrongFalsely : Prop := censusCountsRow.holds Try.pinned (OpenSpec.ofChange censusCountsWrong)

/-- 'pitheadlaw29.TuplesBack': WHATEVER THE INPUT: true; the input reads as it did. -/
def tuplesBackSpec : ChangeSpec := { name := "tuplesBack", fn := fun _ => fun
  | [d1, d2] => { results := [.lit (.bool true)], args := [d1, d2] }
  | _ => none }
def tuplesBackRow : OpenClaim := { program := "ytaapiigfmdhobaa", sum := "8891429cd8eeab177f477733f9afc615d6f766dc953c7df44d3a01a813988eac", func := "pithead/pitheadlaw29.TuplesBack", spec := "tuplesBack", unfollowed := true, recurses := true, apart := false }
def TuplesBackSaid : Prop := tuplesBackRow.holds Try.pinned (OpenSpec.ofChange tuplesBackSpec)

/-- ITS FALSE NEIGHBOUR: 'it returns false'. Refute it at one input. -/
def tuplesBackWrong : ChangeSpec := { name := "tuplesBack", fn := fun _ => fun
  | [d1, d2] => { results := [.lit (.bool false)], args := [d1, d2] }
  | _ => none }
def TuplesBackWrongFalsely : Prop := tuplesBackRow.holds Try.pinned (OpenSpec.ofChange tuplesBackWrong)

/- THE SECOND FORM. 'bulk': how many values and letters a reading holds, each counted each time it is reached (what is shared counts as often as it is met; a slice's spare places count too). A statement '..UptoSaid' is the law's where the arguments, and the package variables that the reading takes, are together of bulk at most 1048576: NARROWER than '..Said'. Prove '..Said' where nothing that the law and all that it calls make is longer than what came in: it says more and counts as full. Else prove '..UptoSaid'. A law counts once. -/
mutual
def uptoBulk {H : Type} : DataW H → Nat
  | .lit (.string bytes) => bytes.length + 1
  | .lit _ => 1
  | .nil => 1
  | .ptr d => uptoBulk d + 1
  | .slice elems spare => uptoBulkAll elems + uptoBulkAll spare + 1
  | .agg parts => uptoBulkAll parts + 1
  | .iface _ d => uptoBulk d + 1
  | .map entries => uptoBulkEntries entries + 1
  | .held _ => 1
def uptoBulkAll {H : Type} : List (DataW H) → Nat
  | [] => 0
  | d :: r => uptoBulk d + uptoBulkAll r
def uptoBulkEntries {H : Type} : List (Lit × DataW H) → Nat
  | [] => 0
  | x :: r => uptoBulkEntry x + uptoBulkEntries r
def uptoBulkEntry {H : Type} : Lit × DataW H → Nat
  | (.string bytes, d) => bytes.length + uptoBulk d + 1
  | (_, d) => uptoBulk d + 1
 end
def uptoSmall : (H : Type) → List (DataW H) → Bool := fun _ ds => decide (uptoBulkAll ds ≤ 1048576)
def OpenSpec.upto (s : _root_.Go.ChangeSpec) : _root_.Go.OpenSpec := { _root_.Go.OpenSpec.ofChange s with cond := some uptoSmall }

/-- 'pitheadlaw28.CensusTree', WHERE WHAT IT READS IS OF BULK AT MOST 1048576: true; the input reads as it did. -/
def censusTreeUptoRow : OpenClaim := { program := "ytaapiigfmdhobaa", sum := "8891429cd8eeab177f477733f9afc615d6f766dc953c7df44d3a01a813988eac", func := "pithead/pitheadlaw28.CensusTree", spec := "censusTree", unfollowed := true, recurses := true, apart := false, narrowed := true }
def CensusTreeUptoSaid : Prop := censusTreeUptoRow.holds Try.pinned (OpenSpec.upto censusTreeSpec)

/-- 'pitheadlaw28.CensusCounts', WHERE WHAT IT READS IS OF BULK AT MOST 1048576: true; the input reads as it did. -/
def censusCountsUptoRow : OpenClaim := { program := "ytaapiigfmdhobaa", sum := "8891429cd8eeab177f477733f9afc615d6f766dc953c7df44d3a01a813988eac", func := "pithead/pitheadlaw28.CensusCounts", spec := "censusCounts", unfollowed := true, recurses := true, apart := false, narrowed := true }
def CensusCountsUptoSaid : Prop := censusCountsUptoRow.holds Try.pinned (OpenSpec.upto censusCountsSpec)

/-- 'pitheadlaw29.TuplesBack', WHERE WHAT IT READS IS OF BULK AT MOST 1048576: true; the input reads as it did. -/
def tuplesBackUptoRow : OpenClaim := { program := "ytaapiigfmdhobaa", sum := "8891429cd8eeab177f477733f9afc615d6f766dc953c7df44d3a01a813988eac", func := "pithead/pitheadlaw29.TuplesBack", spec := "tuplesBack", unfollowed := true, recurses := true, apart := false, narrowed := true }
def TuplesBackUptoSaid : Prop := tuplesBackUptoRow.holds Try.pinned (OpenSpec.upto tuplesBackSpec)

end Rows
end Go.Proofs.Ytaapiigfmdhobaa
