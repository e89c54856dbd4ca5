/-
  No cell of these rows narrows 'for every input' (looked for: loops, veiled, ifaces, maps, wideKeys, modest, calm, conditions, laid).
  DERIVED. THE GIVEN ROWS OF THIS SEAT. 3 by the template 'for every input the law returns true; each argument reads behind the call as it read before'; 0 by the template 'total and deterministic' (their statements: YtabcgofihdklbaaTotals.lean).
  GIVEN WITH THE SEED: the statements are not yours to turn. If you find one false, say at which input.
  Laid BY PROGRAM, IN A SANDBOX (cutbox-rows.mjs): the forced cells as the released guide's own fill.sh prints them over the translation bf6cefb5f921317d… (all of the seat's roots in one cut). By AI agents, Wed Nov 11 2026. No macro, syntax, notation, axiom, sorry.
-/
import Derived.Test.YtabcgofihdklbaaChecked
import GoSem.Claim
import GoSem.ClaimJoined
import GoSem.ClaimMapViews
import Derived.JoinedTies
import Derived.KernelRfl
namespace Go.Proofs.Ytabcgofihdklbaa
/- THE CELL 'sum', in the pinned program and in every row, IS THE sha256 OF THE DUMP (.gsa) THAT YtabcgofihdklbaaProg.lean LOADS. Nothing in Lean hashes anything: it is a label: what it is worth is what the hold of that sum in a sandbox is worth. -/
noncomputable def Try.pinned : Pinned := { name := "ytabcgofihdklbaa", sum := "bf6cefb5f921317d667954469608401cedb1df091472b6cdd785120877e6f82b", checked := Try.checked }
namespace Rows
def none {H : Type} : Left H := { results := [], args := [] }

/-- 'pitheadlaw14.DictNews': WHATEVER THE INPUT: true; the input reads as it did. -/
def dictNewsSpec : ChangeSpec := { name := "dictNews", fn := fun _ => fun
  | [d1, d2, d3] => { results := [.lit (.bool true)], args := [d1, d2, d3] }
  | _ => none }
def dictNewsRow : OpenClaim := { program := "ytabcgofihdklbaa", sum := "bf6cefb5f921317d667954469608401cedb1df091472b6cdd785120877e6f82b", func := "pithead/pitheadlaw14.DictNews", spec := "dictNews", recurses := true, apart := false }
def DictNewsSaid : Prop := dictNewsRow.holds Try.pinned (OpenSpec.ofChange dictNewsSpec)

/-- ITS FALSE NEIGHBOUR: 'it returns false'. Refute it at one input. -/
def dictNewsWrong : ChangeSpec := { name := "dictNews", fn := fun _ => fun
  | [d1, d2, d3] => { results := [.lit (.bool false)], args := [d1, d2, d3] }
  | _ => none }
def DictNewsWrongFalsely : Prop := dictNewsRow.holds Try.pinned (OpenSpec.ofChange dictNewsWrong)

/-- 'pitheadlaw14.DictJoins': WHATEVER THE INPUT: true; the input reads as it did. -/
def dictJoinsSpec : ChangeSpec := { name := "dictJoins", fn := fun _ => fun
  | [d1, d2] => { results := [.lit (.bool true)], args := [d1, d2] }
  | _ => none }
def dictJoinsRow : OpenClaim := { program := "ytabcgofihdklbaa", sum := "bf6cefb5f921317d667954469608401cedb1df091472b6cdd785120877e6f82b", func := "pithead/pitheadlaw14.DictJoins", spec := "dictJoins", unfollowed := true, recurses := true, apart := false }
def DictJoinsSaid : Prop := dictJoinsRow.holds Try.pinned (OpenSpec.ofChange dictJoinsSpec)

/-- ITS FALSE NEIGHBOUR: 'it returns false'. Refute it at one input. -/
def dictJoinsWrong : ChangeSpec := { name := "dictJoins", fn := fun _ => fun
  | [d1, d2] => { results := [.lit (.bool false)], args := [d1, d2] }
  | _ => none }
def DictJoinsWrongFalsely : Prop := dictJoinsRow.holds Try.pinned (OpenSpec.ofChange dictJoinsWrong)

/-- 'pitheadlaw14.DictNobody': WHATEVER THE INPUT: true; the input reads as it did. -/
def dictNobodySpec : ChangeSpec := { name := "dictNobody", fn := fun _ => fun
  | [d1, d2, d3] => { results := [.lit (.bool true)], args := [d1, d2, d3] }
  | _ => none }
def dictNobodyRow : OpenClaim := { program := "ytabcgofihdklbaa", sum := "bf6cefb5f921317d667954469608401cedb1df091472b6cdd785120877e6f82b", func := "pithead/pitheadlaw14.DictNobody", spec := "dictNobody", unfollowed := true, recurses := true, apart := false }
def DictNobodySaid : Prop := dictNobodyRow.holds Try.pinned (OpenSpec.ofChange dictNobodySpec)

/-- ITS FALSE NEIGHBOUR: 'it returns false'. Refute it at one input. -/
def dictNobodyWrong : ChangeSpec := { name := "dictNobody", fn := fun _ => fun
  | [d1, d2, d3] => { results := [.lit (.bool false)], args := [d1, d2, d3] }
  | _ => none }
def DictNobodyWrongFalsely : Prop := dictNobodyRow.holds Try.pinned (OpenSpec.ofChange dictNobodyWrong)

/- THE SECOND FORM. 'bulk': how many values and letters a reading holds, each counted each time it is reached (what is shared counts as often as it is met; a slice's spare places count too). A statement '..UptoSaid' is the law's where the arguments, and the package variables that the reading takes, are together of bulk at most 1048576: NARROWER than '..Said'. Prove '..Said' where nothing that the law and all that it calls make is longer than what came in: it says more and counts as full. Else prove '..UptoSaid'. A law counts once. -/
mutual
def uptoBulk {H : Type} : DataW H → Nat
  | .lit (.string bytes) => bytes.length + 1
  | .lit _ => 1
  | .nil => 1
  | .ptr d => uptoBulk d + 1
  | .slice elems spare => uptoBulkAll elems + uptoBulkAll spare + 1
  | .agg parts => uptoBulkAll parts + 1
  | .iface _ d => uptoBulk d + 1
  | .map entries => uptoBulkEntries entries + 1
  | .held _ => 1
def uptoBulkAll {H : Type} : List (DataW H) → Nat
  | [] => 0
  | d :: r => uptoBulk d + uptoBulkAll r
def uptoBulkEntries {H : Type} : List (Lit × DataW H) → Nat
  | [] => 0
  | x :: r => uptoBulkEntry x + uptoBulkEntries r
def uptoBulkEntry {H : Type} : Lit × DataW H → Nat
  | (.string bytes, d) => bytes.length + uptoBulk d + 1
  | (_, d) => uptoBulk d + 1
 end
def uptoSmall : (H : Type) → List (DataW H) → Bool := fun _ ds => decide (uptoBulkAll ds ≤ 1048576)
def OpenSpec.upto (s : _root_.Go.ChangeSpec) : _root_.Go.OpenSpec := { _root_.Go.OpenSpec.ofChange s with cond := some uptoSmall }

/-- 'pitheadlaw14.DictNews', WHERE WHAT IT READS IS OF BULK AT MOST 1048576: true; the input reads as it did. -/
def dictNewsUptoRow : OpenClaim := { program := "ytabcgofihdklbaa", sum := "bf6cefb5f921317d667954469608401cedb1df091472b6cdd785120877e6f82b", func := "pithead/pitheadlaw14.DictNews", spec := "dictNews", recurses := true, apart := false, narrowed := true }
def DictNewsUptoSaid : Prop := dictNewsUptoRow.holds Try.pinned (OpenSpec.upto dictNewsSpec)

/-- 'pitheadlaw14.DictJoins', WHERE WHAT IT READS IS OF BULK AT MOST 1048576: true; the input reads as it did. -/
def dictJoinsUptoRow : OpenClaim := { program := "ytabcgofihdklbaa", sum := "bf6cefb5f921317d667954469608401cedb1df091472b6cdd785120877e6f82b", func := "pithead/pitheadlaw14.DictJoins", spec := "dictJoins", unfollowed := true, recurses := true, apart := false, narrowed := true }
def DictJoinsUptoSaid : Prop := dictJoinsUptoRow.holds Try.pinned (OpenSpec.upto dictJoinsSpec)

/-- 'pitheadlaw14.DictNobody', WHERE WHAT IT READS IS OF BULK AT MOST 1048576: true; the input reads as it did. -/
def dictNobodyUptoRow : OpenClaim := { program := "ytabcgofihdklbaa", sum := "bf6cefb5f921317d667954469608401cedb1df091472b6cdd785120877e6f82b", func := "pithead/pitheadlaw14.DictNobody", spec := "dictNobody", unfollowed := true, recurses := true, apart := false, narrowed := true }
def DictNobodyUptoSaid : Prop := dictNobodyUptoRow.holds Try.pinned (OpenSpec.upto dictNobodySpec)

end Rows
end Go.Proofs.Ytabcgofihdklbaa
