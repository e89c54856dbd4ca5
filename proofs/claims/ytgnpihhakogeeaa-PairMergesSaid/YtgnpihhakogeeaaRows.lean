/-
  No cell of these rows narrows 'for every input' (looked for: loops, veiled, ifaces, maps, wideKeys, modest, calm, conditions, laid).
  DERIVED. THE GIVEN ROWS OF THIS SEAT. 8 by the template 'for every input the law returns true; each argument reads behind the call as it read before'; 0 by the template 'total and deterministic' (their statements: YtgnpihhakogeeaaTotals.lean).
  GIVEN WITH THE SEED: the statements are not yours to turn. If you find one false, say at which input.
  Laid BY PROGRAM, IN A SANDBOX (cutbox-rows.mjs): the forced cells as the released guide's own fill.sh prints them over the translation 98bb63d8fe67287e… (all of the seat's roots in one cut). By AI agents, Wed Nov 11 2026. No macro, syntax, notation, axiom, sorry.
-/
import Derived.Test.YtgnpihhakogeeaaChecked
import GoSem.Claim
import GoSem.ClaimJoined
import GoSem.ClaimMapViews
import Derived.JoinedTies
import Derived.KernelRfl
namespace Go.Proofs.Ytgnpihhakogeeaa
/- THE CELL 'sum', in the pinned program and in every row, IS THE sha256 OF THE DUMP (.gsa) THAT YtgnpihhakogeeaaProg.lean LOADS. Nothing in Lean hashes anything: it is a label: what it is worth is what the hold of that sum in a sandbox is worth. -/
noncomputable def Try.pinned : Pinned := { name := "ytgnpihhakogeeaa", sum := "98bb63d8fe67287e0389862faee3ecd1ffb3c082863b9d5d818efc4a1c24a454", checked := Try.checked }
namespace Rows
def none {H : Type} : Left H := { results := [], args := [] }

/-- 'pitheadlaw37.SourceArena': WHATEVER THE INPUT: true; the input reads as it did. -/
def sourceArenaSpec : ChangeSpec := { name := "sourceArena", fn := fun _ => fun
  | [d1, d2, d3] => { results := [.lit (.bool true)], args := [d1, d2, d3] }
  | _ => none }
def sourceArenaRow : OpenClaim := { program := "ytgnpihhakogeeaa", sum := "98bb63d8fe67287e0389862faee3ecd1ffb3c082863b9d5d818efc4a1c24a454", func := "pithead/pitheadlaw37.SourceArena", spec := "sourceArena", unfollowed := true, recurses := true, plainKeys := false, apart := false }
def SourceArenaSaid : Prop := sourceArenaRow.holds Try.pinned (OpenSpec.ofChange sourceArenaSpec)

/-- ITS FALSE NEIGHBOUR: 'it returns false'. Refute it at one input. -/
def sourceArenaWrong : ChangeSpec := { name := "sourceArena", fn := fun _ => fun
  | [d1, d2, d3] => { results := [.lit (.bool false)], args := [d1, d2, d3] }
  | _ => none }
def SourceArenaWrongFalsely : Prop := sourceArenaRow.holds Try.pinned (OpenSpec.ofChange sourceArenaWrong)

/-- 'pitheadlaw31.SameTells': WHATEVER THE INPUT: true; the input reads as it did. -/
def sameTellsSpec : ChangeSpec := { name := "sameTells", fn := fun _ => fun
  | [d1, d2, d3, d4] => { results := [.lit (.bool true)], args := [d1, d2, d3, d4] }
  | _ => none }
def sameTellsRow : OpenClaim := { program := "ytgnpihhakogeeaa", sum := "98bb63d8fe67287e0389862faee3ecd1ffb3c082863b9d5d818efc4a1c24a454", func := "pithead/pitheadlaw31.SameTells", spec := "sameTells", unfollowed := true, recurses := true, plainKeys := false, apart := false }
def SameTellsSaid : Prop := sameTellsRow.holds Try.pinned (OpenSpec.ofChange sameTellsSpec)

/-- ITS FALSE NEIGHBOUR: 'it returns false'. Refute it at one input. -/
def sameTellsWrong : ChangeSpec := { name := "sameTells", fn := fun _ => fun
  | [d1, d2, d3, d4] => { results := [.lit (.bool false)], args := [d1, d2, d3, d4] }
  | _ => none }
def SameTellsWrongFalsely : Prop := sameTellsRow.holds Try.pinned (OpenSpec.ofChange sameTellsWrong)

/-- 'pitheadlaw31.SameCanon': WHATEVER THE INPUT: true; the input reads as it did. -/
def sameCanonSpec : ChangeSpec := { name := "sameCanon", fn := fun _ => fun
  | [d1, d2] => { results := [.lit (.bool true)], args := [d1, d2] }
  | _ => none }
def sameCanonRow : OpenClaim := { program := "ytgnpihhakogeeaa", sum := "98bb63d8fe67287e0389862faee3ecd1ffb3c082863b9d5d818efc4a1c24a454", func := "pithead/pitheadlaw31.SameCanon", spec := "sameCanon", unfollowed := true, recurses := true, plainKeys := false, apart := false }
def SameCanonSaid : Prop := sameCanonRow.holds Try.pinned (OpenSpec.ofChange sameCanonSpec)

/-- ITS FALSE NEIGHBOUR: 'it returns false'. Refute it at one input. -/
def sameCanonWrong : ChangeSpec := { name := "sameCanon", fn := fun _ => fun
  | [d1, d2] => { results := [.lit (.bool false)], args := [d1, d2] }
  | _ => none }
def SameCanonWrongFalsely : Prop := sameCanonRow.holds Try.pinned (OpenSpec.ofChange sameCanonWrong)

/-- 'pitheadlaw33.OrderVisits': WHATEVER THE INPUT: true; the input reads as it did. -/
def orderVisitsSpec : ChangeSpec := { name := "orderVisits", fn := fun _ => fun
  | [d1, d2, d3] => { results := [.lit (.bool true)], args := [d1, d2, d3] }
  | _ => none }
def orderVisitsRow : OpenClaim := { program := "ytgnpihhakogeeaa", sum := "98bb63d8fe67287e0389862faee3ecd1ffb3c082863b9d5d818efc4a1c24a454", func := "pithead/pitheadlaw33.OrderVisits", spec := "orderVisits", unfollowed := true, recurses := true, plainKeys := false, apart := false }
def OrderVisitsSaid : Prop := orderVisitsRow.holds Try.pinned (OpenSpec.ofChange orderVisitsSpec)

/-- ITS FALSE NEIGHBOUR: 'it returns false'. Refute it at one input. -/
def orderVisitsWrong : ChangeSpec := { name := "orderVisits", fn := fun _ => fun
  | [d1, d2, d3] => { results := [.lit (.bool false)], args := [d1, d2, d3] }
  | _ => none }
def OrderVisitsWrongFalsely : Prop := orderVisitsRow.holds Try.pinned (OpenSpec.ofChange orderVisitsWrong)

/-- 'pitheadlaw29.TuplesFacts': WHATEVER THE INPUT: true; the input reads as it did. -/
def tuplesFactsSpec : ChangeSpec := { name := "tuplesFacts", fn := fun _ => fun
  | [d1, d2, d3, d4] => { results := [.lit (.bool true)], args := [d1, d2, d3, d4] }
  | _ => none }
def tuplesFactsRow : OpenClaim := { program := "ytgnpihhakogeeaa", sum := "98bb63d8fe67287e0389862faee3ecd1ffb3c082863b9d5d818efc4a1c24a454", func := "pithead/pitheadlaw29.TuplesFacts", spec := "tuplesFacts", unfollowed := true, recurses := true, plainKeys := false, apart := false }
def TuplesFactsSaid : Prop := tuplesFactsRow.holds Try.pinned (OpenSpec.ofChange tuplesFactsSpec)

/-- ITS FALSE NEIGHBOUR: 'it returns false'. Refute it at one input. -/
def tuplesFactsWrong : ChangeSpec := { name := "tuplesFacts", fn := fun _ => fun
  | [d1, d2, d3, d4] => { results := [.lit (.bool false)], args := [d1, d2, d3, d4] }
  | _ => none }
def TuplesFactsWrongFalsely : Prop := tuplesFactsRow.holds Try.pinned (OpenSpec.ofChange tuplesFactsWrong)

/-- 'pitheadlaw29.TuplesNobody': WHATEVER THE INPUT: true; the input reads as it did. -/
def tuplesNobodySpec : ChangeSpec := { name := "tuplesNobody", fn := fun _ => fun
  | [d1, d2, d3] => { results := [.lit (.bool true)], args := [d1, d2, d3] }
  | _ => none }
def tuplesNobodyRow : OpenClaim := { program := "ytgnpihhakogeeaa", sum := "98bb63d8fe67287e0389862faee3ecd1ffb3c082863b9d5d818efc4a1c24a454", func := "pithead/pitheadlaw29.TuplesNobody", spec := "tuplesNobody", unfollowed := true, recurses := true, plainKeys := false, apart := false }
def TuplesNobodySaid : Prop := tuplesNobodyRow.holds Try.pinned (OpenSpec.ofChange tuplesNobodySpec)

/-- ITS FALSE NEIGHBOUR: 'it returns false'. Refute it at one input. -/
def tuplesNobodyWrong : ChangeSpec := { name := "tuplesNobody", fn := fun _ => fun
  | [d1, d2, d3] => { results := [.lit (.bool false)], args := [d1, d2, d3] }
  | _ => none }
def TuplesNobodyWrongFalsely : Prop := tuplesNobodyRow.holds Try.pinned (OpenSpec.ofChange tuplesNobodyWrong)

/-- 'pitheadlaw30.PairMerges': WHATEVER THE INPUT: true; the input reads as it did. -/
def pairMergesSpec : ChangeSpec := { name := "pairMerges", fn := fun _ => fun
  | [d1, d2, d3, d4] => { results := [.lit (.bool true)], args := [d1, d2, d3, d4] }
  | _ => none }
def pairMergesRow : OpenClaim := { program := "ytgnpihhakogeeaa", sum := "98bb63d8fe67287e0389862faee3ecd1ffb3c082863b9d5d818efc4a1c24a454", func := "pithead/pitheadlaw30.PairMerges", spec := "pairMerges", unfollowed := true, recurses := true, plainKeys := false, apart := false }
def PairMergesSaid : Prop := pairMergesRow.holds Try.pinned (OpenSpec.ofChange pairMergesSpec)

/-- ITS FALSE NEIGHBOUR: 'it returns false'. Refute it at one input. -/
def pairMergesWrong : ChangeSpec := { name := "pairMerges", fn := fun _ => fun
  | [d1, d2, d3, d4] => { results := [.lit (.bool false)], args := [d1, d2, d3, d4] }
  | _ => none }
def PairMergesWrongFalsely : Prop := pairMergesRow.holds Try.pinned (OpenSpec.ofChange pairMergesWrong)

/-- 'pitheadlaw30.PairNobody': WHATEVER THE INPUT: true; the input reads as it did. -/
def pairNobodySpec : ChangeSpec := { name := "pairNobody", fn := fun _ => fun
  | [d1, d2, d3] => { results := [.lit (.bool true)], args := [d1, d2, d3] }
  | _ => none }
def pairNobodyRow : OpenClaim := { program := "ytgnpihhakogeeaa", sum := "98bb63d8fe67287e0389862faee3ecd1ffb3c082863b9d5d818efc4a1c24a454", func := "pithead/pitheadlaw30.PairNobody", spec := "pairNobody", unfollowed := true, recurses := true, plainKeys := false, apart := false }
def PairNobodySaid : Prop := pairNobodyRow.holds Try.pinned (OpenSpec.ofChange pairNobodySpec)

/-- ITS FALSE NEIGHBOUR: 'it returns false'. Refute it at one input. -/
def pairNobodyWrong : ChangeSpec := { name := "pairNobody", fn := fun _ => fun
  | [d1, d2, d3] => { results := [.lit (.bool false)], args := [d1, d2, d3] }
  | _ => none }
def PairNobodyWrongFalsely : Prop := pairNobodyRow.holds Try.pinned (OpenSpec.ofChange pairNobodyWrong)

/- THE SECOND FORM. 'bulk': how many values and letters a reading holds, each counted each time it is reached (what is shared counts as often as it is met; a slice's spare places count too). A statement '..UptoSaid' is the law's where the arguments, and the package variables that the reading takes, are together of bulk at most 1048576: NARROWER than '..Said'. Prove '..Said' where nothing that the law and all that it calls make is longer than what came in: it says more and counts as full. Else prove '..UptoSaid'. A law counts once. -/
mutual
def uptoBulk {H : Type} : DataW H → Nat
  | .lit (.string bytes) => bytes.length + 1
  | .lit _ => 1
  | .nil => 1
  | .ptr d => uptoBulk d + 1
  | .slice elems spare => uptoBulkAll elems + uptoBulkAll spare + 1
  | .agg parts => uptoBulkAll parts + 1
  | .iface _ d => uptoBulk d + 1
  | .map entries => uptoBulkEntries entries + 1
  | .held _ => 1
def uptoBulkAll {H : Type} : List (DataW H) → Nat
  | [] => 0
  | d :: r => uptoBulk d + uptoBulkAll r
def uptoBulkEntries {H : Type} : List (Lit × DataW H) → Nat
  | [] => 0
  | x :: r => uptoBulkEntry x + uptoBulkEntries r
def uptoBulkEntry {H : Type} : Lit × DataW H → Nat
  | (.string bytes, d) => bytes.length + uptoBulk d + 1
  | (_, d) => uptoBulk d + 1
 end
def uptoSmall : (H : Type) → List (DataW H) → Bool := fun _ ds => decide (uptoBulkAll ds ≤ 1048576)
def OpenSpec.upto (s : _root_.Go.ChangeSpec) : _root_.Go.OpenSpec := { _root_.Go.OpenSpec.ofChange s with cond := some uptoSmall }

/-- 'pitheadlaw37.SourceArena', WHERE WHAT IT READS IS OF BULK AT MOST 1048576: true; the input reads as it did. -/
def sourceArenaUptoRow : OpenClaim := { program := "ytgnpihhakogeeaa", sum := "98bb63d8fe67287e0389862faee3ecd1ffb3c082863b9d5d818efc4a1c24a454", func := "pithead/pitheadlaw37.SourceArena", spec := "sourceArena", unfollowed := true, recurses := true, plainKeys := false, apart := false, narrowed := true }
def SourceArenaUptoSaid : Prop := sourceArenaUptoRow.holds Try.pinned (OpenSpec.upto sourceArenaSpec)

/-- 'pitheadlaw31.SameTells', WHERE WHAT IT READS IS OF BULK AT MOST 1048576: true; the input reads as it did. -/
def sameTellsUptoRow : OpenClaim := { program := "ytgnpihhakogeeaa", sum := "98bb63d8fe67287e0389862faee3ecd1ffb3c082863b9d5d818efc4a1c24a454", func := "pithead/pitheadlaw31.SameTells", spec := "sameTells", unfollowed := true, recurses := true, plainKeys := false, apart := false, narrowed := true }
def SameTellsUptoSaid : Prop := sameTellsUptoRow.holds Try.pinned (OpenSpec.upto sameTellsSpec)

/-- 'pitheadlaw31.SameCanon', WHERE WHAT IT READS IS OF BULK AT MOST 1048576: true; the input reads as it did. -/
def sameCanonUptoRow : OpenClaim := { program := "ytgnpihhakogeeaa", sum := "98bb63d8fe67287e0389862faee3ecd1ffb3c082863b9d5d818efc4a1c24a454", func := "pithead/pitheadlaw31.SameCanon", spec := "sameCanon", unfollowed := true, recurses := true, plainKeys := false, apart := false, narrowed := true }
def SameCanonUptoSaid : Prop := sameCanonUptoRow.holds Try.pinned (OpenSpec.upto sameCanonSpec)

/-- 'pitheadlaw33.OrderVisits', WHERE WHAT IT READS IS OF BULK AT MOST 1048576: true; the input reads as it did. -/
def orderVisitsUptoRow : OpenClaim := { program := "ytgnpihhakogeeaa", sum := "98bb63d8fe67287e0389862faee3ecd1ffb3c082863b9d5d818efc4a1c24a454", func := "pithead/pitheadlaw33.OrderVisits", spec := "orderVisits", unfollowed := true, recurses := true, plainKeys := false, apart := false, narrowed := true }
def OrderVisitsUptoSaid : Prop := orderVisitsUptoRow.holds Try.pinned (OpenSpec.upto orderVisitsSpec)

/-- 'pitheadlaw29.TuplesFacts', WHERE WHAT IT READS IS OF BULK AT MOST 1048576: true; the input reads as it did. -/
def tuplesFactsUptoRow : OpenClaim := { program := "ytgnpihhakogeeaa", sum := "98bb63d8fe67287e0389862faee3ecd1ffb3c082863b9d5d818efc4a1c24a454", func := "pithead/pitheadlaw29.TuplesFacts", spec := "tuplesFacts", unfollowed := true, recurses := true, plainKeys := false, apart := false, narrowed := true }
def TuplesFactsUptoSaid : Prop := tuplesFactsUptoRow.holds Try.pinned (OpenSpec.upto tuplesFactsSpec)

/-- 'pitheadlaw29.TuplesNobody', WHERE WHAT IT READS IS OF BULK AT MOST 1048576: true; the input reads as it did. -/
def tuplesNobodyUptoRow : OpenClaim := { program := "ytgnpihhakogeeaa", sum := "98bb63d8fe67287e0389862faee3ecd1ffb3c082863b9d5d818efc4a1c24a454", func := "pithead/pitheadlaw29.TuplesNobody", spec := "tuplesNobody", unfollowed := true, recurses := true, plainKeys := false, apart := false, narrowed := true }
def TuplesNobodyUptoSaid : Prop := tuplesNobodyUptoRow.holds Try.pinned (OpenSpec.upto tuplesNobodySpec)

/-- 'pitheadlaw30.PairMerges', WHERE WHAT IT READS IS OF BULK AT MOST 1048576: true; the input reads as it did. -/
def pairMergesUptoRow : OpenClaim := { program := "ytgnpihhakogeeaa", sum := "98bb63d8fe67287e0389862faee3ecd1ffb3c082863b9d5d818efc4a1c24a454", func := "pithead/pitheadlaw30.PairMerges", spec := "pairMerges", unfollowed := true, recurses := true, plainKeys := false, apart := false, narrowed := true }
def PairMergesUptoSaid : Prop := pairMergesUptoRow.holds Try.pinned (OpenSpec.upto pairMergesSpec)

/-- 'pitheadlaw30.PairNobody', WHERE WHAT IT READS IS OF BULK AT MOST 1048576: true; the input reads as it did. -/
def pairNobodyUptoRow : OpenClaim := { program := "ytgnpihhakogeeaa", sum := "98bb63d8fe67287e0389862faee3ecd1ffb3c082863b9d5d818efc4a1c24a454", func := "pithead/pitheadlaw30.PairNobody", spec := "pairNobody", unfollowed := true, recurses := true, plainKeys := false, apart := false, narrowed := true }
def PairNobodyUptoSaid : Prop := pairNobodyUptoRow.holds Try.pinned (OpenSpec.upto pairNobodySpec)

end Rows
end Go.Proofs.Ytgnpihhakogeeaa
