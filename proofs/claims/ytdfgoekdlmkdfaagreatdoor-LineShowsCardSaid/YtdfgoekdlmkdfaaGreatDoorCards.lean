/-
  DERIVED. GIVEN WITH THE SEED: THE CARDS: each row of YtdfgoekdlmkdfaaGreatDoorRows.lean that lists a variable, with what it lists TIED to the program's text (the seventh form; the later family's looks); each row that meets fmt, with fmt's text TOLD by the authors' own Lean function (tested against real Go, not proved from fmt's source: count such statements apart). THE CARD IS WHAT COUNTS. Prove the row's statement (the work); the ties are given (YtdfgoekdlmkdfaaGreatDoorTie.lean); close each card by the builder's one call (the guide's Derived/Test/ToyasCard.lean, 'card_holds'). Laid BY PROGRAM, IN A SANDBOX (cutbox-door.mjs). By AI agents, Wed Nov 11 2026. No macro, syntax, notation, axiom, sorry.
-/
import Derived.Test.YtdfgoekdlmkdfaaGreatDoorRows
import GoSem.ClaimSeven
namespace Go.Proofs.YtdfgoekdlmkdfaaGreatDoor
namespace Rows

/-- THE TIED CARD OF 'pitheadlaw44.LineShows'. -/
def lineShowsCard : Claim7 := { stood := { row := lineShowsRow, standIns := [], harness := (true, "5cb88c1920cdbbb0f05275603bdf6b5620651ba100dd7fb0a93cd80ef619eb69"), looks := true }, kinds := [], alts := [], laidByText := true, laidKinds := [.data, .data, .data, .data, .sentinel, .sentinel, .pinned], laidTests := true, laidLooks := .later }
def LineShowsCardSaid : Prop := Claim7.holds Tryz.pinned (.plain (OpenSpec.ofChange lineShowsSpec)) lineShowsCard

/-- THE SECOND FORM's CARD OF 'pitheadlaw44.LineShows'. -/
def lineShowsUptoCard : Claim7 := { stood := { row := lineShowsUptoRow, standIns := [], harness := (true, "5cb88c1920cdbbb0f05275603bdf6b5620651ba100dd7fb0a93cd80ef619eb69"), looks := true }, kinds := [], alts := [], laidByText := true, laidKinds := [.data, .data, .data, .data, .sentinel, .sentinel, .pinned], laidTests := true, laidLooks := .later }
def LineShowsUptoCardSaid : Prop := Claim7.holds Tryz.pinned (.plain (OpenSpec.upto lineShowsSpec)) lineShowsUptoCard
end Rows
end Go.Proofs.YtdfgoekdlmkdfaaGreatDoor
