/-
  DERIVED. GIVEN WITH THE SEED: THE CARDS: each row of YtemmgefppobboaaGreatDoorRows.lean that lists a variable, with what it lists TIED to the program's text (the seventh form; the later family's looks); each row that meets fmt, with fmt's text TOLD by the authors' own Lean function (tested against real Go, not proved from fmt's source: count such statements apart). THE CARD IS WHAT COUNTS. Prove the row's statement (the work); the ties are given (YtemmgefppobboaaGreatDoorTie.lean); close each card by the builder's one call (the guide's Derived/Test/ToyasCard.lean, 'card_holds'). Laid BY PROGRAM, IN A SANDBOX (cutbox-door.mjs). By AI agents, Wed Nov 11 2026. No macro, syntax, notation, axiom, sorry.
-/
import Derived.Test.YtemmgefppobboaaGreatDoorRows
import GoSem.ClaimSeven
namespace Go.Proofs.YtemmgefppobboaaGreatDoor
namespace Rows

/-- THE TIED CARD OF 'pitheadlaw44.LineWords'. -/
def lineWordsCard : Claim7 := { stood := { row := lineWordsRow, standIns := [], harness := (true, "07d0caab92f6afea3de5a064581ec8c0c5d0ac6943d9d62b497e11acbe1f06af"), looks := true }, kinds := [], alts := [], laidByText := true, laidKinds := [.data, .data, .data, .data, .sentinel, .sentinel, .pinned], laidTests := true, laidLooks := .later }
def LineWordsCardSaid : Prop := Claim7.holds Tryz.pinned (.plain (OpenSpec.ofChange lineWordsSpec)) lineWordsCard

/-- THE TIED CARD OF 'pitheadlaw44.LineParses'. -/
def lineParsesCard : Claim7 := { stood := { row := lineParsesRow, standIns := [], harness := (true, "07d0caab92f6afea3de5a064581ec8c0c5d0ac6943d9d62b497e11acbe1f06af"), looks := true }, kinds := [], alts := [], laidByText := true, laidKinds := [.data, .data, .data, .data, .sentinel, .sentinel, .pinned], laidTests := true, laidLooks := .later }
def LineParsesCardSaid : Prop := Claim7.holds Tryz.pinned (.plain (OpenSpec.ofChange lineParsesSpec)) lineParsesCard

/-- THE TIED CARD OF 'pitheadlaw44.LineAnswers'. -/
def lineAnswersCard : Claim7 := { stood := { row := lineAnswersRow, standIns := [], harness := (true, "07d0caab92f6afea3de5a064581ec8c0c5d0ac6943d9d62b497e11acbe1f06af"), looks := true }, kinds := [], alts := [], laidByText := true, laidKinds := [.data, .data, .data, .data, .sentinel, .sentinel, .pinned], laidTests := true, laidLooks := .later }
def LineAnswersCardSaid : Prop := Claim7.holds Tryz.pinned (.plain (OpenSpec.ofChange lineAnswersSpec)) lineAnswersCard

/-- THE SECOND FORM's CARD OF 'pitheadlaw44.LineWords'. -/
def lineWordsUptoCard : Claim7 := { stood := { row := lineWordsUptoRow, standIns := [], harness := (true, "07d0caab92f6afea3de5a064581ec8c0c5d0ac6943d9d62b497e11acbe1f06af"), looks := true }, kinds := [], alts := [], laidByText := true, laidKinds := [.data, .data, .data, .data, .sentinel, .sentinel, .pinned], laidTests := true, laidLooks := .later }
def LineWordsUptoCardSaid : Prop := Claim7.holds Tryz.pinned (.plain (OpenSpec.upto lineWordsSpec)) lineWordsUptoCard

/-- THE SECOND FORM's CARD OF 'pitheadlaw44.LineParses'. -/
def lineParsesUptoCard : Claim7 := { stood := { row := lineParsesUptoRow, standIns := [], harness := (true, "07d0caab92f6afea3de5a064581ec8c0c5d0ac6943d9d62b497e11acbe1f06af"), looks := true }, kinds := [], alts := [], laidByText := true, laidKinds := [.data, .data, .data, .data, .sentinel, .sentinel, .pinned], laidTests := true, laidLooks := .later }
def LineParsesUptoCardSaid : Prop := Claim7.holds Tryz.pinned (.plain (OpenSpec.upto lineParsesSpec)) lineParsesUptoCard

/-- THE SECOND FORM's CARD OF 'pitheadlaw44.LineAnswers'. -/
def lineAnswersUptoCard : Claim7 := { stood := { row := lineAnswersUptoRow, standIns := [], harness := (true, "07d0caab92f6afea3de5a064581ec8c0c5d0ac6943d9d62b497e11acbe1f06af"), looks := true }, kinds := [], alts := [], laidByText := true, laidKinds := [.data, .data, .data, .data, .sentinel, .sentinel, .pinned], laidTests := true, laidLooks := .later }
def LineAnswersUptoCardSaid : Prop := Claim7.holds Tryz.pinned (.plain (OpenSpec.upto lineAnswersSpec)) lineAnswersUptoCard
end Rows
end Go.Proofs.YtemmgefppobboaaGreatDoor
