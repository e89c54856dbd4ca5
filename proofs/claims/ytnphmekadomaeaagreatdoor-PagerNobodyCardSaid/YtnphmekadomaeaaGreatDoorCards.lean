/-
  DERIVED. GIVEN WITH THE SEED: THE CARDS: each row of YtnphmekadomaeaaGreatDoorRows.lean that lists a variable, with what it lists TIED to the program's text (the seventh form; the later family's looks); each row that meets fmt, with fmt's text TOLD by the authors' own Lean function (tested against real Go, not proved from fmt's source: count such statements apart). THE CARD IS WHAT COUNTS. Prove the row's statement (the work); the ties are given (YtnphmekadomaeaaGreatDoorTie.lean); close each card by the builder's one call (the guide's Derived/Test/ToyasCard.lean, 'card_holds'). Laid BY PROGRAM, IN A SANDBOX (cutbox-door.mjs). By AI agents, Wed Nov 11 2026. No macro, syntax, notation, axiom, sorry.
-/
import Derived.Test.YtnphmekadomaeaaGreatDoorRows
import GoSem.ClaimSeven
namespace Go.Proofs.YtnphmekadomaeaaGreatDoor
namespace Rows

/-- THE TIED CARD OF 'pitheadlaw37.SourceNobody'. -/
def sourceNobodyCard : Claim7 := { stood := { row := sourceNobodyRow, standIns := [], harness := (true, "50214fa68bec90f8ba9b91d694786eb14939911c1bee3aa9a116b074e31f72da"), looks := true }, kinds := [], alts := [], laidByText := true, laidKinds := [.data, .pinned], laidTests := true, laidLooks := .later }
def SourceNobodyCardSaid : Prop := Claim7.holds Tryz.pinned (.plain (OpenSpec.ofChange sourceNobodySpec)) sourceNobodyCard

/-- THE TIED CARD OF 'pitheadlaw13.PagerNobody'. -/
def pagerNobodyCard : Claim7 := { stood := { row := pagerNobodyRow, standIns := [], harness := (true, "50214fa68bec90f8ba9b91d694786eb14939911c1bee3aa9a116b074e31f72da"), looks := true }, kinds := [], alts := [], laidByText := true, laidKinds := [.data, .pinned], laidTests := true, laidLooks := .later }
def PagerNobodyCardSaid : Prop := Claim7.holds Tryz.pinned (.plain (OpenSpec.ofChange pagerNobodySpec)) pagerNobodyCard

/-- THE SECOND FORM's CARD OF 'pitheadlaw37.SourceNobody'. -/
def sourceNobodyUptoCard : Claim7 := { stood := { row := sourceNobodyUptoRow, standIns := [], harness := (true, "50214fa68bec90f8ba9b91d694786eb14939911c1bee3aa9a116b074e31f72da"), looks := true }, kinds := [], alts := [], laidByText := true, laidKinds := [.data, .pinned], laidTests := true, laidLooks := .later }
def SourceNobodyUptoCardSaid : Prop := Claim7.holds Tryz.pinned (.plain (OpenSpec.upto sourceNobodySpec)) sourceNobodyUptoCard

/-- THE SECOND FORM's CARD OF 'pitheadlaw13.PagerNobody'. -/
def pagerNobodyUptoCard : Claim7 := { stood := { row := pagerNobodyUptoRow, standIns := [], harness := (true, "50214fa68bec90f8ba9b91d694786eb14939911c1bee3aa9a116b074e31f72da"), looks := true }, kinds := [], alts := [], laidByText := true, laidKinds := [.data, .pinned], laidTests := true, laidLooks := .later }
def PagerNobodyUptoCardSaid : Prop := Claim7.holds Tryz.pinned (.plain (OpenSpec.upto pagerNobodySpec)) pagerNobodyUptoCard
end Rows
end Go.Proofs.YtnphmekadomaeaaGreatDoor
