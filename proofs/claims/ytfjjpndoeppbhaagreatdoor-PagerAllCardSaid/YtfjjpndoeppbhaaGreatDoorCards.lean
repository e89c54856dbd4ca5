/-
  DERIVED. GIVEN WITH THE SEED: THE CARDS: each row of YtfjjpndoeppbhaaGreatDoorRows.lean that lists a variable, with what it lists TIED to the program's text (the seventh form; the later family's looks); each row that meets fmt, with fmt's text TOLD by the authors' own Lean function (tested against real Go, not proved from fmt's source: count such statements apart). THE CARD IS WHAT COUNTS. Prove the row's statement (the work); the ties are given (YtfjjpndoeppbhaaGreatDoorTie.lean); close each card by the builder's one call (the guide's Derived/Test/ToyasCard.lean, 'card_holds'). Laid BY PROGRAM, IN A SANDBOX (cutbox-door.mjs). By AI agents, Wed Nov 11 2026. No macro, syntax, notation, axiom, sorry.
-/
import Derived.Test.YtfjjpndoeppbhaaGreatDoorRows
import GoSem.ClaimSeven
namespace Go.Proofs.YtfjjpndoeppbhaaGreatDoor
namespace Rows

/-- THE TIED CARD OF 'pitheadlaw13.PagerAll'. -/
def pagerAllCard : Claim7 := { stood := { row := pagerAllRow, standIns := [], harness := (true, "c568bad5814b46ebe05cd54d44b042e34d88dc1c851a5cd196c9e24823ab45bd"), looks := true }, kinds := [], alts := [], laidByText := true, laidKinds := [.data, .pinned], laidTests := true, laidLooks := .later }
def PagerAllCardSaid : Prop := Claim7.holds Tryz.pinned (.plain (OpenSpec.ofChange pagerAllSpec)) pagerAllCard

/-- THE TIED CARD OF 'pitheadlaw13.PagerPlays'. -/
def pagerPlaysCard : Claim7 := { stood := { row := pagerPlaysRow, standIns := [], harness := (true, "c568bad5814b46ebe05cd54d44b042e34d88dc1c851a5cd196c9e24823ab45bd"), looks := true }, kinds := [], alts := [], laidByText := true, laidKinds := [.data, .pinned], laidTests := true, laidLooks := .later }
def PagerPlaysCardSaid : Prop := Claim7.holds Tryz.pinned (.plain (OpenSpec.ofChange pagerPlaysSpec)) pagerPlaysCard

/-- THE TIED CARD OF 'pitheadlaw13.PagerAny'. -/
def pagerAnyCard : Claim7 := { stood := { row := pagerAnyRow, standIns := [], harness := (true, "c568bad5814b46ebe05cd54d44b042e34d88dc1c851a5cd196c9e24823ab45bd"), looks := true }, kinds := [], alts := [], laidByText := true, laidKinds := [.data, .pinned], laidTests := true, laidLooks := .later }
def PagerAnyCardSaid : Prop := Claim7.holds Tryz.pinned (.plain (OpenSpec.ofChange pagerAnySpec)) pagerAnyCard

/-- THE TIED CARD OF 'pitheadlaw37.SourceEnds'. -/
def sourceEndsCard : Claim7 := { stood := { row := sourceEndsRow, standIns := [], harness := (true, "c568bad5814b46ebe05cd54d44b042e34d88dc1c851a5cd196c9e24823ab45bd"), looks := true }, kinds := [], alts := [], laidByText := true, laidKinds := [.data, .pinned], laidTests := true, laidLooks := .later }
def SourceEndsCardSaid : Prop := Claim7.holds Tryz.pinned (.plain (OpenSpec.ofChange sourceEndsSpec)) sourceEndsCard

/-- THE TIED CARD OF 'pitheadlaw37.SourcePages'. -/
def sourcePagesCard : Claim7 := { stood := { row := sourcePagesRow, standIns := [], harness := (true, "c568bad5814b46ebe05cd54d44b042e34d88dc1c851a5cd196c9e24823ab45bd"), looks := true }, kinds := [], alts := [], laidByText := true, laidKinds := [.data, .pinned], laidTests := true, laidLooks := .later }
def SourcePagesCardSaid : Prop := Claim7.holds Tryz.pinned (.plain (OpenSpec.ofChange sourcePagesSpec)) sourcePagesCard

/-- THE SECOND FORM's CARD OF 'pitheadlaw13.PagerAll'. -/
def pagerAllUptoCard : Claim7 := { stood := { row := pagerAllUptoRow, standIns := [], harness := (true, "c568bad5814b46ebe05cd54d44b042e34d88dc1c851a5cd196c9e24823ab45bd"), looks := true }, kinds := [], alts := [], laidByText := true, laidKinds := [.data, .pinned], laidTests := true, laidLooks := .later }
def PagerAllUptoCardSaid : Prop := Claim7.holds Tryz.pinned (.plain (OpenSpec.upto pagerAllSpec)) pagerAllUptoCard

/-- THE SECOND FORM's CARD OF 'pitheadlaw13.PagerPlays'. -/
def pagerPlaysUptoCard : Claim7 := { stood := { row := pagerPlaysUptoRow, standIns := [], harness := (true, "c568bad5814b46ebe05cd54d44b042e34d88dc1c851a5cd196c9e24823ab45bd"), looks := true }, kinds := [], alts := [], laidByText := true, laidKinds := [.data, .pinned], laidTests := true, laidLooks := .later }
def PagerPlaysUptoCardSaid : Prop := Claim7.holds Tryz.pinned (.plain (OpenSpec.upto pagerPlaysSpec)) pagerPlaysUptoCard

/-- THE SECOND FORM's CARD OF 'pitheadlaw13.PagerAny'. -/
def pagerAnyUptoCard : Claim7 := { stood := { row := pagerAnyUptoRow, standIns := [], harness := (true, "c568bad5814b46ebe05cd54d44b042e34d88dc1c851a5cd196c9e24823ab45bd"), looks := true }, kinds := [], alts := [], laidByText := true, laidKinds := [.data, .pinned], laidTests := true, laidLooks := .later }
def PagerAnyUptoCardSaid : Prop := Claim7.holds Tryz.pinned (.plain (OpenSpec.upto pagerAnySpec)) pagerAnyUptoCard

/-- THE SECOND FORM's CARD OF 'pitheadlaw37.SourceEnds'. -/
def sourceEndsUptoCard : Claim7 := { stood := { row := sourceEndsUptoRow, standIns := [], harness := (true, "c568bad5814b46ebe05cd54d44b042e34d88dc1c851a5cd196c9e24823ab45bd"), looks := true }, kinds := [], alts := [], laidByText := true, laidKinds := [.data, .pinned], laidTests := true, laidLooks := .later }
def SourceEndsUptoCardSaid : Prop := Claim7.holds Tryz.pinned (.plain (OpenSpec.upto sourceEndsSpec)) sourceEndsUptoCard

/-- THE SECOND FORM's CARD OF 'pitheadlaw37.SourcePages'. -/
def sourcePagesUptoCard : Claim7 := { stood := { row := sourcePagesUptoRow, standIns := [], harness := (true, "c568bad5814b46ebe05cd54d44b042e34d88dc1c851a5cd196c9e24823ab45bd"), looks := true }, kinds := [], alts := [], laidByText := true, laidKinds := [.data, .pinned], laidTests := true, laidLooks := .later }
def SourcePagesUptoCardSaid : Prop := Claim7.holds Tryz.pinned (.plain (OpenSpec.upto sourcePagesSpec)) sourcePagesUptoCard
end Rows
end Go.Proofs.YtfjjpndoeppbhaaGreatDoor
