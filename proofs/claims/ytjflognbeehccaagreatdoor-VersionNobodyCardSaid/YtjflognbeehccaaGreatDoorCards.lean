/-
  DERIVED. GIVEN WITH THE SEED: THE CARDS: each row of YtjflognbeehccaaGreatDoorRows.lean that lists a variable, with what it lists TIED to the program's text (the seventh form; the later family's looks); each row that meets fmt, with fmt's text TOLD by the authors' own Lean function (tested against real Go, not proved from fmt's source: count such statements apart). THE CARD IS WHAT COUNTS. Prove the row's statement (the work); the ties are given (YtjflognbeehccaaGreatDoorTie.lean); close each card by the builder's one call (the guide's Derived/Test/ToyasCard.lean, 'card_holds'). Laid BY PROGRAM, IN A SANDBOX (cutbox-door.mjs). By AI agents, Wed Nov 11 2026. No macro, syntax, notation, axiom, sorry.
-/
import Derived.Test.YtjflognbeehccaaGreatDoorRows
import GoSem.ClaimSeven
namespace Go.Proofs.YtjflognbeehccaaGreatDoor
namespace Rows

/-- THE TIED CARD OF 'pitheadlaw41.VersionNobody'. -/
def versionNobodyCard : Claim7 := { stood := { row := versionNobodyRow, standIns := [], harness := (true, "8c2f7d95b2db054ab1d1429bac19142923c56debb121e7d0cd101d2c3b132eef"), looks := true }, kinds := [], alts := [], laidByText := true, laidKinds := [.data, .pinned], laidTests := true, laidLooks := .later }
def VersionNobodyCardSaid : Prop := Claim7.holds Tryz.pinned (.plain (OpenSpec.ofChange versionNobodySpec)) versionNobodyCard

/-- THE TIED CARD OF 'pitheadlaw43.AuditNobody'. -/
def auditNobodyCard : Claim7 := { stood := { row := auditNobodyRow, standIns := [], harness := (true, "8c2f7d95b2db054ab1d1429bac19142923c56debb121e7d0cd101d2c3b132eef"), looks := true }, kinds := [], alts := [], laidByText := true, laidKinds := [.data, .pinned], laidTests := true, laidLooks := .later }
def AuditNobodyCardSaid : Prop := Claim7.holds Tryz.pinned (.plain (OpenSpec.ofChange auditNobodySpec)) auditNobodyCard

/-- THE SECOND FORM's CARD OF 'pitheadlaw41.VersionNobody'. -/
def versionNobodyUptoCard : Claim7 := { stood := { row := versionNobodyUptoRow, standIns := [], harness := (true, "8c2f7d95b2db054ab1d1429bac19142923c56debb121e7d0cd101d2c3b132eef"), looks := true }, kinds := [], alts := [], laidByText := true, laidKinds := [.data, .pinned], laidTests := true, laidLooks := .later }
def VersionNobodyUptoCardSaid : Prop := Claim7.holds Tryz.pinned (.plain (OpenSpec.upto versionNobodySpec)) versionNobodyUptoCard

/-- THE SECOND FORM's CARD OF 'pitheadlaw43.AuditNobody'. -/
def auditNobodyUptoCard : Claim7 := { stood := { row := auditNobodyUptoRow, standIns := [], harness := (true, "8c2f7d95b2db054ab1d1429bac19142923c56debb121e7d0cd101d2c3b132eef"), looks := true }, kinds := [], alts := [], laidByText := true, laidKinds := [.data, .pinned], laidTests := true, laidLooks := .later }
def AuditNobodyUptoCardSaid : Prop := Claim7.holds Tryz.pinned (.plain (OpenSpec.upto auditNobodySpec)) auditNobodyUptoCard
end Rows
end Go.Proofs.YtjflognbeehccaaGreatDoor
