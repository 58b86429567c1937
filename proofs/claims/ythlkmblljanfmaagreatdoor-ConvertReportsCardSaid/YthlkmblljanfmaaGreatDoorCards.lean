/-
  DERIVED. GIVEN WITH THE SEED: THE CARDS: each row of YthlkmblljanfmaaGreatDoorRows.lean that lists a variable, with what it lists TIED to the program's text (the seventh form; the later family's looks); each row that meets fmt, with fmt's text TOLD by the authors' own Lean function (tested against real Go, not proved from fmt's source: count such statements apart). THE CARD IS WHAT COUNTS. Prove the row's statement (the work); the ties are given (YthlkmblljanfmaaGreatDoorTie.lean); close each card by the builder's one call (the guide's Derived/Test/ToyasCard.lean, 'card_holds'). Laid BY PROGRAM, IN A SANDBOX (cutbox-door.mjs). By AI agents, Wed Nov 11 2026. No macro, syntax, notation, axiom, sorry.
-/
import Derived.Test.YthlkmblljanfmaaGreatDoorRows
import GoSem.ClaimSeven
namespace Go.Proofs.YthlkmblljanfmaaGreatDoor
namespace Rows

/-- THE TIED CARD OF 'datakitlaw58.ConvertReports'. -/
def convertReportsCard : Claim7 := { stood := { row := convertReportsRow, standIns := [], harness := (true, "3ef2e79fab0a30b94c2f0523763b65a08aa62e059cb898c91ce496922e483b3d"), looks := true }, kinds := [], alts := [], laidByText := true, laidKinds := [.data, .data, .data, .data, .pinned], laidTests := true, laidLooks := .later }
def ConvertReportsCardSaid : Prop := Claim7.holds Tryz.pinned (.plain (OpenSpec.ofChange convertReportsSpec)) convertReportsCard

/-- THE SECOND FORM's CARD OF 'datakitlaw58.ConvertReports'. -/
def convertReportsUptoCard : Claim7 := { stood := { row := convertReportsUptoRow, standIns := [], harness := (true, "3ef2e79fab0a30b94c2f0523763b65a08aa62e059cb898c91ce496922e483b3d"), looks := true }, kinds := [], alts := [], laidByText := true, laidKinds := [.data, .data, .data, .data, .pinned], laidTests := true, laidLooks := .later }
def ConvertReportsUptoCardSaid : Prop := Claim7.holds Tryz.pinned (.plain (OpenSpec.upto convertReportsSpec)) convertReportsUptoCard
end Rows
end Go.Proofs.YthlkmblljanfmaaGreatDoor
