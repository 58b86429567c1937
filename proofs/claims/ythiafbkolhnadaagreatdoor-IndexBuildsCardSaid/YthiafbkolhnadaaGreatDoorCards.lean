/-
  DERIVED. GIVEN WITH THE SEED: THE CARDS: each row of YthiafbkolhnadaaGreatDoorRows.lean that lists a variable, with what it lists TIED to the program's text (the seventh form; the later family's looks); each row that meets fmt, with fmt's text TOLD by the authors' own Lean function (tested against real Go, not proved from fmt's source: count such statements apart). THE CARD IS WHAT COUNTS. Prove the row's statement (the work); the ties are given (YthiafbkolhnadaaGreatDoorTie.lean); close each card by the builder's one call (the guide's Derived/Test/ToyasCard.lean, 'card_holds'). Laid BY PROGRAM, IN A SANDBOX (cutbox-door.mjs). By AI agents, Wed Nov 11 2026. No macro, syntax, notation, axiom, sorry.
-/
import Derived.Test.YthiafbkolhnadaaGreatDoorRows
import GoSem.ClaimSeven
namespace Go.Proofs.YthiafbkolhnadaaGreatDoor
namespace Rows

/-- THE TIED CARD OF 'datakitlaw34.IndexBuilds'. -/
def indexBuildsCard : Claim7 := { stood := { row := indexBuildsRow, standIns := [], harness := (true, "18d3e890ad8ddba31aca86c3687f0a056d554cac0096ab1e52b7de63cbc112c3"), looks := true }, kinds := [], alts := [], laidByText := true, laidKinds := [.data, .data, .data, .data, .pinned], laidTests := true, laidLooks := .later }
def IndexBuildsCardSaid : Prop := Claim7.holds Tryz.pinned (.plain (OpenSpec.ofChange indexBuildsSpec)) indexBuildsCard

/-- THE TIED CARD OF 'datakitlaw34.IndexChecks'. -/
def indexChecksCard : Claim7 := { stood := { row := indexChecksRow, standIns := [], harness := (true, "18d3e890ad8ddba31aca86c3687f0a056d554cac0096ab1e52b7de63cbc112c3"), looks := true }, kinds := [], alts := [], laidByText := true, laidKinds := [.data, .data, .data, .data, .pinned], laidTests := true, laidLooks := .later }
def IndexChecksCardSaid : Prop := Claim7.holds Tryz.pinned (.plain (OpenSpec.ofChange indexChecksSpec)) indexChecksCard

/-- THE TIED CARD OF 'datakitlaw34.IndexTexts'. -/
def indexTextsCard : Claim7 := { stood := { row := indexTextsRow, standIns := [], harness := (true, "18d3e890ad8ddba31aca86c3687f0a056d554cac0096ab1e52b7de63cbc112c3"), looks := true }, kinds := [], alts := [], laidByText := true, laidKinds := [.data, .data, .data, .data, .sentinel, .sentinel, .pinned], laidTests := true, laidLooks := .later }
def IndexTextsCardSaid : Prop := Claim7.holds Tryz.pinned (.plain (OpenSpec.ofChange indexTextsSpec)) indexTextsCard

/-- THE TIED CARD OF 'datakitlaw34.IndexParses'. -/
def indexParsesCard : Claim7 := { stood := { row := indexParsesRow, standIns := [], harness := (true, "18d3e890ad8ddba31aca86c3687f0a056d554cac0096ab1e52b7de63cbc112c3"), looks := true }, kinds := [], alts := [], laidByText := true, laidKinds := [.data, .data, .data, .data, .sentinel, .sentinel, .pinned], laidTests := true, laidLooks := .later }
def IndexParsesCardSaid : Prop := Claim7.holds Tryz.pinned (.plain (OpenSpec.ofChange indexParsesSpec)) indexParsesCard

/-- THE SECOND FORM's CARD OF 'datakitlaw34.IndexBuilds'. -/
def indexBuildsUptoCard : Claim7 := { stood := { row := indexBuildsUptoRow, standIns := [], harness := (true, "18d3e890ad8ddba31aca86c3687f0a056d554cac0096ab1e52b7de63cbc112c3"), looks := true }, kinds := [], alts := [], laidByText := true, laidKinds := [.data, .data, .data, .data, .pinned], laidTests := true, laidLooks := .later }
def IndexBuildsUptoCardSaid : Prop := Claim7.holds Tryz.pinned (.plain (OpenSpec.upto indexBuildsSpec)) indexBuildsUptoCard

/-- THE SECOND FORM's CARD OF 'datakitlaw34.IndexChecks'. -/
def indexChecksUptoCard : Claim7 := { stood := { row := indexChecksUptoRow, standIns := [], harness := (true, "18d3e890ad8ddba31aca86c3687f0a056d554cac0096ab1e52b7de63cbc112c3"), looks := true }, kinds := [], alts := [], laidByText := true, laidKinds := [.data, .data, .data, .data, .pinned], laidTests := true, laidLooks := .later }
def IndexChecksUptoCardSaid : Prop := Claim7.holds Tryz.pinned (.plain (OpenSpec.upto indexChecksSpec)) indexChecksUptoCard

/-- THE SECOND FORM's CARD OF 'datakitlaw34.IndexTexts'. -/
def indexTextsUptoCard : Claim7 := { stood := { row := indexTextsUptoRow, standIns := [], harness := (true, "18d3e890ad8ddba31aca86c3687f0a056d554cac0096ab1e52b7de63cbc112c3"), looks := true }, kinds := [], alts := [], laidByText := true, laidKinds := [.data, .data, .data, .data, .sentinel, .sentinel, .pinned], laidTests := true, laidLooks := .later }
def IndexTextsUptoCardSaid : Prop := Claim7.holds Tryz.pinned (.plain (OpenSpec.upto indexTextsSpec)) indexTextsUptoCard

/-- THE SECOND FORM's CARD OF 'datakitlaw34.IndexParses'. -/
def indexParsesUptoCard : Claim7 := { stood := { row := indexParsesUptoRow, standIns := [], harness := (true, "18d3e890ad8ddba31aca86c3687f0a056d554cac0096ab1e52b7de63cbc112c3"), looks := true }, kinds := [], alts := [], laidByText := true, laidKinds := [.data, .data, .data, .data, .sentinel, .sentinel, .pinned], laidTests := true, laidLooks := .later }
def IndexParsesUptoCardSaid : Prop := Claim7.holds Tryz.pinned (.plain (OpenSpec.upto indexParsesSpec)) indexParsesUptoCard
end Rows
end Go.Proofs.YthiafbkolhnadaaGreatDoor
