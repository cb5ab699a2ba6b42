/-
  DERIVED. GIVEN WITH THE SEED: THE CARDS: each row of YtmnafaaijglnfaaGreatDoorRows.lean that lists a variable, with what it lists TIED to the program's text (the seventh form; the later family's looks); each row that meets fmt, with fmt's text TOLD by the authors' own Lean function (tested against real Go, not proved from fmt's source: count such statements apart). THE CARD IS WHAT COUNTS. Prove the row's statement (the work); the ties are given (YtmnafaaijglnfaaGreatDoorTie.lean); close each card by the builder's one call (the guide's Derived/Test/ToyasCard.lean, 'card_holds'). Laid BY PROGRAM, IN A SANDBOX (cutbox-door.mjs). By AI agents, Wed Nov 11 2026. No macro, syntax, notation, axiom, sorry.
-/
import Derived.Test.YtmnafaaijglnfaaGreatDoorRows
import GoSem.ClaimSeven
namespace Go.Proofs.YtmnafaaijglnfaaGreatDoor
namespace Rows

/-- THE TIED CARD OF 'outlaw2.VersionsMatch'. -/
def versionsMatchCard : Claim7 := { stood := { row := versionsMatchRow, standIns := [], harness := (true, "e00569242a604f4cc670751a4cd8df77b63c3d383620b39d3826b7b29ad2b62d"), looks := true }, kinds := [], alts := [], laidByText := true, laidKinds := [.data, .data, .data, .data, .sentinel, .sentinel, .pinned], laidTests := true, laidLooks := .later }
def VersionsMatchCardSaid : Prop := Claim7.holds Tryz.pinned (.plain (OpenSpec.ofChange versionsMatchSpec)) versionsMatchCard

/-- THE TIED CARD OF 'outlaw2.RangesPrint'. -/
def rangesPrintCard : Claim7 := { stood := { row := rangesPrintRow, standIns := [], harness := (true, "e00569242a604f4cc670751a4cd8df77b63c3d383620b39d3826b7b29ad2b62d"), looks := true }, kinds := [], alts := [], laidByText := true, laidKinds := [.data, .data, .data, .data, .sentinel, .sentinel, .pinned], laidTests := true, laidLooks := .later }
def RangesPrintCardSaid : Prop := Claim7.holds Tryz.pinned (.plain (OpenSpec.ofChange rangesPrintSpec)) rangesPrintCard

/-- THE TIED CARD OF 'outlaw2.CondsRead'. -/
def condsReadCard : Claim7 := { stood := { row := condsReadRow, standIns := [], harness := (true, "e00569242a604f4cc670751a4cd8df77b63c3d383620b39d3826b7b29ad2b62d"), looks := true }, kinds := [], alts := [], laidByText := true, laidKinds := [.data, .data, .data, .data, .sentinel, .sentinel, .pinned], laidTests := true, laidLooks := .later }
def CondsReadCardSaid : Prop := Claim7.holds Tryz.pinned (.plain (OpenSpec.ofChange condsReadSpec)) condsReadCard

/-- THE TIED CARD OF 'outlaw2.MergesMatch'. -/
def mergesMatchCard : Claim7 := { stood := { row := mergesMatchRow, standIns := [], harness := (true, "e00569242a604f4cc670751a4cd8df77b63c3d383620b39d3826b7b29ad2b62d"), looks := true }, kinds := [], alts := [], laidByText := true, laidKinds := [.data, .data, .data, .data, .sentinel, .sentinel, .pinned], laidTests := true, laidLooks := .later }
def MergesMatchCardSaid : Prop := Claim7.holds Tryz.pinned (.plain (OpenSpec.ofChange mergesMatchSpec)) mergesMatchCard

/-- THE TIED CARD OF 'outlaw2.SharesMatch'. -/
def sharesMatchCard : Claim7 := { stood := { row := sharesMatchRow, standIns := [], harness := (true, "e00569242a604f4cc670751a4cd8df77b63c3d383620b39d3826b7b29ad2b62d"), looks := true }, kinds := [], alts := [], laidByText := true, laidKinds := [.data, .data, .data, .data, .sentinel, .sentinel, .pinned], laidTests := true, laidLooks := .later }
def SharesMatchCardSaid : Prop := Claim7.holds Tryz.pinned (.plain (OpenSpec.ofChange sharesMatchSpec)) sharesMatchCard

/-- THE TIED CARD OF 'outlaw2.FeedsRead'. -/
def feedsReadCard : Claim7 := { stood := { row := feedsReadRow, standIns := [], harness := (true, "e00569242a604f4cc670751a4cd8df77b63c3d383620b39d3826b7b29ad2b62d"), looks := true }, kinds := [], alts := [], laidByText := true, laidKinds := [.data, .data, .data, .data, .sentinel, .sentinel, .pinned], laidTests := true, laidLooks := .later }
def FeedsReadCardSaid : Prop := Claim7.holds Tryz.pinned (.plain (OpenSpec.ofChange feedsReadSpec)) feedsReadCard

/-- THE TIED CARD OF 'outlaw2.OffersMatch'. -/
def offersMatchCard : Claim7 := { stood := { row := offersMatchRow, standIns := [], harness := (true, "e00569242a604f4cc670751a4cd8df77b63c3d383620b39d3826b7b29ad2b62d"), looks := true }, kinds := [], alts := [], laidByText := true, laidKinds := [.data, .data, .data, .data, .sentinel, .sentinel, .pinned], laidTests := true, laidLooks := .later }
def OffersMatchCardSaid : Prop := Claim7.holds Tryz.pinned (.plain (OpenSpec.ofChange offersMatchSpec)) offersMatchCard

/-- THE SECOND FORM's CARD OF 'outlaw2.VersionsMatch'. -/
def versionsMatchUptoCard : Claim7 := { stood := { row := versionsMatchUptoRow, standIns := [], harness := (true, "e00569242a604f4cc670751a4cd8df77b63c3d383620b39d3826b7b29ad2b62d"), looks := true }, kinds := [], alts := [], laidByText := true, laidKinds := [.data, .data, .data, .data, .sentinel, .sentinel, .pinned], laidTests := true, laidLooks := .later }
def VersionsMatchUptoCardSaid : Prop := Claim7.holds Tryz.pinned (.plain (OpenSpec.upto versionsMatchSpec)) versionsMatchUptoCard

/-- THE SECOND FORM's CARD OF 'outlaw2.RangesPrint'. -/
def rangesPrintUptoCard : Claim7 := { stood := { row := rangesPrintUptoRow, standIns := [], harness := (true, "e00569242a604f4cc670751a4cd8df77b63c3d383620b39d3826b7b29ad2b62d"), looks := true }, kinds := [], alts := [], laidByText := true, laidKinds := [.data, .data, .data, .data, .sentinel, .sentinel, .pinned], laidTests := true, laidLooks := .later }
def RangesPrintUptoCardSaid : Prop := Claim7.holds Tryz.pinned (.plain (OpenSpec.upto rangesPrintSpec)) rangesPrintUptoCard

/-- THE SECOND FORM's CARD OF 'outlaw2.CondsRead'. -/
def condsReadUptoCard : Claim7 := { stood := { row := condsReadUptoRow, standIns := [], harness := (true, "e00569242a604f4cc670751a4cd8df77b63c3d383620b39d3826b7b29ad2b62d"), looks := true }, kinds := [], alts := [], laidByText := true, laidKinds := [.data, .data, .data, .data, .sentinel, .sentinel, .pinned], laidTests := true, laidLooks := .later }
def CondsReadUptoCardSaid : Prop := Claim7.holds Tryz.pinned (.plain (OpenSpec.upto condsReadSpec)) condsReadUptoCard

/-- THE SECOND FORM's CARD OF 'outlaw2.MergesMatch'. -/
def mergesMatchUptoCard : Claim7 := { stood := { row := mergesMatchUptoRow, standIns := [], harness := (true, "e00569242a604f4cc670751a4cd8df77b63c3d383620b39d3826b7b29ad2b62d"), looks := true }, kinds := [], alts := [], laidByText := true, laidKinds := [.data, .data, .data, .data, .sentinel, .sentinel, .pinned], laidTests := true, laidLooks := .later }
def MergesMatchUptoCardSaid : Prop := Claim7.holds Tryz.pinned (.plain (OpenSpec.upto mergesMatchSpec)) mergesMatchUptoCard

/-- THE SECOND FORM's CARD OF 'outlaw2.SharesMatch'. -/
def sharesMatchUptoCard : Claim7 := { stood := { row := sharesMatchUptoRow, standIns := [], harness := (true, "e00569242a604f4cc670751a4cd8df77b63c3d383620b39d3826b7b29ad2b62d"), looks := true }, kinds := [], alts := [], laidByText := true, laidKinds := [.data, .data, .data, .data, .sentinel, .sentinel, .pinned], laidTests := true, laidLooks := .later }
def SharesMatchUptoCardSaid : Prop := Claim7.holds Tryz.pinned (.plain (OpenSpec.upto sharesMatchSpec)) sharesMatchUptoCard

/-- THE SECOND FORM's CARD OF 'outlaw2.FeedsRead'. -/
def feedsReadUptoCard : Claim7 := { stood := { row := feedsReadUptoRow, standIns := [], harness := (true, "e00569242a604f4cc670751a4cd8df77b63c3d383620b39d3826b7b29ad2b62d"), looks := true }, kinds := [], alts := [], laidByText := true, laidKinds := [.data, .data, .data, .data, .sentinel, .sentinel, .pinned], laidTests := true, laidLooks := .later }
def FeedsReadUptoCardSaid : Prop := Claim7.holds Tryz.pinned (.plain (OpenSpec.upto feedsReadSpec)) feedsReadUptoCard

/-- THE SECOND FORM's CARD OF 'outlaw2.OffersMatch'. -/
def offersMatchUptoCard : Claim7 := { stood := { row := offersMatchUptoRow, standIns := [], harness := (true, "e00569242a604f4cc670751a4cd8df77b63c3d383620b39d3826b7b29ad2b62d"), looks := true }, kinds := [], alts := [], laidByText := true, laidKinds := [.data, .data, .data, .data, .sentinel, .sentinel, .pinned], laidTests := true, laidLooks := .later }
def OffersMatchUptoCardSaid : Prop := Claim7.holds Tryz.pinned (.plain (OpenSpec.upto offersMatchSpec)) offersMatchUptoCard
end Rows
end Go.Proofs.YtmnafaaijglnfaaGreatDoor
