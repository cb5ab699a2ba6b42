/-
  DERIVED. GIVEN WITH THE SEED: THE CARDS: each row of YtghhjlcbcojcnaaGreatDoorRows.lean that lists a variable, with what it lists TIED to the program's text (the seventh form; the later family's looks); each row that meets fmt, with fmt's text TOLD by the authors' own Lean function (tested against real Go, not proved from fmt's source: count such statements apart). THE CARD IS WHAT COUNTS. Prove the row's statement (the work); the ties are given (YtghhjlcbcojcnaaGreatDoorTie.lean); close each card by the builder's one call (the guide's Derived/Test/ToyasCard.lean, 'card_holds'). Laid BY PROGRAM, IN A SANDBOX (cutbox-door.mjs). By AI agents, Wed Nov 11 2026. No macro, syntax, notation, axiom, sorry.
-/
import Derived.Test.YtghhjlcbcojcnaaGreatDoorRows
import GoSem.ClaimSeven
namespace Go.Proofs.YtghhjlcbcojcnaaGreatDoor
namespace Rows

/-- THE TIED CARD OF 'outlaw2.RulesMatch'. -/
def rulesMatchCard : Claim7 := { stood := { row := rulesMatchRow, standIns := [], harness := (true, "5d2a3f440a11b230cf081d0b3f8854d9a845a06476ef934dcb60592799d8305e"), looks := true }, kinds := [], alts := [], laidByText := true, laidKinds := [.data, .pinned], laidTests := true, laidLooks := .later }
def RulesMatchCardSaid : Prop := Claim7.holds Tryz.pinned (.plain (OpenSpec.ofChange rulesMatchSpec)) rulesMatchCard

/-- THE TIED CARD OF 'outlaw2.VersionsMatch'. -/
def versionsMatchCard : Claim7 := { stood := { row := versionsMatchRow, standIns := [], harness := (true, "5d2a3f440a11b230cf081d0b3f8854d9a845a06476ef934dcb60592799d8305e"), looks := true }, kinds := [], alts := [], laidByText := true, laidKinds := [.data, .data, .data, .data, .sentinel, .sentinel, .pinned], laidTests := true, laidLooks := .later }
def VersionsMatchCardSaid : Prop := Claim7.holds Tryz.pinned (.plain (OpenSpec.ofChange versionsMatchSpec)) versionsMatchCard

/-- THE TIED CARD OF 'outlaw2.RangesPrint'. -/
def rangesPrintCard : Claim7 := { stood := { row := rangesPrintRow, standIns := [], harness := (true, "5d2a3f440a11b230cf081d0b3f8854d9a845a06476ef934dcb60592799d8305e"), looks := true }, kinds := [], alts := [], laidByText := true, laidKinds := [.data, .data, .data, .data, .sentinel, .sentinel, .pinned], laidTests := true, laidLooks := .later }
def RangesPrintCardSaid : Prop := Claim7.holds Tryz.pinned (.plain (OpenSpec.ofChange rangesPrintSpec)) rangesPrintCard

/-- THE TIED CARD OF 'outlaw2.CondsRead'. -/
def condsReadCard : Claim7 := { stood := { row := condsReadRow, standIns := [], harness := (true, "5d2a3f440a11b230cf081d0b3f8854d9a845a06476ef934dcb60592799d8305e"), looks := true }, kinds := [], alts := [], laidByText := true, laidKinds := [.data, .data, .data, .data, .sentinel, .sentinel, .pinned], laidTests := true, laidLooks := .later }
def CondsReadCardSaid : Prop := Claim7.holds Tryz.pinned (.plain (OpenSpec.ofChange condsReadSpec)) condsReadCard

/-- THE TIED CARD OF 'outlaw2.ChangesMatch'. -/
def changesMatchCard : Claim7 := { stood := { row := changesMatchRow, standIns := [], harness := (true, "5d2a3f440a11b230cf081d0b3f8854d9a845a06476ef934dcb60592799d8305e"), looks := true }, kinds := [], alts := [], laidByText := true, laidKinds := [.data, .data, .data, .data, .sentinel, .sentinel, .pinned], laidTests := true, laidLooks := .later }
def ChangesMatchCardSaid : Prop := Claim7.holds Tryz.pinned (.plain (OpenSpec.ofChange changesMatchSpec)) changesMatchCard

/-- THE TIED CARD OF 'outlaw2.RangesMatch'. -/
def rangesMatchCard : Claim7 := { stood := { row := rangesMatchRow, standIns := [], harness := (true, "5d2a3f440a11b230cf081d0b3f8854d9a845a06476ef934dcb60592799d8305e"), looks := true }, kinds := [], alts := [], laidByText := true, laidKinds := [.data, .data, .data, .data, .sentinel, .sentinel, .pinned], laidTests := true, laidLooks := .later }
def RangesMatchCardSaid : Prop := Claim7.holds Tryz.pinned (.plain (OpenSpec.ofChange rangesMatchSpec)) rangesMatchCard

/-- THE TIED CARD OF 'outtop.TopThereAndBack'. -/
def topThereAndBackCard : Claim7 := { stood := { row := topThereAndBackRow, standIns := [], harness := (true, "5d2a3f440a11b230cf081d0b3f8854d9a845a06476ef934dcb60592799d8305e"), looks := true }, kinds := [], alts := [], laidByText := true, laidKinds := [.data, .data, .data, .data, .sentinel, .sentinel, .pinned], laidTests := true, laidLooks := .later }
def TopThereAndBackCardSaid : Prop := Claim7.holds Tryz.pinned (.plain (OpenSpec.ofChange topThereAndBackSpec)) topThereAndBackCard

/-- THE TIED CARD OF 'outlaw2.RunsMatch'. -/
def runsMatchCard : Claim7 := { stood := { row := runsMatchRow, standIns := [], harness := (true, "5d2a3f440a11b230cf081d0b3f8854d9a845a06476ef934dcb60592799d8305e"), looks := true }, kinds := [], alts := [], laidByText := true, laidKinds := [.data, .data, .data, .data, .sentinel, .sentinel, .pinned], laidTests := true, laidLooks := .later }
def RunsMatchCardSaid : Prop := Claim7.holds Tryz.pinned (.plain (OpenSpec.ofChange runsMatchSpec)) runsMatchCard

/-- THE TIED CARD OF 'outlaw2.MovesMatch'. -/
def movesMatchCard : Claim7 := { stood := { row := movesMatchRow, standIns := [], harness := (true, "5d2a3f440a11b230cf081d0b3f8854d9a845a06476ef934dcb60592799d8305e"), looks := true }, kinds := [], alts := [], laidByText := true, laidKinds := [.data, .data, .data, .data, .sentinel, .sentinel, .pinned], laidTests := true, laidLooks := .later }
def MovesMatchCardSaid : Prop := Claim7.holds Tryz.pinned (.plain (OpenSpec.ofChange movesMatchSpec)) movesMatchCard

/-- THE SECOND FORM's CARD OF 'outlaw2.RulesMatch'. -/
def rulesMatchUptoCard : Claim7 := { stood := { row := rulesMatchUptoRow, standIns := [], harness := (true, "5d2a3f440a11b230cf081d0b3f8854d9a845a06476ef934dcb60592799d8305e"), looks := true }, kinds := [], alts := [], laidByText := true, laidKinds := [.data, .pinned], laidTests := true, laidLooks := .later }
def RulesMatchUptoCardSaid : Prop := Claim7.holds Tryz.pinned (.plain (OpenSpec.upto rulesMatchSpec)) rulesMatchUptoCard

/-- THE SECOND FORM's CARD OF 'outlaw2.VersionsMatch'. -/
def versionsMatchUptoCard : Claim7 := { stood := { row := versionsMatchUptoRow, standIns := [], harness := (true, "5d2a3f440a11b230cf081d0b3f8854d9a845a06476ef934dcb60592799d8305e"), looks := true }, kinds := [], alts := [], laidByText := true, laidKinds := [.data, .data, .data, .data, .sentinel, .sentinel, .pinned], laidTests := true, laidLooks := .later }
def VersionsMatchUptoCardSaid : Prop := Claim7.holds Tryz.pinned (.plain (OpenSpec.upto versionsMatchSpec)) versionsMatchUptoCard

/-- THE SECOND FORM's CARD OF 'outlaw2.RangesPrint'. -/
def rangesPrintUptoCard : Claim7 := { stood := { row := rangesPrintUptoRow, standIns := [], harness := (true, "5d2a3f440a11b230cf081d0b3f8854d9a845a06476ef934dcb60592799d8305e"), looks := true }, kinds := [], alts := [], laidByText := true, laidKinds := [.data, .data, .data, .data, .sentinel, .sentinel, .pinned], laidTests := true, laidLooks := .later }
def RangesPrintUptoCardSaid : Prop := Claim7.holds Tryz.pinned (.plain (OpenSpec.upto rangesPrintSpec)) rangesPrintUptoCard

/-- THE SECOND FORM's CARD OF 'outlaw2.CondsRead'. -/
def condsReadUptoCard : Claim7 := { stood := { row := condsReadUptoRow, standIns := [], harness := (true, "5d2a3f440a11b230cf081d0b3f8854d9a845a06476ef934dcb60592799d8305e"), looks := true }, kinds := [], alts := [], laidByText := true, laidKinds := [.data, .data, .data, .data, .sentinel, .sentinel, .pinned], laidTests := true, laidLooks := .later }
def CondsReadUptoCardSaid : Prop := Claim7.holds Tryz.pinned (.plain (OpenSpec.upto condsReadSpec)) condsReadUptoCard

/-- THE SECOND FORM's CARD OF 'outlaw2.ChangesMatch'. -/
def changesMatchUptoCard : Claim7 := { stood := { row := changesMatchUptoRow, standIns := [], harness := (true, "5d2a3f440a11b230cf081d0b3f8854d9a845a06476ef934dcb60592799d8305e"), looks := true }, kinds := [], alts := [], laidByText := true, laidKinds := [.data, .data, .data, .data, .sentinel, .sentinel, .pinned], laidTests := true, laidLooks := .later }
def ChangesMatchUptoCardSaid : Prop := Claim7.holds Tryz.pinned (.plain (OpenSpec.upto changesMatchSpec)) changesMatchUptoCard

/-- THE SECOND FORM's CARD OF 'outlaw2.RangesMatch'. -/
def rangesMatchUptoCard : Claim7 := { stood := { row := rangesMatchUptoRow, standIns := [], harness := (true, "5d2a3f440a11b230cf081d0b3f8854d9a845a06476ef934dcb60592799d8305e"), looks := true }, kinds := [], alts := [], laidByText := true, laidKinds := [.data, .data, .data, .data, .sentinel, .sentinel, .pinned], laidTests := true, laidLooks := .later }
def RangesMatchUptoCardSaid : Prop := Claim7.holds Tryz.pinned (.plain (OpenSpec.upto rangesMatchSpec)) rangesMatchUptoCard

/-- THE SECOND FORM's CARD OF 'outtop.TopThereAndBack'. -/
def topThereAndBackUptoCard : Claim7 := { stood := { row := topThereAndBackUptoRow, standIns := [], harness := (true, "5d2a3f440a11b230cf081d0b3f8854d9a845a06476ef934dcb60592799d8305e"), looks := true }, kinds := [], alts := [], laidByText := true, laidKinds := [.data, .data, .data, .data, .sentinel, .sentinel, .pinned], laidTests := true, laidLooks := .later }
def TopThereAndBackUptoCardSaid : Prop := Claim7.holds Tryz.pinned (.plain (OpenSpec.upto topThereAndBackSpec)) topThereAndBackUptoCard

/-- THE SECOND FORM's CARD OF 'outlaw2.RunsMatch'. -/
def runsMatchUptoCard : Claim7 := { stood := { row := runsMatchUptoRow, standIns := [], harness := (true, "5d2a3f440a11b230cf081d0b3f8854d9a845a06476ef934dcb60592799d8305e"), looks := true }, kinds := [], alts := [], laidByText := true, laidKinds := [.data, .data, .data, .data, .sentinel, .sentinel, .pinned], laidTests := true, laidLooks := .later }
def RunsMatchUptoCardSaid : Prop := Claim7.holds Tryz.pinned (.plain (OpenSpec.upto runsMatchSpec)) runsMatchUptoCard

/-- THE SECOND FORM's CARD OF 'outlaw2.MovesMatch'. -/
def movesMatchUptoCard : Claim7 := { stood := { row := movesMatchUptoRow, standIns := [], harness := (true, "5d2a3f440a11b230cf081d0b3f8854d9a845a06476ef934dcb60592799d8305e"), looks := true }, kinds := [], alts := [], laidByText := true, laidKinds := [.data, .data, .data, .data, .sentinel, .sentinel, .pinned], laidTests := true, laidLooks := .later }
def MovesMatchUptoCardSaid : Prop := Claim7.holds Tryz.pinned (.plain (OpenSpec.upto movesMatchSpec)) movesMatchUptoCard
end Rows
end Go.Proofs.YtghhjlcbcojcnaaGreatDoor
