/-
  DERIVED. GIVEN WITH THE SEED: THE CARDS: each row of YtmpccllnpcbgcaaGreatDoorRows.lean that lists a variable, with what it lists TIED to the program's text (the seventh form; the later family's looks); each row that meets fmt, with fmt's text TOLD by the authors' own Lean function (tested against real Go, not proved from fmt's source: count such statements apart). THE CARD IS WHAT COUNTS. Prove the row's statement (the work); the ties are given (YtmpccllnpcbgcaaGreatDoorTie.lean); close each card by the builder's one call (the guide's Derived/Test/ToyasCard.lean, 'card_holds'). Laid BY PROGRAM, IN A SANDBOX (cutbox-door.mjs). By AI agents, Wed Nov 11 2026. No macro, syntax, notation, axiom, sorry.
-/
import Derived.Test.YtmpccllnpcbgcaaGreatDoorRows
import GoSem.ClaimSeven
namespace Go.Proofs.YtmpccllnpcbgcaaGreatDoor
namespace Rows

/-- THE TIED CARD OF 'outlaw2.VersionsMatch'. -/
def versionsMatchCard : Claim7 := { stood := { row := versionsMatchRow, standIns := [], harness := (true, "0891c2bb553a2c58c24617bb95b374c13b27fbd4f7e99887d8938debcbbad691"), looks := true }, kinds := [], alts := [], laidByText := true, laidKinds := [.data, .data, .data, .data, .sentinel, .sentinel, .pinned], laidTests := true, laidLooks := .later }
def VersionsMatchCardSaid : Prop := Claim7.holds Tryz.pinned (.plain (OpenSpec.ofChange versionsMatchSpec)) versionsMatchCard

/-- THE TIED CARD OF 'outlaw2.RangesPrint'. -/
def rangesPrintCard : Claim7 := { stood := { row := rangesPrintRow, standIns := [], harness := (true, "0891c2bb553a2c58c24617bb95b374c13b27fbd4f7e99887d8938debcbbad691"), looks := true }, kinds := [], alts := [], laidByText := true, laidKinds := [.data, .data, .data, .data, .sentinel, .sentinel, .pinned], laidTests := true, laidLooks := .later }
def RangesPrintCardSaid : Prop := Claim7.holds Tryz.pinned (.plain (OpenSpec.ofChange rangesPrintSpec)) rangesPrintCard

/-- THE TIED CARD OF 'outlaw2.CondsRead'. -/
def condsReadCard : Claim7 := { stood := { row := condsReadRow, standIns := [], harness := (true, "0891c2bb553a2c58c24617bb95b374c13b27fbd4f7e99887d8938debcbbad691"), looks := true }, kinds := [], alts := [], laidByText := true, laidKinds := [.data, .data, .data, .data, .sentinel, .sentinel, .pinned], laidTests := true, laidLooks := .later }
def CondsReadCardSaid : Prop := Claim7.holds Tryz.pinned (.plain (OpenSpec.ofChange condsReadSpec)) condsReadCard

/-- THE TIED CARD OF 'outlaw2.ChangesMatch'. -/
def changesMatchCard : Claim7 := { stood := { row := changesMatchRow, standIns := [], harness := (true, "0891c2bb553a2c58c24617bb95b374c13b27fbd4f7e99887d8938debcbbad691"), looks := true }, kinds := [], alts := [], laidByText := true, laidKinds := [.data, .data, .data, .data, .sentinel, .sentinel, .pinned], laidTests := true, laidLooks := .later }
def ChangesMatchCardSaid : Prop := Claim7.holds Tryz.pinned (.plain (OpenSpec.ofChange changesMatchSpec)) changesMatchCard

/-- THE TIED CARD OF 'outlaw2.PackagesMatch'. -/
def packagesMatchCard : Claim7 := { stood := { row := packagesMatchRow, standIns := [], harness := (true, "0891c2bb553a2c58c24617bb95b374c13b27fbd4f7e99887d8938debcbbad691"), looks := true }, kinds := [], alts := [], laidByText := true, laidKinds := [.data, .data, .data, .data, .sentinel, .sentinel, .pinned], laidTests := true, laidLooks := .later }
def PackagesMatchCardSaid : Prop := Claim7.holds Tryz.pinned (.plain (OpenSpec.ofChange packagesMatchSpec)) packagesMatchCard

/-- THE TIED CARD OF 'outlaw2.PartsMatch'. -/
def partsMatchCard : Claim7 := { stood := { row := partsMatchRow, standIns := [], harness := (true, "0891c2bb553a2c58c24617bb95b374c13b27fbd4f7e99887d8938debcbbad691"), looks := true }, kinds := [], alts := [], laidByText := true, laidKinds := [.data, .data, .data, .data, .sentinel, .sentinel, .pinned], laidTests := true, laidLooks := .later }
def PartsMatchCardSaid : Prop := Claim7.holds Tryz.pinned (.plain (OpenSpec.ofChange partsMatchSpec)) partsMatchCard

/-- THE TIED CARD OF 'outlaw2.ClashesMatch'. -/
def clashesMatchCard : Claim7 := { stood := { row := clashesMatchRow, standIns := [], harness := (true, "0891c2bb553a2c58c24617bb95b374c13b27fbd4f7e99887d8938debcbbad691"), looks := true }, kinds := [], alts := [], laidByText := true, laidKinds := [.data, .data, .data, .data, .sentinel, .sentinel, .pinned], laidTests := true, laidLooks := .later }
def ClashesMatchCardSaid : Prop := Claim7.holds Tryz.pinned (.plain (OpenSpec.ofChange clashesMatchSpec)) clashesMatchCard

/-- THE SECOND FORM's CARD OF 'outlaw2.VersionsMatch'. -/
def versionsMatchUptoCard : Claim7 := { stood := { row := versionsMatchUptoRow, standIns := [], harness := (true, "0891c2bb553a2c58c24617bb95b374c13b27fbd4f7e99887d8938debcbbad691"), looks := true }, kinds := [], alts := [], laidByText := true, laidKinds := [.data, .data, .data, .data, .sentinel, .sentinel, .pinned], laidTests := true, laidLooks := .later }
def VersionsMatchUptoCardSaid : Prop := Claim7.holds Tryz.pinned (.plain (OpenSpec.upto versionsMatchSpec)) versionsMatchUptoCard

/-- THE SECOND FORM's CARD OF 'outlaw2.RangesPrint'. -/
def rangesPrintUptoCard : Claim7 := { stood := { row := rangesPrintUptoRow, standIns := [], harness := (true, "0891c2bb553a2c58c24617bb95b374c13b27fbd4f7e99887d8938debcbbad691"), looks := true }, kinds := [], alts := [], laidByText := true, laidKinds := [.data, .data, .data, .data, .sentinel, .sentinel, .pinned], laidTests := true, laidLooks := .later }
def RangesPrintUptoCardSaid : Prop := Claim7.holds Tryz.pinned (.plain (OpenSpec.upto rangesPrintSpec)) rangesPrintUptoCard

/-- THE SECOND FORM's CARD OF 'outlaw2.CondsRead'. -/
def condsReadUptoCard : Claim7 := { stood := { row := condsReadUptoRow, standIns := [], harness := (true, "0891c2bb553a2c58c24617bb95b374c13b27fbd4f7e99887d8938debcbbad691"), looks := true }, kinds := [], alts := [], laidByText := true, laidKinds := [.data, .data, .data, .data, .sentinel, .sentinel, .pinned], laidTests := true, laidLooks := .later }
def CondsReadUptoCardSaid : Prop := Claim7.holds Tryz.pinned (.plain (OpenSpec.upto condsReadSpec)) condsReadUptoCard

/-- THE SECOND FORM's CARD OF 'outlaw2.ChangesMatch'. -/
def changesMatchUptoCard : Claim7 := { stood := { row := changesMatchUptoRow, standIns := [], harness := (true, "0891c2bb553a2c58c24617bb95b374c13b27fbd4f7e99887d8938debcbbad691"), looks := true }, kinds := [], alts := [], laidByText := true, laidKinds := [.data, .data, .data, .data, .sentinel, .sentinel, .pinned], laidTests := true, laidLooks := .later }
def ChangesMatchUptoCardSaid : Prop := Claim7.holds Tryz.pinned (.plain (OpenSpec.upto changesMatchSpec)) changesMatchUptoCard

/-- THE SECOND FORM's CARD OF 'outlaw2.PackagesMatch'. -/
def packagesMatchUptoCard : Claim7 := { stood := { row := packagesMatchUptoRow, standIns := [], harness := (true, "0891c2bb553a2c58c24617bb95b374c13b27fbd4f7e99887d8938debcbbad691"), looks := true }, kinds := [], alts := [], laidByText := true, laidKinds := [.data, .data, .data, .data, .sentinel, .sentinel, .pinned], laidTests := true, laidLooks := .later }
def PackagesMatchUptoCardSaid : Prop := Claim7.holds Tryz.pinned (.plain (OpenSpec.upto packagesMatchSpec)) packagesMatchUptoCard

/-- THE SECOND FORM's CARD OF 'outlaw2.PartsMatch'. -/
def partsMatchUptoCard : Claim7 := { stood := { row := partsMatchUptoRow, standIns := [], harness := (true, "0891c2bb553a2c58c24617bb95b374c13b27fbd4f7e99887d8938debcbbad691"), looks := true }, kinds := [], alts := [], laidByText := true, laidKinds := [.data, .data, .data, .data, .sentinel, .sentinel, .pinned], laidTests := true, laidLooks := .later }
def PartsMatchUptoCardSaid : Prop := Claim7.holds Tryz.pinned (.plain (OpenSpec.upto partsMatchSpec)) partsMatchUptoCard

/-- THE SECOND FORM's CARD OF 'outlaw2.ClashesMatch'. -/
def clashesMatchUptoCard : Claim7 := { stood := { row := clashesMatchUptoRow, standIns := [], harness := (true, "0891c2bb553a2c58c24617bb95b374c13b27fbd4f7e99887d8938debcbbad691"), looks := true }, kinds := [], alts := [], laidByText := true, laidKinds := [.data, .data, .data, .data, .sentinel, .sentinel, .pinned], laidTests := true, laidLooks := .later }
def ClashesMatchUptoCardSaid : Prop := Claim7.holds Tryz.pinned (.plain (OpenSpec.upto clashesMatchSpec)) clashesMatchUptoCard
end Rows
end Go.Proofs.YtmpccllnpcbgcaaGreatDoor
