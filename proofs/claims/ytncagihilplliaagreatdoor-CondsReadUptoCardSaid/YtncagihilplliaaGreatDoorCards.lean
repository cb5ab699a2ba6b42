/-
  DERIVED. GIVEN WITH THE SEED: THE CARDS: each row of YtncagihilplliaaGreatDoorRows.lean that lists a variable, with what it lists TIED to the program's text (the seventh form; the later family's looks); each row that meets fmt, with fmt's text TOLD by the authors' own Lean function (tested against real Go, not proved from fmt's source: count such statements apart). THE CARD IS WHAT COUNTS. Prove the row's statement (the work); the ties are given (YtncagihilplliaaGreatDoorTie.lean); close each card by the builder's one call (the guide's Derived/Test/ToyasCard.lean, 'card_holds'). Laid BY PROGRAM, IN A SANDBOX (cutbox-door.mjs). By AI agents, Wed Nov 11 2026. No macro, syntax, notation, axiom, sorry.
-/
import Derived.Test.YtncagihilplliaaGreatDoorRows
import GoSem.ClaimSeven
namespace Go.Proofs.YtncagihilplliaaGreatDoor
namespace Rows

/-- THE TIED CARD OF 'outlaw2.RulesMatch'. -/
def rulesMatchCard : Claim7 := { stood := { row := rulesMatchRow, standIns := [], harness := (true, "487b82e1c6ffca61d4a81b97613f42a4e3aaf8c742411723a8a141402f7a7ea3"), looks := true }, kinds := [], alts := [], laidByText := true, laidKinds := [.data, .pinned], laidTests := true, laidLooks := .later }
def RulesMatchCardSaid : Prop := Claim7.holds Tryz.pinned (.plain (OpenSpec.ofChange rulesMatchSpec)) rulesMatchCard

/-- THE TIED CARD OF 'outlaw2.VersionsMatch'. -/
def versionsMatchCard : Claim7 := { stood := { row := versionsMatchRow, standIns := [], harness := (true, "487b82e1c6ffca61d4a81b97613f42a4e3aaf8c742411723a8a141402f7a7ea3"), looks := true }, kinds := [], alts := [], laidByText := true, laidKinds := [.data, .data, .data, .data, .sentinel, .sentinel, .pinned], laidTests := true, laidLooks := .later }
def VersionsMatchCardSaid : Prop := Claim7.holds Tryz.pinned (.plain (OpenSpec.ofChange versionsMatchSpec)) versionsMatchCard

/-- THE TIED CARD OF 'outlaw2.RangesPrint'. -/
def rangesPrintCard : Claim7 := { stood := { row := rangesPrintRow, standIns := [], harness := (true, "487b82e1c6ffca61d4a81b97613f42a4e3aaf8c742411723a8a141402f7a7ea3"), looks := true }, kinds := [], alts := [], laidByText := true, laidKinds := [.data, .data, .data, .data, .sentinel, .sentinel, .pinned], laidTests := true, laidLooks := .later }
def RangesPrintCardSaid : Prop := Claim7.holds Tryz.pinned (.plain (OpenSpec.ofChange rangesPrintSpec)) rangesPrintCard

/-- THE TIED CARD OF 'outlaw2.CondsRead'. -/
def condsReadCard : Claim7 := { stood := { row := condsReadRow, standIns := [], harness := (true, "487b82e1c6ffca61d4a81b97613f42a4e3aaf8c742411723a8a141402f7a7ea3"), looks := true }, kinds := [], alts := [], laidByText := true, laidKinds := [.data, .data, .data, .data, .sentinel, .sentinel, .pinned], laidTests := true, laidLooks := .later }
def CondsReadCardSaid : Prop := Claim7.holds Tryz.pinned (.plain (OpenSpec.ofChange condsReadSpec)) condsReadCard

/-- THE SECOND FORM's CARD OF 'outlaw2.RulesMatch'. -/
def rulesMatchUptoCard : Claim7 := { stood := { row := rulesMatchUptoRow, standIns := [], harness := (true, "487b82e1c6ffca61d4a81b97613f42a4e3aaf8c742411723a8a141402f7a7ea3"), looks := true }, kinds := [], alts := [], laidByText := true, laidKinds := [.data, .pinned], laidTests := true, laidLooks := .later }
def RulesMatchUptoCardSaid : Prop := Claim7.holds Tryz.pinned (.plain (OpenSpec.upto rulesMatchSpec)) rulesMatchUptoCard

/-- THE SECOND FORM's CARD OF 'outlaw2.VersionsMatch'. -/
def versionsMatchUptoCard : Claim7 := { stood := { row := versionsMatchUptoRow, standIns := [], harness := (true, "487b82e1c6ffca61d4a81b97613f42a4e3aaf8c742411723a8a141402f7a7ea3"), looks := true }, kinds := [], alts := [], laidByText := true, laidKinds := [.data, .data, .data, .data, .sentinel, .sentinel, .pinned], laidTests := true, laidLooks := .later }
def VersionsMatchUptoCardSaid : Prop := Claim7.holds Tryz.pinned (.plain (OpenSpec.upto versionsMatchSpec)) versionsMatchUptoCard

/-- THE SECOND FORM's CARD OF 'outlaw2.RangesPrint'. -/
def rangesPrintUptoCard : Claim7 := { stood := { row := rangesPrintUptoRow, standIns := [], harness := (true, "487b82e1c6ffca61d4a81b97613f42a4e3aaf8c742411723a8a141402f7a7ea3"), looks := true }, kinds := [], alts := [], laidByText := true, laidKinds := [.data, .data, .data, .data, .sentinel, .sentinel, .pinned], laidTests := true, laidLooks := .later }
def RangesPrintUptoCardSaid : Prop := Claim7.holds Tryz.pinned (.plain (OpenSpec.upto rangesPrintSpec)) rangesPrintUptoCard

/-- THE SECOND FORM's CARD OF 'outlaw2.CondsRead'. -/
def condsReadUptoCard : Claim7 := { stood := { row := condsReadUptoRow, standIns := [], harness := (true, "487b82e1c6ffca61d4a81b97613f42a4e3aaf8c742411723a8a141402f7a7ea3"), looks := true }, kinds := [], alts := [], laidByText := true, laidKinds := [.data, .data, .data, .data, .sentinel, .sentinel, .pinned], laidTests := true, laidLooks := .later }
def CondsReadUptoCardSaid : Prop := Claim7.holds Tryz.pinned (.plain (OpenSpec.upto condsReadSpec)) condsReadUptoCard
end Rows
end Go.Proofs.YtncagihilplliaaGreatDoor
