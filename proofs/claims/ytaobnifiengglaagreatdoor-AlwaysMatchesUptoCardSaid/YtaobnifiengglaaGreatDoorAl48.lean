/- Whether the row of outlaw2.AlwaysMatches goes by what is told. -/
import Derived.Test.YtaobnifiengglaaGreatDoorAl44

namespace Go.Proofs.YtaobnifiengglaaGreatDoor.alwaysMatches
open Go.ChangeShapes Go.WideShapes Go.ChangeAt Go.RowKit Go.WideElems Go.Joins
open Go.ChangeMaps (open_string shut_string)

theorem goes : false = Rows.alwaysMatchesUptoRow.goesBy Tryz.pinned.checked.prog := by kernel_rfl
end Go.Proofs.YtaobnifiengglaaGreatDoor.alwaysMatches
