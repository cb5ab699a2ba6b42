/- Whether the row of outlaw2.CondsMatch goes by what is told. -/
import Derived.Test.YtaobnifiengglaaGreatDoorCe44

namespace Go.Proofs.YtaobnifiengglaaGreatDoor.condsMatch
open Go.ChangeShapes Go.WideShapes Go.ChangeAt Go.RowKit Go.WideElems Go.Joins
open Go.ChangeMaps (open_string shut_string)

theorem goes : false = Rows.condsMatchUptoRow.goesBy Tryz.pinned.checked.prog := by kernel_rfl
end Go.Proofs.YtaobnifiengglaaGreatDoor.condsMatch
