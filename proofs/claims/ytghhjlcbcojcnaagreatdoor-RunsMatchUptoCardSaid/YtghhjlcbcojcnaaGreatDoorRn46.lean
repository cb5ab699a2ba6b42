/- Whether the row of outlaw2.RunsMatch goes by what is told. -/
import Derived.Test.YtghhjlcbcojcnaaGreatDoorRn42

namespace Go.Proofs.YtghhjlcbcojcnaaGreatDoor.runsMatch
open Go.ChangeShapes Go.WideShapes Go.ChangeAt Go.RowKit Go.WideElems Go.Joins
open Go.ChangeMaps (open_string shut_string)

theorem goes : false = Rows.runsMatchUptoRow.goesBy Tryz.pinned.checked.prog := by kernel_rfl
end Go.Proofs.YtghhjlcbcojcnaaGreatDoor.runsMatch
