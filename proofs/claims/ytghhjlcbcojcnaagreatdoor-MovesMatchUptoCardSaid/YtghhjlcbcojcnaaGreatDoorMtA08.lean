/- Whether the row of outlaw2.MovesMatch goes by what is told. -/
import Derived.Test.YtghhjlcbcojcnaaGreatDoorMtA04

namespace Go.Proofs.YtghhjlcbcojcnaaGreatDoor.movesMatch
open Go.ChangeShapes Go.WideShapes Go.ChangeAt Go.RowKit Go.WideElems Go.Joins
open Go.ChangeMaps (open_string shut_string)

theorem goes : false = Rows.movesMatchUptoRow.goesBy Tryz.pinned.checked.prog := by kernel_rfl
end Go.Proofs.YtghhjlcbcojcnaaGreatDoor.movesMatch
