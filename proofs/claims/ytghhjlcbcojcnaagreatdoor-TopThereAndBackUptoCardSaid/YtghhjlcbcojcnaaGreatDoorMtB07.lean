/- Whether the row of outtop.TopThereAndBack goes by what is told. -/
import Derived.Test.YtghhjlcbcojcnaaGreatDoorMtB03

namespace Go.Proofs.YtghhjlcbcojcnaaGreatDoor.topThereAndBack
open Go.ChangeShapes Go.WideShapes Go.ChangeAt Go.RowKit Go.WideElems Go.Joins
open Go.ChangeMaps (open_string shut_string)

theorem goes : false = Rows.topThereAndBackUptoRow.goesBy Tryz.pinned.checked.prog := by kernel_rfl
end Go.Proofs.YtghhjlcbcojcnaaGreatDoor.topThereAndBack
