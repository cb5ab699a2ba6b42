/- Whether the row of outlaw2.OffersMatch goes by what is told. -/
import Derived.Test.YtmnafaaijglnfaaGreatDoorCards
import Derived.Test.YtmnafaaijglnfaaGreatDoorTie
import Derived.Test.YtmnafaaijglnfaaGreatDoorShelf
import Derived.Test.YtmnafaaijglnfaaGreatDoorProg
import Derived.ProofKit
import Derived.OpenShut
import Derived.Deep.DeepHandedRow
import Derived.Deep.DeepWitnessRowRef
import Derived.Lib.LaidTab
import Derived.Lib.LaidIn
import Derived.Lib.SmallJoins
import Derived.Stop.LaidErr
import Derived.LaidSub
import Derived.SizedLaws
import Derived.WalkKit
import Derived.WalkSpells
import Derived.WalkLawsBesides
import Derived.LoopTactic
import Derived.Outline
import Derived.Lib.Hide
import Derived.Lib.ConvBytes
import Derived.Lib.ItoaNum
import Derived.WalkSmall
import Derived.Sort.Grow
import Derived.Deep.QuietTactic
import Derived.BigQuiet
import Derived.Lib.Split
import Derived.Lib.IndexBytes
import Derived.Lib.ItoaLen
namespace Go.Proofs.YtmnafaaijglnfaaGreatDoor.offersMatch
open Go.ChangeShapes Go.WideShapes Go.ChangeAt Go.RowKit Go.WideElems Go.Joins
open Go.ChangeMaps (open_string shut_string)
theorem goes:false=Rows.offersMatchUptoRow.goesBy Tryz.pinned.checked.prog:=by kernel_rfl
end Go.Proofs.YtmnafaaijglnfaaGreatDoor.offersMatch
