/- The card of outlaw2.RunsMatch. No condition beyond the row's own. -/
import Derived.Test.YtghhjlcbcojcnaaGreatDoorRn44
import Derived.Test.YtghhjlcbcojcnaaGreatDoorRn45
import Derived.Test.YtghhjlcbcojcnaaGreatDoorRn46

namespace Go.Proofs.YtghhjlcbcojcnaaGreatDoor.runsMatch
open Go.ChangeShapes Go.WideShapes Go.ChangeAt Go.RowKit Go.WideElems Go.Joins
open Go.ChangeMaps (open_string shut_string)

/-- the card -/
theorem cardUpto : Rows.RunsMatchUptoCardSaid :=
  Claim7.holds_tied_plain_at .later [] _ _ _ _ saidUpto (fun _ h => by cases h) wf (fun _ h => by cases h) runsMatchUpto_row_tie rfl ⟨rfl, rfl⟩ (by kernel_rfl) rfl plain goes
end Go.Proofs.YtghhjlcbcojcnaaGreatDoor.runsMatch
