/- The card of outlaw2.MovesMatch. No condition beyond the row's own. -/
import Derived.Test.YtghhjlcbcojcnaaGreatDoorMtA06
import Derived.Test.YtghhjlcbcojcnaaGreatDoorMtA07
import Derived.Test.YtghhjlcbcojcnaaGreatDoorMtA08

namespace Go.Proofs.YtghhjlcbcojcnaaGreatDoor.movesMatch
open Go.ChangeShapes Go.WideShapes Go.ChangeAt Go.RowKit Go.WideElems Go.Joins
open Go.ChangeMaps (open_string shut_string)

/-- the card -/
theorem cardUpto : Rows.MovesMatchUptoCardSaid :=
  Claim7.holds_tied_plain_at .later [] _ _ _ _ saidUpto (fun _ h => by cases h) wf (fun _ h => by cases h) movesMatchUpto_row_tie rfl ⟨rfl, rfl⟩ (by kernel_rfl) rfl plain goes
end Go.Proofs.YtghhjlcbcojcnaaGreatDoor.movesMatch
