/- The card of outlaw2.SharesMatch. No condition beyond the row's own. -/
import Derived.Test.YtmnafaaijglnfaaGreatDoorSm08
import Derived.Test.YtmnafaaijglnfaaGreatDoorSm05

namespace Go.Proofs.YtmnafaaijglnfaaGreatDoor.sharesMatch
open Go.ChangeShapes Go.WideShapes Go.ChangeAt Go.RowKit Go.WideElems Go.Joins
open Go.ChangeMaps (open_string shut_string)

/-- the card -/
theorem cardUpto : Rows.SharesMatchUptoCardSaid :=
  Claim7.holds_tied_plain_at .later [] _ _ _ _ saidUpto (fun _ h => by cases h) wf (fun _ h => by cases h) sharesMatchUpto_row_tie rfl ⟨rfl, rfl⟩ (by kernel_rfl) rfl plain goes
end Go.Proofs.YtmnafaaijglnfaaGreatDoor.sharesMatch
