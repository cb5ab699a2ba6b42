/- The card of outlaw2.OffersMatch. No condition beyond the row's own. -/
import Derived.Test.YtmnafaaijglnfaaGreatDoorOm50
import Derived.Test.YtmnafaaijglnfaaGreatDoorOm01
namespace Go.Proofs.YtmnafaaijglnfaaGreatDoor.offersMatch
open Go.ChangeShapes Go.WideShapes Go.ChangeAt Go.RowKit Go.WideElems Go.Joins
open Go.ChangeMaps (open_string shut_string)
theorem cardUpto:Rows.OffersMatchUptoCardSaid :=
 Claim7.holds_tied_plain_at .later [] _ _ _ _ saidUpto (fun _ h=>by cases h) wf (fun _ h=>by cases h) offersMatchUpto_row_tie rfl ⟨rfl,rfl⟩ (by kernel_rfl) rfl plain goes
end Go.Proofs.YtmnafaaijglnfaaGreatDoor.offersMatch
