/- The card of outlaw2.PackagesMatch. No condition beyond the row's own. -/
import Derived.Test.YtmpccllnpcbgcaaGreatDoorPk50
import Derived.Test.YtmpccllnpcbgcaaGreatDoorPk01
namespace Go.Proofs.YtmpccllnpcbgcaaGreatDoor.packagesMatch
open Go.ChangeShapes Go.WideShapes Go.ChangeAt Go.RowKit Go.WideElems Go.Joins
open Go.ChangeMaps (open_string shut_string)
theorem cardUpto:Rows.PackagesMatchUptoCardSaid :=
 Claim7.holds_tied_plain_at .later [] _ _ _ _ saidUpto (fun _ h=>by cases h) wf (fun _ h=>by cases h) packagesMatchUpto_row_tie rfl ⟨rfl,rfl⟩ (by kernel_rfl) rfl plain goes
end Go.Proofs.YtmpccllnpcbgcaaGreatDoor.packagesMatch
