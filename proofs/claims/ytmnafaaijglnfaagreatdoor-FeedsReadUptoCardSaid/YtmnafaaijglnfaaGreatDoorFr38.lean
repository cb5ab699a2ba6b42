/- The card of outlaw2.FeedsRead. No condition beyond the row's own. -/
import Derived.Test.YtmnafaaijglnfaaGreatDoorFr01
import Derived.Test.YtmnafaaijglnfaaGreatDoorFr37
namespace Go.Proofs.YtmnafaaijglnfaaGreatDoor.feedsRead
open Go.ChangeShapes Go.WideShapes Go.ChangeAt Go.RowKit Go.WideElems Go.Joins
open Go.ChangeMaps (open_string shut_string)
theorem cardUpto:Rows.FeedsReadUptoCardSaid :=
 Claim7.holds_tied_plain_at .later [] _ _ _ _ saidUpto (fun _ h=>by cases h) wf (fun _ h=>by cases h) feedsReadUpto_row_tie rfl ⟨rfl,rfl⟩ (by kernel_rfl) rfl plain goes
end Go.Proofs.YtmnafaaijglnfaaGreatDoor.feedsRead
