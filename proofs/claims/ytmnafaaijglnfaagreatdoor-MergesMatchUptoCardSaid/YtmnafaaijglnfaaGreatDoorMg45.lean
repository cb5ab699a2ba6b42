/- The card of outlaw2.MergesMatch. No condition beyond the row's own. -/
import Derived.Test.YtmnafaaijglnfaaGreatDoorMg01
import Derived.Test.YtmnafaaijglnfaaGreatDoorMg44
namespace Go.Proofs.YtmnafaaijglnfaaGreatDoor.mergesMatch
open Go.ChangeShapes Go.WideShapes Go.ChangeAt Go.RowKit Go.WideElems Go.Joins
open Go.ChangeMaps (open_string shut_string)
theorem cardUpto:Rows.MergesMatchUptoCardSaid :=
 Claim7.holds_tied_plain_at .later [] _ _ _ _ saidUpto (fun _ h=>by cases h) wf (fun _ h=>by cases h) mergesMatchUpto_row_tie rfl ⟨rfl,rfl⟩ (by kernel_rfl) rfl plain goes
end Go.Proofs.YtmnafaaijglnfaaGreatDoor.mergesMatch
