/- The card of outlaw2.CondsMatch. No condition beyond the row's own. -/
import Derived.Test.YtaobnifiengglaaGreatDoorCe46
import Derived.Test.YtaobnifiengglaaGreatDoorCe47
import Derived.Test.YtaobnifiengglaaGreatDoorCe48

namespace Go.Proofs.YtaobnifiengglaaGreatDoor.condsMatch
open Go.ChangeShapes Go.WideShapes Go.ChangeAt Go.RowKit Go.WideElems Go.Joins
open Go.ChangeMaps (open_string shut_string)

/-- the card -/
theorem cardUpto : Rows.CondsMatchUptoCardSaid :=
  Claim7.holds_tied_plain_at .later [] _ _ _ _ saidUpto (fun _ h => by cases h) wf (fun _ h => by cases h) condsMatchUpto_row_tie rfl ⟨rfl, rfl⟩ (by kernel_rfl) rfl plain goes
end Go.Proofs.YtaobnifiengglaaGreatDoor.condsMatch
