/- The card of outlaw2.AlwaysMatches. No condition beyond the row's own. -/
import Derived.Test.YtaobnifiengglaaGreatDoorAl46
import Derived.Test.YtaobnifiengglaaGreatDoorAl47
import Derived.Test.YtaobnifiengglaaGreatDoorAl48

namespace Go.Proofs.YtaobnifiengglaaGreatDoor.alwaysMatches
open Go.ChangeShapes Go.WideShapes Go.ChangeAt Go.RowKit Go.WideElems Go.Joins
open Go.ChangeMaps (open_string shut_string)

/-- the card -/
theorem cardUpto : Rows.AlwaysMatchesUptoCardSaid :=
  Claim7.holds_tied_plain_at .later [] _ _ _ _ saidUpto (fun _ h => by cases h) wf (fun _ h => by cases h) alwaysMatchesUpto_row_tie rfl ⟨rfl, rfl⟩ (by kernel_rfl) rfl plain goes
end Go.Proofs.YtaobnifiengglaaGreatDoor.alwaysMatches
