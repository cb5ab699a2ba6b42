/- The card of outtop.TopThereAndBack. No condition beyond the row's own. -/
import Derived.Test.YtghhjlcbcojcnaaGreatDoorMtB05
import Derived.Test.YtghhjlcbcojcnaaGreatDoorMtB06
import Derived.Test.YtghhjlcbcojcnaaGreatDoorMtB07

namespace Go.Proofs.YtghhjlcbcojcnaaGreatDoor.topThereAndBack
open Go.ChangeShapes Go.WideShapes Go.ChangeAt Go.RowKit Go.WideElems Go.Joins
open Go.ChangeMaps (open_string shut_string)

/-- the card -/
theorem cardUpto : Rows.TopThereAndBackUptoCardSaid :=
  Claim7.holds_tied_plain_at .later [] _ _ _ _ saidUpto (fun _ h => by cases h) wf (fun _ h => by cases h) topThereAndBackUpto_row_tie rfl ⟨rfl, rfl⟩ (by kernel_rfl) rfl plain goes
end Go.Proofs.YtghhjlcbcojcnaaGreatDoor.topThereAndBack
