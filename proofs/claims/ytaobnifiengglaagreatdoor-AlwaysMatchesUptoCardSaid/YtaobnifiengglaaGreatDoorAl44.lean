/- The closed facts of the row of outlaw2.AlwaysMatches, and its witness. -/
import Derived.Test.YtaobnifiengglaaGreatDoorAl23

namespace Go.Proofs.YtaobnifiengglaaGreatDoor.alwaysMatches
open Go.ChangeShapes Go.WideShapes Go.ChangeAt Go.RowKit Go.WideElems Go.Joins
open Go.ChangeMaps (open_string shut_string)

noncomputable abbrev wargs : Array Value := #[.agg #[.int .i64 0, .string ⟨#[]⟩, .string ⟨#[]⟩, .slice none 0 0], .slice none 0 0]
set_option maxRecDepth 1000000 in
theorem laid_met (os : Os) : laidMet Tryz.prog Rows.alwaysMatchesUptoRow.laid ((listed.laidWorld os).forCall (fun _ _ => 0) ⟨#[], wargs, []⟩).memory :=
  laidMet_of_run' 8 (by kernel_rfl) (by kernel_rfl)
set_option maxRecDepth 100000 in
theorem reads (os : Os) {H : Type} (enc : TypeId × Value → H) : ∃ places, DataW.whole enc Tryz.prog ((listed.laidWorld os).forCall (fun _ _ => 0) ⟨#[], wargs, []⟩).memory Tryz.f9.params.toList Rows.alwaysMatchesSpec.vars false wargs.toList 8 =
    some ([.agg [.lit (.int .i64 0), .lit (.string []), .lit (.string []), .nil], .nil], [], places) :=
  ⟨[], by kernel_rfl⟩

theorem inPlace : (Rows.alwaysMatchesUptoRow.inPlace == Tryz.pinned.checked.prog.inPlace 9) = true := by kernel_rfl
theorem unfollowed : (Rows.alwaysMatchesUptoRow.unfollowed == Tryz.pinned.checked.prog.unfollowed 9) = true := by kernel_rfl
theorem recurses : (Rows.alwaysMatchesUptoRow.recurses == Tryz.pinned.checked.prog.recurses 9) = true := by kernel_rfl
theorem named : (Rows.alwaysMatchesUptoRow.named == Tryz.pinned.checked.prog.varsNamed 9) = true := by kernel_rfl
theorem closed : joinedFacts Tryz.pinned.checked.prog 9 Tryz.f9 (Rows.OpenSpec.upto Rows.alwaysMatchesSpec).bare Rows.alwaysMatchesUptoRow = true := by
  unfold joinedFacts
  rw [inPlace, unfollowed, recurses, named]
  kernel_rfl
end Go.Proofs.YtaobnifiengglaaGreatDoor.alwaysMatches
