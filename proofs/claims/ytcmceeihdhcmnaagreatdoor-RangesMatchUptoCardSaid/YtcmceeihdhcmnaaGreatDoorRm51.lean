/- The closed facts of the row of outlaw2.RangesMatch, and its witness. -/
import Derived.Test.YtcmceeihdhcmnaaGreatDoorRm26
namespace Go.Proofs.YtcmceeihdhcmnaaGreatDoor.rangesMatch
open Go.ChangeShapes Go.WideShapes Go.ChangeAt Go.RowKit Go.WideElems Go.Joins
open Go.ChangeMaps (open_string shut_string)

noncomputable abbrev wargs : Array Value := #[.agg #[.slice none 0 0], .agg #[.slice none 0 0], .agg #[.int .i64 0, .int .i64 0, .int .i64 0, .string ⟨#[]⟩], .slice none 0 0]
set_option maxRecDepth 1000000 in
theorem laid_met (os : Os) : laidMet Tryz.prog Rows.rangesMatchUptoRow.laid ((listed.laidWorld os).forCall (fun _ _ => 0) ⟨#[], wargs, []⟩).memory :=
  laidMet_of_run' 8 (by kernel_rfl) (by kernel_rfl)
set_option maxRecDepth 100000 in
theorem reads (os : Os) {H : Type} (enc : TypeId × Value → H) : ∃ places, DataW.whole enc Tryz.prog ((listed.laidWorld os).forCall (fun _ _ => 0) ⟨#[], wargs, []⟩).memory Tryz.f8.params.toList Rows.rangesMatchSpec.vars false wargs.toList 8 =
    some ([.agg [.nil], .agg [.nil], .agg [.lit (.int .i64 0), .lit (.int .i64 0), .lit (.int .i64 0), .lit (.string [])], .nil], [], places) :=
  ⟨[], by kernel_rfl⟩

theorem inPlace : (Rows.rangesMatchUptoRow.inPlace == Tryz.pinned.checked.prog.inPlace 8) = true := by kernel_rfl
theorem unfollowed : (Rows.rangesMatchUptoRow.unfollowed == Tryz.pinned.checked.prog.unfollowed 8) = true := by kernel_rfl
theorem recurses : (Rows.rangesMatchUptoRow.recurses == Tryz.pinned.checked.prog.recurses 8) = true := by kernel_rfl
theorem named : (Rows.rangesMatchUptoRow.named == Tryz.pinned.checked.prog.varsNamed 8) = true := by kernel_rfl
theorem closed : joinedFacts Tryz.pinned.checked.prog 8 Tryz.f8 (Rows.OpenSpec.upto Rows.rangesMatchSpec).bare Rows.rangesMatchUptoRow = true := by
  unfold joinedFacts
  rw [inPlace, unfollowed, recurses, named]
  kernel_rfl
end Go.Proofs.YtcmceeihdhcmnaaGreatDoor.rangesMatch
