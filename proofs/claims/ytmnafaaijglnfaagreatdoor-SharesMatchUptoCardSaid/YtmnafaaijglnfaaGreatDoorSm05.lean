/- The pins of the row of outlaw2.SharesMatch. Whether the row of outlaw2.SharesMatch goes by what is told. -/
import Derived.Test.YtmnafaaijglnfaaGreatDoorSm04

namespace Go.Proofs.YtmnafaaijglnfaaGreatDoor.sharesMatch
open Go.ChangeShapes Go.WideShapes Go.ChangeAt Go.RowKit Go.WideElems Go.Joins
open Go.ChangeMaps (open_string shut_string)

/-- the row's pins: its tests look, none of its parameters is a function -/
theorem plain (f : FuncId) (fn : Func) (hf : Tryz.prog.funcNamed "outfitter/outlaw2.SharesMatch" = some f) (hfn : Tryz.prog.funcs[f]? = some fn) :
    true = Tryz.prog.looks [] ∧ ∀ (j : Nat) t, fn.params[j]? = some t → Tryz.prog.wantsStandIn t = false := by
  obtain rfl : f = 7 := Option.some.inj ((show Tryz.prog.funcNamed "outfitter/outlaw2.SharesMatch" = some 7 by kernel_rfl).symm.trans hf) |>.symm
  obtain rfl : fn = Tryz.f7 := (Option.some.inj (Tryz.func7.symm.trans hfn)).symm
  refine ⟨by kernel_rfl, fun j t ht => ?_⟩
  rw [Tryz.params7] at ht
  have hm : t ∈ [66, 9, 74, 3] := by simpa using Array.mem_of_getElem? ht
  have hall : ([66, 9, 74, 3].all fun u => !Tryz.prog.wantsStandIn u) = true := by kernel_rfl
  simpa using List.all_eq_true.1 hall t hm
/-- the row's form -/
theorem wf : Rows.sharesMatchUptoRow.wfByText (Rows.OpenSpec.upto Rows.sharesMatchSpec) = true := by kernel_rfl
end Go.Proofs.YtmnafaaijglnfaaGreatDoor.sharesMatch

namespace Go.Proofs.YtmnafaaijglnfaaGreatDoor.sharesMatch
open Go.ChangeShapes Go.WideShapes Go.ChangeAt Go.RowKit Go.WideElems Go.Joins
open Go.ChangeMaps (open_string shut_string)

theorem goes : false = Rows.sharesMatchUptoRow.goesBy Tryz.pinned.checked.prog := by kernel_rfl
end Go.Proofs.YtmnafaaijglnfaaGreatDoor.sharesMatch
