/- The pins of the row of outtop.TopThereAndBack. -/
import Derived.Test.YtghhjlcbcojcnaaGreatDoorMtB03

namespace Go.Proofs.YtghhjlcbcojcnaaGreatDoor.topThereAndBack
open Go.ChangeShapes Go.WideShapes Go.ChangeAt Go.RowKit Go.WideElems Go.Joins
open Go.ChangeMaps (open_string shut_string)

/-- the row's pins: its tests look, none of its parameters is a function -/
theorem plain (f : FuncId) (fn : Func) (hf : Tryz.prog.funcNamed "outfitter/outtop.TopThereAndBack" = some f) (hfn : Tryz.prog.funcs[f]? = some fn) :
    true = Tryz.prog.looks [] ∧ ∀ (j : Nat) t, fn.params[j]? = some t → Tryz.prog.wantsStandIn t = false := by
  obtain rfl : f = 9 := Option.some.inj ((show Tryz.prog.funcNamed "outfitter/outtop.TopThereAndBack" = some 9 by kernel_rfl).symm.trans hf) |>.symm
  obtain rfl : fn = Tryz.f9 := (Option.some.inj (Tryz.func9.symm.trans hfn)).symm
  refine ⟨by kernel_rfl, fun j t ht => ?_⟩
  rw [Tryz.params9] at ht
  have hm : t ∈ [65, 91, 92, 35, 35] := by simpa using Array.mem_of_getElem? ht
  have hall : ([65, 91, 92, 35, 35].all fun u => !Tryz.prog.wantsStandIn u) = true := by kernel_rfl
  simpa using List.all_eq_true.1 hall t hm
/-- the row's form -/
theorem wf : Rows.topThereAndBackUptoRow.wfByText (Rows.OpenSpec.upto Rows.topThereAndBackSpec) = true := by kernel_rfl
end Go.Proofs.YtghhjlcbcojcnaaGreatDoor.topThereAndBack
