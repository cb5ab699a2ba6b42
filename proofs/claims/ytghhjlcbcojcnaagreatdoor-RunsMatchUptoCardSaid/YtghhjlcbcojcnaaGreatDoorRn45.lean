/- The pins of the row of outlaw2.RunsMatch. -/
import Derived.Test.YtghhjlcbcojcnaaGreatDoorRn42

namespace Go.Proofs.YtghhjlcbcojcnaaGreatDoor.runsMatch
open Go.ChangeShapes Go.WideShapes Go.ChangeAt Go.RowKit Go.WideElems Go.Joins
open Go.ChangeMaps (open_string shut_string)

/-- the row's pins: its tests look, none of its parameters is a function -/
theorem plain (f : FuncId) (fn : Func) (hf : Tryz.prog.funcNamed "outfitter/outlaw2.RunsMatch" = some f) (hfn : Tryz.prog.funcs[f]? = some fn) :
    true = Tryz.prog.looks [] ∧ ∀ (j : Nat) t, fn.params[j]? = some t → Tryz.prog.wantsStandIn t = false := by
  obtain rfl : f = 10 := Option.some.inj ((show Tryz.prog.funcNamed "outfitter/outlaw2.RunsMatch" = some 10 by kernel_rfl).symm.trans hf) |>.symm
  obtain rfl : fn = Tryz.f10 := (Option.some.inj (Tryz.func10.symm.trans hfn)).symm
  refine ⟨by kernel_rfl, fun j t ht => ?_⟩
  rw [Tryz.params10] at ht
  have hm : t ∈ [65, 91] := by simpa using Array.mem_of_getElem? ht
  have hall : ([65, 91].all fun u => !Tryz.prog.wantsStandIn u) = true := by kernel_rfl
  simpa using List.all_eq_true.1 hall t hm
/-- the row's form -/
theorem wf : Rows.runsMatchUptoRow.wfByText (Rows.OpenSpec.upto Rows.runsMatchSpec) = true := by kernel_rfl
end Go.Proofs.YtghhjlcbcojcnaaGreatDoor.runsMatch
