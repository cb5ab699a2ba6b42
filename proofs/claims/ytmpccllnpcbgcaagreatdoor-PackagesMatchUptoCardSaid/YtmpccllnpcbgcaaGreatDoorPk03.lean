/- Bytes as cells; texts compared. The pins of the row of outlaw2.PackagesMatch. -/
import Derived.Test.YtmpccllnpcbgcaaGreatDoorPk02
namespace Go.Proofs.YtmpccllnpcbgcaaGreatDoor
open Go.RowKit
theorem eqE (x y:ByteArray):(x.toList==y.toList)=decide (bs x=bs y):=by
 rw[ByteArray.toList_eq,ByteArray.toList_eq]
 by_cases h:bs x=bs y
 ·rw[decide_eq_true h,beq_iff_eq];exact h
 ·rw[decide_eq_false h,beq_eq_false_iff_ne];exact h
end Go.Proofs.YtmpccllnpcbgcaaGreatDoor
namespace Go.Proofs.YtmpccllnpcbgcaaGreatDoor.packagesMatch
open Go.ChangeShapes Go.WideShapes Go.ChangeAt Go.RowKit Go.WideElems Go.Joins
open Go.ChangeMaps (open_string shut_string)
theorem plain (f:FuncId) (fn:Func) (hf:Tryz.prog.funcNamed "outfitter/outlaw2.PackagesMatch"=some f) (hfn:Tryz.prog.funcs[f]?=some fn) :
 true=Tryz.prog.looks []∧∀ (j:Nat) t,fn.params[j]?=some t->Tryz.prog.wantsStandIn t=false:=by
 obtain rfl:f=7:=Option.some.inj ((show Tryz.prog.funcNamed "outfitter/outlaw2.PackagesMatch"=some 7 by kernel_rfl).symm.trans hf) |>.symm
 obtain rfl:fn=Tryz.f7:=(Option.some.inj (Tryz.func7.symm.trans hfn)).symm
 refine⟨by kernel_rfl,fun j t ht=>?_⟩
 rw[Tryz.params7] at ht
 have hm:t∈[76,9,77,56,56]:=by simpa using Array.mem_of_getElem? ht
 have hall:([76,9,77,56,56].all fun u=>!Tryz.prog.wantsStandIn u)=true:=by kernel_rfl
 simpa using List.all_eq_true.1 hall t hm
theorem wf:Rows.packagesMatchUptoRow.wfByText (Rows.OpenSpec.upto Rows.packagesMatchSpec)=true:=by kernel_rfl
end Go.Proofs.YtmpccllnpcbgcaaGreatDoor.packagesMatch
