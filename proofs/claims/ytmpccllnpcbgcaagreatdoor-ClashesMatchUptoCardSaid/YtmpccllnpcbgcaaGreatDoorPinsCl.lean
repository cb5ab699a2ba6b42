/- The pins of the row of outlaw2.ClashesMatch. -/
import Derived.Test.YtmpccllnpcbgcaaGreatDoorPk02
import Derived.Test.YtmpccllnpcbgcaaGreatDoorCards
import Derived.Test.YtmpccllnpcbgcaaGreatDoorTie
import Derived.Test.YtmpccllnpcbgcaaGreatDoorProg
import Derived.Test.YtmpccllnpcbgcaaGreatDoorShelf
import Derived.Lib.Split
import Derived.Lib.IndexBytes
import Derived.Lib.ItoaLen
import Derived.WalkKit
import Derived.WalkSpells
import Derived.WalkLawsBesides
import Derived.LoopTactic
import Derived.Outline
import Derived.Lib.Hide
import Derived.Lib.LaidTab
import Derived.Lib.ConvBytes
import Derived.Lib.ItoaNum
import Derived.WalkSmall
import Derived.Sort.Grow
import Derived.Deep.QuietTactic
import Derived.BigQuiet
import Derived.ProofKit
import Derived.OpenShut
import Derived.Deep.DeepHandedRow
import Derived.Deep.DeepWitnessRowRef
import Derived.Lib.LaidIn
import Derived.Lib.SmallJoins
import Derived.Stop.LaidErr
import Derived.LaidSub
import Derived.SizedLaws
namespace Go.Proofs.YtmpccllnpcbgcaaGreatDoor.clashesMatch
open Go.ChangeShapes Go.WideShapes Go.ChangeAt Go.RowKit Go.WideElems Go.Joins
open Go.ChangeMaps (open_string shut_string)
theorem plain (f:FuncId) (fn:Func) (hf:Tryz.prog.funcNamed "outfitter/outlaw2.ClashesMatch"=some f) (hfn:Tryz.prog.funcs[f]?=some fn) :
 true=Tryz.prog.looks []∧∀ (j:Nat) t,fn.params[j]?=some t->Tryz.prog.wantsStandIn t=false:=by
 obtain rfl:f=9:=Option.some.inj ((show Tryz.prog.funcNamed "outfitter/outlaw2.ClashesMatch"=some 9 by kernel_rfl).symm.trans hf) |>.symm
 obtain rfl:fn=Tryz.f9:=(Option.some.inj (Tryz.func9.symm.trans hfn)).symm
 refine⟨by kernel_rfl,fun j t ht=>?_⟩
 rw[Tryz.params9] at ht
 have hm:t∈[111,112]:=by simpa using Array.mem_of_getElem? ht
 have hall:([111,112].all fun u=>!Tryz.prog.wantsStandIn u)=true:=by kernel_rfl
 simpa using List.all_eq_true.1 hall t hm
theorem wf:Rows.clashesMatchUptoRow.wfByText (Rows.OpenSpec.upto Rows.clashesMatchSpec)=true:=by kernel_rfl
end Go.Proofs.YtmpccllnpcbgcaaGreatDoor.clashesMatch
