/- The contract of outlaw2.MergesMatch at what its row reads. -/
import Derived.Test.YtmnafaaijglnfaaGreatDoorMg42
import Derived.Test.YtmnafaaijglnfaaGreatDoorMg15
namespace Go.Proofs.YtmnafaaijglnfaaGreatDoor.mergesMatch
open Go.ChangeShapes Go.WideShapes Go.ChangeAt Go.RowKit Go.WideElems Go.Joins
open Go.ChangeMaps (open_string shut_string)
set_option maxRecDepth 100000 in
theorem contract (H:Type) (enc:TypeId × Value->H) (W:World) (base:Nat) (args:Array Value) (ds gs:List (DataW H)) (before:List MemPlace)
 (hval:∀ (j:Nat) t v,Tryz.f6.params[j]?=some t->args[j]?=some v->Value.okWide Tryz.prog W .any base t v)
 (hW:DataW.Whole enc Tryz.prog Tryz.f6.params.toList Rows.mergesMatchSpec.vars false W args.toList ds gs before) (hk:Rows.uptoSmall H (ds++gs)=true) (hg:GoodN W) :
 Calls Tryz.prog 6 args W fun e W'=>∃ v,e=.returned v∧Rows.mergesMatchSpec.post enc Tryz.prog Tryz.f6 false true false false W args v W':=by
 have hW':=hW
 obtain⟨p,q,hA0,hV,rfl,hfz,hnd⟩:=hW
 have hA:DataW.TrodAll enc Tryz.prog W 0 (fun _=>true) true Tryz.f6.params.toList args.toList ds p:=hA0
 rw[Tryz.params6] at hA hval
 obtain⟨v0,vs0,d0,ds0,p0,q0,hargs,rfl,rfl,h0,r0⟩:=trodAll_cons hA
 obtain⟨rfl,rfl,rfl⟩:=trodAll_nil r0
 obtain rfl:args=#[v0]:=by cases args;simp_all
 obtain⟨rfl,rfl⟩:=trodVars_none hV
 have hb:=of_decide_eq_true hk
 simp only[List.append_nil,Rows.uptoBulkAll] at hb
 obtain⟨A,c,l,rfl,hr,hs,hl⟩:=open_feeds (hval 0 56 v0 rfl rfl) h0 (by omega)
 refine (MergesMatch_any l A l.length c W hg rfl hr hs (by omega)).mono fun e W' ⟨he,hx⟩=>?_
 subst he
 exact⟨_,rfl,post_true hW' rfl rfl (by rw[Tryz.params6];decide +kernel) rfl rfl rfl hx⟩
set_option maxRecDepth 100000 in
theorem liftedUpto (os:Os) (started:os.Started) (H:Type) (enc:TypeId × Value->H) (F:Stop.Interp) :
 ReturnsInHanded {} Tryz.checked os 6 .any ((Rows.OpenSpec.upto Rows.mergesMatchSpec).preRow enc Tryz.prog Tryz.f6 Rows.mergesMatchUptoRow.domain false Rows.mergesMatchUptoRow.laid) (((Rows.OpenSpec.upto Rows.mergesMatchSpec).at F).post enc Tryz.prog Tryz.f6 false true false false):=by
 obtain⟨places,hx⟩:=reads os enc
 refine returnsInHanded_of_row (C:=Tryz.checked) (s:=Rows.OpenSpec.upto Rows.mergesMatchSpec) own started (by kernel_rfl) Tryz.func6
  (witness_row_atRef (enc:=enc) (C:=Tryz.checked) false (listed.laidWorld os) wargs rfl (by kernel_rfl) (by kernel_rfl) (by kernel_rfl)
    (OpenSpec.preRow_of_cond 8 hx (by kernel_rfl) (fun k hk=>by cases hk;kernel_rfl) (by kernel_rfl) (laid_met os))) ?_
 intro W base args ds gs before hval hW _ hcond _ hL hS _
 exact contract H enc W base args ds gs before hval hW (hcond _ rfl) (listed.good hL hS)
end Go.Proofs.YtmnafaaijglnfaaGreatDoor.mergesMatch
