/- The closed facts of the row of outlaw2.OffersMatch, and its witness. -/
import Derived.Test.YtmnafaaijglnfaaGreatDoorOm02
namespace Go.Proofs.YtmnafaaijglnfaaGreatDoor.offersMatch
open Go.ChangeShapes Go.WideShapes Go.ChangeAt Go.RowKit Go.WideElems Go.Joins
open Go.ChangeMaps (open_string shut_string)
noncomputable abbrev wargs:Array Value:=#[.agg #[.string ⟨#[]⟩,.int .i64 0,.int .i64 0,.slice none 0 0],.agg #[.string ⟨#[]⟩,.slice none 0 0,.slice none 0 0,.slice none 0 0,.slice none 0 0],.string ⟨#[]⟩,.int .i64 0,.int .i64 0]
set_option maxRecDepth 1000000 in
theorem laid_met (os:Os):laidMet Tryz.prog Rows.offersMatchUptoRow.laid ((listed.laidWorld os).forCall (fun _ _=>0) ⟨#[],wargs,[]⟩).memory :=
 laidMet_of_run' 8 (by kernel_rfl) (by kernel_rfl)
set_option maxRecDepth 100000 in
theorem reads (os:Os) {H:Type} (enc:TypeId × Value->H):∃ places,DataW.whole enc Tryz.prog ((listed.laidWorld os).forCall (fun _ _=>0) ⟨#[],wargs,[]⟩).memory Tryz.f9.params.toList Rows.offersMatchSpec.vars false wargs.toList 8 =
 some ([.agg [.lit (.string []),.lit (.int .i64 0),.lit (.int .i64 0),.nil],.agg [.lit (.string []),.nil,.nil,.nil,.nil],.lit (.string []),.lit (.int .i64 0),.lit (.int .i64 0)],[],places) :=
 ⟨[],by kernel_rfl⟩
theorem inPlace:(Rows.offersMatchUptoRow.inPlace==Tryz.pinned.checked.prog.inPlace 9)=true:=by kernel_rfl
theorem unfollowed:(Rows.offersMatchUptoRow.unfollowed==Tryz.pinned.checked.prog.unfollowed 9)=true:=by kernel_rfl
theorem recurses:(Rows.offersMatchUptoRow.recurses==Tryz.pinned.checked.prog.recurses 9)=true:=by kernel_rfl
theorem named:(Rows.offersMatchUptoRow.named==Tryz.pinned.checked.prog.varsNamed 9)=true:=by kernel_rfl
theorem closed:joinedFacts Tryz.pinned.checked.prog 9 Tryz.f9 (Rows.OpenSpec.upto Rows.offersMatchSpec).bare Rows.offersMatchUptoRow=true:=by
 unfold joinedFacts
 rw[inPlace,unfollowed,recurses,named]
 kernel_rfl
end Go.Proofs.YtmnafaaijglnfaaGreatDoor.offersMatch
