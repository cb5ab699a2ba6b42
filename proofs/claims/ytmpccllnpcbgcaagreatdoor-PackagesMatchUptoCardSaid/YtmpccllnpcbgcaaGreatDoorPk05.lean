/- The closed facts of the row of outlaw2.PackagesMatch, and its witness. -/
import Derived.Test.YtmpccllnpcbgcaaGreatDoorPk02
namespace Go.Proofs.YtmpccllnpcbgcaaGreatDoor.packagesMatch
open Go.ChangeShapes Go.WideShapes Go.ChangeAt Go.RowKit Go.WideElems Go.Joins
open Go.ChangeMaps (open_string shut_string)
noncomputable abbrev wargs:Array Value:=#[.agg #[.string ⟨#[]⟩,.int .i64 0,.int .i64 0,.int .i64 0,.string ⟨#[]⟩,.string ⟨#[]⟩,.slice none 0 0,.slice none 0 0,.slice none 0 0,.slice none 0 0],.string ⟨#[]⟩,.slice none 0 0,.slice none 0 0,.slice none 0 0]
set_option maxRecDepth 1000000 in
theorem laid_met (os:Os):laidMet Tryz.prog Rows.packagesMatchUptoRow.laid ((listed.laidWorld os).forCall (fun _ _=>0) ⟨#[],wargs,[]⟩).memory :=
 laidMet_of_run' 8 (by kernel_rfl) (by kernel_rfl)
set_option maxRecDepth 100000 in
theorem reads (os:Os) {H:Type} (enc:TypeId × Value->H):∃ places,DataW.whole enc Tryz.prog ((listed.laidWorld os).forCall (fun _ _=>0) ⟨#[],wargs,[]⟩).memory Tryz.f7.params.toList Rows.packagesMatchSpec.vars false wargs.toList 8 =
 some ([.agg [.lit (.string []),.agg [.lit (.int .i64 0),.lit (.int .i64 0),.lit (.int .i64 0),.lit (.string [])],.lit (.string []),.nil,.nil,.nil,.nil],.lit (.string []),.nil,.nil,.nil],[],places) :=
 ⟨[],by kernel_rfl⟩
theorem inPlace:(Rows.packagesMatchUptoRow.inPlace==Tryz.pinned.checked.prog.inPlace 7)=true:=by kernel_rfl
theorem unfollowed:(Rows.packagesMatchUptoRow.unfollowed==Tryz.pinned.checked.prog.unfollowed 7)=true:=by kernel_rfl
theorem recurses:(Rows.packagesMatchUptoRow.recurses==Tryz.pinned.checked.prog.recurses 7)=true:=by kernel_rfl
theorem named:(Rows.packagesMatchUptoRow.named==Tryz.pinned.checked.prog.varsNamed 7)=true:=by kernel_rfl
theorem closed:joinedFacts Tryz.pinned.checked.prog 7 Tryz.f7 (Rows.OpenSpec.upto Rows.packagesMatchSpec).bare Rows.packagesMatchUptoRow=true:=by
 unfold joinedFacts
 rw[inPlace,unfollowed,recurses,named]
 kernel_rfl
end Go.Proofs.YtmpccllnpcbgcaaGreatDoor.packagesMatch
