/- The closed facts of the row of outlaw2.FeedsRead, and its witness. -/
import Derived.Test.YtmnafaaijglnfaaGreatDoorFr02
namespace Go.Proofs.YtmnafaaijglnfaaGreatDoor.feedsRead
open Go.ChangeShapes Go.WideShapes Go.ChangeAt Go.RowKit Go.WideElems Go.Joins
open Go.ChangeMaps (open_string shut_string)
noncomputable abbrev wargs:Array Value:=#[.string ⟨#[]⟩]
set_option maxRecDepth 1000000 in
theorem laid_met (os:Os):laidMet Tryz.prog Rows.feedsReadUptoRow.laid ((listed.laidWorld os).forCall (fun _ _=>0) ⟨#[],wargs,[]⟩).memory :=
 laidMet_of_run' 8 (by kernel_rfl) (by kernel_rfl)
set_option maxRecDepth 100000 in
theorem reads (os:Os) {H:Type} (enc:TypeId × Value->H):∃ places,DataW.whole enc Tryz.prog ((listed.laidWorld os).forCall (fun _ _=>0) ⟨#[],wargs,[]⟩).memory Tryz.f8.params.toList Rows.feedsReadSpec.vars false wargs.toList 8 =
 some ([.lit (.string [])],[],places) :=
 ⟨[],by kernel_rfl⟩
theorem inPlace:(Rows.feedsReadUptoRow.inPlace==Tryz.pinned.checked.prog.inPlace 8)=true:=by kernel_rfl
theorem unfollowed:(Rows.feedsReadUptoRow.unfollowed==Tryz.pinned.checked.prog.unfollowed 8)=true:=by kernel_rfl
theorem recurses:(Rows.feedsReadUptoRow.recurses==Tryz.pinned.checked.prog.recurses 8)=true:=by kernel_rfl
theorem named:(Rows.feedsReadUptoRow.named==Tryz.pinned.checked.prog.varsNamed 8)=true:=by kernel_rfl
theorem closed:joinedFacts Tryz.pinned.checked.prog 8 Tryz.f8 (Rows.OpenSpec.upto Rows.feedsReadSpec).bare Rows.feedsReadUptoRow=true:=by
 unfold joinedFacts
 rw[inPlace,unfollowed,recurses,named]
 kernel_rfl
end Go.Proofs.YtmnafaaijglnfaaGreatDoor.feedsRead
