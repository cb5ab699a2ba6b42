/- The closed facts of the row of outlaw2.MergesMatch, and its witness. -/
import Derived.Test.YtmnafaaijglnfaaGreatDoorMg02
namespace Go.Proofs.YtmnafaaijglnfaaGreatDoor.mergesMatch
open Go.ChangeShapes Go.WideShapes Go.ChangeAt Go.RowKit Go.WideElems Go.Joins
open Go.ChangeMaps (open_string shut_string)
noncomputable abbrev wargs:Array Value:=#[.slice none 0 0]
set_option maxRecDepth 1000000 in
theorem laid_met (os:Os):laidMet Tryz.prog Rows.mergesMatchUptoRow.laid ((listed.laidWorld os).forCall (fun _ _=>0) ⟨#[],wargs,[]⟩).memory :=
 laidMet_of_run' 8 (by kernel_rfl) (by kernel_rfl)
set_option maxRecDepth 100000 in
theorem reads (os:Os) {H:Type} (enc:TypeId × Value->H):∃ places,DataW.whole enc Tryz.prog ((listed.laidWorld os).forCall (fun _ _=>0) ⟨#[],wargs,[]⟩).memory Tryz.f6.params.toList Rows.mergesMatchSpec.vars false wargs.toList 8 =
 some ([.nil],[],places) :=
 ⟨[],by kernel_rfl⟩
theorem inPlace:(Rows.mergesMatchUptoRow.inPlace==Tryz.pinned.checked.prog.inPlace 6)=true:=by kernel_rfl
theorem unfollowed:(Rows.mergesMatchUptoRow.unfollowed==Tryz.pinned.checked.prog.unfollowed 6)=true:=by kernel_rfl
theorem recurses:(Rows.mergesMatchUptoRow.recurses==Tryz.pinned.checked.prog.recurses 6)=true:=by kernel_rfl
theorem named:(Rows.mergesMatchUptoRow.named==Tryz.pinned.checked.prog.varsNamed 6)=true:=by kernel_rfl
theorem closed:joinedFacts Tryz.pinned.checked.prog 6 Tryz.f6 (Rows.OpenSpec.upto Rows.mergesMatchSpec).bare Rows.mergesMatchUptoRow=true:=by
 unfold joinedFacts
 rw[inPlace,unfollowed,recurses,named]
 kernel_rfl
end Go.Proofs.YtmnafaaijglnfaaGreatDoor.mergesMatch
