/- The contract of outlaw2.OffersMatch at what its row reads. -/
import Derived.Test.YtmnafaaijglnfaaGreatDoorOm48
import Derived.Test.YtmnafaaijglnfaaGreatDoorOm03
namespace Go.Proofs.YtmnafaaijglnfaaGreatDoor.offersMatch
open Go.ChangeShapes Go.WideShapes Go.ChangeAt Go.RowKit Go.WideElems Go.Joins
open Go.ChangeMaps (open_string shut_string)
set_option maxRecDepth 100000 in
theorem contract (H:Type) (enc:TypeId × Value->H) (W:World) (base:Nat) (args:Array Value) (ds gs:List (DataW H)) (before:List MemPlace)
 (hval:∀ (j:Nat) t v,Tryz.f9.params[j]?=some t->args[j]?=some v->Value.okWide Tryz.prog W .any base t v)
 (hW:DataW.Whole enc Tryz.prog Tryz.f9.params.toList Rows.offersMatchSpec.vars false W args.toList ds gs before) (hk:Rows.uptoSmall H (ds++gs)=true) (hg:GoodS W) :
 Calls Tryz.prog 9 args W fun e W'=>∃ v,e=.returned v∧Rows.offersMatchSpec.post enc Tryz.prog Tryz.f9 false true false false W args v W':=by
 have hW':=hW
 obtain⟨p,q,hA0,hV,rfl,hfz,hnd⟩:=hW
 have hA:DataW.TrodAll enc Tryz.prog W 0 (fun _=>true) true Tryz.f9.params.toList args.toList ds p:=hA0
 rw[Tryz.params9] at hA hval
 obtain⟨v0,vs0,d0,ds0,p0,q0,hargs,rfl,rfl,h0,r0⟩:=trodAll_cons hA
 obtain⟨v1,vs1,d1,ds1,p1,q1,rfl,rfl,rfl,h1,r1⟩:=trodAll_cons r0
 obtain⟨v2,vs2,d2,ds2,p2,q2,rfl,rfl,rfl,h2,r2⟩:=trodAll_cons r1
 obtain⟨v3,vs3,d3,ds3,p3,q3,rfl,rfl,rfl,h3,r3⟩:=trodAll_cons r2
 obtain⟨v4,vs4,d4,ds4,p4,q4,rfl,rfl,rfl,h4,r4⟩:=trodAll_cons r3
 obtain⟨rfl,rfl,rfl⟩:=trodAll_nil r4
 obtain rfl:args=#[v0,v1,v2,v3,v4]:=by cases args;simp_all
 obtain⟨rfl,rfl⟩:=trodVars_none hV
 have hb:=of_decide_eq_true hk
 simp only[List.append_nil,Rows.uptoBulkAll] at hb
 obtain⟨f,A,c,rfl,hrf,hsf⟩:=open_feed (hval 0 59 v0 rfl rfl) h0 (by omega)
 obtain⟨m,A',c',Af,cf,As,c2,Ap,cp,rfl,hm,hsm,hli⟩:=open_mac (hval 1 96 v1 rfl rfl) h1 (by omega)
 obtain⟨nm,rfl,rfl,rfl,_⟩:=open_string Tryz.underlying9 (hval 2 9 v2 rfl rfl) h2
 obtain⟨t,rfl,rfl,rfl,_⟩:=open_int Tryz.underlying3 (hval 3 3 v3 rfl rfl) h3
 obtain⟨te,rfl,rfl,rfl,_⟩:=open_int Tryz.underlying3 (hval 4 3 v4 rfl rfl) h4
 have e:nm.data.size=nm.size:=rfl
 simp only[Rows.uptoBulk,Array.length_toList] at hb
 rw[e] at hb
 refine (OffersMatch_any f.ch f.sr f.tm f.os A f.os.length c m A' m.inst.length c' Af m.facts.length cf As m.sets.length c2 Ap m.pins.length cp nm t te W hg rfl hrf hsf.os hsf.ch hsf.len hm hsm (by omega) (by omega)).mono fun e W' ⟨he,hx⟩=>?_
 subst he
 exact⟨_,rfl,post_true hW' rfl rfl (by rw[Tryz.params9];decide +kernel) rfl rfl rfl hx⟩
set_option maxRecDepth 100000 in
theorem liftedUpto (os:Os) (started:os.Started) (H:Type) (enc:TypeId × Value->H) (F:Stop.Interp) :
 ReturnsInHanded {} Tryz.checked os 9 .any ((Rows.OpenSpec.upto Rows.offersMatchSpec).preRow enc Tryz.prog Tryz.f9 Rows.offersMatchUptoRow.domain false Rows.offersMatchUptoRow.laid) (((Rows.OpenSpec.upto Rows.offersMatchSpec).at F).post enc Tryz.prog Tryz.f9 false true false false):=by
 obtain⟨places,hx⟩:=reads os enc
 refine returnsInHanded_of_row (C:=Tryz.checked) (s:=Rows.OpenSpec.upto Rows.offersMatchSpec) own started (by kernel_rfl) Tryz.func9
  (witness_row_atRef (enc:=enc) (C:=Tryz.checked) false (listed.laidWorld os) wargs rfl (by kernel_rfl) (by kernel_rfl) (by kernel_rfl)
    (OpenSpec.preRow_of_cond 8 hx (by kernel_rfl) (fun k hk=>by cases hk;kernel_rfl) (by kernel_rfl) (laid_met os))) ?_
 intro W base args ds gs before hval hW _ hcond _ hL hS _
 exact contract H enc W base args ds gs before hval hW (hcond _ rfl) (listed.goodS hL hS)
end Go.Proofs.YtmnafaaijglnfaaGreatDoor.offersMatch
