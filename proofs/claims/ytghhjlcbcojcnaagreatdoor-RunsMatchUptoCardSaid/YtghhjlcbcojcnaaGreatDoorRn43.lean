/- The contract of outlaw2.RunsMatch at what its row reads. -/
import Derived.Test.YtghhjlcbcojcnaaGreatDoorRn14
import Derived.Test.YtghhjlcbcojcnaaGreatDoorRn42
import Derived.Test.YtghhjlcbcojcnaaGreatDoorRn41

namespace Go.Proofs.YtghhjlcbcojcnaaGreatDoor.runsMatch
open Go.ChangeShapes Go.WideShapes Go.ChangeAt Go.RowKit Go.WideElems Go.Joins
open Go.ChangeMaps (open_string shut_string)

set_option maxRecDepth 100000 in
theorem contract (H : Type) (enc : TypeId × Value → H) (W : World) (base : Nat) (args : Array Value) (ds gs : List (DataW H)) (before : List MemPlace)
    (hval : ∀ (j : Nat) t v, Tryz.f10.params[j]? = some t → args[j]? = some v → Value.okWide Tryz.prog W .any base t v)
    (hW : DataW.Whole enc Tryz.prog Tryz.f10.params.toList Rows.runsMatchSpec.vars false W args.toList ds gs before) (hk : Rows.uptoSmall H (ds ++ gs) = true) (hg : GoodN W) :
    Calls Tryz.prog 10 args W fun e W' => ∃ v, e = .returned v ∧ Rows.runsMatchSpec.post enc Tryz.prog Tryz.f10 false true false false W args v W' := by
  have hW' := hW
  obtain ⟨p, q, hA0, hV, rfl, hfz, hnd⟩ := hW
  have hA : DataW.TrodAll enc Tryz.prog W 0 (fun _ => true) true Tryz.f10.params.toList args.toList ds p := hA0
  rw [Tryz.params10] at hA hval
  obtain ⟨v0, vs0, d0, ds0, p0, q0, hargs, rfl, rfl, h0, r0⟩ := trodAll_cons hA
  obtain ⟨v1, vs1, d1, ds1, p1, q1, rfl, rfl, rfl, h1, r1⟩ := trodAll_cons r0
  obtain ⟨rfl, rfl, rfl⟩ := trodAll_nil r1
  obtain rfl : args = #[v0, v1] := by cases args; simp_all
  obtain ⟨rfl, rfl⟩ := trodVars_none hV
  have hb := of_decide_eq_true hk
  simp only [List.append_nil, Rows.uptoBulkAll] at hb
  obtain ⟨A, c, l, rfl, hr, hsm, hl⟩ := open_settings (hval 0 65 v0 rfl rfl) h0
  obtain ⟨A1, c1, l1, rfl, hr1, hsm1, hl1⟩ := open_rules (hval 1 91 v1 rfl rfl) h1
  refine (RunsMatch_any A A1 l.length l1.length c c1 l l1 W hg rfl rfl hr hr1 (fun x hx => ?_) (fun x hx => ?_) (by omega) (by omega)).mono fun e W' ⟨he, hx⟩ => ?_
  · have := hsm x hx
    omega
  · have := hsm1 x hx
    exact ⟨by omega, by omega, by omega, by omega⟩
  subst he
  exact ⟨_, rfl, post_true hW' rfl rfl (by rw [Tryz.params10]; decide +kernel) rfl rfl rfl hx⟩

set_option maxRecDepth 100000 in
theorem liftedUpto (os : Os) (started : os.Started) (H : Type) (enc : TypeId × Value → H) (F : Stop.Interp) :
    ReturnsInHanded {} Tryz.checked os 10 .any ((Rows.OpenSpec.upto Rows.runsMatchSpec).preRow enc Tryz.prog Tryz.f10 Rows.runsMatchUptoRow.domain false Rows.runsMatchUptoRow.laid) (((Rows.OpenSpec.upto Rows.runsMatchSpec).at F).post enc Tryz.prog Tryz.f10 false true false false) := by
  obtain ⟨places, hx⟩ := reads os enc
  refine returnsInHanded_of_row (C := Tryz.checked) (s := Rows.OpenSpec.upto Rows.runsMatchSpec) own started (by kernel_rfl) Tryz.func10
    (witness_row_atRef (enc := enc) (C := Tryz.checked) false (listed.laidWorld os) wargs rfl (by kernel_rfl) (by kernel_rfl) (by kernel_rfl)
      (OpenSpec.preRow_of_cond 8 hx (by kernel_rfl) (fun k hk => by cases hk; kernel_rfl) (by kernel_rfl) (laid_met os))) ?_
  intro W base args ds gs before hval hW _ hcond _ hL hS _
  exact contract H enc W base args ds gs before hval hW (hcond _ rfl) (listed.good hL hS)
end Go.Proofs.YtghhjlcbcojcnaaGreatDoor.runsMatch
