/- The contract of outlaw2.SharesMatch at what its row reads. -/
import Derived.Test.YtmnafaaijglnfaaGreatDoorFr02
import Derived.Test.YtmnafaaijglnfaaGreatDoorSm04
import Derived.Test.YtmnafaaijglnfaaGreatDoorSm03
import Derived.Test.YtmnafaaijglnfaaGreatDoorSm06

namespace Go.Proofs.YtmnafaaijglnfaaGreatDoor.sharesMatch
open Go.ChangeShapes Go.WideShapes Go.ChangeAt Go.RowKit Go.WideElems Go.Joins
open Go.ChangeMaps (open_string shut_string)

set_option maxRecDepth 100000 in
theorem contract (H : Type) (enc : TypeId × Value → H) (W : World) (base : Nat) (args : Array Value) (ds gs : List (DataW H)) (before : List MemPlace)
    (hval : ∀ (j : Nat) t v, Tryz.f7.params[j]? = some t → args[j]? = some v → Value.okWide Tryz.prog W .any base t v)
    (hW : DataW.Whole enc Tryz.prog Tryz.f7.params.toList Rows.sharesMatchSpec.vars false W args.toList ds gs before) (hk : Rows.uptoSmall H (ds ++ gs) = true) (hg : GoodS W) :
    Calls Tryz.prog 7 args W fun e W' => ∃ v, e = .returned v ∧ Rows.sharesMatchSpec.post enc Tryz.prog Tryz.f7 false true false false W args v W' := by
  have hW' := hW
  obtain ⟨p, q, hA0, hV, rfl, hfz, hnd⟩ := hW
  have hA : DataW.TrodAll enc Tryz.prog W 0 (fun _ => true) true Tryz.f7.params.toList args.toList ds p := hA0
  rw [Tryz.params7] at hA hval
  obtain ⟨v0, vs0, d0, ds0, p0, q0, hargs, rfl, rfl, h0, r0⟩ := trodAll_cons hA
  obtain ⟨v1, vs1, d1, ds1, p1, q1, rfl, rfl, rfl, h1, r1⟩ := trodAll_cons r0
  obtain ⟨v2, vs2, d2, ds2, p2, q2, rfl, rfl, rfl, h2, r2⟩ := trodAll_cons r1
  obtain ⟨v3, vs3, d3, ds3, p3, q3, rfl, rfl, rfl, h3, r3⟩ := trodAll_cons r2
  obtain ⟨rfl, rfl, rfl⟩ := trodAll_nil r3
  obtain rfl : args = #[v0, v1, v2, v3] := by cases args; simp_all
  obtain ⟨rfl, rfl⟩ := trodVars_none hV
  have hb := of_decide_eq_true hk
  simp only [List.append_nil, Rows.uptoBulkAll] at hb
  obtain ⟨o, A, c, k, n, x, A2, m, c2, rfl, hin, hsm⟩ := open_offer (hval 0 66 v0 rfl rfl) h0 (by omega)
  obtain ⟨nm, rfl, rfl, rfl, _⟩ := open_string Tryz.underlying9 (hval 1 9 v1 rfl rfl) h1
  obtain ⟨Al, cl, l, rfl, hcc, hrc, hsz, hlc⟩ := open_textsF (hval 2 74 v2 rfl rfl) h2
  obtain ⟨t, rfl, rfl, rfl, _⟩ := open_int Tryz.underlying3 (hval 3 3 v3 rfl rfl) h3
  have e : nm.data.size = nm.size := rfl
  simp only [Rows.uptoBulk, Array.length_toList] at hb
  rw [e] at hb
  refine (SharesMatch_any o A c k n x A2 m c2 nm l Al l.length cl t W hg hin hsm (by omega) rfl hrc (fun y hy => ?_) (by omega)).mono fun e W' ⟨he, hx⟩ => ?_
  · have := hsz y hy
    omega
  subst he
  exact ⟨_, rfl, post_true hW' rfl rfl (by rw [Tryz.params7]; decide +kernel) rfl rfl rfl hx⟩

set_option maxRecDepth 100000 in
theorem liftedUpto (os : Os) (started : os.Started) (H : Type) (enc : TypeId × Value → H) (F : Stop.Interp) :
    ReturnsInHanded {} Tryz.checked os 7 .any ((Rows.OpenSpec.upto Rows.sharesMatchSpec).preRow enc Tryz.prog Tryz.f7 Rows.sharesMatchUptoRow.domain false Rows.sharesMatchUptoRow.laid) (((Rows.OpenSpec.upto Rows.sharesMatchSpec).at F).post enc Tryz.prog Tryz.f7 false true false false) := by
  obtain ⟨places, hx⟩ := reads os enc
  refine returnsInHanded_of_row (C := Tryz.checked) (s := Rows.OpenSpec.upto Rows.sharesMatchSpec) own started (by kernel_rfl) Tryz.func7
    (witness_row_atRef (enc := enc) (C := Tryz.checked) false (listed.laidWorld os) wargs rfl (by kernel_rfl) (by kernel_rfl) (by kernel_rfl)
      (OpenSpec.preRow_of_cond 8 hx (by kernel_rfl) (fun k hk => by cases hk; kernel_rfl) (by kernel_rfl) (laid_met os))) ?_
  intro W base args ds gs before hval hW _ hcond _ hL hS _
  exact contract H enc W base args ds gs before hval hW (hcond _ rfl) (listed.goodS hL hS)
end Go.Proofs.YtmnafaaijglnfaaGreatDoor.sharesMatch
