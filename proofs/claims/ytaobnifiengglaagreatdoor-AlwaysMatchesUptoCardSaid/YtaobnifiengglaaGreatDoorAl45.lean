/- The contract of outlaw2.AlwaysMatches at what its row reads. -/
import Derived.Test.YtaobnifiengglaaGreatDoorAl23
import Derived.Test.YtaobnifiengglaaGreatDoorAl44
import Derived.Test.YtaobnifiengglaaGreatDoorAl31
import Derived.Test.YtaobnifiengglaaGreatDoorAl43

namespace Go.Proofs.YtaobnifiengglaaGreatDoor.alwaysMatches
open Go.ChangeShapes Go.WideShapes Go.ChangeAt Go.RowKit Go.WideElems Go.Joins
open Go.ChangeMaps (open_string shut_string)

set_option maxRecDepth 100000 in
theorem open_cond {H : Type} {enc : TypeId × Value → H} {W : World} {base : Nat} {v : Value} {d : DataW H} {p : List MemPlace} (hv : Value.okWide Tryz.prog W .any base 61 v) (h : DataW.Trod enc Tryz.prog W 0 (fun _ => true) true 61 v d p) :
    ∃ c : Cd, CdIn (fun _ => True) W c v ∧ cnt c ≤ Rows.uptoBulk d ∧ StrC (Rows.uptoBulk d) c := by
  obtain ⟨cs, rfl, _⟩ := okWide_struct Tryz.underlying61 hv
  obtain ⟨fuel, hf⟩ := h
  obtain ⟨c, e1, e2, e3⟩ := opens_cond H enc W _ fuel _ _ hf (Nat.le_refl _)
  refine ⟨c, ?_, e2, e3⟩
  obtain ⟨cs⟩ := cs
  simp only [Value.cells] at e1
  exact e1
set_option maxRecDepth 100000 in
theorem contract (H : Type) (enc : TypeId × Value → H) (W : World) (base : Nat) (args : Array Value) (ds gs : List (DataW H)) (before : List MemPlace)
    (hval : ∀ (j : Nat) t v, Tryz.f9.params[j]? = some t → args[j]? = some v → Value.okWide Tryz.prog W .any base t v)
    (hW : DataW.Whole enc Tryz.prog Tryz.f9.params.toList Rows.alwaysMatchesSpec.vars false W args.toList ds gs before) (hk : Rows.uptoSmall H (ds ++ gs) = true) (hg : GoodN W) :
    Calls Tryz.prog 9 args W fun e W' => ∃ v, e = .returned v ∧ Rows.alwaysMatchesSpec.post enc Tryz.prog Tryz.f9 false true false false W args v W' := by
  have hW' := hW
  obtain ⟨p, q, hA0, hV, rfl, hfz, hnd⟩ := hW
  have hA : DataW.TrodAll enc Tryz.prog W 0 (fun _ => true) true Tryz.f9.params.toList args.toList ds p := hA0
  rw [Tryz.params9] at hA hval
  obtain ⟨v0, vs0, d0, ds0, p0, q0, hargs, rfl, rfl, h0, r0⟩ := trodAll_cons hA
  obtain ⟨v1, vs1, d1, ds1, p1, q1, rfl, rfl, rfl, h1, r1⟩ := trodAll_cons r0
  obtain ⟨rfl, rfl, rfl⟩ := trodAll_nil r1
  obtain rfl : args = #[v0, v1] := by cases args; simp_all
  obtain ⟨rfl, rfl⟩ := trodVars_none hV
  obtain ⟨cd, hcd, hcnt, hstr⟩ := open_cond (hval 0 61 v0 rfl rfl) h0
  obtain ⟨A1, c1, l1, rfl, hcap1, hr1, hsm1, hl1⟩ := open_domains (hval 1 91 v1 rfl rfl) h1
  have hb := of_decide_eq_true hk
  simp only [List.append_nil, Rows.uptoBulkAll] at hb
  refine (AlwaysMatches_any A1 l1.length c1 l1 cd _ (fun _ => True) W hg hcd (small_of (by omega) hstr (by omega)) (by omega) rfl hr1 (small_domains (by omega) hsm1) (by omega) hcap1).mono fun e W' ⟨he, hx⟩ => ?_
  subst he
  exact ⟨_, rfl, post_true hW' rfl rfl (by rw [Tryz.params9]; decide +kernel) rfl rfl rfl hx⟩

set_option maxRecDepth 100000 in
theorem liftedUpto (os : Os) (started : os.Started) (H : Type) (enc : TypeId × Value → H) (F : Stop.Interp) :
    ReturnsInHanded {} Tryz.checked os 9 .any ((Rows.OpenSpec.upto Rows.alwaysMatchesSpec).preRow enc Tryz.prog Tryz.f9 Rows.alwaysMatchesUptoRow.domain false Rows.alwaysMatchesUptoRow.laid) (((Rows.OpenSpec.upto Rows.alwaysMatchesSpec).at F).post enc Tryz.prog Tryz.f9 false true false false) := by
  obtain ⟨places, hx⟩ := reads os enc
  refine returnsInHanded_of_row (C := Tryz.checked) (s := Rows.OpenSpec.upto Rows.alwaysMatchesSpec) own started (by kernel_rfl) Tryz.func9
    (witness_row_atRef (enc := enc) (C := Tryz.checked) false (listed.laidWorld os) wargs rfl (by kernel_rfl) (by kernel_rfl) (by kernel_rfl)
      (OpenSpec.preRow_of_cond 8 hx (by kernel_rfl) (fun k hk => by cases hk; kernel_rfl) (by kernel_rfl) (laid_met os))) ?_
  intro W base args ds gs before hval hW _ hcond _ hL hS _
  exact contract H enc W base args ds gs before hval hW (hcond _ rfl) (listed.good hL hS)
end Go.Proofs.YtaobnifiengglaaGreatDoor.alwaysMatches
