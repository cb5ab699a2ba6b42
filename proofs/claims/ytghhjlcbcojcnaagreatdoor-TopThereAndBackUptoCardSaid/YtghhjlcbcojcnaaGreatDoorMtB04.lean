/- The contract of outtop.TopThereAndBack at what its row reads. -/
import Derived.Test.YtghhjlcbcojcnaaGreatDoorMt12
import Derived.Test.YtghhjlcbcojcnaaGreatDoorMtB03
import Derived.Test.YtghhjlcbcojcnaaGreatDoorMtB01
import Derived.Test.YtghhjlcbcojcnaaGreatDoorMt38
import Derived.Test.YtghhjlcbcojcnaaGreatDoorMt24
import Derived.Test.YtghhjlcbcojcnaaGreatDoorMtB02

namespace Go.Proofs.YtghhjlcbcojcnaaGreatDoor.topThereAndBack
open Go.ChangeShapes Go.WideShapes Go.ChangeAt Go.RowKit Go.WideElems Go.Joins
open Go.ChangeMaps (open_string shut_string)

set_option maxRecDepth 100000 in
theorem slice_cap {W : World} {base : Nat} {t e : TypeId} {a : Option Addr} {len cap : Nat} (ht : Tryz.prog.underlying t = some (.slice e)) (h : Value.okWide Tryz.prog W .any base t (.slice a len cap)) : len ≤ cap := by
  simp only [Value.okWide, ht, Cell.okWide] at h
  unfold Cell.ok at h
  rw [ht] at h
  cases a with
  | some a => exact h.1
  | none =>
    cases len with
    | zero => exact Nat.zero_le _
    | succ k => exact (show False from h).elim
set_option maxRecDepth 100000 in
theorem contract (H : Type) (enc : TypeId × Value → H) (W : World) (base : Nat) (args : Array Value) (ds gs : List (DataW H)) (before : List MemPlace)
    (hval : ∀ (j : Nat) t v, Tryz.f9.params[j]? = some t → args[j]? = some v → Value.okWide Tryz.prog W .any base t v)
    (hW : DataW.Whole enc Tryz.prog Tryz.f9.params.toList Rows.topThereAndBackSpec.vars false W args.toList ds gs before) (hk : Rows.uptoSmall H (ds ++ gs) = true) (hg : GoodN W) :
    Calls Tryz.prog 9 args W fun e W' => ∃ v, e = .returned v ∧ Rows.topThereAndBackSpec.post enc Tryz.prog Tryz.f9 false true false false W args v W' := by
  have hW' := hW
  obtain ⟨p, q, hA0, hV, rfl, hfz, hnd⟩ := hW
  have hA : DataW.TrodAll enc Tryz.prog W 0 (fun _ => true) true Tryz.f9.params.toList args.toList ds p := hA0
  rw [Tryz.params9] at hA hval
  obtain ⟨v0, vs0, d0, ds0, p0, q0, hargs, rfl, rfl, h0, r0⟩ := trodAll_cons hA
  obtain ⟨v1, vs1, d1, ds1, p1, q1, rfl, rfl, rfl, h1, r1⟩ := trodAll_cons r0
  obtain ⟨v2, vs2, d2, ds2, p2, q2, rfl, rfl, rfl, h2, r2⟩ := trodAll_cons r1
  obtain ⟨v3, vs3, d3, ds3, p3, q3, rfl, rfl, rfl, h3, r3⟩ := trodAll_cons r2
  obtain ⟨v4, vs4, d4, ds4, p4, q4, rfl, rfl, rfl, h4, r4⟩ := trodAll_cons r3
  obtain ⟨rfl, rfl, rfl⟩ := trodAll_nil r4
  obtain rfl : args = #[v0, v1, v2, v3, v4] := by cases args; simp_all
  obtain ⟨rfl, rfl⟩ := trodVars_none hV
  have hb := of_decide_eq_true hk
  simp only [List.append_nil, Rows.uptoBulkAll] at hb
  obtain ⟨A, c, l, rfl, hr, hsm, hl⟩ := open_settings (hval 0 65 v0 rfl rfl) h0
  obtain ⟨A1, c1, l1, rfl, hr1, hsm1, hl1⟩ := open_rules (hval 1 91 v1 rfl rfl) h1
  obtain ⟨A2, c2, l2, rfl, hr2, hsm2, hl2⟩ := open_moves (hval 2 92 v2 rfl rfl) h2
  have hcap := slice_cap Tryz.underlying92 (hval 2 92 _ rfl rfl)
  obtain ⟨p1, p2, p3, pa, rfl, hpa⟩ := open_version (hval 3 35 v3 rfl rfl) h3
  obtain ⟨q1, q2, q3, qa, rfl, hqa⟩ := open_version (hval 4 35 v4 rfl rfl) h4
  refine (TopThereAndBack_any l l1 l2 A A1 A2 l.length l1.length l2.length c c1 c2 ⟨p1, p2, p3, pa⟩ ⟨q1, q2, q3, qa⟩ W hg rfl rfl rfl hcap hr hr1 hr2 (fun x hx => ?_) (fun x hx => ?_) (fun x hx => ?_) (by dsimp only; omega) (by dsimp only; omega) (by omega) (by omega) (by omega)).mono fun e W' ⟨he, hx⟩ => ?_
  · have := hsm x hx
    omega
  · have := hsm1 x hx
    exact ⟨by omega, by omega, by omega, by omega⟩
  · have := hsm2 x hx
    exact small_move (n := 1048576) (Nat.le_refl _) (by omega)
  subst he
  exact ⟨_, rfl, post_true hW' rfl rfl (by rw [Tryz.params9]; decide +kernel) rfl rfl rfl hx⟩

set_option maxRecDepth 100000 in
theorem liftedUpto (os : Os) (started : os.Started) (H : Type) (enc : TypeId × Value → H) (F : Stop.Interp) :
    ReturnsInHanded {} Tryz.checked os 9 .any ((Rows.OpenSpec.upto Rows.topThereAndBackSpec).preRow enc Tryz.prog Tryz.f9 Rows.topThereAndBackUptoRow.domain false Rows.topThereAndBackUptoRow.laid) (((Rows.OpenSpec.upto Rows.topThereAndBackSpec).at F).post enc Tryz.prog Tryz.f9 false true false false) := by
  obtain ⟨places, hx⟩ := reads os enc
  refine returnsInHanded_of_row (C := Tryz.checked) (s := Rows.OpenSpec.upto Rows.topThereAndBackSpec) own started (by kernel_rfl) Tryz.func9
    (witness_row_atRef (enc := enc) (C := Tryz.checked) false (listed.laidWorld os) wargs rfl (by kernel_rfl) (by kernel_rfl) (by kernel_rfl)
      (OpenSpec.preRow_of_cond 8 hx (by kernel_rfl) (fun k hk => by cases hk; kernel_rfl) (by kernel_rfl) (laid_met os))) ?_
  intro W base args ds gs before hval hW _ hcond _ hL hS _
  exact contract H enc W base args ds gs before hval hW (hcond _ rfl) (listed.good hL hS)
end Go.Proofs.YtghhjlcbcojcnaaGreatDoor.topThereAndBack
