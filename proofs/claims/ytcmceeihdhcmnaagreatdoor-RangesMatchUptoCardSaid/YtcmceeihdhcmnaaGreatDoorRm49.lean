/- Versions among the arguments: one by value, and slices of them. -/
import Derived.Test.YtcmceeihdhcmnaaGreatDoorRm27
import Derived.Test.YtcmceeihdhcmnaaGreatDoorRm34

namespace Go.Proofs.YtcmceeihdhcmnaaGreatDoor
open Go.ChangeShapes Go.WideShapes Go.ChangeAt Go.RowKit Go.WideElems Go.Joins

set_option maxRecDepth 100000 in
/-- a version by value, of a bulk -/
theorem open_version {H : Type} {enc : TypeId × Value → H} {W : World} {base : Nat} {v : Value} {d : DataW H} {p : List MemPlace} (hv : Value.okWide Tryz.prog W .any base 35 v) (h : DataW.Trod enc Tryz.prog W 0 (fun _ => true) true 35 v d p) :
    ∃ (a1 a2 a3 : Int) (a : ByteArray), v = .agg #[.int .i64 a1, .int .i64 a2, .int .i64 a3, .string a] ∧ a.size ≤ Rows.uptoBulk d := by
  obtain ⟨cs, rfl, _⟩ := okWide_struct Tryz.underlying35 hv
  obtain ⟨fuel, hf⟩ := h
  obtain ⟨r, e, hb⟩ := opens_ver H enc W fuel _ _ hf
  refine ⟨r.a1, r.a2, r.a3, r.a, ?_, ?_⟩
  · obtain ⟨cs⟩ := cs
    simp only [Value.cells] at e
    rw [show cs = _ from e]
  · dsimp only at hb
    omega
theorem rowOf_versions {W : World} {A : Option Addr} {l : List V4} (h : RowOf (fun _ (v : V4) cs => cs = [.int .i64 v.a1, .int .i64 v.a2, .int .i64 v.a3, .string v.a]) 4 W A l) : RdV W A l := fun hne => by
  obtain ⟨b, o, rfl, hc⟩ := h hne
  refine ⟨b, o, rfl, ?_, ?_, ?_, ?_⟩ <;> intro k hk <;> obtain ⟨ecs, rfl, _, hj⟩ := hc k hk
  · exact hj 0 (by omega)
  · exact hj 1 (by omega)
  · exact hj 2 (by omega)
  · exact hj 3 (by omega)
set_option maxRecDepth 100000 in
/-- versions, of a bulk -/
theorem open_versions {H : Type} {enc : TypeId × Value → H} {W : World} {base : Nat} {v : Value} {d : DataW H} {p : List MemPlace} (hv : Value.okWide Tryz.prog W .any base 81 v) (h : DataW.Trod enc Tryz.prog W 0 (fun _ => true) true 81 v d p) :
    ∃ A c l, v = .slice A l.length c ∧ RdV W A l ∧ (∀ s ∈ l, s.a.size ≤ Rows.uptoBulk d) ∧ l.length * 4 ≤ Rows.uptoBulk d := by
  obtain ⟨a, len, cap, rfl⟩ := okWide_slice Tryz.underlying81 hv
  obtain ⟨fuel, hf⟩ := h
  obtain ⟨l, ⟨A, c, e, hr⟩, hb⟩ := opens_slice (sz := 4) Tryz.underlying81 (by kernel_rfl) (by decide) opens_ver H enc W fuel _ _ hf
  refine ⟨A, c, l, ?_, rowOf_versions hr, fun s hs => ?_, ?_⟩
  · have e : [Value.slice a len cap] = [.slice A l.length c] := e
    injection e
  · have := sum_mem (bk := fun s : V4 => s.a.size + 4) hs
    dsimp only at this hb
    omega
  · have := sum_len (bk := fun s : V4 => s.a.size + 4) (c := 4) (fun a => by omega) l
    dsimp only at this hb
    omega
end Go.Proofs.YtcmceeihdhcmnaaGreatDoor
