/- A rule among the arguments. -/
import Derived.Test.YtncagihilplliaaGreatDoorOpenG
import Derived.Test.YtncagihilplliaaGreatDoorRulA
namespace Go.Proofs.YtncagihilplliaaGreatDoor
open Go.ChangeShapes Go.WideShapes Go.ChangeAt Go.RowKit Go.WideElems Go.Joins

set_option maxRecDepth 100000 in
theorem opens_rule : Opens 23 (fun _ (r : RB) cs => cs = [.int .i64 r.kind, .string r.key, .string r.tt, .string r.old, .string r.new]) (fun r => r.key.size + r.tt.size + r.old.size + r.new.size + 5) := fun H enc W fuel cs x h => by
  obtain ⟨xs, n, _, rfl, hl, hlen, hf⟩ := DataW.trod_struct Tryz.underlying23 h
  have hc : Tryz.prog.cellsOf 23 = 5 := by kernel_rfl
  have ci : Tryz.prog.cellsOf 3 = 1 := by kernel_rfl
  have cst : Tryz.prog.cellsOf 9 = 1 := by kernel_rfl
  rw [hc] at hl
  match cs, hl, xs, hlen with
  | [c0, c1, c2, c3, c4], _, [y0, y1, y2, y3, y4], _ =>
    have h0 := hf 0 _ rfl
    have h1 := hf 1 _ rfl
    have h2 := hf 2 _ rfl
    have h3 := hf 3 _ rfl
    have h4 := hf 4 _ rfl
    replace h0 : DataW.trod enc Tryz.prog W 0 (fun _ => true) true n 3 (([c0, c1, c2, c3, c4].drop 0).take (Tryz.prog.cellsOf 3)) = some y0 := h0
    replace h1 : DataW.trod enc Tryz.prog W 0 (fun _ => true) true n 9 (([c0, c1, c2, c3, c4].drop 1).take (Tryz.prog.cellsOf 9)) = some y1 := h1
    replace h2 : DataW.trod enc Tryz.prog W 0 (fun _ => true) true n 9 (([c0, c1, c2, c3, c4].drop 2).take (Tryz.prog.cellsOf 9)) = some y2 := h2
    replace h3 : DataW.trod enc Tryz.prog W 0 (fun _ => true) true n 9 (([c0, c1, c2, c3, c4].drop 3).take (Tryz.prog.cellsOf 9)) = some y3 := h3
    replace h4 : DataW.trod enc Tryz.prog W 0 (fun _ => true) true n 9 (([c0, c1, c2, c3, c4].drop 4).take (Tryz.prog.cellsOf 9)) = some y4 := h4
    rw [ci] at h0
    rw [cst] at h1 h2 h3 h4
    obtain ⟨k, e0, b0⟩ := opens_int Tryz.underlying3 H enc W n _ _ h0
    obtain ⟨a1, e1, b1⟩ := opens_string Tryz.underlying9 H enc W n _ _ h1
    obtain ⟨a2, e2, b2⟩ := opens_string Tryz.underlying9 H enc W n _ _ h2
    obtain ⟨a3, e3, b3⟩ := opens_string Tryz.underlying9 H enc W n _ _ h3
    obtain ⟨a4, e4, b4⟩ := opens_string Tryz.underlying9 H enc W n _ _ h4
    simp at e0 e1 e2 e3 e4
    subst e0 e1 e2 e3 e4
    exact ⟨⟨k, a1, a2, a3, a4⟩, rfl, by dsimp only at b0 b1 b2 b3 b4 ⊢; simp only [List.map_cons, List.map_nil, Rows.uptoBulk, Rows.uptoBulkAll]; omega⟩
set_option maxRecDepth 100000 in
/-- a rule by value, of a bulk -/
theorem open_rule {H : Type} {enc : TypeId × Value → H} {W : World} {base : Nat} {v : Value} {d : DataW H} {p : List MemPlace} (hv : Value.okWide Tryz.prog W .any base 23 v) (h : DataW.Trod enc Tryz.prog W 0 (fun _ => true) true 23 v d p) :
    ∃ r : RB, v = ruV r ∧ r.key.size + r.tt.size + r.old.size + r.new.size ≤ Rows.uptoBulk d := by
  obtain ⟨cs, rfl, _⟩ := okWide_struct Tryz.underlying23 hv
  obtain ⟨fuel, hf⟩ := h
  obtain ⟨r, e, hb⟩ := opens_rule H enc W fuel _ _ hf
  refine ⟨r, ?_, ?_⟩
  · obtain ⟨cs⟩ := cs
    simp only [Value.cells] at e
    rw [show cs = _ from e]
  · dsimp only at hb
    omega
end Go.Proofs.YtncagihilplliaaGreatDoor
