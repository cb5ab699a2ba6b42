/- A map of marks that are known; a table from which names are taken out. -/
import Derived.Test.YtaobnifiengglaaGreatDoorAl31

namespace Go.Proofs.YtaobnifiengglaaGreatDoor
open Go.RowKit
open Go.Maps (Keyed has)

theorem bool_under : Tryz.prog.underlying 4 = some .bool := by kernel_rfl
theorem bool_zero (w : World) : (zeroValue 4).run Tryz.prog w = .ok (.bool false) w := by go_simp
theorem elem_bool_inv {v : Value} {x : Bool} {ps : List MemPlace} (h : plainElem (H := PUnit) Tryz.prog 4 v = some (.lit (.bool x), ps)) : v = .bool x := by
  unfold plainElem at h
  rw [bool_under] at h
  cases v <;> simp at h
  rw [h.1]
/-- block b is a map that tells of texts whether they are among L -/
def KSet (w : World) (b n : Nat) (L : List Str) : Prop :=
  ∃ D : DataW PUnit, w.ownsMap Tryz.prog 9 (plainElem Tryz.prog 4) b n D ∧ ∀ s, (s ∈ L → has D (.string s) = true ∧ ∀ z, D.atKey (.string s) z = .lit (.bool true)) ∧ (s ∉ L → has D (.string s) = false)
namespace KSet
variable {w w' : World} {b n : Nat} {L : List Str}
theorem made (w : World) : KSet (w.alloc (.map #[] 0)) w.heap.size 0 [] :=
  ⟨.map [], World.ownsMap_made w _ _ _, fun s => ⟨(fun h => by cases h), (fun _ => rfl)⟩⟩
theorem ext (h : KSet w b n L) (hx : Ext w w') : KSet w' b n L := by
  obtain ⟨D, h, r⟩ := h
  exact ⟨D, h.kept (row := none) ⟨hx.os, hx.tape, hx.output, hx.size, fun k hk _ => hx.block k hk⟩ (by simp), r⟩
theorem lt (h : KSet w b n L) : b < w.heap.size := by
  obtain ⟨D, h, _⟩ := h
  exact h.lt
theorem far (h : KSet w b n L) {g : Nat} (hg : w.grownBy w' (some g)) (hne : b ≠ g) : KSet w' b n L := by
  obtain ⟨D, h, r⟩ := h
  exact ⟨D, h.kept (row := some g) hg (by simpa using hne), r⟩
theorem look (h : KSet w b n L) {t : TypeId} (ht : Tryz.prog.underlying t = some (.map 9 4)) (k : ByteArray) (hk : k.size ≤ 4194304) :
    (Instr.lookup t (.map (some b)) (.string k) false).run Tryz.prog w = .ok (.bool (decide (bs k ∈ L))) w := by
  obtain ⟨D, h, r⟩ := h
  have hkey : keyOf Tryz.prog 9 (.string k) = some (.string (bs k)) := WideMaps.keyOf_string_mk str_under (by simp only [maxLen]; omega)
  obtain ⟨v, ps, hrun, hv⟩ := h.lookup (Maps.string_keyed str_under) ht (bool_zero w) (plainElem_bool bool_under false) hkey
  rw [hrun]
  by_cases hm : bs k ∈ L
  · rw [((r (bs k)).1 hm).2] at hv
    rw [elem_bool_inv hv, decide_eq_true hm]
  · have h0 := (r (bs k)).2 hm
    rw [Maps.atKey_of_not_has h0] at hv
    rw [elem_bool_inv hv, decide_eq_false hm]
theorem upd (h : KSet w b n L) {t : TypeId} (ht : Tryz.prog.underlying t = some (.map 9 4)) (k : ByteArray) (hk : k.size ≤ 4194304) (hn : n ≤ 2097152) :
    ∃ w', (Instr.mapUpdate t (.map (some b)) (.string k) (.bool true)).run Tryz.prog w = .ok () w' ∧ KSet w' b (n + 1) (L ++ [bs k]) ∧ w.grownBy w' (some b) := by
  obtain ⟨D, h, r⟩ := h
  have hkey : keyOf Tryz.prog 9 (.string k) = some (.string (bs k)) := WideMaps.keyOf_string_mk str_under (by simp only [maxLen]; omega)
  obtain ⟨w', hrun, h', hg⟩ := h.update (Maps.string_keyed str_under) ht (by simp only [maxLen]; omega) hkey (plainElem_bool bool_under true)
  refine ⟨w', hrun, ⟨_, h', fun s => ?_⟩, hg⟩
  by_cases e : s = bs k
  · subst e
    exact ⟨fun _ => ⟨Maps.has_put_same h.isMap (by trivial) _, fun z => Maps.atKey_put_same h.isMap (by trivial) _ _⟩, fun hn => absurd (by simp) hn⟩
  · have hne : (Lit.string s : Lit) ≠ .string (bs k) := by intro e2; injection e2 with e2; exact e e2
    have hm : s ∈ L ++ [bs k] ↔ s ∈ L := by simp [e]
    rw [hm, Maps.has_put_other hne]
    exact ⟨fun hs => ⟨((r s).1 hs).1, fun z => by rw [Maps.atKey_put_other hne]; exact ((r s).1 hs).2 z⟩, (r s).2⟩
end KSet
namespace StrMap
variable {w w' : World} {b n : Nat} {f : Str → Option Str}
theorem far (h : StrMap w b n f) {g : Nat} (hg : w.grownBy w' (some g)) (hne : b ≠ g) : StrMap w' b n f := by
  obtain ⟨D, h, r⟩ := h
  exact ⟨D, h.kept (row := some g) hg (by simpa using hne), r⟩
theorem del (h : StrMap w b n f) {t : TypeId} (ht : Tryz.prog.underlying t = some (.map 9 9)) (k : ByteArray) (hk : k.size ≤ 2097152) (ty : TypeId) :
    ∃ w', (Builtin.delete_ #[t, 9] ty #[.map (some b), .string k]).run Tryz.prog w = .ok (.tuple #[]) w' ∧ StrMap w' b n (fun x => if x = bs k then none else f x) ∧ w.grownBy w' (some b) := by
  obtain ⟨D, h, r1, r2⟩ := h
  have hkey : keyOf Tryz.prog 9 (.string k) = some (.string (bs k)) := WideMaps.keyOf_string_mk str_under (by simp only [maxLen]; omega)
  obtain ⟨w', hrun, h', hg⟩ := h.drop (Maps.string_keyed str_under) ht hkey ty
  refine ⟨w', hrun, ⟨_, h', fun s hs => ?_, fun s u hs => ?_⟩, hg.grown⟩ <;> dsimp only at hs
  · by_cases e : s = bs k
    · subst e; exact Maps.has_del_same
    · rw [if_neg e] at hs
      rw [Maps.has_del_other (by intro e2; injection e2 with e2; exact e e2)]
      exact r1 s hs
  · by_cases e : s = bs k
    · rw [if_pos e] at hs; cases hs
    · rw [if_neg e] at hs
      have hne : (Lit.string s : Lit) ≠ .string (bs k) := by intro e2; injection e2 with e2; exact e e2
      obtain ⟨h1, h2⟩ := r2 s u hs
      exact ⟨by rw [Maps.has_del_other hne]; exact h1, fun z => by rw [Maps.atKey_del_other hne]; exact h2 z⟩
end StrMap
end Go.Proofs.YtaobnifiengglaaGreatDoor
