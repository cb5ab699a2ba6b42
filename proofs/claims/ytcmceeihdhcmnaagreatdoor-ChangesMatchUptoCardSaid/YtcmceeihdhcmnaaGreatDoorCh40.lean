/- The small map of outref2's group: made, asked. -/
import Derived.Test.YtcmceeihdhcmnaaGreatDoorCh39
import Derived.MapKept

namespace Go.Proofs.YtcmceeihdhcmnaaGreatDoor
open Go.RowKit

abbrev eAnd : MapEntry := ⟨.string ⟨#[97, 110, 100]⟩, .int .i64 7, 0⟩
abbrev eOr : MapEntry := ⟨.string ⟨#[111, 114]⟩, .int .i64 8, 1⟩
/-- the map of the two kinds -/
def KindMap (w : World) (b : Nat) : Prop := w.heap[b]? = some (.map #[eAnd, eOr] 2)
theorem KindMap.lt {w : World} {b : Nat} (h : KindMap w b) : b < w.heap.size := (Array.getElem?_eq_some_iff.1 h).1
theorem KindMap.extX {g b : Nat} {w w' : World} (h : KindMap w b) (hx : ExtX g w w') (hb : b ≠ g) : KindMap w' b := (hx.block b h.lt hb).trans h
theorem KindMap.ext {b : Nat} {w w' : World} (h : KindMap w b) (hx : Ext w w') : KindMap w' b := (hx.block b h.lt).trans h
theorem KindMap.alloc {b : Nat} {w : World} (h : KindMap w b) (o : Obj) : KindMap (w.alloc o) b := h.ext ((Ext.refl w).alloc o)
theorem KindMap.far {b : Nat} {w : World} (h : KindMap w b) {p : Addr} (hp : b ≠ p.block) (u : Value) : KindMap (w.setCell p u) b := (Below.heap_setCell w p u b hp).trans h
theorem KindMap.grownR {b : Nat} {row : Option Nat} {w w' : World} (h : KindMap w b) (hg : w.grownBy w' row) (hne : some b ≠ row) : KindMap w' b := (hg.block b h.lt hne).trans h
theorem set_alloc (w : World) (o o' : Obj) : ({ w.alloc o with heap := (w.alloc o).heap.setIfInBounds w.heap.size o' } : World) = w.alloc o' := by
  show ({ w with heap := (w.heap.push o).setIfInBounds w.heap.size o' } : World) = { w with heap := w.heap.push o' }
  congr 1
  apply Array.ext_getElem?
  intro i
  rw [Array.getElem?_setIfInBounds]
  by_cases h : w.heap.size = i
  · subst h; simp
  · rw [if_neg h, Array.getElem?_push, Array.getElem?_push, if_neg (Ne.symm h), if_neg (Ne.symm h)]
theorem key_ok (s : ByteArray) (em : Bool) (w : World) : (Instr.checkKey em 10000 9 (.string s)).run Tryz.prog w = .ok () w := MapKept.run_checkKey (d := .string) (k := .string s) Tryz.underlying9 trivial em 9999
theorem kinds_ins1 (w : World) : (Instr.mapUpdate 246 (.map (some w.heap.size)) (.string ⟨#[97, 110, 100]⟩) (.int .i64 7)).run Tryz.prog (w.alloc (.map #[] 0)) = .ok () (w.alloc (.map #[eAnd] 1)) := by
  have hb : (w.alloc (.map #[] 0)).heap[w.heap.size]? = some (.map #[] 0) := by show (w.heap.push _)[w.heap.size]? = _; simp
  have ht : Tryz.prog.underlying 246 = some (.map 9 3) := Tryz.underlying246
  have hf : (Instr.findKey 9 (.string ⟨#[97, 110, 100]⟩) []).run Tryz.prog (w.alloc (.map #[] 0)) = .ok none (w.alloc (.map #[] 0)) := by
    simp [Instr.findKey, run_underlying Tryz.underlying9, Result.andThen, Instr.findNow]
  simp [Instr.mapUpdate, run_underlying ht, MapKept.run_getObj_map hb, key_ok, hf, MapKept.run_setObj_map _ hb, Result.andThen]
  exact set_alloc w _ _
theorem kinds_ins2 (w : World) : (Instr.mapUpdate 246 (.map (some w.heap.size)) (.string ⟨#[111, 114]⟩) (.int .i64 8)).run Tryz.prog (w.alloc (.map #[eAnd] 1)) = .ok () (w.alloc (.map #[eAnd, eOr] 2)) := by
  have hb : (w.alloc (.map #[eAnd] 1)).heap[w.heap.size]? = some (.map #[eAnd] 1) := by show (w.heap.push _)[w.heap.size]? = _; simp
  have ht : Tryz.prog.underlying 246 = some (.map 9 3) := Tryz.underlying246
  have hn : Instr.findNow .string (.string ⟨#[111, 114]⟩) [eAnd] 0 = some none := rfl
  have hf : (Instr.findKey 9 (.string ⟨#[111, 114]⟩) [eAnd]).run Tryz.prog (w.alloc (.map #[eAnd] 1)) = .ok none (w.alloc (.map #[eAnd] 1)) := by
    simp [Instr.findKey, run_underlying Tryz.underlying9, Result.andThen, hn]
  simp [Instr.mapUpdate, run_underlying ht, MapKept.run_getObj_map hb, key_ok, hf, MapKept.run_setObj_map _ hb, Result.andThen]
  exact set_alloc w _ _
theorem kinds_and {w : World} {b : Nat} (h : KindMap w b) : (Instr.lookup 246 (.map (some b)) (.string ⟨#[97, 110, 100]⟩) false).run Tryz.prog w = .ok (.int .i64 7) w := by
  have ht : Tryz.prog.underlying 246 = some (.map 9 3) := Tryz.underlying246
  have hn : Instr.findNow .string (.string ⟨#[97, 110, 100]⟩) [eAnd, eOr] 0 = some (some (0, .int .i64 7)) := rfl
  have hf : (Instr.findKey 9 (.string ⟨#[97, 110, 100]⟩) [eAnd, eOr]).run Tryz.prog w = .ok (some (0, .int .i64 7)) w := by
    simp [Instr.findKey, run_underlying Tryz.underlying9, Result.andThen, hn]
  simp [Instr.lookup, run_underlying ht, MapKept.run_getObj_map h, key_ok, hf, Result.andThen]
theorem kinds_or {w : World} {b : Nat} (h : KindMap w b) : (Instr.lookup 246 (.map (some b)) (.string ⟨#[111, 114]⟩) false).run Tryz.prog w = .ok (.int .i64 8) w := by
  have ht : Tryz.prog.underlying 246 = some (.map 9 3) := Tryz.underlying246
  have hn : Instr.findNow .string (.string ⟨#[111, 114]⟩) [eAnd, eOr] 0 = some (some (1, .int .i64 8)) := rfl
  have hf : (Instr.findKey 9 (.string ⟨#[111, 114]⟩) [eAnd, eOr]).run Tryz.prog w = .ok (some (1, .int .i64 8)) w := by
    simp [Instr.findKey, run_underlying Tryz.underlying9, Result.andThen, hn]
  simp [Instr.lookup, run_underlying ht, MapKept.run_getObj_map h, key_ok, hf, Result.andThen]
end Go.Proofs.YtcmceeihdhcmnaaGreatDoor
