/- What all walks of this seat share: a world that has only grown ('Ext'), the package variables as the row lists them ('Good', 'GoodN'), endings. -/
import Derived.Test.YtncagihilplliaaGreatDoorProg
import Derived.Test.YtncagihilplliaaGreatDoorStr
import Derived.WalkKit
import Derived.WalkSpells
import Derived.WalkLawsBesides
import Derived.LoopTactic
import Derived.Outline
import Derived.Lib.Hide
import Derived.Lib.LaidTab
import Derived.Lib.ConvBytes
import Derived.Lib.ItoaNum
import Derived.WalkSmall
import Derived.Sort.Grow
import Derived.Deep.QuietTactic
import Derived.BigQuiet
namespace Go.Proofs.YtncagihilplliaaGreatDoor
open Go.RowKit

/-! ### A world that has only grown -/
def Ext (w w' : World) : Prop := Below w.heap.size w w'
namespace Ext
variable {a b c w w' : World}
theorem refl (w : World) : Ext w w := Below.refl _ _
theorem size (h : Ext a b) : a.heap.size ≤ b.heap.size := Below.size h
theorem trans (h : Ext a b) (k : Ext b c) : Ext a c := Below.trans h (Below.mono k h.size)
theorem alloc (h : Ext a w) (o : Obj) : Ext a (w.alloc o) := Below.alloc h h.size o
theorem drew (h : Ext a w) : Ext a w.drew := Below.drew h
theorem drewN (h : Ext a w) (n : Nat) : Ext a (w.drewN n) := ⟨h.os, h.tape, h.output, h.size, h.block⟩
theorem setCell (h : Ext a w) {p : Addr} (hp : a.heap.size ≤ p.block) (u : Value) : Ext a (w.setCell p u) := Below.setCell h hp u
theorem grow (h : Ext a w) (os : Array Obj) : Ext a (Sort.grow w os) :=
  h.trans ⟨rfl, rfl, rfl, by simp [Sort.grow], fun k hk => by simp [Sort.grow, Array.getElem?_append, hk]⟩
theorem freeze (h : Ext a w) {p : Addr} (hp : a.heap.size ≤ p.block) (n : Nat) : Ext a (w.freeze p n) := by
  refine Below.trans h ?_
  unfold World.freeze
  split
  · exact Below.refl _ _
  · exact ⟨rfl, rfl, rfl, by simp, fun k hk => by simp only [Array.getElem?_modify]; rw [if_neg (by omega)]⟩
theorem bytesWorld (h : Ext a w) (t : TypeId) (s : ByteArray) : Ext a (Lib.bytesWorld w t s) := freeze (alloc (drew h) _) h.size _
theorem cells (h : Ext a b) : (∀ k o, k < a.heap.size → b.cell? ⟨k, o, none⟩ = a.cell? ⟨k, o, none⟩) ∧ (∀ k o, k < a.heap.size → b.frozen? ⟨k, o, none⟩ = a.frozen? ⟨k, o, none⟩) :=
  ⟨fun k o hk => Below.cell (p := ⟨k, o, none⟩) h hk, fun k o hk => Below.frozen (p := ⟨k, o, none⟩) h hk⟩
theorem below (h : Ext a b) : Below a.heap.size a b := h
end Ext
theorem lt_of_cell {w : World} {k o : Nat} {v : Value} (h : w.cell? ⟨k, o, none⟩ = some v) : k < w.heap.size := by
  unfold World.cell? at h
  rcases Nat.lt_or_ge k w.heap.size with hlt | hge
  · exact hlt
  · rw [Array.getElem?_eq_none hge] at h; cases h
theorem Ext.cell {a b : World} (h : Ext a b) {k o : Nat} {v : Value} (hc : a.cell? ⟨k, o, none⟩ = some v) : b.cell? ⟨k, o, none⟩ = some v := (h.cells.1 k o (lt_of_cell hc)).trans hc
theorem Ext.var {a b : World} (h : Ext a b) {n : String} {cs : Array Value} (hv : a.var? Tryz.prog n = some cs) : b.var? Tryz.prog n = some cs := by
  unfold World.var? at hv ⊢
  cases hg : Tryz.prog.globalNamed n with
  | none => rw [hg] at hv; cases hv
  | some g =>
    rw [hg] at hv
    simp only [Option.bind_some] at hv ⊢
    rcases Nat.lt_or_ge g a.heap.size with hlt | hge
    · rw [Below.block h g hlt]; exact hv
    · rw [Array.getElem?_eq_none hge] at hv; cases hv

/-! ### A block of the call's own, known whole -/
def Blk (w : World) (g : Nat) (t : TypeId) (cs : Array Value) : Prop := w.heap[g]? = some (.cells cs t (0, 0))
namespace Blk
variable {w w' : World} {g : Nat} {t : TypeId} {cs : Array Value}
theorem lt (h : Blk w g t cs) : g < w.heap.size := by
  rcases Nat.lt_or_ge g w.heap.size with hlt | hge
  · exact hlt
  · unfold Blk at h; rw [Array.getElem?_eq_none hge] at h; cases h
theorem cell (h : Blk w g t cs) (i : Nat) : w.cell? ⟨g, i, none⟩ = cs[i]? := cell_of_row w g i cs t (0, 0) h
theorem free (h : Blk w g t cs) (i : Nat) : w.frozen? ⟨g, i, none⟩ = false := by
  unfold Blk at h
  simp [World.frozen?, h]
theorem new (w : World) (t : TypeId) (cs : Array Value) : Blk (w.alloc (.cells cs t)) w.heap.size t cs := heap_alloc_new w _
theorem ext (h : Blk w g t cs) (hx : Ext w w') : Blk w' g t cs := (Below.block hx g h.lt).trans h
theorem alloc (h : Blk w g t cs) (o : Obj) : Blk (w.alloc o) g t cs := h.ext ((Ext.refl w).alloc o)
theorem set (h : Blk w g t cs) (i : Nat) (u : Value) : Blk (w.setCell ⟨g, i, none⟩ u) g t (cs.setIfInBounds i u) := by
  unfold Blk at h ⊢
  simp [World.setCell, Array.getElem?_modify, h]
theorem far (h : Blk w g t cs) {p : Addr} (hp : g ≠ p.block) (u : Value) : Blk (w.setCell p u) g t cs := (Below.heap_setCell w p u g hp).trans h
end Blk

/-! ### A region that draws its order, whose operations and callees let the world grow at most -/
theorem wp_region_ext {P : Program} {id : Nat} {Q : Exit → Act → World → Prop} {a : Act} {w : World} {l : List Oper} (hm : P.follows .mixedOrders = true) (hB : Region.lexB .any l.toArray = true)
    (h : wpQuiet P l.toArray (Ext w) (fun a' => ∀ w', Ext w w' → Q .normal a' w') l a) : (Code.region id l.toArray true).wp P Q a w :=
  wp_region_quiet (C := Ext w) hm hB ((Ext.refl w).drewN 1) (by simpa using h)

/-! ### The package variables -/
structure Good (w : World) : Prop where
  maxLen : ∃ m, w.cell? ⟨0, 0, none⟩ = some (.int .i64 m)
theorem Good.ext {w w' : World} (g : Good w) (h : Ext w w') : Good w' := ⟨let ⟨m, hm⟩ := g.maxLen; ⟨m, h.cell hm⟩⟩
structure GoodN (w : World) : Prop extends Good w where
  pow10 : Lib.TabIs Tryz.prog w "internal/strconv.uint64pow10" .u64 Lib.pow10Tab
  errS : ∃ tp p, w.var? Tryz.prog "strconv.ErrSyntax" = some #[.iface tp p]
  errR : ∃ tp p, w.var? Tryz.prog "strconv.ErrRange" = some #[.iface tp p]
theorem GoodN.ext {w w' : World} (g : GoodN w) (h : Ext w w') : GoodN w' :=
  ⟨g.toGood.ext h, h.var g.pow10, let ⟨t, p, e⟩ := g.errS; ⟨t, p, h.var e⟩, let ⟨t, p, e⟩ := g.errR; ⟨t, p, h.var e⟩⟩

/-! ### Endings, sizes -/
theorem ret_bool {a b : Bool} (h : a = b) : Ending.returned (.bool a) = .returned (.bool b) := by rw [h]
theorem ret_int {k : IntKind} {a b : Int} (h : a = b) : Ending.returned (.int k a) = .returned (.int k b) := by rw [h]
theorem ret_str {a b : Str} (h : a = b) : Ending.returned (S a) = .returned (S b) := by rw [h]
theorem ret_strS {x : ByteArray} {l : Str} (h : bs x = l) : Ending.returned (.string x) = .returned (S l) := by rw [str_S h]
theorem toList_length (s : ByteArray) : s.toList.length = s.size := by rw [ByteArray.toList_eq, Array.length_toList]; rfl
theorem bs_length (s : ByteArray) : (bs s).length = s.size := by rw [← toList_length, ByteArray.toList_eq]
theorem size_zero {s : ByteArray} (h : s.toList = []) : s.size = 0 := by rw [← toList_length, h]; rfl
theorem size_pos {s : ByteArray} (h : ¬ s.toList = []) : 0 < s.size := by
  rw [← toList_length]
  exact List.length_pos_iff.2 h
theorem take_size (s : ByteArray) : s.data.toList.take s.size = s.data.toList := List.take_of_length_le (by simp)
/-- 's == ""' and 's != ""' as the walk spells them, from the size. -/
theorem emp_of_size {s : ByteArray} (h : s.size = 0) : s.toList = [] := List.eq_nil_of_length_eq_zero (by rw [toList_length, h])
theorem nemp_of_size {s : ByteArray} (h : 0 < s.size) : ¬ s.toList = [] := fun e => by have := size_zero e; omega
theorem emp_bool {s : ByteArray} (h : s.size = 0) : s.toList.isEmpty = true := by rw [emp_of_size h]; rfl
theorem nemp_bool {s : ByteArray} (h : 0 < s.size) : s.toList.isEmpty = false := by
  have := nemp_of_size h
  simpa using this
theorem mk_bs (s : ByteArray) : (⟨(bs s).toArray⟩ : ByteArray) = s := Lib.mk_data s
theorem S_bs (s : ByteArray) : S (bs s) = .string s := by rw [S, mk_bs]
theorem bs_mk (l : Str) : bs ⟨l.toArray⟩ = l := by simp [bs]
end Go.Proofs.YtncagihilplliaaGreatDoor
