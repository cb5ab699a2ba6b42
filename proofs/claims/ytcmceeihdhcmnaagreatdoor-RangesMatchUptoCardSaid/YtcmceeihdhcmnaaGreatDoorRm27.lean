/- Arguments opened: what a reading of cells at a type says of memory, and of the reading's bulk. One law a kind of type: numbers, texts, structs of one field, slices. Versions, spans and ranges among the arguments. A world of which some blocks alone were written. -/
import Derived.Test.YtcmceeihdhcmnaaGreatDoorRm17
import Derived.Deep.Slices
import Derived.Test.YtcmceeihdhcmnaaGreatDoorRm19
import Derived.Test.YtcmceeihdhcmnaaGreatDoorRm01

namespace Go.Proofs.YtcmceeihdhcmnaaGreatDoor
open Go.ChangeShapes Go.WideShapes Go.ChangeAt Go.RowKit Go.WideElems Go.Joins

/-- what cells of a type say: a value with memory around it, and the bulk it has at least -/
def Opens (T : TypeId) {α : Type} (R : World → α → List Value → Prop) (bk : α → Nat) : Prop :=
  ∀ (H : Type) (enc : TypeId × Value → H) (W : World) (fuel : Nat) (cs : List Value) (x : DataW H × List MemPlace), DataW.trod enc Tryz.prog W 0 (fun _ => true) true fuel T cs = some x → ∃ v, R W v cs ∧ bk v ≤ Rows.uptoBulk x.1

theorem opens_string {T : TypeId} (hT : Tryz.prog.underlying T = some .string) : Opens T (fun _ (s : ByteArray) cs => cs = [.string s]) (fun s => s.size + 1) := fun H enc W fuel cs x h => by
  obtain ⟨s, rfl, rfl, _⟩ := DataW.trod_string hT h
  exact ⟨s, rfl, by simp only [Rows.uptoBulk, Array.length_toList]; exact Nat.le_refl _⟩
theorem opens_int {T : TypeId} (hT : Tryz.prog.underlying T = some (.int .i64)) : Opens T (fun _ (n : Int) cs => cs = [.int .i64 n]) (fun _ => 1) := fun H enc W fuel cs x h => by
  obtain ⟨n, rfl, rfl, _⟩ := DataW.trod_int hT h
  exact ⟨n, rfl, by simp [Rows.uptoBulk]⟩
theorem opens_bool {T : TypeId} (hT : Tryz.prog.underlying T = some .bool) : Opens T (fun _ (b : Bool) cs => cs = [.bool b]) (fun _ => 1) := fun H enc W fuel cs x h => by
  obtain ⟨n, rfl, rfl⟩ := DataW.trod_bool hT h
  exact ⟨n, rfl, by simp [Rows.uptoBulk]⟩
theorem bulkAll_le {H : Type} {n : Nat} {D : Nat → DataW H} {bk : Nat → Nat} (h : ∀ i, i < n → bk i ≤ Rows.uptoBulk (D i)) : ((List.range n).map bk).sum ≤ Rows.uptoBulkAll ((List.range n).map D) := by
  suffices ∀ l : List Nat, (∀ i ∈ l, i < n) → (l.map bk).sum ≤ Rows.uptoBulkAll (l.map D) from this _ fun i hi => List.mem_range.1 hi
  intro l
  induction l with
  | nil => intro _; exact Nat.zero_le _
  | cons a l ih =>
    intro hl
    have h1 := h a (hl a (by simp))
    have h2 := ih fun i hi => hl i (by simp [hi])
    simp only [List.map_cons, List.sum_cons, Rows.uptoBulkAll]
    omega
/-- elements of a slice in memory, by whatever an element's cells say -/
def RowOf {α : Type} (R : World → α → List Value → Prop) (sz : Nat) (W : World) (A : Option Addr) (l : List α) : Prop :=
  l ≠ [] → ∃ b o, A = some ⟨b, o, none⟩ ∧ ∀ k (h : k < l.length), ∃ ecs, R W l[k] ecs ∧ ecs.length = sz ∧ ∀ j, j < sz → W.cell? ⟨b, o + k * sz + j, none⟩ = ecs[j]?
theorem opens_slice {T E : TypeId} {α : Type} [Inhabited α] {R : World → α → List Value → Prop} {bk : α → Nat} {sz : Nat} (hT : Tryz.prog.underlying T = some (.slice E)) (hsz : Tryz.prog.cellsOf E = sz) (h0 : 0 < sz) (hE : Opens E R bk) :
    Opens T (fun W (l : List α) cs => ∃ A c, cs = [.slice A l.length c] ∧ RowOf R sz W A l) (fun l => (l.map bk).sum + 1) := fun H enc W fuel cs x h => by
  rcases Deep.open_slice hT h with ⟨rfl, rfl⟩ | ⟨a, len, cap, m, n, D, Pl, rfl, _, hl, _, hm, rfl, hx⟩
  · exact ⟨[], ⟨none, 0, rfl, fun h => absurd rfl h⟩, by simp [Rows.uptoBulk]⟩
  · have hlm : len ≤ m := by rw [hm]; split <;> omega
    have each : ∀ i, i < len → ∃ v : α, bk v ≤ Rows.uptoBulk (D i) ∧ ∃ ecs, R W v ecs ∧ W.cells? 0 (a.add (i * sz)) sz = some ecs := fun i hi => by
      obtain ⟨cs', h1, h2⟩ := hx i (by omega)
      obtain ⟨v, h3, h4⟩ := hE H enc W n cs' _ h2
      rw [hsz] at h1
      exact ⟨v, h4, cs', h3, h1⟩
    obtain ⟨F, hF⟩ := Deep.choose_lt each
    refine ⟨(List.range len).map F, ⟨some a, cap, by simp, ?_⟩, ?_⟩
    · intro hne
      have hpos : 0 < len := by
        rcases Nat.eq_zero_or_pos len with h | h
        · subst h; exact absurd rfl hne
        · exact h
      obtain ⟨_, ecs0, _, hc0⟩ := hF 0 hpos
      obtain ⟨_, hl0, hcell0⟩ := World.cells?_some hc0
      obtain ⟨b, off, spot⟩ := a
      have g0 := hcell0 0 h0
      have hsome : ∃ v, ecs0[0]? = some v := ⟨ecs0[0], List.getElem?_eq_getElem (by omega)⟩
      obtain ⟨v0, hv0⟩ := hsome
      rw [hv0] at g0
      have hspot : spot = none := by
        have := World.cell?_spot g0
        simpa [Addr.add] using this
      subst hspot
      refine ⟨b, off, rfl, fun k hk => ?_⟩
      have hk' : k < len := by simpa using hk
      obtain ⟨_, ecs, hR, hc⟩ := hF k hk'
      obtain ⟨_, hl1, hcell⟩ := World.cells?_some hc
      refine ⟨ecs, by simpa using hR, hl1, fun j hj => ?_⟩
      have := hcell j hj
      rwa [Deep.add_add, add_plain, ← Nat.add_assoc] at this
    · have := bulkAll_le (H := H) (n := len) (D := D) (bk := fun i => bk (F i)) fun i hi => (hF i hi).1
      simp only [List.map_map, Rows.uptoBulk]
      have e : (bk ∘ F) = fun i => bk (F i) := rfl
      rw [e]
      omega
theorem opens_struct1 {T : TypeId} {f0 : Field} {α : Type} {R : World → α → List Value → Prop} {bk : α → Nat} (hT : Tryz.prog.underlying T = some (.struct #[f0])) (ho : f0.offset = 0) (hs : Tryz.prog.cellsOf T = Tryz.prog.cellsOf f0.type) (hE : Opens f0.type R bk) :
    Opens T R bk := fun H enc W fuel cs x h => by
  obtain ⟨y0, n, rfl, hl, h0⟩ := trod_struct1 hT h
  obtain ⟨v, h1, h2⟩ := hE H enc W n _ _ h0
  rw [ho, List.drop_zero, List.take_of_length_le (by omega)] at h1
  exact ⟨v, h1, by simp only [Rows.uptoBulk, Rows.uptoBulkAll]; omega⟩

theorem sum_mem {α : Type} {bk : α → Nat} : ∀ {l : List α} {a : α}, a ∈ l → bk a ≤ (l.map bk).sum
  | b :: l, a, h => by
    rcases List.mem_cons.1 h with rfl | h
    · simp only [List.map_cons, List.sum_cons]; omega
    · have := sum_mem (bk := bk) h
      simp only [List.map_cons, List.sum_cons]; omega
theorem sum_len {α : Type} {bk : α → Nat} {c : Nat} (h : ∀ a, c ≤ bk a) : ∀ l : List α, l.length * c ≤ (l.map bk).sum
  | [] => by simp
  | a :: l => by
    have := sum_len h l
    have := h a
    simp only [List.map_cons, List.sum_cons, List.length_cons, Nat.succ_mul]; omega
end Go.Proofs.YtcmceeihdhcmnaaGreatDoor

namespace Go.Proofs.YtcmceeihdhcmnaaGreatDoor
open Go.ChangeShapes Go.WideShapes Go.ChangeAt Go.RowKit Go.WideElems Go.Joins

set_option maxRecDepth 100000 in
theorem opens_ver : Opens 35 (fun _ (v : V4) cs => cs = [.int .i64 v.a1, .int .i64 v.a2, .int .i64 v.a3, .string v.a]) (fun v => v.a.size + 4) := fun H enc W fuel cs x h => by
  obtain ⟨y0, y1, y2, y3, n, rfl, hl, h0, h1, h2, h3⟩ := trod_struct4 Tryz.underlying35 h
  have hc : Tryz.prog.cellsOf 35 = 4 := by kernel_rfl
  have ci : Tryz.prog.cellsOf 3 = 1 := by kernel_rfl
  have cst : Tryz.prog.cellsOf 9 = 1 := by kernel_rfl
  rw [hc] at hl
  match cs, hl with
  | [c0, c1, c2, c3], _ =>
    dsimp only at h0 h1 h2 h3
    rw [ci] at h0 h1 h2
    rw [cst] at h3
    obtain ⟨a1, e1, b1⟩ := opens_int Tryz.underlying3 H enc W n _ _ h0
    obtain ⟨a2, e2, b2⟩ := opens_int Tryz.underlying3 H enc W n _ _ h1
    obtain ⟨a3, e3, b3⟩ := opens_int Tryz.underlying3 H enc W n _ _ h2
    obtain ⟨a, e4, b4⟩ := opens_string Tryz.underlying9 H enc W n _ _ h3
    simp at e1 e2 e3 e4
    subst e1 e2 e3 e4
    exact ⟨⟨a1, a2, a3, a⟩, rfl, by dsimp only at b1 b2 b3 b4 ⊢; simp only [Rows.uptoBulk, Rows.uptoBulkAll]; omega⟩
set_option maxRecDepth 100000 in
theorem opens_span : Opens 127 (fun _ (s : Sp) cs => cs = [.bool s.hf, .bool s.ht, .int .i64 s.f.a1, .int .i64 s.f.a2, .int .i64 s.f.a3, .string s.f.a, .int .i64 s.t.a1, .int .i64 s.t.a2, .int .i64 s.t.a3, .string s.t.a]) (fun s => s.f.a.size + s.t.a.size + 10) := fun H enc W fuel cs x h => by
  obtain ⟨y0, y1, y2, y3, n, rfl, hl, h0, h1, h2, h3⟩ := trod_struct4 Tryz.underlying127 h
  have hc : Tryz.prog.cellsOf 127 = 10 := by kernel_rfl
  have cb : Tryz.prog.cellsOf 4 = 1 := by kernel_rfl
  have cv : Tryz.prog.cellsOf 35 = 4 := by kernel_rfl
  rw [hc] at hl
  match cs, hl with
  | [c0, c1, c2, c3, c4, c5, c6, c7, c8, c9], _ =>
    dsimp only at h0 h1 h2 h3
    rw [cb] at h0 h1
    rw [cv] at h2 h3
    obtain ⟨hf, e1, b1⟩ := opens_bool Tryz.underlying4 H enc W n _ _ h0
    obtain ⟨ht, e2, b2⟩ := opens_bool Tryz.underlying4 H enc W n _ _ h1
    obtain ⟨f, e3, b3⟩ := opens_ver H enc W n _ _ h2
    obtain ⟨t, e4, b4⟩ := opens_ver H enc W n _ _ h3
    simp at e1 e2 e3 e4
    obtain ⟨rfl, rfl, rfl, rfl⟩ := e3
    obtain ⟨rfl, rfl, rfl, rfl⟩ := e4
    subst e1 e2
    exact ⟨⟨hf, ht, f, t⟩, rfl, by dsimp only at b1 b2 b3 b4 ⊢; simp only [Rows.uptoBulk, Rows.uptoBulkAll]; omega⟩
instance : Inhabited V4 := ⟨⟨0, 0, 0, ⟨#[]⟩⟩⟩
instance : Inhabited Sp := ⟨⟨false, false, default, default⟩⟩
theorem rowOf_spans {W : World} {A : Option Addr} {l : List Sp} (h : RowOf (fun _ (s : Sp) cs => cs = [.bool s.hf, .bool s.ht, .int .i64 s.f.a1, .int .i64 s.f.a2, .int .i64 s.f.a3, .string s.f.a, .int .i64 s.t.a1, .int .i64 s.t.a2, .int .i64 s.t.a3, .string s.t.a]) 10 W A l) : RdS W A l := fun hne => by
  obtain ⟨b, o, rfl, hc⟩ := h hne
  refine ⟨b, o, rfl, ?_, ?_, ?_, ?_, ?_, ?_, ?_, ?_, ?_, ?_⟩ <;> intro k hk <;> obtain ⟨ecs, rfl, _, hj⟩ := hc k hk
  · exact hj 0 (by omega)
  · exact hj 1 (by omega)
  · exact hj 2 (by omega)
  · exact hj 3 (by omega)
  · exact hj 4 (by omega)
  · exact hj 5 (by omega)
  · exact hj 6 (by omega)
  · exact hj 7 (by omega)
  · exact hj 8 (by omega)
  · exact hj 9 (by omega)
set_option maxRecDepth 100000 in
/-- a range -/
theorem opens_range : Opens 51 (fun W (l : List Sp) cs => ∃ A c, cs = [.slice A l.length c] ∧ RdS W A l) (fun l => (l.map fun s => s.f.a.size + s.t.a.size + 10).sum + 1) := fun H enc W fuel cs x h => by
  obtain ⟨l, ⟨A, c, e, hr⟩, hb⟩ := opens_struct1 Tryz.underlying51 rfl (by kernel_rfl) (opens_slice (sz := 10) Tryz.underlying49 (by kernel_rfl) (by decide) opens_span) H enc W fuel cs x h
  exact ⟨l, ⟨A, c, e, rowOf_spans hr⟩, hb⟩
set_option maxRecDepth 100000 in
/-- a range by value, of a bulk -/
theorem open_range {H : Type} {enc : TypeId × Value → H} {W : World} {base : Nat} {v : Value} {d : DataW H} {p : List MemPlace} (hv : Value.okWide Tryz.prog W .any base 51 v) (h : DataW.Trod enc Tryz.prog W 0 (fun _ => true) true 51 v d p) :
    ∃ A c l, v = .agg #[.slice A l.length c] ∧ RdS W A l ∧ (∀ s ∈ l, s.f.a.size + s.t.a.size ≤ Rows.uptoBulk d) ∧ l.length * 10 ≤ Rows.uptoBulk d := by
  obtain ⟨cs, rfl, _⟩ := okWide_struct Tryz.underlying51 hv
  obtain ⟨fuel, hf⟩ := h
  obtain ⟨l, ⟨A, c, e, hr⟩, hb⟩ := opens_range H enc W fuel _ _ hf
  refine ⟨A, c, l, ?_, hr, fun s hs => ?_, ?_⟩
  · obtain ⟨cs⟩ := cs
    simp only [Value.cells] at e
    rw [show cs = _ from e]
  · have := sum_mem (bk := fun s : Sp => s.f.a.size + s.t.a.size + 10) hs
    dsimp only at this hb
    omega
  · have := sum_len (bk := fun s : Sp => s.f.a.size + s.t.a.size + 10) (c := 10) (fun a => by omega) l
    dsimp only at this hb
    omega
end Go.Proofs.YtcmceeihdhcmnaaGreatDoor

namespace Go.Proofs.YtcmceeihdhcmnaaGreatDoor
open Go.RowKit

/-! ### A world of which some blocks alone were written -/
structure ExtC (C : Nat → Prop) (w w' : World) : Prop where
  os : w'.os = w.os
  tape : w'.tape = w.tape
  output : w'.output = w.output
  size : w.heap.size ≤ w'.heap.size
  block : ∀ k, k < w.heap.size → ¬ C k → w'.heap[k]? = w.heap[k]?
namespace ExtC
variable {C : Nat → Prop} {a b c w w' : World}
theorem refl (C : Nat → Prop) (w : World) : ExtC C w w := ⟨rfl, rfl, rfl, Nat.le_refl _, fun _ _ _ => rfl⟩
theorem ofExt (h : Ext a b) : ExtC C a b := ⟨h.os, h.tape, h.output, h.size, fun k hk _ => h.block k hk⟩
theorem trans (h : ExtC C a b) (k : ExtC C b c) : ExtC C a c :=
  ⟨k.os.trans h.os, k.tape.trans h.tape, k.output.trans h.output, Nat.le_trans h.size k.size, fun i hi hg => (k.block i (Nat.lt_of_lt_of_le hi h.size) hg).trans (h.block i hi hg)⟩
theorem alloc (h : ExtC C a w) (o : Obj) : ExtC C a (w.alloc o) := h.trans (ofExt ((Ext.refl w).alloc o))
theorem set (h : ExtC C a w) {p : Addr} (hp : C p.block ∨ a.heap.size ≤ p.block) (u : Value) : ExtC C a (w.setCell p u) :=
  ⟨h.os, h.tape, h.output, by have := h.size; simpa [World.setCell] using this, fun k hk hg => by
    refine Eq.trans ?_ (h.block k hk hg)
    simp only [World.setCell, Array.getElem?_modify]
    rw [if_neg]
    rintro rfl
    rcases hp with h1 | h1
    · exact hg h1
    · omega⟩
theorem ext (h : Ext a w) (k : ExtC C w w') (hC : ∀ i, C i → a.heap.size ≤ i) : Ext a w' :=
  ⟨k.os.trans h.os, k.tape.trans h.tape, k.output.trans h.output, Nat.le_trans h.size k.size, fun i hi => (k.block i (Nat.lt_of_lt_of_le hi h.size) (fun hc => by have := hC i hc; omega)).trans (h.block i hi)⟩
theorem cell (h : ExtC C a b) {k o : Nat} {v : Value} (hk : ¬ C k) (hc : a.cell? ⟨k, o, none⟩ = some v) : b.cell? ⟨k, o, none⟩ = some v := by
  have hl := lt_of_cell hc
  unfold World.cell? at hc ⊢
  rw [h.block k hl hk]
  exact hc
end ExtC
theorem Blk.extC {C : Nat → Prop} {w w' : World} {k : Nat} {t : TypeId} {cs : Array Value} (h : Blk w k t cs) (hx : ExtC C w w') (hk : ¬ C k) : Blk w' k t cs := (hx.block k h.lt hk).trans h
end Go.Proofs.YtcmceeihdhcmnaaGreatDoor
