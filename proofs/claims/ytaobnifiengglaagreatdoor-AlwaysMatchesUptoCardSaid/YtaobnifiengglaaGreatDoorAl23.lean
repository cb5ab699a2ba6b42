/- The law outlaw2.RangesPrint: its walk. What the rows of this seat share that list the library's tables and errors: their variables at the start, and a world for the witness. Arguments opened: what a reading of cells at a type says of memory, and of the reading's bulk. One law a kind of type: numbers, texts, structs of one field, slices. Plain law: rules, their errors, their texts, and what reads them; the reference's reading is the program's. Plain law: the reference's errors, inverses and readings of rules are the program's. Plain law: a text in quotes, by two replacements of one byte each; its length; what a loop over it has written. Bytes as cells; texts compared. strings.NewReplacer(..).Replace at quotes: the parts of sync.Once's slow road; NewReplacer. strings.NewReplacer(..).Replace at quotes: sync.Once's Do, first time, over whatever the Replacer's building does. strings.NewReplacer(..).Replace at quotes: NewReplacer; the building of its table. strings.NewReplacer(..).Replace at quotes: the replacing. Contracts of strings.(*Replacer).Replace at quotes, and of ver.Quoted. Reading a text in quotes, byte by byte; contract of outref2.quotedAt. Contracts of ver.quotedAt, ver.isBlank, ver.kindOf. The condition reader of the program in memory: its state; 'is', 'fail'. -/
import Derived.Test.YtaobnifiengglaaGreatDoorAl22
import Derived.Test.YtaobnifiengglaaGreatDoorAl20
import Derived.Test.YtaobnifiengglaaGreatDoorAl12
import Derived.Deep.Slices
import Derived.Test.YtaobnifiengglaaGreatDoorAl02
import Derived.Lib.Replace
import Derived.Lib.SplitLaws
import Derived.Test.YtaobnifiengglaaGreatDoorAl01
import Derived.Laws.AppendOwn
import Derived.Laws.OwnMore
import Derived.Laws.LoneSync
import Derived.Laws.Pointers
import Derived.Defers
import Derived.RegionCalls
import Derived.RegionTactic
import Derived.Tactics
import Derived.Tactics2
import Derived.OwnWalk
import Derived.Test.YtaobnifiengglaaGreatDoorAl16
import Derived.Deep.LoopGhost
import Derived.Deep.DeepCutAuto
import Derived.Deep.WholeRow
import Derived.Laws.BytesArg
import Derived.Test.YtaobnifiengglaaGreatDoorAl03
import Derived.Laws.CopyOwn
import Derived.Deep.RegionLaw
import Derived.Deep.CutBlock
import Derived.Test.YtaobnifiengglaaGreatDoorAl04

namespace Go.Proofs.YtaobnifiengglaaGreatDoor
open Go.RowKit

theorem spans_len (q : List (Sp × Int)) : (spansOf q).1.length ≤ 10 := by
  unfold spansOf
  split
  · exact Nat.zero_le _
  · split
    · exact Nat.zero_le _
    · rename_i h
      exact (rng_ok (Classical.not_not.1 h)).1
theorem parse_len (s : Str) : (parseR s).1.length ≤ 10 := by
  unfold parseR
  split
  · exact Nat.zero_le _
  · split
    · exact Nat.zero_le _
    · split
      · exact Nat.zero_le _
      · exact spans_len _
end Go.Proofs.YtaobnifiengglaaGreatDoor

namespace Go.Proofs.YtaobnifiengglaaGreatDoor.listed
open Go.ChangeShapes Go.WideShapes Go.ChangeAt Go.RowKit Go.WideElems Go.Joins

theorem star : "*" ++ "errors.errorString" = "*errors.errorString" := by decide
theorem rowErr (u : TypeId) (h : Tryz.prog.typeName? 3 u = some "*errors.errorString") : u = 357 :=
  typeName_ptr_named (nm := "errors.errorString") (by rw [star]; kernel_rfl) (by kernel_rfl) (by decide) u (by rw [star]; exact h)

/-- what the row's list and the world's shape give -/
theorem good {W : World} (hL : laidMetH Tryz.prog Rows.versionsMatchUptoRow.laid W) (hS : W.ShapedOpen Tryz.prog) : GoodN W := by
  have hL' : laidMet Tryz.prog Rows.versionsMatchUptoRow.laid W := hL
  have h1 : laidMet Tryz.prog [("internal/strconv.uint64pow10", Rows.laid_internal_strconv_uint64pow10)] W := hL'.filter (fun x => x.1 == "internal/strconv.uint64pow10")
  have h2 : laidMet Tryz.prog [("strconv.ErrSyntax", Rows.laid_strconv_ErrSyntax)] W := hL'.filter (fun x => x.1 == "strconv.ErrSyntax")
  have h3 : laidMet Tryz.prog [("strconv.ErrRange", Rows.laid_strconv_ErrRange)] W := hL'.filter (fun x => x.1 == "strconv.ErrRange")
  refine ⟨⟨Tryz.laysM146.s1_3 W hS⟩, ?_, ?_, ?_⟩
  · exact Lib.tabIs_of_head (rest := []) (g := 3) (by kernel_rfl) (by kernel_rfl) Tryz.underlying354 Tryz.underlying305 (by kernel_rfl) (by kernel_rfl) h1
  · obtain ⟨a, s, hv, _⟩ := laid_sentinel (g := 1) h2 (by kernel_rfl) (by kernel_rfl) Tryz.underlying138 rowErr Tryz.underlying357 Tryz.underlying359 rfl rfl Tryz.underlying9 (by kernel_rfl) (by kernel_rfl)
    exact ⟨_, _, hv⟩
  · obtain ⟨a, s, hv, _⟩ := laid_sentinel (g := 2) h3 (by kernel_rfl) (by kernel_rfl) Tryz.underlying138 rowErr Tryz.underlying357 Tryz.underlying359 rfl rfl Tryz.underlying9 (by kernel_rfl) (by kernel_rfl)
    exact ⟨_, _, hv⟩

/-- A WORLD FOR THE WITNESS: the settled one, two blocks more (the two errors' structs), the listed variables holding what their initialisers lay. -/
noncomputable def laidWorld (os : Os) : World :=
  let N := (World.settled Tryz.prog os).heap.size
  let w0 := World.holding Tryz.prog os ⟨#[.cells #[.string ⟨#[118, 97, 108, 117, 101, 32, 111, 117, 116, 32, 111, 102, 32, 114, 97, 110, 103, 101]⟩] 359, .cells #[.string ⟨#[105, 110, 118, 97, 108, 105, 100, 32, 115, 121, 110, 116, 97, 120]⟩] 359], #[], []⟩
  let put (h : Array Obj) (g : Nat) (cs : Array Value) : Array Obj := h.modify g fun
    | .cells _ t frozen => .cells cs t frozen
    | o => o
  let h0 := put (put w0.heap 2 #[.iface 357 (.pointer (some ⟨N, 0, none⟩))]) 1 #[.iface 357 (.pointer (some ⟨N + 1, 0, none⟩))]
  let h1 := put h0 4 (Go.Pinned.utf8FirstZ.map fun z : Nat => Value.int .u8 (z : Int)).toArray
  let h2 := put h1 5 #[.int .u8 128, .int .u8 191, .int .u8 160, .int .u8 191, .int .u8 128, .int .u8 159, .int .u8 144, .int .u8 191, .int .u8 128, .int .u8 143, .int .u8 0, .int .u8 0, .int .u8 0, .int .u8 0, .int .u8 0, .int .u8 0, .int .u8 0, .int .u8 0, .int .u8 0, .int .u8 0, .int .u8 0, .int .u8 0, .int .u8 0, .int .u8 0, .int .u8 0, .int .u8 0, .int .u8 0, .int .u8 0, .int .u8 0, .int .u8 0, .int .u8 0, .int .u8 0]
  let h3 := put h2 6 #[.int .u8 0, .int .u8 1, .int .u8 28, .int .u8 2, .int .u8 29, .int .u8 14, .int .u8 24, .int .u8 3, .int .u8 30, .int .u8 22, .int .u8 20, .int .u8 15, .int .u8 25, .int .u8 17, .int .u8 4, .int .u8 8, .int .u8 31, .int .u8 27, .int .u8 13, .int .u8 23, .int .u8 21, .int .u8 19, .int .u8 16, .int .u8 7, .int .u8 26, .int .u8 12, .int .u8 18, .int .u8 6, .int .u8 11, .int .u8 5, .int .u8 10, .int .u8 9]
  let h4 := put h3 7 #[.int .u8 0, .int .u8 1, .int .u8 56, .int .u8 2, .int .u8 57, .int .u8 49, .int .u8 28, .int .u8 3, .int .u8 61, .int .u8 58, .int .u8 42, .int .u8 50, .int .u8 38, .int .u8 29, .int .u8 17, .int .u8 4, .int .u8 62, .int .u8 47, .int .u8 59, .int .u8 36, .int .u8 45, .int .u8 43, .int .u8 51, .int .u8 22, .int .u8 53, .int .u8 39, .int .u8 33, .int .u8 30, .int .u8 24, .int .u8 18, .int .u8 12, .int .u8 5, .int .u8 63, .int .u8 55, .int .u8 48, .int .u8 27, .int .u8 60, .int .u8 41, .int .u8 37, .int .u8 16, .int .u8 46, .int .u8 35, .int .u8 44, .int .u8 21, .int .u8 52, .int .u8 32, .int .u8 23, .int .u8 11, .int .u8 54, .int .u8 26, .int .u8 40, .int .u8 15, .int .u8 34, .int .u8 20, .int .u8 31, .int .u8 10, .int .u8 25, .int .u8 14, .int .u8 19, .int .u8 9, .int .u8 13, .int .u8 8, .int .u8 7, .int .u8 6]
  let h5 := put h4 3 #[.int .u64 1, .int .u64 10, .int .u64 100, .int .u64 1000, .int .u64 10000, .int .u64 100000, .int .u64 1000000, .int .u64 10000000, .int .u64 100000000, .int .u64 1000000000, .int .u64 10000000000, .int .u64 100000000000, .int .u64 1000000000000, .int .u64 10000000000000, .int .u64 100000000000000, .int .u64 1000000000000000, .int .u64 10000000000000000, .int .u64 100000000000000000, .int .u64 1000000000000000000, .int .u64 10000000000000000000]
  { w0 with heap := h5 }
end Go.Proofs.YtaobnifiengglaaGreatDoor.listed

namespace Go.Proofs.YtaobnifiengglaaGreatDoor
open Go.ChangeShapes Go.WideShapes Go.ChangeAt Go.RowKit Go.WideElems Go.Joins

/-- what cells of a type say: a value with memory around it, and the bulk it has at least -/
def Opens (T : TypeId) {α : Type} (R : World → α → List Value → Prop) (bk : α → Nat) : Prop :=
  ∀ (H : Type) (enc : TypeId × Value → H) (W : World) (fuel : Nat) (cs : List Value) (x : DataW H × List MemPlace), DataW.trod enc Tryz.prog W 0 (fun _ => true) true fuel T cs = some x → ∃ v, R W v cs ∧ bk v ≤ Rows.uptoBulk x.1

theorem opens_string {T : TypeId} (hT : Tryz.prog.underlying T = some .string) : Opens T (fun _ (s : ByteArray) cs => cs = [.string s]) (fun s => s.size + 1) := fun H enc W fuel cs x h => by
  obtain ⟨s, rfl, rfl, _⟩ := DataW.trod_string hT h
  exact ⟨s, rfl, by simp only [Rows.uptoBulk, Array.length_toList]; exact Nat.le_refl _⟩
theorem opens_int {T : TypeId} (hT : Tryz.prog.underlying T = some (.int .i64)) : Opens T (fun _ (n : Int) cs => cs = [.int .i64 n]) (fun _ => 1) := fun H enc W fuel cs x h => by
  obtain ⟨n, rfl, rfl, _⟩ := DataW.trod_int hT h
  exact ⟨n, rfl, by simp [Rows.uptoBulk]⟩
theorem opens_bool {T : TypeId} (hT : Tryz.prog.underlying T = some .bool) : Opens T (fun _ (b : Bool) cs => cs = [.bool b]) (fun _ => 1) := fun H enc W fuel cs x h => by
  obtain ⟨n, rfl, rfl⟩ := DataW.trod_bool hT h
  exact ⟨n, rfl, by simp [Rows.uptoBulk]⟩
theorem bulkAll_le {H : Type} {n : Nat} {D : Nat → DataW H} {bk : Nat → Nat} (h : ∀ i, i < n → bk i ≤ Rows.uptoBulk (D i)) : ((List.range n).map bk).sum ≤ Rows.uptoBulkAll ((List.range n).map D) := by
  suffices ∀ l : List Nat, (∀ i ∈ l, i < n) → (l.map bk).sum ≤ Rows.uptoBulkAll (l.map D) from this _ fun i hi => List.mem_range.1 hi
  intro l
  induction l with
  | nil => intro _; exact Nat.zero_le _
  | cons a l ih =>
    intro hl
    have h1 := h a (hl a (by simp))
    have h2 := ih fun i hi => hl i (by simp [hi])
    simp only [List.map_cons, List.sum_cons, Rows.uptoBulkAll]
    omega
/-- elements of a slice in memory, by whatever an element's cells say -/
def RowOf {α : Type} (R : World → α → List Value → Prop) (sz : Nat) (W : World) (A : Option Addr) (l : List α) : Prop :=
  l ≠ [] → ∃ b o, A = some ⟨b, o, none⟩ ∧ ∀ k (h : k < l.length), ∃ ecs, R W l[k] ecs ∧ ecs.length = sz ∧ ∀ j, j < sz → W.cell? ⟨b, o + k * sz + j, none⟩ = ecs[j]?
theorem sum_mem {α : Type} {bk : α → Nat} : ∀ {l : List α} {a : α}, a ∈ l → bk a ≤ (l.map bk).sum
  | b :: l, a, h => by
    rcases List.mem_cons.1 h with rfl | h
    · simp only [List.map_cons, List.sum_cons]; omega
    · have := sum_mem (bk := bk) h
      simp only [List.map_cons, List.sum_cons]; omega
theorem sum_len {α : Type} {bk : α → Nat} {c : Nat} (h : ∀ a, c ≤ bk a) : ∀ l : List α, l.length * c ≤ (l.map bk).sum
  | [] => by simp
  | a :: l => by
    have := sum_len h l
    have := h a
    simp only [List.map_cons, List.sum_cons, List.length_cons, Nat.succ_mul]; omega
end Go.Proofs.YtaobnifiengglaaGreatDoor

namespace Go.Proofs.YtaobnifiengglaaGreatDoor

/-! ### Texts in quotes -/
def esc : Str → Str
  | [] => []
  | c :: r => if c = 34 ∨ c = 92 then 92 :: c :: esc r else c :: esc r
def quoteL (s : Str) : Str := 34 :: (esc s ++ [34])
/-- what stands behind a first quote: the text up to the next one, and the rest -/
def unq (s : Str) : Option (Str × Str) :=
  match s with
  | [] => none
  | c :: r => if c = 34 then some ([], r) else if c = 92 then
      (match r with
      | [] => none
      | d :: q => if d = 34 ∨ d = 92 then (unq q).map fun x => (d :: x.1, x.2) else none)
    else (unq r).map fun x => (c :: x.1, x.2)
termination_by s.length
theorem unq_nil : unq [] = none := by unfold unq; rfl
theorem unq_end (r : Str) : unq (34 :: r) = some ([], r) := by unfold unq; simp
theorem unq_back0 : unq [92] = none := by unfold unq; simp
theorem unq_two {d : UInt8} (h : d = 34 ∨ d = 92) (q : Str) : unq (92 :: d :: q) = (unq q).map fun x => (d :: x.1, x.2) := by
  rw [unq]
  simp only [show ¬ (92 : UInt8) = 34 by decide, if_false, if_true, if_pos h]
theorem unq_bad {d : UInt8} (h : ¬ (d = 34 ∨ d = 92)) (q : Str) : unq (92 :: d :: q) = none := by
  rw [unq]
  simp only [show ¬ (92 : UInt8) = 34 by decide, if_false, if_true, if_neg h]
theorem unq_one {c : UInt8} (h1 : ¬ c = 34) (h2 : ¬ c = 92) (r : Str) : unq (c :: r) = (unq r).map fun x => (c :: x.1, x.2) := by
  rw [unq.eq_def]
  simp only [if_neg h1, if_neg h2]
theorem unq_back : ∀ (n : Nat) (s t z : Str), s.length ≤ n → unq s = some (t, z) → s = esc t ++ 34 :: z := by
  intro n
  induction n with
  | zero =>
    intro s t z hl h
    have : s = [] := List.eq_nil_of_length_eq_zero (by omega)
    subst this
    rw [unq_nil] at h; cases h
  | succ n ih =>
    intro s t z hl h
    match s with
    | [] => rw [unq_nil] at h; cases h
    | c :: r =>
      by_cases h1 : c = 34
      · subst h1
        rw [unq_end] at h
        cases h; rfl
      by_cases h2 : c = 92
      · subst h2
        match r with
        | [] => rw [unq_back0] at h; cases h
        | d :: q =>
          by_cases h3 : d = 34 ∨ d = 92
          · rw [unq_two h3] at h
            cases hu : unq q with
            | none => rw [hu] at h; cases h
            | some x =>
              rw [hu] at h
              cases h
              have := ih q x.1 x.2 (by simp at hl; omega) hu
              rw [esc, if_pos h3]
              simp only [List.cons_append]
              rw [← this]
          · rw [unq_bad h3] at h; cases h
      · rw [unq_one h1 h2] at h
        cases hu : unq r with
        | none => rw [hu] at h; cases h
        | some x =>
          rw [hu] at h
          cases h
          have := ih r x.1 x.2 (by simp at hl; omega) hu
          rw [esc, if_neg (fun e => e.elim h1 h2)]
          simp only [List.cons_append]
          rw [← this]
/-! ### Rules -/
structure Ru where
  kind : Int
  key : Str
  tt : Str
  old : Str
  new : Str
deriving instance DecidableEq for Ru
def useTo (k : Int) : Bool := k == 1 || k == 2 || k == 3
def useOld (k : Int) : Bool := k == 7 || k == 8
def useNew (k : Int) : Bool := k == 4 || k == 5 || k == 7 || k == 8
/-- a rule that its text shows whole -/
structure Shape (r : Ru) : Prop where
  lo : 1 ≤ r.kind
  hi : r.kind ≤ 8
  key : r.key ≠ []
  key32 : (32 : UInt8) ∉ r.key
  to1 : useTo r.kind = true → r.tt ≠ [] ∧ (32 : UInt8) ∉ r.tt
  to0 : useTo r.kind = false → r.tt = []
  old0 : useOld r.kind = false → r.old = []
  new0 : useNew r.kind = false → r.new = []
end Go.Proofs.YtaobnifiengglaaGreatDoor

namespace Go.Proofs.YtaobnifiengglaaGreatDoor

/-! ### What a right rule is -/
/-- the parts of a right rule -/
structure RightR (r : Ru) : Prop where
  lo : 1 ≤ r.kind
  hi : r.kind ≤ 8
  key : pathL r.key = true
  to1 : useTo r.kind = true → pathL r.tt = true
  to0 : useTo r.kind = false → r.tt = []
  old0 : useOld r.kind = false → r.old = []
  new0 : useNew r.kind = false → r.new = []
/-! ### The reference's error -/
/-! ### Inverses -/
/-! ### The program's reading, back -/
/-! ### The reference's reading -/
end Go.Proofs.YtaobnifiengglaaGreatDoor

namespace Go.Proofs.YtaobnifiengglaaGreatDoor

theorem esc_len (l : Str) : (esc l).length = l.length + (l.count 34 + l.count 92) := by
  induction l with
  | nil => rfl
  | cons c r ih =>
    rw [esc]
    by_cases h1 : c = 34
    · subst h1; simp [ih]; omega
    · by_cases h2 : c = 92
      · subst h2; simp [ih]; omega
      · rw [if_neg (fun e => e.elim h1 h2), List.length_cons, ih, List.length_cons, List.count_cons_of_ne h1, List.count_cons_of_ne h2]; omega
end Go.Proofs.YtaobnifiengglaaGreatDoor

namespace Go.Proofs.YtaobnifiengglaaGreatDoor
open Go.RowKit

/-- the bytes as cells -/
def u8s (l : Str) : List Value := l.map fun c => Value.int .u8 c.toNat
@[simp] theorem u8s_length (a : Str) : (u8s a).length = a.length := List.length_map _
end Go.Proofs.YtaobnifiengglaaGreatDoor

namespace Go.Proofs.YtaobnifiengglaaGreatDoor
open Go.RowKit

end Go.Proofs.YtaobnifiengglaaGreatDoor

namespace Go.Proofs.YtaobnifiengglaaGreatDoor
open Go.RowKit

/-- bytes at an address, in a block from n on -/
def BytesAt (w : World) (n : Nat) (v : Value) (l : List UInt8) : Prop := ∃ q c cur fz, v = .slice (some ⟨q, 0, none⟩) l.length c ∧ n ≤ q ∧ w.heap[q]? = some (.cells cur 5 fz) ∧ ∀ (j : Nat) x, l[j]? = some x → w.cell? ⟨q, j, none⟩ = some (.int .u8 x.toNat)
theorem heap_lt {w : World} {q : Nat} {o : Obj} (h : w.heap[q]? = some o) : q < w.heap.size := by
  rcases Nat.lt_or_ge q w.heap.size with hlt | hge
  · exact hlt
  · rw [Array.getElem?_eq_none hge] at h; cases h
theorem BytesAt.ext {w w' : World} {n : Nat} {v : Value} {l : List UInt8} (h : BytesAt w n v l) (hx : Ext w w') : BytesAt w' n v l := by
  obtain ⟨q, c, cur, fz, e, hn, h1, h2⟩ := h
  exact ⟨q, c, cur, fz, e, hn, (Below.block hx q (heap_lt h1)).trans h1, fun j x hj => hx.cell (h2 j x hj)⟩
theorem BytesAt.far {w : World} {n : Nat} {v : Value} {l : List UInt8} (h : BytesAt w n v l) {k : Nat} (hk : k < n) (o : Nat) (u : Value) : BytesAt (w.setCell ⟨k, o, none⟩ u) n v l := by
  obtain ⟨q, c, cur, fz, e, hn, h1, h2⟩ := h
  exact ⟨q, c, cur, fz, e, hn, (Below.heap_setCell w ⟨k, o, none⟩ u q (show q ≠ k by omega)).trans h1, fun j x hj => (World.cell?_setCell_other _ _ _ _ (fun e => by injection e with e _; omega)).trans (h2 j x hj)⟩
theorem BytesAt.mono {w : World} {n m : Nat} {v : Value} {l : List UInt8} (h : BytesAt w n v l) (hm : m ≤ n) : BytesAt w m v l := by
  obtain ⟨q, c, cur, fz, e, hn, h1, h2⟩ := h
  exact ⟨q, c, cur, fz, e, Nat.le_trans hm hn, h1, h2⟩
/-- the replacer that quotes: a table of 256 rows, and the two bytes that it replaces; in blocks from n on -/
structure BSR (w : World) (n p : Nat) : Prop where
  ex : ∃ cs : Array Value, n ≤ p ∧ Blk w p 348 cs ∧ (∀ i : Nat, i < 256 → ¬ i = 34 → ¬ i = 92 → cs[i]? = some (.slice none 0 0)) ∧
    (∃ v, cs[34]? = some v ∧ BytesAt w n v [92, 34]) ∧ (∃ v, cs[92]? = some v ∧ BytesAt w n v [92, 92]) ∧
    ∃ q c, cs[256]? = some (.slice (some ⟨q, 0, none⟩) 2 c) ∧ n ≤ q ∧ w.cell? ⟨q, 0, none⟩ = some (.string ⟨#[34]⟩) ∧ w.cell? ⟨q, 1, none⟩ = some (.string ⟨#[92]⟩)
theorem BSR.ext {w w' : World} {n p : Nat} (h : BSR w n p) (hx : Ext w w') : BSR w' n p := by
  obtain ⟨cs, hn, h1, h2, ⟨v, h3, h4⟩, ⟨u, h5, h6⟩, q, c, h7, hq, h8, h9⟩ := h.ex
  exact ⟨cs, hn, h1.ext hx, h2, ⟨v, h3, h4.ext hx⟩, ⟨u, h5, h6.ext hx⟩, q, c, h7, hq, hx.cell h8, hx.cell h9⟩
theorem BSR.far {w : World} {n p : Nat} (h : BSR w n p) {k : Nat} (hk : k < n) (o : Nat) (u : Value) : BSR (w.setCell ⟨k, o, none⟩ u) n p := by
  obtain ⟨cs, hn, h1, h2, ⟨v, h3, h4⟩, ⟨u', h5, h6⟩, q, c, h7, hq, h8, h9⟩ := h.ex
  exact ⟨cs, hn, h1.far (show p ≠ k by omega) u, h2, ⟨v, h3, h4.far hk o u⟩, ⟨u', h5, h6.far hk o u⟩, q, c, h7, hq, (World.cell?_setCell_other _ _ _ _ (fun e => by injection e with e _; omega)).trans h8, (World.cell?_setCell_other _ _ _ _ (fun e => by injection e with e _; omega)).trans h9⟩
end Go.Proofs.YtaobnifiengglaaGreatDoor

namespace Go.Proofs.YtaobnifiengglaaGreatDoor
open Go.RowKit

/-- the four texts: what is replaced, and by what -/
structure OldNew (w : World) (q : Nat) : Prop where
  lt : q < w.heap.size
  s0 : w.cell? ⟨q, 0, none⟩ = some (.string ⟨#[92]⟩)
  s1 : w.cell? ⟨q, 1, none⟩ = some (.string ⟨#[92, 92]⟩)
  s2 : w.cell? ⟨q, 2, none⟩ = some (.string ⟨#[34]⟩)
  s3 : w.cell? ⟨q, 3, none⟩ = some (.string ⟨#[92, 34]⟩)
theorem OldNew.ext {w w' : World} {q : Nat} (h : OldNew w q) (hx : Ext w w') : OldNew w' q := ⟨Nat.lt_of_lt_of_le h.lt hx.size, hx.cell h.s0, hx.cell h.s1, hx.cell h.s2, hx.cell h.s3⟩
section
variable {w wr w' : World} {B k p : Nat} {v : Value} {xs : List Value} {cs : Array Value}
end
end Go.Proofs.YtaobnifiengglaaGreatDoor

namespace Go.Proofs.YtaobnifiengglaaGreatDoor
open Go.RowKit

end Go.Proofs.YtaobnifiengglaaGreatDoor

namespace Go.Proofs.YtaobnifiengglaaGreatDoor
open Go.RowKit

theorem BSR.mono {w : World} {n m p : Nat} (h : BSR w n p) (hm : m ≤ n) : BSR w m p := by
  obtain ⟨cs, hn, h1, h2, ⟨v, h3, h4⟩, ⟨u, h5, h6⟩, q, c, h7, hq, h8, h9⟩ := h.ex
  exact ⟨cs, Nat.le_trans hm hn, h1, h2, ⟨v, h3, h4.mono hm⟩, ⟨u, h5, h6.mono hm⟩, q, c, h7, Nat.le_trans hm hq, h8, h9⟩
end Go.Proofs.YtaobnifiengglaaGreatDoor

namespace Go.Proofs.YtaobnifiengglaaGreatDoor
open Go.RowKit

/-! ### Reading on, byte by byte -/
theorem drop_cons (s : ByteArray) (k : Nat) (h : k < s.size) : (bs s).drop k = s[k] :: (bs s).drop (k + 1) := by
  rw [List.drop_eq_getElem_cons (by rw [bs_length]; exact h)]; rfl
section
variable {s : ByteArray} {R : Option (Str × Str)} {k : Nat} {done : Str}
end
/-- outref2.quotedAt -/
def qatR (n : Nat) : Option (Str × Str) → Str × Nat × Bool
  | none => ([], 0, false)
  | some (t, z) => (t, n - z.length, true)
def qat (l : Str) (i : Nat) : Str × Nat × Bool := qatR l.length (unq (l.drop (i + 1)))
end Go.Proofs.YtaobnifiengglaaGreatDoor

namespace Go.Proofs.YtaobnifiengglaaGreatDoor
open Go.RowKit

def blankB (c : UInt8) : Bool := c == 32 || c == 9
end Go.Proofs.YtaobnifiengglaaGreatDoor

namespace Go.Proofs.YtaobnifiengglaaGreatDoor
open Go.RowKit

/-! ### A world of which one block alone was written -/
structure ExtX (g : Nat) (w w' : World) : Prop where
  os : w'.os = w.os
  tape : w'.tape = w.tape
  output : w'.output = w.output
  size : w.heap.size ≤ w'.heap.size
  block : ∀ k, k < w.heap.size → k ≠ g → w'.heap[k]? = w.heap[k]?
namespace ExtX
variable {g : Nat} {a b c w w' : World}
theorem refl (g : Nat) (w : World) : ExtX g w w := ⟨rfl, rfl, rfl, Nat.le_refl _, fun _ _ _ => rfl⟩
theorem ofExt (h : Ext a b) : ExtX g a b := ⟨h.os, h.tape, h.output, h.size, fun k hk _ => h.block k hk⟩
theorem trans (h : ExtX g a b) (k : ExtX g b c) : ExtX g a c :=
  ⟨k.os.trans h.os, k.tape.trans h.tape, k.output.trans h.output, Nat.le_trans h.size k.size, fun i hi hg => (k.block i (Nat.lt_of_lt_of_le hi h.size) hg).trans (h.block i hi hg)⟩
theorem alloc (h : ExtX g a w) (o : Obj) : ExtX g a (w.alloc o) := h.trans (ofExt ((Ext.refl w).alloc o))
theorem drew (h : ExtX g a w) : ExtX g a w.drew := h.trans (ofExt ((Ext.refl w).drew))
theorem ext (h : Ext a w) (k : ExtX g w w') (hg : a.heap.size ≤ g) : Ext a w' :=
  ⟨k.os.trans h.os, k.tape.trans h.tape, k.output.trans h.output, Nat.le_trans h.size k.size, fun i hi => (k.block i (Nat.lt_of_lt_of_le hi h.size) (by omega)).trans (h.block i hi)⟩
theorem cell (h : ExtX g a b) {k o : Nat} {v : Value} (hk : k ≠ g) (hc : a.cell? ⟨k, o, none⟩ = some v) : b.cell? ⟨k, o, none⟩ = some v := by
  have hl := lt_of_cell hc
  unfold World.cell? at hc ⊢
  rw [h.block k hl hk]
  exact hc
end ExtX
/-! ### The reader -/
/-- the reader: where it is, the next token (kind, place, text), the place of the error -/
structure St where
  p : Nat
  k : Int
  a : Nat
  t : ByteArray
  wr : Int
end Go.Proofs.YtaobnifiengglaaGreatDoor
