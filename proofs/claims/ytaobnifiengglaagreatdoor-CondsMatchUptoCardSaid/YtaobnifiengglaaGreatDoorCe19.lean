/- The law outlaw2.RangesPrint: its walk. What the rows of this seat share that list the library's tables and errors: their variables at the start, and a world for the witness. Arguments opened: what a reading of cells at a type says of memory, and of the reading's bulk. One law a kind of type: numbers, texts, structs of one field, slices. Plain law: rules, their errors, their texts, and what reads them; the reference's reading is the program's. Plain law: the reference's errors, inverses and readings of rules are the program's. Plain law: a text in quotes, by two replacements of one byte each; its length; what a loop over it has written. Bytes as cells; texts compared. strings.NewReplacer(..).Replace at quotes: the parts of sync.Once's slow road; NewReplacer. -/
import Derived.Test.YtaobnifiengglaaGreatDoorCe18
import Derived.Test.YtaobnifiengglaaGreatDoorCe16
import Derived.Test.YtaobnifiengglaaGreatDoorCe10
import Derived.Test.YtaobnifiengglaaGreatDoorCe11
import Derived.Deep.Slices
import Derived.Test.YtaobnifiengglaaGreatDoorCe02
import Derived.Lib.Replace
import Derived.Lib.SplitLaws
import Derived.Test.YtaobnifiengglaaGreatDoorCe01
import Derived.Laws.AppendOwn
import Derived.Laws.OwnMore
import Derived.Laws.LoneSync
import Derived.Laws.Pointers
import Derived.Defers
import Derived.RegionCalls
import Derived.RegionTactic
import Derived.Tactics
import Derived.Tactics2
import Derived.OwnWalk

namespace Go.Proofs.YtaobnifiengglaaGreatDoor
open Go.RowKit

theorem spans_len (q : List (Sp × Int)) : (spansOf q).1.length ≤ 10 := by
  unfold spansOf
  split
  · exact Nat.zero_le _
  · split
    · exact Nat.zero_le _
    · rename_i h
      exact (rng_ok (Classical.not_not.1 h)).1
theorem parse_len (s : Str) : (parseR s).1.length ≤ 10 := by
  unfold parseR
  split
  · exact Nat.zero_le _
  · split
    · exact Nat.zero_le _
    · split
      · exact Nat.zero_le _
      · exact spans_len _
end Go.Proofs.YtaobnifiengglaaGreatDoor

namespace Go.Proofs.YtaobnifiengglaaGreatDoor.listed
open Go.ChangeShapes Go.WideShapes Go.ChangeAt Go.RowKit Go.WideElems Go.Joins

theorem star : "*" ++ "errors.errorString" = "*errors.errorString" := by decide
theorem rowErr (u : TypeId) (h : Tryz.prog.typeName? 3 u = some "*errors.errorString") : u = 357 :=
  typeName_ptr_named (nm := "errors.errorString") (by rw [star]; kernel_rfl) (by kernel_rfl) (by decide) u (by rw [star]; exact h)

/-- what the row's list and the world's shape give -/
theorem good {W : World} (hL : laidMetH Tryz.prog Rows.versionsMatchUptoRow.laid W) (hS : W.ShapedOpen Tryz.prog) : GoodN W := by
  have hL' : laidMet Tryz.prog Rows.versionsMatchUptoRow.laid W := hL
  have h1 : laidMet Tryz.prog [("internal/strconv.uint64pow10", Rows.laid_internal_strconv_uint64pow10)] W := hL'.filter (fun x => x.1 == "internal/strconv.uint64pow10")
  have h2 : laidMet Tryz.prog [("strconv.ErrSyntax", Rows.laid_strconv_ErrSyntax)] W := hL'.filter (fun x => x.1 == "strconv.ErrSyntax")
  have h3 : laidMet Tryz.prog [("strconv.ErrRange", Rows.laid_strconv_ErrRange)] W := hL'.filter (fun x => x.1 == "strconv.ErrRange")
  refine ⟨⟨Tryz.laysM146.s1_3 W hS⟩, ?_, ?_, ?_⟩
  · exact Lib.tabIs_of_head (rest := []) (g := 3) (by kernel_rfl) (by kernel_rfl) Tryz.underlying354 Tryz.underlying305 (by kernel_rfl) (by kernel_rfl) h1
  · obtain ⟨a, s, hv, _⟩ := laid_sentinel (g := 1) h2 (by kernel_rfl) (by kernel_rfl) Tryz.underlying138 rowErr Tryz.underlying357 Tryz.underlying359 rfl rfl Tryz.underlying9 (by kernel_rfl) (by kernel_rfl)
    exact ⟨_, _, hv⟩
  · obtain ⟨a, s, hv, _⟩ := laid_sentinel (g := 2) h3 (by kernel_rfl) (by kernel_rfl) Tryz.underlying138 rowErr Tryz.underlying357 Tryz.underlying359 rfl rfl Tryz.underlying9 (by kernel_rfl) (by kernel_rfl)
    exact ⟨_, _, hv⟩

/-- A WORLD FOR THE WITNESS: the settled one, two blocks more (the two errors' structs), the listed variables holding what their initialisers lay. -/
noncomputable def laidWorld (os : Os) : World :=
  let N := (World.settled Tryz.prog os).heap.size
  let w0 := World.holding Tryz.prog os ⟨#[.cells #[.string ⟨#[118, 97, 108, 117, 101, 32, 111, 117, 116, 32, 111, 102, 32, 114, 97, 110, 103, 101]⟩] 359, .cells #[.string ⟨#[105, 110, 118, 97, 108, 105, 100, 32, 115, 121, 110, 116, 97, 120]⟩] 359], #[], []⟩
  let put (h : Array Obj) (g : Nat) (cs : Array Value) : Array Obj := h.modify g fun
    | .cells _ t frozen => .cells cs t frozen
    | o => o
  let h0 := put (put w0.heap 2 #[.iface 357 (.pointer (some ⟨N, 0, none⟩))]) 1 #[.iface 357 (.pointer (some ⟨N + 1, 0, none⟩))]
  let h1 := put h0 4 (Go.Pinned.utf8FirstZ.map fun z : Nat => Value.int .u8 (z : Int)).toArray
  let h2 := put h1 5 #[.int .u8 128, .int .u8 191, .int .u8 160, .int .u8 191, .int .u8 128, .int .u8 159, .int .u8 144, .int .u8 191, .int .u8 128, .int .u8 143, .int .u8 0, .int .u8 0, .int .u8 0, .int .u8 0, .int .u8 0, .int .u8 0, .int .u8 0, .int .u8 0, .int .u8 0, .int .u8 0, .int .u8 0, .int .u8 0, .int .u8 0, .int .u8 0, .int .u8 0, .int .u8 0, .int .u8 0, .int .u8 0, .int .u8 0, .int .u8 0, .int .u8 0, .int .u8 0]
  let h3 := put h2 6 #[.int .u8 0, .int .u8 1, .int .u8 28, .int .u8 2, .int .u8 29, .int .u8 14, .int .u8 24, .int .u8 3, .int .u8 30, .int .u8 22, .int .u8 20, .int .u8 15, .int .u8 25, .int .u8 17, .int .u8 4, .int .u8 8, .int .u8 31, .int .u8 27, .int .u8 13, .int .u8 23, .int .u8 21, .int .u8 19, .int .u8 16, .int .u8 7, .int .u8 26, .int .u8 12, .int .u8 18, .int .u8 6, .int .u8 11, .int .u8 5, .int .u8 10, .int .u8 9]
  let h4 := put h3 7 #[.int .u8 0, .int .u8 1, .int .u8 56, .int .u8 2, .int .u8 57, .int .u8 49, .int .u8 28, .int .u8 3, .int .u8 61, .int .u8 58, .int .u8 42, .int .u8 50, .int .u8 38, .int .u8 29, .int .u8 17, .int .u8 4, .int .u8 62, .int .u8 47, .int .u8 59, .int .u8 36, .int .u8 45, .int .u8 43, .int .u8 51, .int .u8 22, .int .u8 53, .int .u8 39, .int .u8 33, .int .u8 30, .int .u8 24, .int .u8 18, .int .u8 12, .int .u8 5, .int .u8 63, .int .u8 55, .int .u8 48, .int .u8 27, .int .u8 60, .int .u8 41, .int .u8 37, .int .u8 16, .int .u8 46, .int .u8 35, .int .u8 44, .int .u8 21, .int .u8 52, .int .u8 32, .int .u8 23, .int .u8 11, .int .u8 54, .int .u8 26, .int .u8 40, .int .u8 15, .int .u8 34, .int .u8 20, .int .u8 31, .int .u8 10, .int .u8 25, .int .u8 14, .int .u8 19, .int .u8 9, .int .u8 13, .int .u8 8, .int .u8 7, .int .u8 6]
  let h5 := put h4 3 #[.int .u64 1, .int .u64 10, .int .u64 100, .int .u64 1000, .int .u64 10000, .int .u64 100000, .int .u64 1000000, .int .u64 10000000, .int .u64 100000000, .int .u64 1000000000, .int .u64 10000000000, .int .u64 100000000000, .int .u64 1000000000000, .int .u64 10000000000000, .int .u64 100000000000000, .int .u64 1000000000000000, .int .u64 10000000000000000, .int .u64 100000000000000000, .int .u64 1000000000000000000, .int .u64 10000000000000000000]
  { w0 with heap := h5 }
end Go.Proofs.YtaobnifiengglaaGreatDoor.listed

namespace Go.Proofs.YtaobnifiengglaaGreatDoor
open Go.ChangeShapes Go.WideShapes Go.ChangeAt Go.RowKit Go.WideElems Go.Joins

/-- what cells of a type say: a value with memory around it, and the bulk it has at least -/
def Opens (T : TypeId) {α : Type} (R : World → α → List Value → Prop) (bk : α → Nat) : Prop :=
  ∀ (H : Type) (enc : TypeId × Value → H) (W : World) (fuel : Nat) (cs : List Value) (x : DataW H × List MemPlace), DataW.trod enc Tryz.prog W 0 (fun _ => true) true fuel T cs = some x → ∃ v, R W v cs ∧ bk v ≤ Rows.uptoBulk x.1

theorem opens_string {T : TypeId} (hT : Tryz.prog.underlying T = some .string) : Opens T (fun _ (s : ByteArray) cs => cs = [.string s]) (fun s => s.size + 1) := fun H enc W fuel cs x h => by
  obtain ⟨s, rfl, rfl, _⟩ := DataW.trod_string hT h
  exact ⟨s, rfl, by simp only [Rows.uptoBulk, Array.length_toList]; exact Nat.le_refl _⟩
theorem opens_int {T : TypeId} (hT : Tryz.prog.underlying T = some (.int .i64)) : Opens T (fun _ (n : Int) cs => cs = [.int .i64 n]) (fun _ => 1) := fun H enc W fuel cs x h => by
  obtain ⟨n, rfl, rfl, _⟩ := DataW.trod_int hT h
  exact ⟨n, rfl, by simp [Rows.uptoBulk]⟩
theorem bulkAll_le {H : Type} {n : Nat} {D : Nat → DataW H} {bk : Nat → Nat} (h : ∀ i, i < n → bk i ≤ Rows.uptoBulk (D i)) : ((List.range n).map bk).sum ≤ Rows.uptoBulkAll ((List.range n).map D) := by
  suffices ∀ l : List Nat, (∀ i ∈ l, i < n) → (l.map bk).sum ≤ Rows.uptoBulkAll (l.map D) from this _ fun i hi => List.mem_range.1 hi
  intro l
  induction l with
  | nil => intro _; exact Nat.zero_le _
  | cons a l ih =>
    intro hl
    have h1 := h a (hl a (by simp))
    have h2 := ih fun i hi => hl i (by simp [hi])
    simp only [List.map_cons, List.sum_cons, Rows.uptoBulkAll]
    omega
/-- elements of a slice in memory, by whatever an element's cells say -/
def RowOf {α : Type} (R : World → α → List Value → Prop) (sz : Nat) (W : World) (A : Option Addr) (l : List α) : Prop :=
  l ≠ [] → ∃ b o, A = some ⟨b, o, none⟩ ∧ ∀ k (h : k < l.length), ∃ ecs, R W l[k] ecs ∧ ecs.length = sz ∧ ∀ j, j < sz → W.cell? ⟨b, o + k * sz + j, none⟩ = ecs[j]?
theorem opens_slice {T E : TypeId} {α : Type} [Inhabited α] {R : World → α → List Value → Prop} {bk : α → Nat} {sz : Nat} (hT : Tryz.prog.underlying T = some (.slice E)) (hsz : Tryz.prog.cellsOf E = sz) (h0 : 0 < sz) (hE : Opens E R bk) :
    Opens T (fun W (l : List α) cs => ∃ A c, cs = [.slice A l.length c] ∧ RowOf R sz W A l) (fun l => (l.map bk).sum + 1) := fun H enc W fuel cs x h => by
  rcases Deep.open_slice hT h with ⟨rfl, rfl⟩ | ⟨a, len, cap, m, n, D, Pl, rfl, _, hl, _, hm, rfl, hx⟩
  · exact ⟨[], ⟨none, 0, rfl, fun h => absurd rfl h⟩, by simp [Rows.uptoBulk]⟩
  · have hlm : len ≤ m := by rw [hm]; split <;> omega
    have each : ∀ i, i < len → ∃ v : α, bk v ≤ Rows.uptoBulk (D i) ∧ ∃ ecs, R W v ecs ∧ W.cells? 0 (a.add (i * sz)) sz = some ecs := fun i hi => by
      obtain ⟨cs', h1, h2⟩ := hx i (by omega)
      obtain ⟨v, h3, h4⟩ := hE H enc W n cs' _ h2
      rw [hsz] at h1
      exact ⟨v, h4, cs', h3, h1⟩
    obtain ⟨F, hF⟩ := Deep.choose_lt each
    refine ⟨(List.range len).map F, ⟨some a, cap, by simp, ?_⟩, ?_⟩
    · intro hne
      have hpos : 0 < len := by
        rcases Nat.eq_zero_or_pos len with h | h
        · subst h; exact absurd rfl hne
        · exact h
      obtain ⟨_, ecs0, _, hc0⟩ := hF 0 hpos
      obtain ⟨_, hl0, hcell0⟩ := World.cells?_some hc0
      obtain ⟨b, off, spot⟩ := a
      have g0 := hcell0 0 h0
      have hsome : ∃ v, ecs0[0]? = some v := ⟨ecs0[0], List.getElem?_eq_getElem (by omega)⟩
      obtain ⟨v0, hv0⟩ := hsome
      rw [hv0] at g0
      have hspot : spot = none := by
        have := World.cell?_spot g0
        simpa [Addr.add] using this
      subst hspot
      refine ⟨b, off, rfl, fun k hk => ?_⟩
      have hk' : k < len := by simpa using hk
      obtain ⟨_, ecs, hR, hc⟩ := hF k hk'
      obtain ⟨_, hl1, hcell⟩ := World.cells?_some hc
      refine ⟨ecs, by simpa using hR, hl1, fun j hj => ?_⟩
      have := hcell j hj
      rwa [Deep.add_add, add_plain, ← Nat.add_assoc] at this
    · have := bulkAll_le (H := H) (n := len) (D := D) (bk := fun i => bk (F i)) fun i hi => (hF i hi).1
      simp only [List.map_map, Rows.uptoBulk]
      have e : (bk ∘ F) = fun i => bk (F i) := rfl
      rw [e]
      omega
theorem sum_mem {α : Type} {bk : α → Nat} : ∀ {l : List α} {a : α}, a ∈ l → bk a ≤ (l.map bk).sum
  | b :: l, a, h => by
    rcases List.mem_cons.1 h with rfl | h
    · simp only [List.map_cons, List.sum_cons]; omega
    · have := sum_mem (bk := bk) h
      simp only [List.map_cons, List.sum_cons]; omega
theorem sum_len {α : Type} {bk : α → Nat} {c : Nat} (h : ∀ a, c ≤ bk a) : ∀ l : List α, l.length * c ≤ (l.map bk).sum
  | [] => by simp
  | a :: l => by
    have := sum_len h l
    have := h a
    simp only [List.map_cons, List.sum_cons, List.length_cons, Nat.succ_mul]; omega
end Go.Proofs.YtaobnifiengglaaGreatDoor

namespace Go.Proofs.YtaobnifiengglaaGreatDoor

/-! ### Texts in quotes -/
def esc : Str → Str
  | [] => []
  | c :: r => if c = 34 ∨ c = 92 then 92 :: c :: esc r else c :: esc r
def quoteL (s : Str) : Str := 34 :: (esc s ++ [34])
/-- what stands behind a first quote: the text up to the next one, and the rest -/
def unq (s : Str) : Option (Str × Str) :=
  match s with
  | [] => none
  | c :: r => if c = 34 then some ([], r) else if c = 92 then
      (match r with
      | [] => none
      | d :: q => if d = 34 ∨ d = 92 then (unq q).map fun x => (d :: x.1, x.2) else none)
    else (unq r).map fun x => (c :: x.1, x.2)
termination_by s.length
theorem unq_nil : unq [] = none := by unfold unq; rfl
theorem unq_end (r : Str) : unq (34 :: r) = some ([], r) := by unfold unq; simp
theorem unq_back0 : unq [92] = none := by unfold unq; simp
theorem unq_two {d : UInt8} (h : d = 34 ∨ d = 92) (q : Str) : unq (92 :: d :: q) = (unq q).map fun x => (d :: x.1, x.2) := by
  rw [unq]
  simp only [show ¬ (92 : UInt8) = 34 by decide, if_false, if_true, if_pos h]
theorem unq_bad {d : UInt8} (h : ¬ (d = 34 ∨ d = 92)) (q : Str) : unq (92 :: d :: q) = none := by
  rw [unq]
  simp only [show ¬ (92 : UInt8) = 34 by decide, if_false, if_true, if_neg h]
theorem unq_one {c : UInt8} (h1 : ¬ c = 34) (h2 : ¬ c = 92) (r : Str) : unq (c :: r) = (unq r).map fun x => (c :: x.1, x.2) := by
  rw [unq.eq_def]
  simp only [if_neg h1, if_neg h2]
theorem unq_esc (t z : Str) : unq (esc t ++ 34 :: z) = some (t, z) := by
  induction t with
  | nil => exact unq_end z
  | cons c r ih =>
    unfold esc
    by_cases h : c = 34 ∨ c = 92
    · rw [if_pos h]
      simp only [List.cons_append]
      rw [unq_two h, ih]; rfl
    · rw [if_neg h]
      simp only [List.cons_append]
      rw [unq_one (fun e => h (.inl e)) (fun e => h (.inr e)), ih]; rfl
theorem unq_back : ∀ (n : Nat) (s t z : Str), s.length ≤ n → unq s = some (t, z) → s = esc t ++ 34 :: z := by
  intro n
  induction n with
  | zero =>
    intro s t z hl h
    have : s = [] := List.eq_nil_of_length_eq_zero (by omega)
    subst this
    rw [unq_nil] at h; cases h
  | succ n ih =>
    intro s t z hl h
    match s with
    | [] => rw [unq_nil] at h; cases h
    | c :: r =>
      by_cases h1 : c = 34
      · subst h1
        rw [unq_end] at h
        cases h; rfl
      by_cases h2 : c = 92
      · subst h2
        match r with
        | [] => rw [unq_back0] at h; cases h
        | d :: q =>
          by_cases h3 : d = 34 ∨ d = 92
          · rw [unq_two h3] at h
            cases hu : unq q with
            | none => rw [hu] at h; cases h
            | some x =>
              rw [hu] at h
              cases h
              have := ih q x.1 x.2 (by simp at hl; omega) hu
              rw [esc, if_pos h3]
              simp only [List.cons_append]
              rw [← this]
          · rw [unq_bad h3] at h; cases h
      · rw [unq_one h1 h2] at h
        cases hu : unq r with
        | none => rw [hu] at h; cases h
        | some x =>
          rw [hu] at h
          cases h
          have := ih r x.1 x.2 (by simp at hl; omega) hu
          rw [esc, if_neg (fun e => e.elim h1 h2)]
          simp only [List.cons_append]
          rw [← this]
/-! ### Rules -/
structure Ru where
  kind : Int
  key : Str
  tt : Str
  old : Str
  new : Str
deriving instance DecidableEq for Ru
def useTo (k : Int) : Bool := k == 1 || k == 2 || k == 3
def useOld (k : Int) : Bool := k == 7 || k == 8
def useNew (k : Int) : Bool := k == 4 || k == 5 || k == 7 || k == 8
/-- a rule that its text shows whole -/
structure Shape (r : Ru) : Prop where
  lo : 1 ≤ r.kind
  hi : r.kind ≤ 8
  key : r.key ≠ []
  key32 : (32 : UInt8) ∉ r.key
  to1 : useTo r.kind = true → r.tt ≠ [] ∧ (32 : UInt8) ∉ r.tt
  to0 : useTo r.kind = false → r.tt = []
  old0 : useOld r.kind = false → r.old = []
  new0 : useNew r.kind = false → r.new = []
end Go.Proofs.YtaobnifiengglaaGreatDoor

namespace Go.Proofs.YtaobnifiengglaaGreatDoor

/-! ### What a right rule is -/
theorem splitC_mem (c : UInt8) : ∀ (l : Str) (x : UInt8), x ∈ l → x = c ∨ ∃ p ∈ splitC c l, x ∈ p
  | [], _, h => by cases h
  | y :: r, x, h => by
    by_cases hy : y = c
    · rcases List.mem_cons.1 h with rfl | h
      · exact .inl hy
      · rcases splitC_mem c r x h with h | ⟨p, hp, hx⟩
        · exact .inl h
        · exact .inr ⟨p, by rw [splitC, if_pos hy]; exact List.mem_cons_of_mem _ hp, hx⟩
    · cases hs : splitC c r with
      | nil => exact absurd hs (splitC_ne c r)
      | cons q t =>
        have e : splitC c (y :: r) = (y :: q) :: t := by rw [splitC, if_neg hy, hs]
        rcases List.mem_cons.1 h with rfl | h
        · exact .inr ⟨x :: q, by rw [e]; simp, by simp⟩
        · rcases splitC_mem c r x h with h | ⟨p, hp, hx⟩
          · exact .inl h
          · rw [hs] at hp
            rcases List.mem_cons.1 hp with rfl | hp
            · exact .inr ⟨y :: p, by rw [e]; simp, by simp [hx]⟩
            · exact .inr ⟨p, by rw [e]; simp [hp], hx⟩
/-- the parts of a right rule -/
structure RightR (r : Ru) : Prop where
  lo : 1 ≤ r.kind
  hi : r.kind ≤ 8
  key : pathL r.key = true
  to1 : useTo r.kind = true → pathL r.tt = true
  to0 : useTo r.kind = false → r.tt = []
  old0 : useOld r.kind = false → r.old = []
  new0 : useNew r.kind = false → r.new = []
/-! ### The reference's error -/
/-! ### Inverses -/
/-! ### The program's reading, back -/
/-! ### The reference's reading -/
end Go.Proofs.YtaobnifiengglaaGreatDoor

namespace Go.Proofs.YtaobnifiengglaaGreatDoor

def subst1 (c : UInt8) (new : Str) (l : Str) : Str := l.flatMap fun x => if x = c then new else [x]
theorem subst1_none (c : UInt8) (new : Str) : ∀ l : Str, c ∉ l → subst1 c new l = l
  | [], _ => rfl
  | x :: l, h => by
    have h1 : ¬ x = c := fun e => h (by simp [e])
    have := subst1_none c new l (fun e => h (by simp [e]))
    unfold subst1 at this ⊢
    rw [List.flatMap_cons, if_neg h1, this]; rfl
theorem subst1_app (c : UInt8) (new a r : Str) (h : c ∉ a) : subst1 c new (a ++ c :: r) = a ++ new ++ subst1 c new r := by
  have h1 := subst1_none c new a h
  unfold subst1 at h1 ⊢
  rw [List.flatMap_append, h1, List.flatMap_cons, if_pos rfl, List.append_assoc]
theorem replaceK_one (c : UInt8) (new : Str) : ∀ (n : Nat) (l : Str), l.length ≤ n → Lib.replaceK [c] new (Lib.count l [c]) l = subst1 c new l := by
  intro n
  induction n with
  | zero =>
    intro l hl
    have : l = [] := List.eq_nil_of_length_eq_zero (by omega)
    subst this
    rw [count_one_none c [] (by simp)]
    rfl
  | succ n ih =>
    intro l hl
    rcases first_cut c l with h | ⟨a, r, ha, rfl⟩
    · rw [count_one_none c l h, subst1_none c new l h]
      rfl
    · rw [count_one_app c a r ha, subst1_app c new a r ha, Nat.add_comm 1, Lib.replaceK_hit [c] new _ _ a.length (index_app c a r ha), ← ih r (by simp at hl; omega)]
      congr 1
      · simp
      · rw [← List.drop_drop]; simp
theorem replaceAll_one (c : UInt8) (new l : Str) (h : ¬ [c] = new) : Lib.replaceAll l [c] new = subst1 c new l := by
  unfold Lib.replaceAll Lib.replace Lib.replaceNum
  rw [if_neg (by simpa using h), if_pos (.inl (by decide))]
  exact replaceK_one c new _ l (Nat.le_refl _)
theorem esc_two (l : Str) : subst1 34 [92, 34] (subst1 92 [92, 92] l) = esc l := by
  induction l with
  | nil => rfl
  | cons c r ih =>
    unfold subst1 at ih ⊢
    rw [List.flatMap_cons, List.flatMap_append, ih, esc]
    by_cases h1 : c = 92
    · rw [if_pos h1, if_pos (.inr h1), h1]; rfl
    · rw [if_neg h1]
      by_cases h2 : c = 34
      · rw [if_pos (.inl h2), h2]; rfl
      · rw [if_neg (fun e => e.elim h2 h1), List.flatMap_cons, if_neg h2]; rfl
theorem subst1_len (c : UInt8) (new : Str) (l : Str) (h : new.length ≤ 2) : (subst1 c new l).length ≤ 2 * l.length := by
  induction l with
  | nil => exact Nat.zero_le _
  | cons x l ih =>
    unfold subst1 at ih ⊢
    rw [List.flatMap_cons, List.length_append, List.length_cons]
    by_cases hx : x = c
    · rw [if_pos hx]; omega
    · rw [if_neg hx]; simp only [List.length_cons, List.length_nil]; omega
theorem esc_len (l : Str) : (esc l).length = l.length + (l.count 34 + l.count 92) := by
  induction l with
  | nil => rfl
  | cons c r ih =>
    rw [esc]
    by_cases h1 : c = 34
    · subst h1; simp [ih]; omega
    · by_cases h2 : c = 92
      · subst h2; simp [ih]; omega
      · rw [if_neg (fun e => e.elim h1 h2), List.length_cons, ih, List.length_cons, List.count_cons_of_ne h1, List.count_cons_of_ne h2]; omega
theorem esc_le (l : Str) : (esc l).length ≤ 2 * l.length := by
  induction l with
  | nil => exact Nat.le_refl _
  | cons c r ih =>
    rw [esc]
    split <;> simp <;> omega
theorem esc_append (a b : Str) : esc (a ++ b) = esc a ++ esc b := by
  induction a with
  | nil => rfl
  | cons c r ih =>
    rw [List.cons_append, esc, esc, ih]
    split <;> rfl
theorem esc_same {l : Str} (h1 : l.count 34 = 0) (h2 : l.count 92 = 0) : esc l = l := by
  induction l with
  | nil => rfl
  | cons c r ih =>
    have a : ¬ c = 34 := fun e => by subst e; simp at h1
    have b : ¬ c = 92 := fun e => by subst e; simp at h2
    rw [List.count_cons_of_ne a] at h1
    rw [List.count_cons_of_ne b] at h2
    rw [esc, if_neg (fun e => e.elim a b), ih h1 h2]
theorem quote_len (l : Str) : (quoteL l).length ≤ 2 * l.length + 2 := by
  have := esc_le l
  simp only [quoteL, List.length_cons, List.length_append, List.length_nil]
  omega
end Go.Proofs.YtaobnifiengglaaGreatDoor

namespace Go.Proofs.YtaobnifiengglaaGreatDoor
open Go.RowKit

theorem eqE (x y : ByteArray) : (x.toList == y.toList) = decide (bs x = bs y) := by
  rw [ByteArray.toList_eq, ByteArray.toList_eq]
  by_cases h : bs x = bs y
  · rw [decide_eq_true h, beq_iff_eq]; exact h
  · rw [decide_eq_false h, beq_eq_false_iff_ne]; exact h
theorem take_snocB (s : ByteArray) (k : Nat) (h : k < s.size) : (bs s).take (k + 1) = (bs s).take k ++ [s[k]] := by
  rw [List.take_succ_eq_append_getElem (by rw [bs_length]; exact h)]; rfl
/-- the bytes as cells -/
def u8s (l : Str) : List Value := l.map fun c => Value.int .u8 c.toNat
theorem u8s_append (a b : Str) : u8s (a ++ b) = u8s a ++ u8s b := List.map_append
@[simp] theorem u8s_length (a : Str) : (u8s a).length = a.length := List.length_map _
theorem info_u8 : (Tryz.prog.info? 5).map (fun i => (i.zero, i.size, i.bytes)) = some (some (.int .u8 0), 1, 1) := by kernel_rfl
end Go.Proofs.YtaobnifiengglaaGreatDoor

namespace Go.Proofs.YtaobnifiengglaaGreatDoor
open Go.RowKit

theorem disable_run (w : World) : (callFunc 324 #[]).run Tryz.prog w = .ok (.value (.tuple #[])) w := run_call_mark0 Tryz.func324 (by kernel_rfl) (by kernel_rfl) (by kernel_rfl) .disable (by kernel_rfl) w
theorem enable_run (w : World) : (callFunc 326 #[]).run Tryz.prog w = .ok (.value (.tuple #[])) w := run_call_mark0 Tryz.func326 (by kernel_rfl) (by kernel_rfl) (by kernel_rfl) .enable (by kernel_rfl) w
theorem acquire_run (a : Addr) (w : World) : (callFunc 327 #[.pointer (some a)]).run Tryz.prog w = .ok (.value (.tuple #[])) w := run_call_marked Tryz.func327 (by kernel_rfl) (by kernel_rfl) (by kernel_rfl) .acquire (by kernel_rfl) a w
theorem release_run (a : Addr) (w : World) : (callFunc 329 #[.pointer (some a)]).run Tryz.prog w = .ok (.value (.tuple #[])) w := run_call_marked Tryz.func329 (by kernel_rfl) (by kernel_rfl) (by kernel_rfl) .releaseMerge (by kernel_rfl) a w
/-- '(*sync/atomic.Bool).Store(true)', as a deferred call: the cell holds 1. -/
theorem store_deferred (a : Addr) (x : Value) (u : FrameMode) (w : World) (hc : w.cell? a = some x) (hz : w.frozen? a = false) :
    CallsD Tryz.prog 297 #[.pointer (some a), .bool true] u w fun e u' w' => u' = u ∧ (e = .returned (.tuple #[]) ∧ w' = w.drew.setCell a (.int .u32 1)) := by
  have hc' : w.drew.cell? a = some x := by go_simp
  have hz' : w.drew.frozen? a = false := by go_simp
  have hst := run_call_store (P := Tryz.prog) Tryz.func316 (by kernel_rfl) (by kernel_rfl) (by kernel_rfl) (by kernel_rfl) (k := .u32) (y := 1) hc' hz'
  go_enter_d Tryz.func297, Tryz.ntmps297
  go_wp2
  go_region_calls
  all_goals (go_end0; exact ⟨rfl, rfl⟩)
set_option maxRecDepth 100000 in
/-- '(*sync.Mutex).Unlock', as a deferred call, the lock held and nobody waiting: state 0. -/
theorem unlock_deferred (a : Addr) (u : FrameMode) (w : World) (hc : w.cell? a = some (.int .i32 1)) (hz : w.frozen? a = false) :
    CallsD Tryz.prog 296 #[.pointer (some a)] u w fun e u' w' => u' = u ∧ (e = .returned (.tuple #[]) ∧ w' = w.setCell a (.int .i32 0)) := by
  have hd := disable_run
  have he := enable_run
  have hr := release_run
  have hadd := run_call_add (P := Tryz.prog) Tryz.func330 (by kernel_rfl) (by kernel_rfl) (by kernel_rfl) .i32 (by kernel_rfl) (y := -1) (s := 0) hc hz (by simp [go_sem]; rfl)
  have hcv := run_convert_to_unsafe (P := Tryz.prog) (src := 384) (dst := 321) Tryz.underlying384 Tryz.underlying321 (by kernel_rfl) hc
  go_enter_d Tryz.func296, Tryz.ntmps296
  go_wp2
  go_end0
  go_wp2
  go_end0
  exact ⟨rfl, rfl⟩
set_option maxRecDepth 100000 in
/-- '(*sync.Mutex).Lock', the lock free: state 1. -/
theorem lock_free (a : Addr) (w : World) (hc : w.cell? a = some (.int .i32 0)) (hz : w.frozen? a = false) :
    Calls Tryz.prog 295 #[.pointer (some a)] w fun e w' => e = .returned (.tuple #[]) ∧ w' = w.setCell a (.int .i32 1) := by
  have hd := disable_run
  have he := enable_run
  have ha := acquire_run
  have hcas := run_call_cas_hit (P := Tryz.prog) Tryz.func325 (by kernel_rfl) (by kernel_rfl) (by kernel_rfl) .i32 (by kernel_rfl) (y := 1) hc hz
  have hc' : (w.setCell a (.int .i32 1)).cell? a = some (.int .i32 1) := World.cell?_setCell_same w a _ hc
  have hcv := run_convert_to_unsafe (P := Tryz.prog) (src := 384) (dst := 321) Tryz.underlying384 Tryz.underlying321 (by kernel_rfl) hc'
  go_enter Tryz.func295, Tryz.ntmps295
  go_wp2
  first | go_end0 | (simp only [Exit.inBlock, Exit.then]; refine bodyPost_ret (results_none rfl _ _ _) rfl ?_) | refine bodyPost_ret (results_none rfl _ _ _) rfl ?_
  go_wp2
  go_end0
  exact ⟨rfl, rfl⟩
end Go.Proofs.YtaobnifiengglaaGreatDoor
