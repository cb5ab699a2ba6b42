/- Contract of outref2.ReadRange. What the rows of this seat share that list the library's tables and errors: their variables at the start, and a world for the witness. Arguments opened: what a reading of cells at a type says of memory, and of the reading's bulk. One law a kind of type: numbers, texts, structs of one field, slices. Plain law: rules, their errors, their texts, and what reads them; the reference's reading is the program's. -/
import Derived.Test.YtghhjlcbcojcnaaGreatDoorRn13
import Derived.Test.YtghhjlcbcojcnaaGreatDoorRn09
import Derived.Test.YtghhjlcbcojcnaaGreatDoorRn07
import Derived.Deep.Slices
import Derived.Test.YtghhjlcbcojcnaaGreatDoorRn02

namespace Go.Proofs.YtghhjlcbcojcnaaGreatDoor
open Go.RowKit

end Go.Proofs.YtghhjlcbcojcnaaGreatDoor

namespace Go.Proofs.YtghhjlcbcojcnaaGreatDoor.listed
open Go.ChangeShapes Go.WideShapes Go.ChangeAt Go.RowKit Go.WideElems Go.Joins

theorem star : "*" ++ "errors.errorString" = "*errors.errorString" := by decide
theorem rowErr (u : TypeId) (h : Tryz.prog.typeName? 3 u = some "*errors.errorString") : u = 356 :=
  typeName_ptr_named (nm := "errors.errorString") (by rw [star]; kernel_rfl) (by kernel_rfl) (by decide) u (by rw [star]; exact h)

/-- what the row's list and the world's shape give -/
theorem good {W : World} (hL : laidMetH Tryz.prog Rows.versionsMatchUptoRow.laid W) (hS : W.ShapedOpen Tryz.prog) : GoodN W := by
  have hL' : laidMet Tryz.prog Rows.versionsMatchUptoRow.laid W := hL
  have h1 : laidMet Tryz.prog [("internal/strconv.uint64pow10", Rows.laid_internal_strconv_uint64pow10)] W := hL'.filter (fun x => x.1 == "internal/strconv.uint64pow10")
  have h2 : laidMet Tryz.prog [("strconv.ErrSyntax", Rows.laid_strconv_ErrSyntax)] W := hL'.filter (fun x => x.1 == "strconv.ErrSyntax")
  have h3 : laidMet Tryz.prog [("strconv.ErrRange", Rows.laid_strconv_ErrRange)] W := hL'.filter (fun x => x.1 == "strconv.ErrRange")
  refine ⟨⟨Tryz.laysM146.s1_3 W hS⟩, ?_, ?_, ?_⟩
  · exact Lib.tabIs_of_head (rest := []) (g := 3) (by kernel_rfl) (by kernel_rfl) Tryz.underlying353 Tryz.underlying307 (by kernel_rfl) (by kernel_rfl) h1
  · obtain ⟨a, s, hv, _⟩ := laid_sentinel (g := 1) h2 (by kernel_rfl) (by kernel_rfl) Tryz.underlying137 rowErr Tryz.underlying356 Tryz.underlying358 rfl rfl Tryz.underlying9 (by kernel_rfl) (by kernel_rfl)
    exact ⟨_, _, hv⟩
  · obtain ⟨a, s, hv, _⟩ := laid_sentinel (g := 2) h3 (by kernel_rfl) (by kernel_rfl) Tryz.underlying137 rowErr Tryz.underlying356 Tryz.underlying358 rfl rfl Tryz.underlying9 (by kernel_rfl) (by kernel_rfl)
    exact ⟨_, _, hv⟩

/-- A WORLD FOR THE WITNESS: the settled one, two blocks more (the two errors' structs), the listed variables holding what their initialisers lay. -/
noncomputable def laidWorld (os : Os) : World :=
  let N := (World.settled Tryz.prog os).heap.size
  let w0 := World.holding Tryz.prog os ⟨#[.cells #[.string ⟨#[118, 97, 108, 117, 101, 32, 111, 117, 116, 32, 111, 102, 32, 114, 97, 110, 103, 101]⟩] 358, .cells #[.string ⟨#[105, 110, 118, 97, 108, 105, 100, 32, 115, 121, 110, 116, 97, 120]⟩] 358], #[], []⟩
  let put (h : Array Obj) (g : Nat) (cs : Array Value) : Array Obj := h.modify g fun
    | .cells _ t frozen => .cells cs t frozen
    | o => o
  let h0 := put (put w0.heap 2 #[.iface 356 (.pointer (some ⟨N, 0, none⟩))]) 1 #[.iface 356 (.pointer (some ⟨N + 1, 0, none⟩))]
  let h1 := put h0 4 (Go.Pinned.utf8FirstZ.map fun z : Nat => Value.int .u8 (z : Int)).toArray
  let h2 := put h1 5 #[.int .u8 128, .int .u8 191, .int .u8 160, .int .u8 191, .int .u8 128, .int .u8 159, .int .u8 144, .int .u8 191, .int .u8 128, .int .u8 143, .int .u8 0, .int .u8 0, .int .u8 0, .int .u8 0, .int .u8 0, .int .u8 0, .int .u8 0, .int .u8 0, .int .u8 0, .int .u8 0, .int .u8 0, .int .u8 0, .int .u8 0, .int .u8 0, .int .u8 0, .int .u8 0, .int .u8 0, .int .u8 0, .int .u8 0, .int .u8 0, .int .u8 0, .int .u8 0]
  let h3 := put h2 6 #[.int .u8 0, .int .u8 1, .int .u8 28, .int .u8 2, .int .u8 29, .int .u8 14, .int .u8 24, .int .u8 3, .int .u8 30, .int .u8 22, .int .u8 20, .int .u8 15, .int .u8 25, .int .u8 17, .int .u8 4, .int .u8 8, .int .u8 31, .int .u8 27, .int .u8 13, .int .u8 23, .int .u8 21, .int .u8 19, .int .u8 16, .int .u8 7, .int .u8 26, .int .u8 12, .int .u8 18, .int .u8 6, .int .u8 11, .int .u8 5, .int .u8 10, .int .u8 9]
  let h4 := put h3 7 #[.int .u8 0, .int .u8 1, .int .u8 56, .int .u8 2, .int .u8 57, .int .u8 49, .int .u8 28, .int .u8 3, .int .u8 61, .int .u8 58, .int .u8 42, .int .u8 50, .int .u8 38, .int .u8 29, .int .u8 17, .int .u8 4, .int .u8 62, .int .u8 47, .int .u8 59, .int .u8 36, .int .u8 45, .int .u8 43, .int .u8 51, .int .u8 22, .int .u8 53, .int .u8 39, .int .u8 33, .int .u8 30, .int .u8 24, .int .u8 18, .int .u8 12, .int .u8 5, .int .u8 63, .int .u8 55, .int .u8 48, .int .u8 27, .int .u8 60, .int .u8 41, .int .u8 37, .int .u8 16, .int .u8 46, .int .u8 35, .int .u8 44, .int .u8 21, .int .u8 52, .int .u8 32, .int .u8 23, .int .u8 11, .int .u8 54, .int .u8 26, .int .u8 40, .int .u8 15, .int .u8 34, .int .u8 20, .int .u8 31, .int .u8 10, .int .u8 25, .int .u8 14, .int .u8 19, .int .u8 9, .int .u8 13, .int .u8 8, .int .u8 7, .int .u8 6]
  let h5 := put h4 3 #[.int .u64 1, .int .u64 10, .int .u64 100, .int .u64 1000, .int .u64 10000, .int .u64 100000, .int .u64 1000000, .int .u64 10000000, .int .u64 100000000, .int .u64 1000000000, .int .u64 10000000000, .int .u64 100000000000, .int .u64 1000000000000, .int .u64 10000000000000, .int .u64 100000000000000, .int .u64 1000000000000000, .int .u64 10000000000000000, .int .u64 100000000000000000, .int .u64 1000000000000000000, .int .u64 10000000000000000000]
  { w0 with heap := h5 }
end Go.Proofs.YtghhjlcbcojcnaaGreatDoor.listed

namespace Go.Proofs.YtghhjlcbcojcnaaGreatDoor
open Go.ChangeShapes Go.WideShapes Go.ChangeAt Go.RowKit Go.WideElems Go.Joins

/-- what cells of a type say: a value with memory around it, and the bulk it has at least -/
def Opens (T : TypeId) {α : Type} (R : World → α → List Value → Prop) (bk : α → Nat) : Prop :=
  ∀ (H : Type) (enc : TypeId × Value → H) (W : World) (fuel : Nat) (cs : List Value) (x : DataW H × List MemPlace), DataW.trod enc Tryz.prog W 0 (fun _ => true) true fuel T cs = some x → ∃ v, R W v cs ∧ bk v ≤ Rows.uptoBulk x.1

theorem opens_string {T : TypeId} (hT : Tryz.prog.underlying T = some .string) : Opens T (fun _ (s : ByteArray) cs => cs = [.string s]) (fun s => s.size + 1) := fun H enc W fuel cs x h => by
  obtain ⟨s, rfl, rfl, _⟩ := DataW.trod_string hT h
  exact ⟨s, rfl, by simp only [Rows.uptoBulk, Array.length_toList]; exact Nat.le_refl _⟩
theorem opens_int {T : TypeId} (hT : Tryz.prog.underlying T = some (.int .i64)) : Opens T (fun _ (n : Int) cs => cs = [.int .i64 n]) (fun _ => 1) := fun H enc W fuel cs x h => by
  obtain ⟨n, rfl, rfl, _⟩ := DataW.trod_int hT h
  exact ⟨n, rfl, by simp [Rows.uptoBulk]⟩
theorem bulkAll_le {H : Type} {n : Nat} {D : Nat → DataW H} {bk : Nat → Nat} (h : ∀ i, i < n → bk i ≤ Rows.uptoBulk (D i)) : ((List.range n).map bk).sum ≤ Rows.uptoBulkAll ((List.range n).map D) := by
  suffices ∀ l : List Nat, (∀ i ∈ l, i < n) → (l.map bk).sum ≤ Rows.uptoBulkAll (l.map D) from this _ fun i hi => List.mem_range.1 hi
  intro l
  induction l with
  | nil => intro _; exact Nat.zero_le _
  | cons a l ih =>
    intro hl
    have h1 := h a (hl a (by simp))
    have h2 := ih fun i hi => hl i (by simp [hi])
    simp only [List.map_cons, List.sum_cons, Rows.uptoBulkAll]
    omega
/-- elements of a slice in memory, by whatever an element's cells say -/
def RowOf {α : Type} (R : World → α → List Value → Prop) (sz : Nat) (W : World) (A : Option Addr) (l : List α) : Prop :=
  l ≠ [] → ∃ b o, A = some ⟨b, o, none⟩ ∧ ∀ k (h : k < l.length), ∃ ecs, R W l[k] ecs ∧ ecs.length = sz ∧ ∀ j, j < sz → W.cell? ⟨b, o + k * sz + j, none⟩ = ecs[j]?
theorem opens_slice {T E : TypeId} {α : Type} [Inhabited α] {R : World → α → List Value → Prop} {bk : α → Nat} {sz : Nat} (hT : Tryz.prog.underlying T = some (.slice E)) (hsz : Tryz.prog.cellsOf E = sz) (h0 : 0 < sz) (hE : Opens E R bk) :
    Opens T (fun W (l : List α) cs => ∃ A c, cs = [.slice A l.length c] ∧ RowOf R sz W A l) (fun l => (l.map bk).sum + 1) := fun H enc W fuel cs x h => by
  rcases Deep.open_slice hT h with ⟨rfl, rfl⟩ | ⟨a, len, cap, m, n, D, Pl, rfl, _, hl, _, hm, rfl, hx⟩
  · exact ⟨[], ⟨none, 0, rfl, fun h => absurd rfl h⟩, by simp [Rows.uptoBulk]⟩
  · have hlm : len ≤ m := by rw [hm]; split <;> omega
    have each : ∀ i, i < len → ∃ v : α, bk v ≤ Rows.uptoBulk (D i) ∧ ∃ ecs, R W v ecs ∧ W.cells? 0 (a.add (i * sz)) sz = some ecs := fun i hi => by
      obtain ⟨cs', h1, h2⟩ := hx i (by omega)
      obtain ⟨v, h3, h4⟩ := hE H enc W n cs' _ h2
      rw [hsz] at h1
      exact ⟨v, h4, cs', h3, h1⟩
    obtain ⟨F, hF⟩ := Deep.choose_lt each
    refine ⟨(List.range len).map F, ⟨some a, cap, by simp, ?_⟩, ?_⟩
    · intro hne
      have hpos : 0 < len := by
        rcases Nat.eq_zero_or_pos len with h | h
        · subst h; exact absurd rfl hne
        · exact h
      obtain ⟨_, ecs0, _, hc0⟩ := hF 0 hpos
      obtain ⟨_, hl0, hcell0⟩ := World.cells?_some hc0
      obtain ⟨b, off, spot⟩ := a
      have g0 := hcell0 0 h0
      have hsome : ∃ v, ecs0[0]? = some v := ⟨ecs0[0], List.getElem?_eq_getElem (by omega)⟩
      obtain ⟨v0, hv0⟩ := hsome
      rw [hv0] at g0
      have hspot : spot = none := by
        have := World.cell?_spot g0
        simpa [Addr.add] using this
      subst hspot
      refine ⟨b, off, rfl, fun k hk => ?_⟩
      have hk' : k < len := by simpa using hk
      obtain ⟨_, ecs, hR, hc⟩ := hF k hk'
      obtain ⟨_, hl1, hcell⟩ := World.cells?_some hc
      refine ⟨ecs, by simpa using hR, hl1, fun j hj => ?_⟩
      have := hcell j hj
      rwa [Deep.add_add, add_plain, ← Nat.add_assoc] at this
    · have := bulkAll_le (H := H) (n := len) (D := D) (bk := fun i => bk (F i)) fun i hi => (hF i hi).1
      simp only [List.map_map, Rows.uptoBulk]
      have e : (bk ∘ F) = fun i => bk (F i) := rfl
      rw [e]
      omega
theorem sum_mem {α : Type} {bk : α → Nat} : ∀ {l : List α} {a : α}, a ∈ l → bk a ≤ (l.map bk).sum
  | b :: l, a, h => by
    rcases List.mem_cons.1 h with rfl | h
    · simp only [List.map_cons, List.sum_cons]; omega
    · have := sum_mem (bk := bk) h
      simp only [List.map_cons, List.sum_cons]; omega
theorem sum_len {α : Type} {bk : α → Nat} {c : Nat} (h : ∀ a, c ≤ bk a) : ∀ l : List α, l.length * c ≤ (l.map bk).sum
  | [] => by simp
  | a :: l => by
    have := sum_len h l
    have := h a
    simp only [List.map_cons, List.sum_cons, List.length_cons, Nat.succ_mul]; omega
end Go.Proofs.YtghhjlcbcojcnaaGreatDoor

namespace Go.Proofs.YtghhjlcbcojcnaaGreatDoor

/-! ### Texts in quotes -/
def esc : Str → Str
  | [] => []
  | c :: r => if c = 34 ∨ c = 92 then 92 :: c :: esc r else c :: esc r
def quoteL (s : Str) : Str := 34 :: (esc s ++ [34])
/-- what stands behind a first quote: the text up to the next one, and the rest -/
def unq (s : Str) : Option (Str × Str) :=
  match s with
  | [] => none
  | c :: r => if c = 34 then some ([], r) else if c = 92 then
      (match r with
      | [] => none
      | d :: q => if d = 34 ∨ d = 92 then (unq q).map fun x => (d :: x.1, x.2) else none)
    else (unq r).map fun x => (c :: x.1, x.2)
termination_by s.length
theorem unq_nil : unq [] = none := by unfold unq; rfl
theorem unq_end (r : Str) : unq (34 :: r) = some ([], r) := by unfold unq; simp
theorem unq_back0 : unq [92] = none := by unfold unq; simp
theorem unq_two {d : UInt8} (h : d = 34 ∨ d = 92) (q : Str) : unq (92 :: d :: q) = (unq q).map fun x => (d :: x.1, x.2) := by
  rw [unq]
  simp only [show ¬ (92 : UInt8) = 34 by decide, if_false, if_true, if_pos h]
theorem unq_bad {d : UInt8} (h : ¬ (d = 34 ∨ d = 92)) (q : Str) : unq (92 :: d :: q) = none := by
  rw [unq]
  simp only [show ¬ (92 : UInt8) = 34 by decide, if_false, if_true, if_neg h]
theorem unq_one {c : UInt8} (h1 : ¬ c = 34) (h2 : ¬ c = 92) (r : Str) : unq (c :: r) = (unq r).map fun x => (c :: x.1, x.2) := by
  rw [unq.eq_def]
  simp only [if_neg h1, if_neg h2]
theorem unq_esc (t z : Str) : unq (esc t ++ 34 :: z) = some (t, z) := by
  induction t with
  | nil => exact unq_end z
  | cons c r ih =>
    unfold esc
    by_cases h : c = 34 ∨ c = 92
    · rw [if_pos h]
      simp only [List.cons_append]
      rw [unq_two h, ih]; rfl
    · rw [if_neg h]
      simp only [List.cons_append]
      rw [unq_one (fun e => h (.inl e)) (fun e => h (.inr e)), ih]; rfl
theorem unq_back : ∀ (n : Nat) (s t z : Str), s.length ≤ n → unq s = some (t, z) → s = esc t ++ 34 :: z := by
  intro n
  induction n with
  | zero =>
    intro s t z hl h
    have : s = [] := List.eq_nil_of_length_eq_zero (by omega)
    subst this
    rw [unq_nil] at h; cases h
  | succ n ih =>
    intro s t z hl h
    match s with
    | [] => rw [unq_nil] at h; cases h
    | c :: r =>
      by_cases h1 : c = 34
      · subst h1
        rw [unq_end] at h
        cases h; rfl
      by_cases h2 : c = 92
      · subst h2
        match r with
        | [] => rw [unq_back0] at h; cases h
        | d :: q =>
          by_cases h3 : d = 34 ∨ d = 92
          · rw [unq_two h3] at h
            cases hu : unq q with
            | none => rw [hu] at h; cases h
            | some x =>
              rw [hu] at h
              cases h
              have := ih q x.1 x.2 (by simp at hl; omega) hu
              rw [esc, if_pos h3]
              simp only [List.cons_append]
              rw [← this]
          · rw [unq_bad h3] at h; cases h
      · rw [unq_one h1 h2] at h
        cases hu : unq r with
        | none => rw [hu] at h; cases h
        | some x =>
          rw [hu] at h
          cases h
          have := ih r x.1 x.2 (by simp at hl; omega) hu
          rw [esc, if_neg (fun e => e.elim h1 h2)]
          simp only [List.cons_append]
          rw [← this]
def quotedL : Str → Option (Str × Str)
  | 34 :: r => unq r
  | _ => none
theorem quoted_quote (t z : Str) : quotedL (quoteL t ++ z) = some (t, z) := by
  unfold quoteL quotedL
  simp only [List.cons_append, List.append_assoc, List.nil_append]
  exact unq_esc t z
theorem quoted_back {s t z : Str} (h : quotedL s = some (t, z)) : s = quoteL t ++ z := by
  unfold quotedL at h
  split at h
  · rename_i r
    have := unq_back r.length r t z (Nat.le_refl _) h
    rw [this, quoteL]; simp
  · cases h

/-! ### Rules -/
structure Ru where
  kind : Int
  key : Str
  tt : Str
  old : Str
  new : Str
deriving instance DecidableEq for Ru
def zeroR : Ru := ⟨0, [], [], [], []⟩
def useTo (k : Int) : Bool := k == 1 || k == 2 || k == 3
def useOld (k : Int) : Bool := k == 7 || k == 8
def useNew (k : Int) : Bool := k == 4 || k == 5 || k == 7 || k == 8
def ruWord (k : Int) : Str :=
  if k = 1 then [114, 101, 110, 97, 109, 101] else if k = 2 then [112, 114, 101, 102, 105, 120] else if k = 3 then [99, 111, 112, 121] else if k = 4 then [115, 101, 116]
  else if k = 5 then [100, 101, 102, 97, 117, 108, 116] else if k = 6 then [100, 114, 111, 112] else if k = 7 then [109, 97, 112] else if k = 8 then [115, 119, 97, 112] else []
def belowL (key head : Str) : Bool := (head ++ [47]).isPrefixOf key
def ruErr (r : Ru) : Int :=
  if r.kind < 1 ∨ 8 < r.kind then 1
  else if (!pathL r.key || useTo r.kind && !pathL r.tt) = true then 5
  else if (!useTo r.kind && !r.tt.isEmpty || !useOld r.kind && !r.old.isEmpty || !useNew r.kind && !r.new.isEmpty || !valueL r.old || !valueL r.new) = true then 2
  else if (useTo r.kind && decide (r.key = r.tt)) = true then 11
  else if (decide (r.kind = 2) && (belowL r.key r.tt || belowL r.tt r.key)) = true then 13
  else if (useOld r.kind && decide (r.old = r.new)) = true then 11 else 0
def ruText (r : Ru) : Str :=
  ruWord r.kind ++ 32 :: r.key ++ (if useTo r.kind = true then 32 :: r.tt else []) ++ (if useOld r.kind = true then 32 :: quoteL r.old else []) ++ (if useNew r.kind = true then 32 :: quoteL r.new else [])
/-- the kind that a word names; -1: none -/
def ruKind (w : Str) : Int :=
  if w = [] then 0 else if w = ruWord 1 then 1 else if w = ruWord 2 then 2 else if w = ruWord 3 then 3 else if w = ruWord 4 then 4 else if w = ruWord 5 then 5 else if w = ruWord 6 then 6 else if w = ruWord 7 then 7 else if w = ruWord 8 then 8 else -1
/-- what the program's reading takes, ahead of its check -/
def candP (s : Str) : Option Ru :=
  if (!(cutC 32 s).2.2 || decide (ruKind (cutC 32 s).1 < 1)) = true then none
  else if ((cutC 32 (cutC 32 s).2.1).1.isEmpty || ((cutC 32 (cutC 32 s).2.1).2.2 != (useTo (ruKind (cutC 32 s).1) || useOld (ruKind (cutC 32 s).1) || useNew (ruKind (cutC 32 s).1)))) = true then none
  else if useTo (ruKind (cutC 32 s).1) = true then
    (if ((cutC 32 (cutC 32 s).2.1).2.1.isEmpty || (cutC 32 (cutC 32 s).2.1).2.1.contains 32) = true then none
    else some ⟨ruKind (cutC 32 s).1, (cutC 32 (cutC 32 s).2.1).1, (cutC 32 (cutC 32 s).2.1).2.1, [], []⟩)
  else if useOld (ruKind (cutC 32 s).1) = true then
    (match quotedL (cutC 32 (cutC 32 s).2.1).2.1 with
    | some (o, 32 :: r) => (match quotedL r with
      | some (n, []) => some ⟨ruKind (cutC 32 s).1, (cutC 32 (cutC 32 s).2.1).1, [], o, n⟩
      | _ => none)
    | _ => none)
  else if useNew (ruKind (cutC 32 s).1) = true then
    (match quotedL (cutC 32 (cutC 32 s).2.1).2.1 with
    | some (n, []) => some ⟨ruKind (cutC 32 s).1, (cutC 32 (cutC 32 s).2.1).1, [], [], n⟩
    | _ => none)
  else if (cutC 32 (cutC 32 s).2.1).2.1.isEmpty = true then some ⟨ruKind (cutC 32 s).1, (cutC 32 (cutC 32 s).2.1).1, [], [], []⟩ else none
def parseRu (s : Str) : Ru × Int :=
  if 4000 < s.length then (zeroR, 4) else match candP s with
  | none => (zeroR, 8)
  | some r => if ruErr r ≠ 0 then (zeroR, ruErr r) else (r, 0)
/-- a rule that its text shows whole -/
structure Shape (r : Ru) : Prop where
  lo : 1 ≤ r.kind
  hi : r.kind ≤ 8
  key : r.key ≠ []
  key32 : (32 : UInt8) ∉ r.key
  to1 : useTo r.kind = true → r.tt ≠ [] ∧ (32 : UInt8) ∉ r.tt
  to0 : useTo r.kind = false → r.tt = []
  old0 : useOld r.kind = false → r.old = []
  new0 : useNew r.kind = false → r.new = []
theorem kind_cases {k : Int} (h1 : 1 ≤ k) (h2 : k ≤ 8) : k = 1 ∨ k = 2 ∨ k = 3 ∨ k = 4 ∨ k = 5 ∨ k = 6 ∨ k = 7 ∨ k = 8 := by omega
theorem ruKind_word {k : Int} (h1 : 1 ≤ k) (h2 : k ≤ 8) : ruKind (ruWord k) = k ∧ (32 : UInt8) ∉ ruWord k := by
  rcases kind_cases h1 h2 with rfl | rfl | rfl | rfl | rfl | rfl | rfl | rfl <;> decide
theorem ruKind_back {w : Str} (h : ¬ ruKind w < 1) : 1 ≤ ruKind w ∧ ruKind w ≤ 8 ∧ w = ruWord (ruKind w) := by
  unfold ruKind at h ⊢
  repeat' split
  all_goals first
    | (rename_i e; exact ⟨by decide, by decide, e⟩)
    | (exfalso; revert h; simp_all)
theorem cand_text {r : Ru} (h : Shape r) : candP (ruText r) = some r := by
  obtain ⟨kind, key, tt, old, new⟩ := r
  obtain ⟨h1, h2, h3, h4, h5, h6, h7, h8⟩ := h
  dsimp only at *
  obtain ⟨k1, k2⟩ := ruKind_word h1 h2
  have kk := kind_cases h1 h2
  have hk0 : ¬ kind < 1 := by omega
  unfold ruText candP
  dsimp only
  generalize ruWord kind = wd at *
  have e0 : wd ++ 32 :: key ++ (if useTo kind = true then 32 :: tt else []) ++ (if useOld kind = true then 32 :: quoteL old else []) ++ (if useNew kind = true then 32 :: quoteL new else []) =
      wd ++ 32 :: (key ++ ((if useTo kind = true then 32 :: tt else []) ++ (if useOld kind = true then 32 :: quoteL old else []) ++ (if useNew kind = true then 32 :: quoteL new else []))) := by simp
  rw [e0, cutC_app 32 wd _ k2]
  dsimp only
  rw [k1]
  have hke : key.isEmpty = false := by cases key with | nil => exact absurd rfl h3 | cons _ _ => rfl
  have hkd : decide (kind < 1) = false := decide_eq_false hk0
  rcases kk with rfl | rfl | rfl | rfl | rfl | rfl | rfl | rfl
  case inl | inr.inl | inr.inr.inl =>
    obtain ⟨t1, t2⟩ := h5 rfl
    obtain rfl := h7 rfl
    obtain rfl := h8 rfl
    have ht : tt.isEmpty = false := by cases tt with | nil => exact absurd rfl t1 | cons _ _ => rfl
    have ht2 : tt.contains 32 = false := by simpa using t2
    have e1 : ∀ a b : Str, (if (true = true) then 32 :: tt else a) ++ (if (false = true) then a else b) = 32 :: tt ++ b := fun a b => by simp
    simp only [useTo, useOld, useNew] at *
    simp [cutC_app 32 key tt h4, hke, ht, t2]
  case inr.inr.inr.inl | inr.inr.inr.inr.inl =>
    obtain rfl := h6 rfl
    obtain rfl := h7 rfl
    simp only [useTo, useOld, useNew] at *
    have hq := quoted_quote new []
    rw [List.append_nil] at hq
    simp [cutC_app 32 key (quoteL new) h4, hke, hq]
  case inr.inr.inr.inr.inr.inl =>
    obtain rfl := h6 rfl
    obtain rfl := h7 rfl
    obtain rfl := h8 rfl
    simp only [useTo, useOld, useNew] at *
    simp [cutC_none 32 key h4, hke]
  all_goals
    obtain rfl := h6 rfl
    simp only [useTo, useOld, useNew] at *
    have hq := quoted_quote new []
    rw [List.append_nil] at hq
    have hq2 := quoted_quote old (32 :: quoteL new)
    simp [cutC_app 32 key (quoteL old ++ 32 :: quoteL new) h4, hke, hq2, hq]
end Go.Proofs.YtghhjlcbcojcnaaGreatDoor
