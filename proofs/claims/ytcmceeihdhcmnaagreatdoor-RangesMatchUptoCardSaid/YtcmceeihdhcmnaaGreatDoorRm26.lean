/- Contract of ver.ParseRange. What the rows of this seat share that list the library's tables and errors: their variables at the start, and a world for the witness. -/
import Derived.Test.YtcmceeihdhcmnaaGreatDoorRm25
import Derived.Deep.LoopGhost
import Derived.Test.YtcmceeihdhcmnaaGreatDoorRm17

namespace Go.Proofs.YtcmceeihdhcmnaaGreatDoor
open Go.RowKit

/-! ### strings.Split at any separator -/
theorem splitK_le (sep : Str) : ∀ (k : Nat) (l p : Str), p ∈ Lib.splitK sep 0 k l → p.length ≤ l.length
  | 0, l, p, h => by
    rw [Lib.splitK, List.mem_singleton] at h
    rw [h]; exact Nat.le_refl _
  | k + 1, l, p, h => by
    unfold Lib.splitK at h
    split at h
    · rw [List.mem_singleton] at h
      rw [h]; exact Nat.le_refl _
    · rcases List.mem_cons.1 h with e | e
      · rw [e, List.length_take]; omega
      · have := splitK_le sep k _ p e
        rw [List.length_drop] at this
        omega
theorem split_g (s sep : ByteArray) (w : World) (hg : Good w) (hs : s.size ≤ 2097152) (hsep : 1 ≤ sep.size) :
    Calls Tryz.prog 72 #[.string s, .string sep] w fun e w' => ∃ (b : Nat) (xs : List ByteArray),
      e = .returned (.slice (some ⟨b, 0, none⟩) xs.length xs.length) ∧ Strs w' b xs ∧ xs.map bs = Lib.split (bs s) (bs sep) ∧ 0 < xs.length ∧ xs.length ≤ s.size + 1 ∧ (∀ x ∈ xs, x.size ≤ s.size) ∧ Ext w w' := by
  obtain ⟨m, hm⟩ := hg.maxLen
  refine (Tryz.strings_Split s sep m w (by omega) hm hsep).mono ?_
  rintro e w' ⟨rfl, rfl⟩
  have hlen : (Lib.splitB sep 0 (Lib.countB s sep) s).length = Lib.countB s sep + 1 := Lib.splitB_all sep hsep 0 _ s rfl
  have hle := Lib.countB_le sep hsep s.size s (Nat.le_refl _)
  have hmap : (Lib.splitB sep 0 (Lib.countB s sep) s).map bs = Lib.split (bs s) (bs sep) := Lib.splitB_data sep 0 _ s
  refine ⟨w.heap.size, _, by rw [hlen], ⟨by simp, ?_⟩, hmap, by omega, by omega, fun x hx => ?_, (Ext.refl w).alloc _⟩
  · intro k hk
    rw [World.cell?_alloc_at _ _ _ _ rfl]
    simp [hk]
  · rw [← bs_length, ← bs_length s]
    exact splitK_le (bs sep) _ _ _ (by
      have : bs x ∈ (Lib.splitB sep 0 (Lib.countB s sep) s).map bs := List.mem_map.2 ⟨x, hx, rfl⟩
      rw [hmap] at this
      exact this)

/-! ### Slices of structs, as lists of cells -/
theorem flat_take_succ {α β : Type} (f : α → List β) (l : List α) (k : Nat) (h : k < l.length) : (l.take k).flatMap f ++ f l[k] = (l.take (k + 1)).flatMap f := by
  rw [List.take_succ_eq_append_getElem h, List.flatMap_append]
  simp
theorem flat_get {α β : Type} {f : α → List β} {m : Nat} (hf : ∀ x, (f x).length = m) : ∀ (l : List α) (k j : Nat) (h : k < l.length), j < m → (l.flatMap f)[k * m + j]? = (f l[k])[j]?
  | x :: l, 0, j, _, hj => by
    rw [List.flatMap_cons, Nat.zero_mul, Nat.zero_add, List.getElem?_append_left (by rw [hf]; exact hj)]
    rfl
  | x :: l, k + 1, j, h, hj => by
    rw [List.flatMap_cons, List.getElem?_append_right (by rw [hf, Nat.add_mul]; omega), hf]
    rw [show (k + 1) * m + j - m = k * m + j by rw [Nat.add_mul]; omega]
    exact flat_get hf l k j (by simpa using h) hj
/-- the cells of an item -/
def itC (it : It) : List Value := [.int .u8 it.sign.toNat, S it.first, S it.last]
theorem itC_length (it : It) : (itC it).length = 3 := rfl
/-- the cells of a span -/
def spC (s : Sp) : List Value := [.bool s.hf, .bool s.ht, .int .i64 s.f.a1, .int .i64 s.f.a2, .int .i64 s.f.a3, .string s.f.a, .int .i64 s.t.a1, .int .i64 s.t.a2, .int .i64 s.t.a3, .string s.t.a]
theorem spC_length (s : Sp) : (spC s).length = 10 := rfl
theorem rds_own {w : World} {B n : Nat} {v : Value} {l : List Sp} (h : w.ownsRow B 127 10 v n (l.flatMap spC)) (hn : l.length = n) : ∃ A c, v = .slice A n c ∧ RdS w A l := by
  rcases Nat.eq_zero_or_pos n with h0 | h0
  · subst h0
    have he : l = [] := List.eq_nil_of_length_eq_zero hn
    rcases h.2 with ⟨rfl, _⟩ | ⟨g, cap, cur, rfl, _⟩
    · exact ⟨none, 0, rfl, fun e => absurd he e⟩
    · exact ⟨_, _, rfl, fun e => absurd he e⟩
  · obtain ⟨g, c, rfl, hlt, hB, hc, hcell⟩ := own_form h h0
    refine ⟨_, _, rfl, fun _ => ⟨g, 0, rfl, ?_⟩⟩
    have hx : ∀ k (h : k < l.length) (j : Nat) (u : Value), (spC l[k])[j]? = some u → w.cell? ⟨g, 0 + k * 10 + j, none⟩ = some u := fun k hk j u hu => by
      have hj : j < 10 := by
        rcases Nat.lt_or_ge j 10 with h | h
        · exact h
        · rw [List.getElem?_eq_none (by rw [spC_length]; exact h)] at hu; cases hu
      rw [Nat.zero_add]
      exact hcell _ u (by rw [flat_get spC_length l k j hk hj]; exact hu)
    exact ⟨fun k hk => hx k hk 0 _ rfl, fun k hk => hx k hk 1 _ rfl, fun k hk => hx k hk 2 _ rfl, fun k hk => hx k hk 3 _ rfl, fun k hk => hx k hk 4 _ rfl, fun k hk => hx k hk 5 _ rfl, fun k hk => hx k hk 6 _ rfl,
      fun k hk => hx k hk 7 _ rfl, fun k hk => hx k hk 8 _ rfl, fun k hk => hx k hk 9 _ rfl⟩
theorem info_item : (Tryz.prog.info? 132).map (fun i => (i.zero, i.size, i.bytes)) = some (some (.agg #[.int .u8 0, .string ⟨#[]⟩, .string ⟨#[]⟩]), 3, 40) := by kernel_rfl
theorem info_span : (Tryz.prog.info? 127).map (fun i => (i.zero, i.size, i.bytes)) = some (some (.agg #[.bool false, .bool false, .int .i64 0, .int .i64 0, .int .i64 0, .string ⟨#[]⟩, .int .i64 0, .int .i64 0, .int .i64 0, .string ⟨#[]⟩]), 10, 88) := by kernel_rfl

/-! ### The reading -/
def RangePost (q : List Sp × Int) (w : World) (E : Ending) (w' : World) : Prop :=
  ∃ A c, E = .returned (.tuple #[.agg #[.slice A q.1.length c], .int .i64 q.2]) ∧ RdS w' A q.1 ∧ SmallS q.1 ∧ Ext w w'
theorem range_none {r : Int} {w w' : World} (hx : Ext w w') : RangePost ([], r) w (.returned (.tuple #[.agg #[.slice none 0 0], .int .i64 r])) w' :=
  ⟨none, 0, rfl, (fun h => absurd rfl h), (fun _ h => by cases h), hx⟩
theorem item_len (l : Str) : (itemL l).1.first.length ≤ l.length ∧ (itemL l).1.last.length ≤ l.length := by
  have hc := cutC_size 32 (l.drop 2)
  have ht := Lib.trimPrefix_le (cutC 32 (l.drop 2)).2.1 [60]
  have hd : (l.drop 2).length ≤ l.length := by rw [List.length_drop]; omega
  have hd1 : (l.drop 1).length ≤ l.length := by rw [List.length_drop]; omega
  unfold itemL
  split
  · exact ⟨Nat.zero_le _, Nat.zero_le _⟩
  · split
    · split
      · exact ⟨by dsimp only; omega, by dsimp only; omega⟩
      · exact ⟨hd, Nat.zero_le _⟩
    · split
      · exact ⟨hd1, Nat.zero_le _⟩
      · exact ⟨Nat.le_refl _, Nat.zero_le _⟩
/-- a piece's span -/
def spO (p : ByteArray) : Sp × Int := spanL (itemL (bs p)).1
theorem parse_large {s : Str} (h : 1000 < s.length) : parseR s = ([], 4) := by rw [parseR, if_pos h]
theorem parse_none {s : Str} (h1 : ¬ 1000 < s.length) (h : s = [110, 111, 110, 101]) : parseR s = ([], 0) := by rw [parseR, if_neg h1, if_pos h]
theorem parse_syn {s : Str} {xs : List ByteArray} (h1 : ¬ 1000 < s.length) (h2 : ¬ s = [110, 111, 110, 101]) (hx : xs.map bs = Lib.split s [44, 32]) {k : Nat} (hk : k < xs.length) (hs : synL (bs xs[k]) = true) : parseR s = ([], 8) := by
  rw [parseR, if_neg h1, if_neg h2, if_pos]
  rw [← hx]
  exact List.any_eq_true.2 ⟨bs xs[k], List.mem_map.2 ⟨_, List.getElem_mem hk, rfl⟩, hs⟩
theorem parse_spans {s : Str} {xs : List ByteArray} (h1 : ¬ 1000 < s.length) (h2 : ¬ s = [110, 111, 110, 101]) (hx : xs.map bs = Lib.split s [44, 32]) (hs : ∀ x ∈ xs, synL (bs x) = false) : parseR s = spansOf (xs.map spO) := by
  rw [parseR, if_neg h1, if_neg h2, if_neg, ← hx, List.map_map]
  · rfl
  · rw [← hx]
    intro h
    obtain ⟨p, hp, hq⟩ := List.any_eq_true.1 h
    obtain ⟨x, hxm, rfl⟩ := List.mem_map.1 hp
    rw [hs x hxm] at hq
    cases hq
theorem spans_err {q : List (Sp × Int)} {k : Nat} (hk : k < q.length) (h0 : ∀ x ∈ q.take k, x.2 = 0) (h : ¬ q[k].2 = 0) : spansOf q = ([], q[k].2) := by
  have e : firstI (q.map (·.2)) = q[k].2 := by
    have := firstI_at (l := q.map (·.2)) (k := k) (by simpa using hk) (fun x hx => by
      rw [← List.map_take] at hx
      obtain ⟨y, hy, rfl⟩ := List.mem_map.1 hx
      exact h0 y hy) (by simpa using h)
    simpa using this
  unfold spansOf
  rw [e, if_pos h]
theorem spans_rng {q : List (Sp × Int)} (h0 : ∀ x ∈ q, x.2 = 0) (h : ¬ rngErr (q.map (·.1)) = 0) : spansOf q = ([], rngErr (q.map (·.1))) := by
  have e : firstI (q.map (·.2)) = 0 := firstI_zero fun x hx => by
    obtain ⟨y, hy, rfl⟩ := List.mem_map.1 hx
    exact h0 y hy
  unfold spansOf
  rw [e, if_neg (by decide), if_pos h]
theorem spans_ok {q : List (Sp × Int)} (h0 : ∀ x ∈ q, x.2 = 0) (h : rngErr (q.map (·.1)) = 0) : spansOf q = (q.map (·.1), 0) := by
  have e : firstI (q.map (·.2)) = 0 := firstI_zero fun x hx => by
    obtain ⟨y, hy, rfl⟩ := List.mem_map.1 hx
    exact h0 y hy
  unfold spansOf
  rw [e, if_neg (by decide), if_neg (by simpa using h)]
/-- what the second loop keeps of a piece -/
def Fine (x : Sp × Int) : Prop := x.2 = 0 ∧ x.1.f.a.size ≤ 2097152 ∧ x.1.t.a.size ≤ 2097152
theorem syn_of {p : Str} {it : It} {ok : Bool} (h : itemL p = (it, ok)) : synL p = (!ok || (it.sign != 42 && wrongL it.first) || (it.sign == 98 && wrongL it.last)) := by rw [synL, h]
end Go.Proofs.YtcmceeihdhcmnaaGreatDoor

namespace Go.Proofs.YtcmceeihdhcmnaaGreatDoor.listed
open Go.ChangeShapes Go.WideShapes Go.ChangeAt Go.RowKit Go.WideElems Go.Joins

theorem star : "*" ++ "errors.errorString" = "*errors.errorString" := by decide
theorem rowErr (u : TypeId) (h : Tryz.prog.typeName? 3 u = some "*errors.errorString") : u = 311 :=
  typeName_ptr_named (nm := "errors.errorString") (by rw [star]; kernel_rfl) (by kernel_rfl) (by decide) u (by rw [star]; exact h)

/-- what the row's list and the world's shape give -/
theorem good {W : World} (hL : laidMetH Tryz.prog Rows.versionsMatchUptoRow.laid W) (hS : W.ShapedOpen Tryz.prog) : GoodN W := by
  have hL' : laidMet Tryz.prog Rows.versionsMatchUptoRow.laid W := hL
  have h1 : laidMet Tryz.prog [("internal/strconv.uint64pow10", Rows.laid_internal_strconv_uint64pow10)] W := hL'.filter (fun x => x.1 == "internal/strconv.uint64pow10")
  have h2 : laidMet Tryz.prog [("strconv.ErrSyntax", Rows.laid_strconv_ErrSyntax)] W := hL'.filter (fun x => x.1 == "strconv.ErrSyntax")
  have h3 : laidMet Tryz.prog [("strconv.ErrRange", Rows.laid_strconv_ErrRange)] W := hL'.filter (fun x => x.1 == "strconv.ErrRange")
  refine ⟨⟨Tryz.laysM146.s1_3 W hS⟩, ?_, ?_, ?_⟩
  · exact Lib.tabIs_of_head (rest := []) (g := 3) (by kernel_rfl) (by kernel_rfl) Tryz.underlying308 Tryz.underlying264 (by kernel_rfl) (by kernel_rfl) h1
  · obtain ⟨a, s, hv, _⟩ := laid_sentinel (g := 1) h2 (by kernel_rfl) (by kernel_rfl) Tryz.underlying119 rowErr Tryz.underlying311 Tryz.underlying313 rfl rfl Tryz.underlying9 (by kernel_rfl) (by kernel_rfl)
    exact ⟨_, _, hv⟩
  · obtain ⟨a, s, hv, _⟩ := laid_sentinel (g := 2) h3 (by kernel_rfl) (by kernel_rfl) Tryz.underlying119 rowErr Tryz.underlying311 Tryz.underlying313 rfl rfl Tryz.underlying9 (by kernel_rfl) (by kernel_rfl)
    exact ⟨_, _, hv⟩

/-- A WORLD FOR THE WITNESS: the settled one, two blocks more (the two errors' structs), the listed variables holding what their initialisers lay. -/
noncomputable def laidWorld (os : Os) : World :=
  let N := (World.settled Tryz.prog os).heap.size
  let w0 := World.holding Tryz.prog os ⟨#[.cells #[.string ⟨#[118, 97, 108, 117, 101, 32, 111, 117, 116, 32, 111, 102, 32, 114, 97, 110, 103, 101]⟩] 313, .cells #[.string ⟨#[105, 110, 118, 97, 108, 105, 100, 32, 115, 121, 110, 116, 97, 120]⟩] 313], #[], []⟩
  let put (h : Array Obj) (g : Nat) (cs : Array Value) : Array Obj := h.modify g fun
    | .cells _ t frozen => .cells cs t frozen
    | o => o
  let h0 := put (put w0.heap 2 #[.iface 311 (.pointer (some ⟨N, 0, none⟩))]) 1 #[.iface 311 (.pointer (some ⟨N + 1, 0, none⟩))]
  let h1 := put h0 4 (Go.Pinned.utf8FirstZ.map fun z : Nat => Value.int .u8 (z : Int)).toArray
  let h2 := put h1 5 #[.int .u8 128, .int .u8 191, .int .u8 160, .int .u8 191, .int .u8 128, .int .u8 159, .int .u8 144, .int .u8 191, .int .u8 128, .int .u8 143, .int .u8 0, .int .u8 0, .int .u8 0, .int .u8 0, .int .u8 0, .int .u8 0, .int .u8 0, .int .u8 0, .int .u8 0, .int .u8 0, .int .u8 0, .int .u8 0, .int .u8 0, .int .u8 0, .int .u8 0, .int .u8 0, .int .u8 0, .int .u8 0, .int .u8 0, .int .u8 0, .int .u8 0, .int .u8 0]
  let h3 := put h2 6 #[.int .u8 0, .int .u8 1, .int .u8 28, .int .u8 2, .int .u8 29, .int .u8 14, .int .u8 24, .int .u8 3, .int .u8 30, .int .u8 22, .int .u8 20, .int .u8 15, .int .u8 25, .int .u8 17, .int .u8 4, .int .u8 8, .int .u8 31, .int .u8 27, .int .u8 13, .int .u8 23, .int .u8 21, .int .u8 19, .int .u8 16, .int .u8 7, .int .u8 26, .int .u8 12, .int .u8 18, .int .u8 6, .int .u8 11, .int .u8 5, .int .u8 10, .int .u8 9]
  let h4 := put h3 7 #[.int .u8 0, .int .u8 1, .int .u8 56, .int .u8 2, .int .u8 57, .int .u8 49, .int .u8 28, .int .u8 3, .int .u8 61, .int .u8 58, .int .u8 42, .int .u8 50, .int .u8 38, .int .u8 29, .int .u8 17, .int .u8 4, .int .u8 62, .int .u8 47, .int .u8 59, .int .u8 36, .int .u8 45, .int .u8 43, .int .u8 51, .int .u8 22, .int .u8 53, .int .u8 39, .int .u8 33, .int .u8 30, .int .u8 24, .int .u8 18, .int .u8 12, .int .u8 5, .int .u8 63, .int .u8 55, .int .u8 48, .int .u8 27, .int .u8 60, .int .u8 41, .int .u8 37, .int .u8 16, .int .u8 46, .int .u8 35, .int .u8 44, .int .u8 21, .int .u8 52, .int .u8 32, .int .u8 23, .int .u8 11, .int .u8 54, .int .u8 26, .int .u8 40, .int .u8 15, .int .u8 34, .int .u8 20, .int .u8 31, .int .u8 10, .int .u8 25, .int .u8 14, .int .u8 19, .int .u8 9, .int .u8 13, .int .u8 8, .int .u8 7, .int .u8 6]
  let h5 := put h4 3 #[.int .u64 1, .int .u64 10, .int .u64 100, .int .u64 1000, .int .u64 10000, .int .u64 100000, .int .u64 1000000, .int .u64 10000000, .int .u64 100000000, .int .u64 1000000000, .int .u64 10000000000, .int .u64 100000000000, .int .u64 1000000000000, .int .u64 10000000000000, .int .u64 100000000000000, .int .u64 1000000000000000, .int .u64 10000000000000000, .int .u64 100000000000000000, .int .u64 1000000000000000000, .int .u64 10000000000000000000]
  { w0 with heap := h5 }
end Go.Proofs.YtcmceeihdhcmnaaGreatDoor.listed
