/- Plain laws on strings as lists of bytes: cutting at one byte. -/
import Derived.Lib.Split
import Derived.Lib.IndexBytes
import Derived.Lib.ItoaLen
namespace Go.Proofs.YtncagihilplliaaGreatDoor

abbrev Str := List UInt8
abbrev bs (s : ByteArray) : Str := s.data.toList
/-- the string's value -/
abbrev S (l : Str) : Value := .string ⟨l.toArray⟩

/-- A text cut at each byte c. -/
def splitC (c : UInt8) : Str → List Str
  | [] => [[]]
  | x :: r => if x = c then [] :: splitC c r else (match splitC c r with | [] => [[x]] | p :: q => (x :: p) :: q)
theorem splitC_ne (c : UInt8) (l : Str) : splitC c l ≠ [] := by
  cases l with
  | nil => simp [splitC]
  | cons x r =>
    simp only [splitC]
    split
    · simp
    · split <;> simp

theorem indexByte_none (c : UInt8) : ∀ l : Str, c ∉ l → Lib.indexByte l c = -1
  | [], _ => rfl
  | b :: l, h => by
    have h1 : ¬ b = c := fun e => h (by simp [e])
    have h2 := indexByte_none c l (fun e => h (by simp [e]))
    simp [Lib.indexByte, h1, h2]
theorem indexByte_app (c : UInt8) (r : Str) : ∀ a : Str, c ∉ a → Lib.indexByte (a ++ c :: r) c = a.length
  | [], _ => by simp [Lib.indexByte]
  | b :: l, h => by
    have h1 : ¬ b = c := fun e => h (by simp [e])
    have h2 := indexByte_app c r l (fun e => h (by simp [e]))
    have h3 : ¬ ((l.length : Int) = -1) := by omega
    simp [Lib.indexByte, h1, h2, h3]
theorem index_none (c : UInt8) (l : Str) (h : c ∉ l) : Lib.index l [c] = -1 := by rw [Lib.index_one, indexByte_none c l h]
theorem index_app (c : UInt8) (a r : Str) (h : c ∉ a) : Lib.index (a ++ c :: r) [c] = a.length := by rw [Lib.index_one, indexByte_app c r a h]
/-- A list has the byte not at all, or is cut at its first. -/
theorem first_cut (c : UInt8) : ∀ l : Str, c ∉ l ∨ ∃ a r, c ∉ a ∧ l = a ++ c :: r
  | [] => .inl (by simp)
  | x :: l => by
    by_cases hx : x = c
    · exact .inr ⟨[], l, by simp, by simp [hx]⟩
    · rcases first_cut c l with h | ⟨a, r, ha, rfl⟩
      · exact .inl (by simp [h, Ne.symm hx])
      · exact .inr ⟨x :: a, r, by simp [ha, Ne.symm hx], by simp⟩
theorem splitC_none (c : UInt8) : ∀ l : Str, c ∉ l → splitC c l = [l]
  | [], _ => rfl
  | x :: l, h => by
    have h1 : ¬ x = c := fun e => h (by simp [e])
    simp [splitC, h1, splitC_none c l (fun e => h (by simp [e]))]
theorem splitC_app (c : UInt8) (r : Str) : ∀ a : Str, c ∉ a → splitC c (a ++ c :: r) = a :: splitC c r
  | [], _ => by simp [splitC]
  | x :: a, h => by
    have h1 : ¬ x = c := fun e => h (by simp [e])
    simp [splitC, h1, splitC_app c r a (fun e => h (by simp [e]))]
theorem count_one_none (c : UInt8) (l : Str) (h : c ∉ l) : Lib.count l [c] = 0 := Lib.count_miss (index_none c l h)
theorem count_one_app (c : UInt8) (a r : Str) (h : c ∉ a) : Lib.count (a ++ c :: r) [c] = 1 + Lib.count r [c] := by
  rw [Lib.count_hit (by simp) (index_app c a r h)]
  congr 2
  rw [← List.drop_drop]
  simp
theorem splitK_one (c : UInt8) : ∀ (n : Nat) (l : Str), l.length ≤ n → Lib.splitK [c] 0 (Lib.count l [c]) l = splitC c l := by
  intro n
  induction n with
  | zero =>
    intro l hl
    have : l = [] := List.eq_nil_of_length_eq_zero (by omega)
    subst this
    rw [count_one_none c [] (by simp), splitC_none c [] (by simp)]
    rfl
  | succ n ih =>
    intro l hl
    rcases first_cut c l with h | ⟨a, r, ha, rfl⟩
    · rw [count_one_none c l h, splitC_none c l h]
      rfl
    · rw [count_one_app c a r ha, splitC_app c r a ha, Nat.add_comm, Lib.splitK]
      rw [index_app c a r ha]
      have h3 : ¬ (((a.length : Int)) == -1) = true := by rw [beq_iff_eq]; omega
      rw [if_neg h3]
      congr 1
      · simp
      · rw [Int.toNat_natCast, ← List.drop_drop]
        simp only [List.drop_left', List.drop_append_of_le_length, List.length_cons, List.length_nil, Nat.zero_add, Nat.le_refl, List.drop_length, List.nil_append, List.drop_succ_cons, List.drop_zero]
        exact ih r (by simp at hl; omega)
theorem splitC_count (c : UInt8) : ∀ (n : Nat) (l : Str), l.length ≤ n → (splitC c l).length = Lib.count l [c] + 1 := by
  intro n
  induction n with
  | zero =>
    intro l hl
    have : l = [] := List.eq_nil_of_length_eq_zero (by omega)
    subst this
    rw [count_one_none c [] (by simp)]
    rfl
  | succ n ih =>
    intro l hl
    rcases first_cut c l with h | ⟨a, r, ha, rfl⟩
    · rw [count_one_none c l h, splitC_none c l h]
      rfl
    · rw [count_one_app c a r ha, splitC_app c r a ha, List.length_cons, ih r (by simp at hl; omega)]
      omega
/-- strings.Split at one byte. -/
theorem splitB_one (c : UInt8) (s : ByteArray) : (Lib.splitB ⟨#[c]⟩ 0 (Lib.countB s ⟨#[c]⟩) s).map (·.data.toList) = splitC c (bs s) := by
  rw [Lib.splitB_data]
  exact splitK_one c _ _ (Nat.le_refl _)
/-- strings.Cut at one byte: what is ahead, what is behind, whether it is there. -/
def cutC (c : UInt8) (l : Str) : Str × Str × Bool := (l.takeWhile (· != c), (l.dropWhile (· != c)).drop 1, l.contains c)
theorem while_all (p : UInt8 → Bool) : ∀ l : Str, (∀ x ∈ l, p x = true) → l.takeWhile p = l ∧ l.dropWhile p = []
  | [], _ => ⟨rfl, rfl⟩
  | x :: l, h => by
    have hx := h x (by simp)
    obtain ⟨h1, h2⟩ := while_all p l (fun y hy => h y (by simp [hy]))
    simp [hx, h1, h2]
theorem cutC_none (c : UInt8) (l : Str) (h : c ∉ l) : cutC c l = (l, [], false) := by
  unfold cutC
  have h1 : ∀ x ∈ l, (x != c) = true := fun x hx => by
    rw [bne_iff_ne]; rintro rfl; exact h hx
  rw [(while_all _ l h1).1, (while_all _ l h1).2]
  simp [h]
theorem cutC_app (c : UInt8) (a r : Str) (h : c ∉ a) : cutC c (a ++ c :: r) = (a, r, true) := by
  unfold cutC
  have h1 : ∀ x ∈ a, (x != c) = true := fun x hx => by
    rw [bne_iff_ne]; rintro rfl; exact h hx
  rw [List.takeWhile_append_of_pos h1, List.dropWhile_append_of_pos h1]
  simp
theorem cut_one (c : UInt8) (l : Str) : Lib.cut l [c] = cutC c l := by
  unfold Lib.cut
  rcases first_cut c l with h | ⟨a, r, ha, rfl⟩
  · rw [index_none c l h, cutC_none c l h]
    rfl
  · rw [index_app c a r ha, cutC_app c a r ha]
    rw [if_pos (by omega)]
    simp only [Int.toNat_natCast, List.length_cons, List.length_nil]
    rw [← List.drop_drop]
    simp
theorem splitC_length (c : UInt8) (s : ByteArray) : (Lib.splitB ⟨#[c]⟩ 0 (Lib.countB s ⟨#[c]⟩) s).length = (splitC c (bs s)).length := by
  rw [← splitB_one]; simp
theorem bs_append (x y : ByteArray) : bs (x ++ y) = bs x ++ bs y := by simp [bs]
theorem str_S {x : ByteArray} {l : Str} (h : bs x = l) : Value.string x = S l := by
  subst h
  have : (⟨(bs x).toArray⟩ : ByteArray) = x := by simp [bs]
  rw [S, this]
end Go.Proofs.YtncagihilplliaaGreatDoor
