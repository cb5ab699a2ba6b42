/- Plain law: a text in quotes, by two replacements of one byte each; its length; what a loop over it has written. -/
import Derived.Test.YtncagihilplliaaGreatDoorRulL
import Derived.Lib.Replace
import Derived.Lib.SplitLaws
namespace Go.Proofs.YtncagihilplliaaGreatDoor

def subst1 (c : UInt8) (new : Str) (l : Str) : Str := l.flatMap fun x => if x = c then new else [x]
theorem subst1_none (c : UInt8) (new : Str) : ∀ l : Str, c ∉ l → subst1 c new l = l
  | [], _ => rfl
  | x :: l, h => by
    have h1 : ¬ x = c := fun e => h (by simp [e])
    have := subst1_none c new l (fun e => h (by simp [e]))
    unfold subst1 at this ⊢
    rw [List.flatMap_cons, if_neg h1, this]; rfl
theorem subst1_app (c : UInt8) (new a r : Str) (h : c ∉ a) : subst1 c new (a ++ c :: r) = a ++ new ++ subst1 c new r := by
  have h1 := subst1_none c new a h
  unfold subst1 at h1 ⊢
  rw [List.flatMap_append, h1, List.flatMap_cons, if_pos rfl, List.append_assoc]
theorem replaceK_one (c : UInt8) (new : Str) : ∀ (n : Nat) (l : Str), l.length ≤ n → Lib.replaceK [c] new (Lib.count l [c]) l = subst1 c new l := by
  intro n
  induction n with
  | zero =>
    intro l hl
    have : l = [] := List.eq_nil_of_length_eq_zero (by omega)
    subst this
    rw [count_one_none c [] (by simp)]
    rfl
  | succ n ih =>
    intro l hl
    rcases first_cut c l with h | ⟨a, r, ha, rfl⟩
    · rw [count_one_none c l h, subst1_none c new l h]
      rfl
    · rw [count_one_app c a r ha, subst1_app c new a r ha, Nat.add_comm 1, Lib.replaceK_hit [c] new _ _ a.length (index_app c a r ha), ← ih r (by simp at hl; omega)]
      congr 1
      · simp
      · rw [← List.drop_drop]; simp
theorem replaceAll_one (c : UInt8) (new l : Str) (h : ¬ [c] = new) : Lib.replaceAll l [c] new = subst1 c new l := by
  unfold Lib.replaceAll Lib.replace Lib.replaceNum
  rw [if_neg (by simpa using h), if_pos (.inl (by decide))]
  exact replaceK_one c new _ l (Nat.le_refl _)
theorem esc_two (l : Str) : subst1 34 [92, 34] (subst1 92 [92, 92] l) = esc l := by
  induction l with
  | nil => rfl
  | cons c r ih =>
    unfold subst1 at ih ⊢
    rw [List.flatMap_cons, List.flatMap_append, ih, esc]
    by_cases h1 : c = 92
    · rw [if_pos h1, if_pos (.inr h1), h1]; rfl
    · rw [if_neg h1]
      by_cases h2 : c = 34
      · rw [if_pos (.inl h2), h2]; rfl
      · rw [if_neg (fun e => e.elim h2 h1), List.flatMap_cons, if_neg h2]; rfl
theorem esc_replace (l : Str) : Lib.replaceAll (Lib.replaceAll l [92] [92, 92]) [34] [92, 34] = esc l := by
  rw [replaceAll_one 92 [92, 92] l (by decide), replaceAll_one 34 [92, 34] _ (by decide), esc_two]
theorem subst1_len (c : UInt8) (new : Str) (l : Str) (h : new.length ≤ 2) : (subst1 c new l).length ≤ 2 * l.length := by
  induction l with
  | nil => exact Nat.zero_le _
  | cons x l ih =>
    unfold subst1 at ih ⊢
    rw [List.flatMap_cons, List.length_append, List.length_cons]
    by_cases hx : x = c
    · rw [if_pos hx]; omega
    · rw [if_neg hx]; simp only [List.length_cons, List.length_nil]; omega
theorem esc_len (l : Str) : (esc l).length = l.length + (l.count 34 + l.count 92) := by
  induction l with
  | nil => rfl
  | cons c r ih =>
    rw [esc]
    by_cases h1 : c = 34
    · subst h1; simp [ih]; omega
    · by_cases h2 : c = 92
      · subst h2; simp [ih]; omega
      · rw [if_neg (fun e => e.elim h1 h2), List.length_cons, ih, List.length_cons, List.count_cons_of_ne h1, List.count_cons_of_ne h2]; omega
theorem esc_le (l : Str) : (esc l).length ≤ 2 * l.length := by
  induction l with
  | nil => exact Nat.le_refl _
  | cons c r ih =>
    rw [esc]
    split <;> simp <;> omega
theorem esc_append (a b : Str) : esc (a ++ b) = esc a ++ esc b := by
  induction a with
  | nil => rfl
  | cons c r ih =>
    rw [List.cons_append, esc, esc, ih]
    split <;> rfl
theorem esc_same {l : Str} (h1 : l.count 34 = 0) (h2 : l.count 92 = 0) : esc l = l := by
  induction l with
  | nil => rfl
  | cons c r ih =>
    have a : ¬ c = 34 := fun e => by subst e; simp at h1
    have b : ¬ c = 92 := fun e => by subst e; simp at h2
    rw [List.count_cons_of_ne a] at h1
    rw [List.count_cons_of_ne b] at h2
    rw [esc, if_neg (fun e => e.elim a b), ih h1 h2]
theorem quote_len (l : Str) : (quoteL l).length ≤ 2 * l.length + 2 := by
  have := esc_le l
  simp only [quoteL, List.length_cons, List.length_append, List.length_nil]
  omega
end Go.Proofs.YtncagihilplliaaGreatDoor
