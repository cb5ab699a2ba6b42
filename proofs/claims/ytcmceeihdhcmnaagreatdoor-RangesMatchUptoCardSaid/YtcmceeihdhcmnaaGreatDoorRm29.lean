/- The order of versions is a total order. Plain words. -/
import Derived.Test.YtcmceeihdhcmnaaGreatDoorRm18
import Derived.Test.YtcmceeihdhcmnaaGreatDoorRm14

namespace Go.Proofs.YtcmceeihdhcmnaaGreatDoor

/-- a total order up to what it does not part -/
structure Pre {α : Type} (f : α → α → Int) : Prop where
  anti : ∀ a b, f a b < 0 ↔ 0 < f b a
  le : ∀ a b c, f a b ≤ 0 → f b c ≤ 0 → f a c ≤ 0
namespace Pre
variable {α : Type} {f : α → α → Int}
theorem self (h : Pre f) (a : α) : f a a = 0 := by have := h.anti a a; omega
theorem zero (h : Pre f) {a b : α} (e : f a b = 0) : f b a = 0 := by have := h.anti a b; have := h.anti b a; omega
theorem lt_le (h : Pre f) {a b c : α} (h1 : f a b < 0) (h2 : f b c ≤ 0) : f a c < 0 := by
  have h3 := h.le a b c (by omega) h2
  rcases Int.lt_or_eq_of_le h3 with h4 | h4
  · exact h4
  · have h5 := h.le c a b (by have := h.zero h4; omega) (by omega)
    have h6 := h.le b c b h2 h5
    have := h.anti a b
    have h7 := h.le b c a h2 (by have := h.zero h4; omega)
    omega
theorem le_lt (h : Pre f) {a b c : α} (h1 : f a b ≤ 0) (h2 : f b c < 0) : f a c < 0 := by
  have h3 := h.le a b c h1 (by omega)
  rcases Int.lt_or_eq_of_le h3 with h4 | h4
  · exact h4
  · have h7 := h.le c a b (by have := h.zero h4; omega) h1
    have := h.anti b c
    omega
theorem lt (h : Pre f) {a b c : α} (h1 : f a b < 0) (h2 : f b c < 0) : f a c < 0 := h.lt_le h1 (by omega)
theorem on {β : Type} (h : Pre f) (p : β → α) : Pre fun x y => f (p x) (p y) := ⟨fun _a _b => h.anti _ _, fun _a _b _c => h.le _ _ _⟩
theorem lex {g : α → α → Int} (h : Pre f) (k : Pre g) : Pre fun a b => if f a b = 0 then g a b else f a b := by
  refine ⟨fun a b => ?_, fun a b c h1 h2 => ?_⟩
  · by_cases h0 : f a b = 0
    · rw [if_pos h0, if_pos (h.zero h0)]; exact k.anti a b
    · rw [if_neg h0, if_neg (fun e => h0 (h.zero e))]; exact h.anti a b
  · by_cases h3 : f a b = 0
    · rw [if_pos h3] at h1
      by_cases h4 : f b c = 0
      · rw [if_pos h4] at h2
        have h5 := h.le a b c (by omega) (by omega)
        have h6 := h.le c b a (by have := h.zero h4; omega) (by have := h.zero h3; omega)
        have h7 : f a c = 0 := by have := h.anti a c; have := h.anti c a; omega
        rw [if_pos h7]
        exact k.le a b c h1 h2
      · rw [if_neg h4] at h2
        have := h.le_lt (a := a) (b := b) (c := c) (by omega) (by omega)
        rw [if_neg (by omega)]
        omega
    · rw [if_neg h3] at h1
      by_cases h4 : f b c = 0
      · have := h.lt_le (a := a) (b := b) (c := c) (by omega) (by omega)
        rw [if_neg (by omega)]
        omega
      · rw [if_neg h4] at h2
        have := h.lt (a := a) (b := b) (c := c) (by omega) (by omega)
        rw [if_neg (by omega)]
        omega
end Pre
theorem pre_int : Pre Lib.compareInt := by
  refine ⟨fun a b => ?_, fun a b c => ?_⟩ <;> unfold Lib.compareInt <;> repeat' split
  all_goals omega
theorem bytes_anti : ∀ a b : Str, Lib.compareBytes a b = - Lib.compareBytes b a
  | [], [] => rfl
  | [], _ :: _ => rfl
  | _ :: _, [] => rfl
  | a :: a', b :: b' => by
    have ih := bytes_anti a' b'
    simp only [Lib.compareBytes]
    have h1 : ¬ (a < b ∧ b < a) := fun h => UInt8.lt_irrefl _ (UInt8.lt_trans h.1 h.2)
    by_cases h2 : a < b
    · rw [if_pos h2, if_neg (fun h => h1 ⟨h2, h⟩), if_pos h2]
    · by_cases h3 : b < a
      · rw [if_neg h2, if_pos h3, if_pos h3]; rfl
      · rw [if_neg h2, if_neg h3, if_neg h3, if_neg h2]; exact ih
theorem bytes_le : ∀ a b c : Str, Lib.compareBytes a b ≤ 0 → Lib.compareBytes b c ≤ 0 → Lib.compareBytes a c ≤ 0
  | [], _, [], _, _ => by simp [Lib.compareBytes]
  | [], _, _ :: _, _, _ => by simp [Lib.compareBytes]
  | _ :: _, [], _, h, _ => by simp [Lib.compareBytes] at h
  | _ :: _, _ :: _, [], _, h => by simp [Lib.compareBytes] at h
  | a :: a', b :: b', c :: c', h1, h2 => by
    have ih := bytes_le a' b' c'
    simp only [Lib.compareBytes, UInt8.lt_iff_toNat_lt] at h1 h2 ⊢
    repeat' split at h1
    all_goals repeat' split at h2
    all_goals repeat' split
    all_goals first | omega | exact ih h1 h2
theorem bytes_eq : ∀ {a b : Str}, Lib.compareBytes a b = 0 → a = b
  | [], [], _ => rfl
  | [], _ :: _, h => by simp [Lib.compareBytes] at h
  | _ :: _, [], h => by simp [Lib.compareBytes] at h
  | a :: a', b :: b', h => by
    simp only [Lib.compareBytes] at h
    by_cases h2 : a < b
    · rw [if_pos h2] at h; cases h
    · by_cases h3 : b < a
      · rw [if_neg h2, if_pos h3] at h; cases h
      · rw [if_neg h2, if_neg h3] at h
        rw [bytes_eq h, show a = b from UInt8.le_antisymm (UInt8.not_lt.1 h3) (UInt8.not_lt.1 h2)]
theorem pre_bytes : Pre Lib.compareBytes := ⟨fun a b => by have := bytes_anti a b; omega, bytes_le⟩
theorem pre_word : Pre cmpWordL := by
  have hb := pre_bytes
  refine ⟨fun a b => ?_, fun a b c => ?_⟩
  · have h1 := hb.anti a b
    unfold cmpWordL
    cases ha : numeralL a <;> cases hb : numeralL b
    · simpa using h1
    · simp
    · simp
    · simp only [Bool.and_self, if_true]
      by_cases h : a.length = b.length
      · rw [if_pos h, if_pos h.symm]; exact h1
      · rw [if_neg h, if_neg (fun e => h e.symm)]; exact pre_int.anti _ _
  · have h1 := hb.le a b c
    unfold cmpWordL
    cases ha : numeralL a <;> cases hb : numeralL b <;> cases hc : numeralL c
    · simpa using h1
    · simp
    · simp
    · simp
    · simp
    · simp
    · simp
    · simp only [Bool.and_self, if_true, Lib.compareInt]
      repeat' split
      all_goals first | omega | (intros; omega) | exact h1
theorem word_eq {a b : Str} (h : cmpWordL a b = 0) : a = b := by
  unfold cmpWordL at h
  cases ha : numeralL a <;> cases hb : numeralL b <;> rw [ha, hb] at h
  · exact bytes_eq (by simpa using h)
  · simp at h
  · simp at h
  · simp only [Bool.and_self, if_true] at h
    by_cases hl : a.length = b.length
    · rw [if_pos hl] at h; exact bytes_eq h
    · rw [if_neg hl] at h
      unfold Lib.compareInt at h
      repeat' split at h
      all_goals omega
theorem words_anti {f : Str → Str → Int} (hf : Pre f) : ∀ a b : List Str, cmpWordsL f a b < 0 ↔ 0 < cmpWordsL f b a
  | [], [] => by simp [cmpWordsL, Lib.compareInt]
  | [], y :: ys => by simp only [cmpWordsL]; exact pre_int.anti _ _
  | x :: xs, [] => by simp only [cmpWordsL]; exact pre_int.anti _ _
  | x :: xs, y :: ys => by
    have ih := words_anti hf xs ys
    simp only [cmpWordsL]
    by_cases h : f x y = 0
    · rw [if_pos h, if_pos (hf.zero h)]; exact ih
    · rw [if_neg h, if_neg (fun e => h (hf.zero e))]; exact hf.anti x y
theorem words_le {f : Str → Str → Int} (hf : Pre f) : ∀ a b c : List Str, cmpWordsL f a b ≤ 0 → cmpWordsL f b c ≤ 0 → cmpWordsL f a c ≤ 0
  | [], _, [], _, _ => by simp [cmpWordsL, Lib.compareInt]
  | [], _, _ :: _, _, _ => by simp only [cmpWordsL, Lib.compareInt, List.length_nil, List.length_cons]; repeat' split
                              all_goals omega
  | _ :: _, [], _, h, _ => by
    simp only [cmpWordsL, Lib.compareInt, List.length_nil, List.length_cons] at h
    repeat' split at h
    all_goals omega
  | _ :: _, _ :: _, [], _, h => by
    simp only [cmpWordsL, Lib.compareInt, List.length_nil, List.length_cons] at h
    repeat' split at h
    all_goals omega
  | x :: xs, y :: ys, z :: zs, h1, h2 => by
    have ih := words_le hf xs ys zs
    simp only [cmpWordsL] at h1 h2 ⊢
    by_cases h3 : f x y = 0
    · rw [if_pos h3] at h1
      by_cases h4 : f y z = 0
      · rw [if_pos h4] at h2
        have h5 := hf.le x y z (by omega) (by omega)
        have h6 := hf.le z y x (by have := hf.zero h4; omega) (by have := hf.zero h3; omega)
        have h7 : f x z = 0 := by have := hf.anti x z; have := hf.anti z x; omega
        rw [if_pos h7]
        exact ih h1 h2
      · rw [if_neg h4] at h2
        have := hf.le_lt (a := x) (b := y) (c := z) (by omega) (by omega)
        rw [if_neg (by omega)]
        omega
    · rw [if_neg h3] at h1
      by_cases h4 : f y z = 0
      · have := hf.lt_le (a := x) (b := y) (c := z) (by omega) (by omega)
        rw [if_neg (by omega)]
        omega
      · rw [if_neg h4] at h2
        have := hf.lt (a := x) (b := y) (c := z) (by omega) (by omega)
        rw [if_neg (by omega)]
        omega
theorem words_eq : ∀ {a b : List Str}, cmpWordsL cmpWordL a b = 0 → a = b
  | [], [], _ => rfl
  | [], y :: ys, h => by
    simp only [cmpWordsL, Lib.compareInt, List.length_nil, List.length_cons] at h
    repeat' split at h
    all_goals omega
  | x :: xs, [], h => by
    simp only [cmpWordsL, Lib.compareInt, List.length_nil, List.length_cons] at h
    repeat' split at h
    all_goals omega
  | x :: xs, y :: ys, h => by
    simp only [cmpWordsL] at h
    by_cases h3 : cmpWordL x y = 0
    · rw [if_pos h3] at h
      rw [word_eq h3, words_eq h]
    · rw [if_neg h3] at h; exact absurd h h3
/-- a text's words name it -/
theorem join_split (c : UInt8) : ∀ (n : Nat) (l : Str), l.length ≤ n → Lib.join (splitC c l) [c] = l
  | n, l, hn => by
    rcases first_cut c l with h | ⟨a, r, ha, rfl⟩
    · rw [splitC_none c l h]
      simp [Lib.join]
    · match n with
      | 0 => simp at hn
      | n + 1 =>
        have ih := join_split c n r (by simp at hn; omega)
        rw [splitC_app c r a ha]
        have hne := splitC_ne c r
        cases hs : splitC c r with
        | nil => exact absurd hs hne
        | cons x xs =>
          rw [hs] at ih
          rw [Lib.join_cons] at ih ⊢
          rw [← ih]
          simp [Lib.joinTail]
theorem split_inj {c : UInt8} {a b : Str} (h : splitC c a = splitC c b) : a = b := by
  rw [← join_split c _ a (Nat.le_refl _), ← join_split c _ b (Nat.le_refl _), h]
theorem early_eq {a b : Str} (h : cmpEarlyL a b = 0) : a = b := by
  unfold cmpEarlyL at h
  by_cases h1 : a = b
  · exact h1
  · rw [if_neg h1] at h
    by_cases h2 : a = []
    · rw [if_pos h2] at h; cases h
    · rw [if_neg h2] at h
      by_cases h3 : b = []
      · rw [if_pos h3] at h; cases h
      · rw [if_neg h3] at h
        exact split_inj (words_eq h)
theorem pre_words : Pre (cmpWordsL cmpWordL) := ⟨words_anti pre_word, words_le pre_word⟩
theorem early_both {a b : Str} (ha : a ≠ []) (hb : b ≠ []) : cmpEarlyL a b = cmpWordsL cmpWordL (splitC 46 a) (splitC 46 b) := cmpEarly_both ha hb
theorem pre_early : Pre cmpEarlyL := by
  refine ⟨fun a b => ?_, fun a b c => ?_⟩
  · by_cases ha : a = [] <;> by_cases hb : b = []
    · simp [cmpEarlyL, ha, hb]
    · have : ¬ ([] : Str) = b := fun e => hb e.symm
      simp [cmpEarlyL, ha, hb, this]
    · have : ¬ ([] : Str) = a := fun e => ha e.symm
      simp [cmpEarlyL, ha, hb, this]
    · rw [early_both ha hb, early_both hb ha]; exact pre_words.anti _ _
  · by_cases ha : a = [] <;> by_cases hb : b = [] <;> by_cases hc : c = []
    · simp [cmpEarlyL, ha, hb, hc]
    · have : ¬ ([] : Str) = c := fun e => hc e.symm
      simp [cmpEarlyL, ha, hb, this]
    · have : ¬ ([] : Str) = b := fun e => hb e.symm
      simp [cmpEarlyL, ha, hb, hc, this]
    · have : ¬ ([] : Str) = b := fun e => hb e.symm
      simp [cmpEarlyL, ha, hb, hc, this]
    · simp [cmpEarlyL, ha, hb, hc]
    · have : ¬ ([] : Str) = c := fun e => hc e.symm
      simp [cmpEarlyL, ha, hb, hc, this]
    · simp [cmpEarlyL, ha, hb, hc]
    · rw [early_both ha hb, early_both hb hc, early_both ha hc]; exact pre_words.le _ _ _
theorem ord_lex (u v : V4) : u.ord v = if Lib.compareInt u.a1 v.a1 = 0 then (if Lib.compareInt u.a2 v.a2 = 0 then (if Lib.compareInt u.a3 v.a3 = 0 then cmpEarlyL (bs u.a) (bs v.a) else Lib.compareInt u.a3 v.a3) else Lib.compareInt u.a2 v.a2) else Lib.compareInt u.a1 v.a1 := by
  unfold V4.ord orderL
  simp only [firstI]
  repeat' split
  all_goals simp_all
theorem pre_ord : Pre V4.ord := by
  have h := (pre_int.on V4.a1).lex ((pre_int.on V4.a2).lex ((pre_int.on V4.a3).lex (pre_early.on fun v : V4 => bs v.a)))
  have e : V4.ord = _ := funext fun u => funext fun v => ord_lex u v
  rw [e]
  exact h
theorem int_eq {a b : Int} (h : Lib.compareInt a b = 0) : a = b := by
  unfold Lib.compareInt at h
  repeat' split at h
  all_goals omega
theorem ord_eq {u v : V4} (h : u.ord v = 0) : u = v := by
  rw [ord_lex] at h
  by_cases h1 : Lib.compareInt u.a1 v.a1 = 0
  · rw [if_pos h1] at h
    by_cases h2 : Lib.compareInt u.a2 v.a2 = 0
    · rw [if_pos h2] at h
      by_cases h3 : Lib.compareInt u.a3 v.a3 = 0
      · rw [if_pos h3] at h
        obtain ⟨u1, u2, u3, u⟩ := u
        obtain ⟨v1, v2, v3, v⟩ := v
        dsimp only at h h1 h2 h3
        rw [int_eq h1, int_eq h2, int_eq h3, bs_inj (early_eq h)]
      · rw [if_neg h3] at h; exact absurd h h3
    · rw [if_neg h2] at h; exact absurd h h2
  · rw [if_neg h1] at h; exact absurd h h1
end Go.Proofs.YtcmceeihdhcmnaaGreatDoor
