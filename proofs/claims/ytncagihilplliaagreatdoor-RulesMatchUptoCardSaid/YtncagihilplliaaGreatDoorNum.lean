/- Plain laws: decimal numbers and their texts; the order of words. -/
import Derived.Test.YtncagihilplliaaGreatDoorVerA
import Derived.Lib.AtoiAll
import Derived.Lib.Small
namespace Go.Proofs.YtncagihilplliaaGreatDoor

def decVal (l : Str) : Nat := l.foldl (fun a c => a * 10 + (c.toNat - 48)) 0
theorem foldl_dec (l : Str) : ∀ a : Nat, l.foldl (fun a c => a * 10 + (c.toNat - 48)) a = a * 10 ^ l.length + decVal l := by
  induction l with
  | nil => intro a; simp [decVal]
  | cons c l ih =>
    intro a
    have h1 := ih (a * 10 + (c.toNat - 48))
    have h2 := ih (0 * 10 + (c.toNat - 48))
    simp only [List.foldl_cons, List.length_cons, decVal] at h1 h2 ⊢
    rw [h1, h2, Nat.pow_succ, Nat.zero_mul, Nat.zero_add, Nat.add_mul, Nat.mul_assoc, Nat.mul_comm 10, Nat.add_assoc]
theorem decVal_cons (c : UInt8) (l : Str) : decVal (c :: l) = (c.toNat - 48) * 10 ^ l.length + decVal l := by
  have := foldl_dec l (0 * 10 + (c.toNat - 48))
  simp only [Nat.zero_mul, Nat.zero_add] at this
  rw [← this]
  simp [decVal]
theorem decVal_snoc (l : Str) (c : UInt8) : decVal (l ++ [c]) = decVal l * 10 + (c.toNat - 48) := by simp [decVal]
theorem digit_bounds {c : UInt8} (h : digitB c = true) : 48 ≤ c.toNat ∧ c.toNat ≤ 57 := by simpa [digitB] using h
theorem decVal_lt : ∀ l : Str, l.all digitB = true → decVal l < 10 ^ l.length
  | [], _ => by simp [decVal]
  | c :: l, h => by
    simp only [List.all_cons, Bool.and_eq_true] at h
    have h1 := decVal_lt l h.2
    have h2 := digit_bounds h.1
    rw [decVal_cons, List.length_cons, Nat.pow_succ]
    have : (c.toNat - 48) * 10 ^ l.length ≤ 9 * 10 ^ l.length := Nat.mul_le_mul_right _ (by omega)
    omega
theorem parse_digits : ∀ (l : Str) (k acc : Nat), l.all digitB = true → acc < 10 ^ k → k + l.length ≤ 18 → Lib.parseUint10 acc l = .ok (acc * 10 ^ l.length + decVal l)
  | [], _, acc, _, _, _ => by simp [Lib.parseUint10, decVal]
  | c :: l, k, acc, h, hk, hl => by
    simp only [List.all_cons, Bool.and_eq_true] at h
    have h2 := digit_bounds h.1
    simp only [List.length_cons] at hl
    have hp : (10 : Nat) ^ k ≤ 10 ^ 17 := Nat.pow_le_pow_right (by decide) (by omega)
    have hp2 : (10 : Nat) ^ 17 = 100000000000000000 := by decide
    have hs : acc * 10 + (c.toNat - 48) < 10 ^ (k + 1) := by rw [Nat.pow_succ]; omega
    unfold Lib.parseUint10
    rw [if_pos h2, if_neg (by omega), if_neg (by omega), parse_digits l (k + 1) _ h.2 hs (by omega), decVal_cons, List.length_cons, Nat.pow_succ]
    rw [Nat.add_mul, Nat.mul_assoc, Nat.mul_comm 10, Nat.add_assoc]
theorem atoi_digits (l : Str) (h : l.all digitB = true) (h0 : 0 < l.length) (hl : l.length ≤ 18) : Lib.atoiAll l = .ok (decVal l) := by
  cases l with
  | nil => simp at h0
  | cons c r =>
    have hc : digitB c = true := by simp only [List.all_cons, Bool.and_eq_true] at h; exact h.1
    have h2 := digit_bounds hc
    have h3 := parse_digits (c :: r) 0 0 h (by decide) (by omega)
    have h4 := decVal_lt (c :: r) h
    have h5 : (10 : Nat) ^ (c :: r).length ≤ 10 ^ 18 := Nat.pow_le_pow_right (by decide) hl
    have h6 : (10 : Nat) ^ 18 = 1000000000000000000 := by decide
    rw [Nat.zero_mul, Nat.zero_add] at h3
    unfold Lib.atoiAll
    simp only [Lib.parseMag]
    have e1 : ¬ (c.toNat = 43 ∨ c.toNat = 45) := by omega
    have e2 : ¬ c.toNat = 45 := by omega
    rw [if_neg e1, if_neg (by simp), h3]
    simp only [e2, not_false_eq_true, true_and, false_and, if_false]
    rw [if_neg (by omega)]

/-! ### itoa -/
theorem decDigits_all (u : Nat) : (Lib.decDigits u).all digitB = true ∧ decVal (Lib.decDigits u) = u := by
  induction u using Nat.strongRecOn with
  | _ u ih =>
    have one : ∀ d : Nat, d < 10 → digitB (UInt8.ofNat (48 + d)) = true ∧ (UInt8.ofNat (48 + d)).toNat - 48 = d := fun d hd => by
      have : (UInt8.ofNat (48 + d)).toNat = 48 + d := by rw [UInt8.toNat_ofNat']; omega
      exact ⟨by simp [digitB, this]; omega, by omega⟩
    by_cases h : u < 10
    · rw [Lib.decDigits, dif_pos h]
      obtain ⟨a, b⟩ := one u h
      exact ⟨by rw [List.all_cons, a]; rfl, by rw [decVal_cons, b]; simp [decVal]⟩
    · obtain ⟨a, b⟩ := ih (u / 10) (by omega)
      obtain ⟨c, d⟩ := one (u % 10) (by omega)
      rw [Lib.decDigits, dif_neg h]
      refine ⟨by rw [List.all_append, a, List.all_cons, c]; rfl, ?_⟩
      rw [decVal_snoc, b, d]
      omega
theorem nDigits_le : ∀ (k u : Nat), u < 10 ^ (k + 1) → Lib.nDigits u ≤ k + 1
  | 0, u, h => by rw [Lib.nDigits_small (by simpa using h)]; exact Nat.le_refl _
  | k + 1, u, h => by
    by_cases hu : u < 10
    · rw [Lib.nDigits_small hu]; omega
    · rw [Nat.pow_succ] at h
      have := nDigits_le k (u / 10) (by omega)
      rw [Lib.nDigits_big hu]; omega
theorem decDigits_len (u k : Nat) (h : u < 10 ^ (k + 1)) : 0 < (Lib.decDigits u).length ∧ (Lib.decDigits u).length ≤ k + 1 := by
  rw [Lib.decDigits_length]
  exact ⟨Lib.nDigits_pos u, nDigits_le k u h⟩
theorem decDigits_head (u : Nat) : (Lib.decDigits u).headD 0 = 48 → u = 0 := by
  induction u using Nat.strongRecOn with
  | _ u ih =>
    by_cases h : u < 10
    · rw [Lib.decDigits, dif_pos h]
      intro e
      have e1 : UInt8.ofNat (48 + u) = 48 := e
      have := congrArg UInt8.toNat e1
      rw [UInt8.toNat_ofNat'] at this
      have h2 : (48 : UInt8).toNat = 48 := rfl
      omega
    · rw [Lib.decDigits, dif_neg h]
      intro e
      have hn : Lib.decDigits (u / 10) ≠ [] := by
        have := Lib.nDigits_pos (u / 10)
        rw [← Lib.decDigits_length] at this
        exact List.length_pos_iff.1 this
      have e2 : (Lib.decDigits (u / 10)).headD 0 = 48 := by
        cases hd : Lib.decDigits (u / 10) with
        | nil => exact absurd hd hn
        | cons x r => rw [hd] at e; simpa using e
      have := ih (u / 10) (by omega) e2
      omega
end Go.Proofs.YtncagihilplliaaGreatDoor
