/- Plain law: the reference's order of words is the program's. -/
import Derived.Test.YtcmceeihdhcmnaaGreatDoorRm05
import Derived.Test.YtcmceeihdhcmnaaGreatDoorRm12

namespace Go.Proofs.YtcmceeihdhcmnaaGreatDoor

theorem compareInt_lt {a b : Nat} (h : a < b) : Lib.compareInt a b = -1 := by unfold Lib.compareInt; rw [if_pos (by omega)]
theorem compareInt_gt {a b : Nat} (h : b < a) : Lib.compareInt a b = 1 := by unfold Lib.compareInt; rw [if_neg (by omega), if_pos (by omega)]
theorem compareInt_self (a : Nat) : Lib.compareInt a a = 0 := by unfold Lib.compareInt; rw [if_neg (by omega), if_neg (by omega)]
theorem compareBytes_self : ∀ l : Str, Lib.compareBytes l l = 0
  | [] => rfl
  | a :: l => by
    unfold Lib.compareBytes
    rw [if_neg (by simp), if_neg (by simp)]
    exact compareBytes_self l
/-- digits of one length are as their numbers -/
theorem cmp_digits : ∀ (x y : Str), x.all digitB = true → y.all digitB = true → x.length = y.length → Lib.compareBytes x y = Lib.compareInt (decVal x) (decVal y)
  | [], [], _, _, _ => rfl
  | a :: x, b :: y, hx, hy, hl => by
    simp only [List.all_cons, Bool.and_eq_true] at hx hy
    simp only [List.length_cons, Nat.add_right_cancel_iff] at hl
    have ha := digit_bounds hx.1
    have hb := digit_bounds hy.1
    have lx := decVal_lt x hx.2
    have ly := decVal_lt y hy.2
    rw [decVal_cons, decVal_cons]
    unfold Lib.compareBytes
    by_cases h1 : a < b
    · rw [if_pos h1]
      have h2 : a.toNat < b.toNat := UInt8.lt_iff_toNat_lt.1 h1
      have h3 : (a.toNat - 48 + 1) * 10 ^ x.length ≤ (b.toNat - 48) * 10 ^ y.length := by rw [← hl]; exact Nat.mul_le_mul_right _ (by omega)
      rw [Nat.add_mul, Nat.one_mul] at h3
      rw [compareInt_lt (by omega)]
    · rw [if_neg h1]
      by_cases h2 : b < a
      · rw [if_pos h2]
        have h2' : b.toNat < a.toNat := UInt8.lt_iff_toNat_lt.1 h2
        have h3 : (b.toNat - 48 + 1) * 10 ^ y.length ≤ (a.toNat - 48) * 10 ^ x.length := by rw [← hl]; exact Nat.mul_le_mul_right _ (by omega)
        rw [Nat.add_mul, Nat.one_mul] at h3
        rw [compareInt_gt (by omega)]
      · rw [if_neg h2, cmp_digits x y hx.2 hy.2 hl]
        have h3 : a = b := by
          apply UInt8.toNat_inj.1
          rw [UInt8.lt_iff_toNat_lt] at h1 h2
          omega
        subst h3
        rw [hl]
        generalize (a.toNat - 48) * 10 ^ y.length = m
        rcases Nat.lt_trichotomy (decVal x) (decVal y) with g | g | g
        · rw [compareInt_lt g, compareInt_lt (by omega)]
        · rw [g, compareInt_self, compareInt_self]
        · rw [compareInt_gt g, compareInt_gt (by omega)]
/-- a number without a 0 ahead is as great as its length says -/
theorem decVal_ge : ∀ (y : Str), y.all digitB = true → 1 < y.length → y.headD 0 ≠ 48 → 10 ^ (y.length - 1) ≤ decVal y
  | [], _, h, _ => by simp at h
  | b :: y, h, hl, h0 => by
    simp only [List.all_cons, Bool.and_eq_true] at h
    have hb := digit_bounds h.1
    have h1 : b.toNat ≠ 48 := fun e => h0 (UInt8.toNat_inj.1 e)
    rw [decVal_cons]
    have : 1 * 10 ^ y.length ≤ (b.toNat - 48) * 10 ^ y.length := Nat.mul_le_mul_right _ (by omega)
    simp only [List.length_cons, Nat.add_sub_cancel]
    omega
/-- the reference's order of two words -/
def refWord (x y : Str) : Int :=
  if (x.all digitB && y.all digitB) = true then Lib.compareInt (decVal x) (decVal y) else if x.all digitB = true then -1 else if y.all digitB = true then 1 else Lib.compareBytes x y
theorem word_parts {x : Str} (h : earlyWordL x = true) : x ≠ [] ∧ x.length ≤ 10 ∧ numeralL x = x.all digitB ∧ (x.all digitB = true → 1 < x.length → x.headD 0 ≠ 48) := by
  rw [earlyWord_eq] at h
  simp only [Bool.not_eq_true', Bool.or_eq_false_iff, beq_eq_false_iff_ne, decide_eq_false_iff_not, Bool.not_eq_false', Bool.and_eq_false_iff] at h
  obtain ⟨⟨⟨h1, h2⟩, h3⟩, h4⟩ := h
  have h5 : 0 < x.length := List.length_pos_iff.2 h1
  refine ⟨h1, by omega, ?_, fun hd hl => ?_⟩
  · unfold numeralL eachL
    rw [decide_eq_true h5, decide_eq_true (by omega : x.length ≤ 10)]; simp
  · rcases h4 with (h4 | h4) | h4
    · rw [hd] at h4; cases h4
    · exact absurd hl h4
    · exact h4
theorem cmp_shorter {x y : Str} (hx : x.all digitB = true) (hy : y.all digitB = true) (h0 : 0 < x.length) (hl : x.length < y.length) (hh : y.headD 0 ≠ 48) : decVal x < decVal y := by
  have h1 := decVal_lt x hx
  have h2 := decVal_ge y hy (by omega) hh
  have h3 : (10 : Nat) ^ x.length ≤ 10 ^ (y.length - 1) := Nat.pow_le_pow_right (by decide) (by omega)
  omega
theorem word_same {x y : Str} (hx : earlyWordL x = true) (hy : earlyWordL y = true) : refWord x y = cmpWordL x y := by
  obtain ⟨x0, x1, x2, x3⟩ := word_parts hx
  obtain ⟨y0, y1, y2, y3⟩ := word_parts hy
  have hx0 : 0 < x.length := List.length_pos_iff.2 x0
  have hy0 : 0 < y.length := List.length_pos_iff.2 y0
  unfold refWord cmpWordL
  rw [x2, y2]
  by_cases h : (x.all digitB && y.all digitB) = true
  · rw [if_pos h, if_pos h]
    simp only [Bool.and_eq_true] at h
    by_cases hl : x.length = y.length
    · rw [if_pos hl, cmp_digits x y h.1 h.2 hl]
    · rw [if_neg hl]
      rcases Nat.lt_or_gt_of_ne hl with hlt | hgt
      · rw [compareInt_lt hlt, compareInt_lt (cmp_shorter h.1 h.2 hx0 hlt (y3 h.2 (by omega)))]
      · rw [compareInt_gt hgt, compareInt_gt (cmp_shorter h.2 h.1 hy0 hgt (x3 h.1 (by omega)))]
  · rw [if_neg h, if_neg h]
theorem cmpWord_self (x : Str) : cmpWordL x x = 0 := by
  unfold cmpWordL
  by_cases h : (numeralL x && numeralL x) = true
  · rw [if_pos h, if_pos rfl, compareBytes_self]
  · rw [if_neg h]
    have h1 : ¬ numeralL x = true := fun e => h (by rw [e]; rfl)
    rw [if_neg h1, if_neg h1, compareBytes_self]
theorem cmpWords_self : ∀ l : List Str, cmpWordsL cmpWordL l l = 0
  | [] => rfl
  | x :: l => by
    unfold cmpWordsL
    rw [if_pos (cmpWord_self x)]
    exact cmpWords_self l
/-- compareEarly where both are there -/
theorem cmpEarly_both {a b : Str} (ha : a ≠ []) (hb : b ≠ []) : cmpEarlyL a b = cmpWordsL cmpWordL (splitC 46 a) (splitC 46 b) := by
  unfold cmpEarlyL
  by_cases h : a = b
  · rw [if_pos h, h, cmpWords_self]
  · rw [if_neg h, if_neg ha, if_neg hb]
theorem cmpEarly_left {a b : Str} (ha : a = []) : cmpEarlyL a b = if b = [] then 0 else 1 := by
  subst ha
  cases b with
  | nil => rfl
  | cons x r => simp [cmpEarlyL]
theorem cmpEarly_right {a b : Str} (ha : a ≠ []) (hb : b = []) : cmpEarlyL a b = -1 := by
  unfold cmpEarlyL
  rw [if_neg (by rw [hb]; exact ha), if_neg ha, if_pos hb]
end Go.Proofs.YtcmceeihdhcmnaaGreatDoor
