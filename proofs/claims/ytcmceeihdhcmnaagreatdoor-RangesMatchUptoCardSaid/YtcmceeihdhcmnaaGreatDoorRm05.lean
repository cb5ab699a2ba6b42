/- Plain laws: decimal numbers and their texts; the order of words. Plain laws: the order of words of early versions, and of versions. Contracts of ver.compareWords, compareEarly, Order, Compare. -/
import Derived.Test.YtcmceeihdhcmnaaGreatDoorRm02
import Derived.Lib.AtoiAll
import Derived.Lib.Small
import Derived.Lib.Bytealg
import Derived.Test.YtcmceeihdhcmnaaGreatDoorRm04

namespace Go.Proofs.YtcmceeihdhcmnaaGreatDoor

def decVal (l : Str) : Nat := l.foldl (fun a c => a * 10 + (c.toNat - 48)) 0
theorem foldl_dec (l : Str) : ∀ a : Nat, l.foldl (fun a c => a * 10 + (c.toNat - 48)) a = a * 10 ^ l.length + decVal l := by
  induction l with
  | nil => intro a; simp [decVal]
  | cons c l ih =>
    intro a
    have h1 := ih (a * 10 + (c.toNat - 48))
    have h2 := ih (0 * 10 + (c.toNat - 48))
    simp only [List.foldl_cons, List.length_cons, decVal] at h1 h2 ⊢
    rw [h1, h2, Nat.pow_succ, Nat.zero_mul, Nat.zero_add, Nat.add_mul, Nat.mul_assoc, Nat.mul_comm 10, Nat.add_assoc]
theorem decVal_cons (c : UInt8) (l : Str) : decVal (c :: l) = (c.toNat - 48) * 10 ^ l.length + decVal l := by
  have := foldl_dec l (0 * 10 + (c.toNat - 48))
  simp only [Nat.zero_mul, Nat.zero_add] at this
  rw [← this]
  simp [decVal]
theorem decVal_snoc (l : Str) (c : UInt8) : decVal (l ++ [c]) = decVal l * 10 + (c.toNat - 48) := by simp [decVal]
theorem digit_bounds {c : UInt8} (h : digitB c = true) : 48 ≤ c.toNat ∧ c.toNat ≤ 57 := by simpa [digitB] using h
theorem decVal_lt : ∀ l : Str, l.all digitB = true → decVal l < 10 ^ l.length
  | [], _ => by simp [decVal]
  | c :: l, h => by
    simp only [List.all_cons, Bool.and_eq_true] at h
    have h1 := decVal_lt l h.2
    have h2 := digit_bounds h.1
    rw [decVal_cons, List.length_cons, Nat.pow_succ]
    have : (c.toNat - 48) * 10 ^ l.length ≤ 9 * 10 ^ l.length := Nat.mul_le_mul_right _ (by omega)
    omega
theorem parse_digits : ∀ (l : Str) (k acc : Nat), l.all digitB = true → acc < 10 ^ k → k + l.length ≤ 18 → Lib.parseUint10 acc l = .ok (acc * 10 ^ l.length + decVal l)
  | [], _, acc, _, _, _ => by simp [Lib.parseUint10, decVal]
  | c :: l, k, acc, h, hk, hl => by
    simp only [List.all_cons, Bool.and_eq_true] at h
    have h2 := digit_bounds h.1
    simp only [List.length_cons] at hl
    have hp : (10 : Nat) ^ k ≤ 10 ^ 17 := Nat.pow_le_pow_right (by decide) (by omega)
    have hp2 : (10 : Nat) ^ 17 = 100000000000000000 := by decide
    have hs : acc * 10 + (c.toNat - 48) < 10 ^ (k + 1) := by rw [Nat.pow_succ]; omega
    unfold Lib.parseUint10
    rw [if_pos h2, if_neg (by omega), if_neg (by omega), parse_digits l (k + 1) _ h.2 hs (by omega), decVal_cons, List.length_cons, Nat.pow_succ]
    rw [Nat.add_mul, Nat.mul_assoc, Nat.mul_comm 10, Nat.add_assoc]
theorem atoi_digits (l : Str) (h : l.all digitB = true) (h0 : 0 < l.length) (hl : l.length ≤ 18) : Lib.atoiAll l = .ok (decVal l) := by
  cases l with
  | nil => simp at h0
  | cons c r =>
    have hc : digitB c = true := by simp only [List.all_cons, Bool.and_eq_true] at h; exact h.1
    have h2 := digit_bounds hc
    have h3 := parse_digits (c :: r) 0 0 h (by decide) (by omega)
    have h4 := decVal_lt (c :: r) h
    have h5 : (10 : Nat) ^ (c :: r).length ≤ 10 ^ 18 := Nat.pow_le_pow_right (by decide) hl
    have h6 : (10 : Nat) ^ 18 = 1000000000000000000 := by decide
    rw [Nat.zero_mul, Nat.zero_add] at h3
    unfold Lib.atoiAll
    simp only [Lib.parseMag]
    have e1 : ¬ (c.toNat = 43 ∨ c.toNat = 45) := by omega
    have e2 : ¬ c.toNat = 45 := by omega
    rw [if_neg e1, if_neg (by simp), h3]
    simp only [e2, not_false_eq_true, true_and, false_and, if_false]
    rw [if_neg (by omega)]

/-! ### itoa -/
theorem decDigits_all (u : Nat) : (Lib.decDigits u).all digitB = true ∧ decVal (Lib.decDigits u) = u := by
  induction u using Nat.strongRecOn with
  | _ u ih =>
    have one : ∀ d : Nat, d < 10 → digitB (UInt8.ofNat (48 + d)) = true ∧ (UInt8.ofNat (48 + d)).toNat - 48 = d := fun d hd => by
      have : (UInt8.ofNat (48 + d)).toNat = 48 + d := by rw [UInt8.toNat_ofNat']; omega
      exact ⟨by simp [digitB]; omega, by omega⟩
    by_cases h : u < 10
    · rw [Lib.decDigits, dif_pos h]
      obtain ⟨a, b⟩ := one u h
      exact ⟨by rw [List.all_cons, a]; rfl, by rw [decVal_cons, b]; simp [decVal]⟩
    · obtain ⟨a, b⟩ := ih (u / 10) (by omega)
      obtain ⟨c, d⟩ := one (u % 10) (by omega)
      rw [Lib.decDigits, dif_neg h]
      refine ⟨by rw [List.all_append, a, List.all_cons, c]; rfl, ?_⟩
      rw [decVal_snoc, b, d]
      omega
theorem nDigits_le : ∀ (k u : Nat), u < 10 ^ (k + 1) → Lib.nDigits u ≤ k + 1
  | 0, u, h => by rw [Lib.nDigits_small (by simpa using h)]; exact Nat.le_refl _
  | k + 1, u, h => by
    by_cases hu : u < 10
    · rw [Lib.nDigits_small hu]; omega
    · rw [Nat.pow_succ] at h
      have := nDigits_le k (u / 10) (by omega)
      rw [Lib.nDigits_big hu]; omega
theorem decDigits_len (u k : Nat) (h : u < 10 ^ (k + 1)) : 0 < (Lib.decDigits u).length ∧ (Lib.decDigits u).length ≤ k + 1 := by
  rw [Lib.decDigits_length]
  exact ⟨Lib.nDigits_pos u, nDigits_le k u h⟩
theorem decDigits_head (u : Nat) : (Lib.decDigits u).headD 0 = 48 → u = 0 := by
  induction u using Nat.strongRecOn with
  | _ u ih =>
    by_cases h : u < 10
    · rw [Lib.decDigits, dif_pos h]
      intro e
      have e1 : UInt8.ofNat (48 + u) = 48 := e
      have := congrArg UInt8.toNat e1
      rw [UInt8.toNat_ofNat'] at this
      have h2 : (48 : UInt8).toNat = 48 := rfl
      omega
    · rw [Lib.decDigits, dif_neg h]
      intro e
      have hn : Lib.decDigits (u / 10) ≠ [] := by
        have := Lib.nDigits_pos (u / 10)
        rw [← Lib.decDigits_length] at this
        exact List.length_pos_iff.1 this
      have e2 : (Lib.decDigits (u / 10)).headD 0 = 48 := by
        cases hd : Lib.decDigits (u / 10) with
        | nil => exact absurd hd hn
        | cons x r => rw [hd] at e; simpa using e
      have := ih (u / 10) (by omega) e2
      omega
end Go.Proofs.YtcmceeihdhcmnaaGreatDoor

namespace Go.Proofs.YtcmceeihdhcmnaaGreatDoor

/-- compareWords -/
def cmpWordL (a b : Str) : Int :=
  if (numeralL a && numeralL b) = true then (if a.length = b.length then Lib.compareBytes a b else Lib.compareInt a.length b.length)
  else if numeralL a = true then -1 else if numeralL b = true then 1 else Lib.compareBytes a b
/-- word by word, then by how many -/
def cmpWordsL (f : Str → Str → Int) : List Str → List Str → Int
  | x :: xs, y :: ys => if f x y = 0 then cmpWordsL f xs ys else f x y
  | xs, ys => Lib.compareInt xs.length ys.length
theorem compareInt_succ (a b : Nat) : Lib.compareInt ((a + 1 : Nat) : Int) ((b + 1 : Nat) : Int) = Lib.compareInt a b := by
  unfold Lib.compareInt
  by_cases h1 : (a : Int) < b
  · rw [if_pos h1, if_pos (by omega)]
  · rw [if_neg h1, if_neg (by omega)]
    by_cases h2 : (a : Int) > b
    · rw [if_pos h2, if_pos (by omega)]
    · rw [if_neg h2, if_neg (by omega)]
theorem cmpWords_end (f : Str → Str → Int) : ∀ (xs ys : List Str), (∀ j (h1 : j < xs.length) (h2 : j < ys.length), f xs[j] ys[j] = 0) → cmpWordsL f xs ys = Lib.compareInt xs.length ys.length
  | [], ys, _ => by cases ys <;> rfl
  | x :: xs, [], _ => rfl
  | x :: xs, y :: ys, h => by
    have h0 : f x y = 0 := h 0 (by simp) (by simp)
    unfold cmpWordsL
    rw [if_pos h0, cmpWords_end f xs ys (fun j h1 h2 => h (j + 1) (by simpa using h1) (by simpa using h2))]
    simp only [List.length_cons]
    rw [compareInt_succ]
theorem cmpWords_at (f : Str → Str → Int) : ∀ (xs ys : List Str) (k : Nat) (h1 : k < xs.length) (h2 : k < ys.length), (∀ j (hj : j < k), f xs[j] ys[j] = 0) → f xs[k] ys[k] ≠ 0 → cmpWordsL f xs ys = f xs[k] ys[k]
  | x :: xs, y :: ys, 0, _, _, _, h => by unfold cmpWordsL; rw [if_neg (by simpa using h)]; rfl
  | x :: xs, y :: ys, k + 1, h1, h2, h0, h => by
    have hz : f x y = 0 := h0 0 (by omega)
    unfold cmpWordsL
    rw [if_pos hz]
    exact cmpWords_at f xs ys k (by simpa using h1) (by simpa using h2) (fun j hj => h0 (j + 1) (by omega)) (by simpa using h)
/-- compareEarly -/
def cmpEarlyL (a b : Str) : Int :=
  if a = b then 0 else if a = [] then 1 else if b = [] then -1 else cmpWordsL cmpWordL (splitC 46 a) (splitC 46 b)
/-- ver.Order -/
def orderL (a1 a2 a3 : Int) (a : Str) (b1 b2 b3 : Int) (b : Str) : Int := firstI [Lib.compareInt a1 b1, Lib.compareInt a2 b2, Lib.compareInt a3 b3, cmpEarlyL a b]
end Go.Proofs.YtcmceeihdhcmnaaGreatDoor

namespace Go.Proofs.YtcmceeihdhcmnaaGreatDoor
open Go.RowKit

set_option maxHeartbeats 400000 in
theorem compareWords_any (a b : ByteArray) (w : World) (ha : a.size ≤ 2097152) (hb : b.size ≤ 2097152) :
    Calls Tryz.prog 187 #[.string a, .string b] w fun e w' => e = .returned (.int .i64 (cmpWordL (bs a) (bs b))) ∧ w = w' := by
  go_enter Tryz.func187, Tryz.ntmps187
  go_wp2_with fail
  refine (isNumeral_any a _ ha).mono ?_
  rintro e w' ⟨rfl, rfl⟩
  go_wp2_with fail
  refine (isNumeral_any b _ hb).mono ?_
  rintro e w' ⟨rfl, rfl⟩
  cases h1 : numeralL (bs a) <;> cases h2 : numeralL (bs b)
  · go_wp2_with fail
    refine (compare_any a b _).mono ?_
    rintro e w' ⟨rfl, rfl⟩
    go_wp2
    go_ret
    exact ⟨ret_int (by rw [cmpWordL, h1, h2]; rfl), rfl⟩
  · go_wp2
    go_ret
    exact ⟨ret_int (by rw [cmpWordL, h1, h2]; rfl), rfl⟩
  · go_wp2
    go_ret
    exact ⟨ret_int (by rw [cmpWordL, h1, h2]; rfl), rfl⟩
  · by_cases h3 : a.size = b.size
    · have h4 : (((a.size : Nat) : Int) != ((b.size : Nat) : Int)) = false := by rw [h3]; simp
      have h5 : (bs a).length = (bs b).length := by rw [bs_length, bs_length, h3]
      have H5 := Lib.hid h5
      clear h3 h5
      go_wp2_with fail
      refine (compare_any a b _).mono ?_
      rintro e w' ⟨rfl, rfl⟩
      go_wp2
      go_ret
      exact ⟨ret_int (by rw [cmpWordL, h1, h2, if_pos (by rfl), if_pos H5.out]), rfl⟩
    · have h4 : (((a.size : Nat) : Int) != ((b.size : Nat) : Int)) = true := by rw [bne_iff_ne]; omega
      have h5 : ¬ (bs a).length = (bs b).length := by rw [bs_length, bs_length]; exact h3
      have H5 := Lib.hid h5
      clear h3 h5
      go_wp2_with fail
      refine (compareInt_any _ _ _).mono ?_
      rintro e w' ⟨rfl, rfl⟩
      go_wp2
      go_ret
      exact ⟨ret_int (by rw [cmpWordL, h1, h2, if_pos (by rfl), if_neg H5.out, bs_length, bs_length]), rfl⟩

theorem map_bs_get {xs : List ByteArray} {k : Nat} (h : k < (xs.map bs).length) : (xs.map bs)[k] = bs (xs[k]'(by simpa using h)) := by simp
theorem cmpWords_all {xs ys : List ByteArray} {X Y : List Str} (hX : xs.map bs = X) (hY : ys.map bs = Y) (h : ∀ j (h1 : j < xs.length) (h2 : j < ys.length), cmpWordL (bs xs[j]) (bs ys[j]) = 0) : cmpWordsL cmpWordL X Y = Lib.compareInt xs.length ys.length := by
  subst hX hY
  rw [cmpWords_end _ _ _ (fun j h1 h2 => by rw [map_bs_get, map_bs_get]; exact h j (by simpa using h1) (by simpa using h2))]
  simp
theorem cmpWords_hit {xs ys : List ByteArray} {X Y : List Str} (hX : xs.map bs = X) (hY : ys.map bs = Y) {k : Nat} (h1 : k < xs.length) (h2 : k < ys.length) (h : ∀ j (hj : j < k), cmpWordL (bs xs[j]) (bs ys[j]) = 0) (hk : cmpWordL (bs xs[k]) (bs ys[k]) ≠ 0) : cmpWordsL cmpWordL X Y = cmpWordL (bs xs[k]) (bs ys[k]) := by
  subst hX hY
  rw [cmpWords_at _ _ _ k (by simpa using h1) (by simpa using h2) (fun j hj => by rw [map_bs_get, map_bs_get]; exact h j hj) (by rw [map_bs_get, map_bs_get]; exact hk), map_bs_get, map_bs_get]
theorem bs_inj {a b : ByteArray} (h : bs a = bs b) : a = b := by rw [← mk_bs a, ← mk_bs b, h]

set_option maxHeartbeats 1000000 in
theorem compareEarly_any (a b : ByteArray) (w : World) (hg : Good w) (ha : a.size ≤ 2097152) (hb : b.size ≤ 2097152) :
    Calls Tryz.prog 130 #[.string a, .string b] w fun e w' => e = .returned (.int .i64 (cmpEarlyL (bs a) (bs b))) ∧ Ext w w' := by
  go_enter Tryz.func130, Tryz.ntmps130
  by_cases hab : a = b
  · subst hab
    have h1 : (a.toList == a.toList) = true := by simp
    go_wp2
    go_ret
    exact ⟨ret_int (by rw [cmpEarlyL, if_pos rfl]), Ext.refl _⟩
  have hne : (a.toList == b.toList) = false := by
    rw [beq_eq_false_iff_ne, ByteArray.toList_eq, ByteArray.toList_eq]
    exact fun e => hab (bs_inj e)
  have hne2 : ¬ bs a = bs b := fun e => hab (bs_inj e)
  have HNE := Lib.hid hne2
  clear hab hne2
  rcases Nat.eq_zero_or_pos a.size with ha0 | ha0
  · have hi := emp_bool ha0
    go_wp2
    go_ret
    exact ⟨ret_int (by rw [cmpEarlyL, if_neg HNE.out, if_pos (bs_nil ha0)]), Ext.refl _⟩
  have hia := nemp_bool ha0
  have hna : ¬ bs a = [] := fun e => by have := bs_length a; rw [e] at this; simp at this; omega
  have HNA := Lib.hid hna
  clear hna
  rcases Nat.eq_zero_or_pos b.size with hb0 | hb0
  · have hi := emp_bool hb0
    go_wp2
    go_ret
    exact ⟨ret_int (by rw [cmpEarlyL, if_neg HNE.out, if_neg HNA.out, if_pos (bs_nil hb0)]), Ext.refl _⟩
  have hib := nemp_bool hb0
  have hnb : ¬ bs b = [] := fun e => by have := bs_length b; rw [e] at this; simp at this; omega
  have HNB := Lib.hid hnb
  clear hnb
  go_wp2_with fail
  refine (split_any 46 a _ hg ha).mono ?_
  rintro e w1 ⟨b1, xs, rfl, hb1, hst1, hxs, hx1⟩
  go_wp2_with fail
  refine (split_any 46 b _ (hg.ext hx1) hb).mono ?_
  rintro e w2 ⟨b2, ys, rfl, hb2, hst2, hys, hx2⟩
  have hl1 := pieces_le hxs
  have hl2 := pieces_le hys
  have HXS := Lib.hid hxs
  have HYS := Lib.hid hys
  clear hxs hys
  have hc1 := (hst1.ext hx2).cell
  have hc2 := hst2.cell
  have HC1 := Lib.hid hc1
  have HC2 := Lib.hid hc2
  have hx := hx1.trans hx2
  clear hc1 hc2 hst1 hst2 hx1 hx2 hb2
  go_wp2
  go_loopw [28] (fun i wr => ∃ k : Nat, i = .int .i64 k ∧ k ≤ xs.length ∧ k ≤ ys.length ∧ (∀ j (h1 : j < xs.length) (h2 : j < ys.length), j < k → cmpWordL (bs xs[j]) (bs ys[j]) = 0) ∧ Ext w2 wr) (fun i _ => xs.length - (intOf i).toNat)
  case atStart => exact ⟨0, rfl, Nat.zero_le _, Nat.zero_le _, fun j _ _ h => absurd h (by omega), Ext.refl _⟩
  case round =>
    obtain ⟨k, rfl, hk1, hk2, hall, hxr⟩ := hrel
    have HALL := Lib.hid hall
    clear hall
    by_cases hlt : k < xs.length ∧ k < ys.length
    · obtain ⟨hlt1, hlt2⟩ := hlt
      have hm : (k : Int) < min (xs.length : Int) (ys.length : Int) := by omega
      have d1 := hxr.cell (HC1.out k hlt1)
      have d2 := hxr.cell (HC2.out k hlt2)
      have q1 := lt_of_cell d1
      have q2 := lt_of_cell d2
      have s1 := piece_le HXS.out hlt1
      have s2 := piece_le HYS.out hlt2
      go_wp2_with fail
      refine wp_region_ext (by kernel_rfl) (by kernel_rfl) ?_
      repeat (first | go_big_quiet_skip | (refine wpQuiet_step (fun K hK => ?_); go_simp; first | (refine hK _ ?_; clear hK K) | (apply Exists.intro; refine ⟨fun wq hwq => ?_, hK _ ?_⟩; (obtain ⟨hqc, hqf⟩ := hwq.cells; have hqs := hwq.size; (try go_simp); first | rfl | ((first | rw [if_neg (by omega)] | rw [if_pos (by omega)]); (try go_simp); rfl) | ((go_at_call 187; refine (compareWords_any xs[k] ys[k] _ (by omega) (by omega)).mono (fun e w'' h => ⟨h.1, h.2 ▸ hwq⟩)))); clear hK K)))
      refine wpQuiet_nil ?_
      intro wN hxN
      obtain ⟨hcN, hfN⟩ := hxN.cells
      have hsN := hxN.size
      by_cases hz : cmpWordL (bs xs[k]) (bs ys[k]) = 0
      · have hz2 : (cmpWordL (bs xs[k]) (bs ys[k]) != 0) = false := by rw [hz]; rfl
        have HZ := Lib.hid hz
        clear hz
        go_wp2
        go_roundw
        case rel =>
          refine ⟨k + 1, by go_num, by omega, by omega, fun j h1 h2 h3 => ?_, hxr.trans hxN⟩
          by_cases hj : j = k
          · subst hj; exact HZ.out
          · exact HALL.out j h1 h2 (by omega)
        case measure => simp [intOf]; omega
      · have hz2 : (cmpWordL (bs xs[k]) (bs ys[k]) != 0) = true := by rw [bne_iff_ne]; exact hz
        have HZ := Lib.hid hz
        clear hz
        go_wp2
        go_ret
        refine ⟨ret_int ?_, (hx.trans hxr).trans hxN⟩
        rw [cmpEarlyL, if_neg HNE.out, if_neg HNA.out, if_neg HNB.out, cmpWords_hit HXS.out HYS.out hlt1 hlt2 (fun j hj => HALL.out j (by omega) (by omega) hj) HZ.out]
    · have hm : ¬ (k : Int) < min (xs.length : Int) (ys.length : Int) := by omega
      have hfin : cmpEarlyL (bs a) (bs b) = Lib.compareInt xs.length ys.length := by
        rw [cmpEarlyL, if_neg HNE.out, if_neg HNA.out, if_neg HNB.out, cmpWords_all HXS.out HYS.out (fun j h1 h2 => HALL.out j h1 h2 (by omega))]
      have HFIN := Lib.hid hfin
      clear hfin
      go_wp2_with fail
      refine (compareInt_any _ _ _).mono ?_
      rintro e w' ⟨rfl, rfl⟩
      go_wp2
      go_ret
      exact ⟨ret_int HFIN.out.symm, hx.trans hxr⟩
end Go.Proofs.YtcmceeihdhcmnaaGreatDoor
