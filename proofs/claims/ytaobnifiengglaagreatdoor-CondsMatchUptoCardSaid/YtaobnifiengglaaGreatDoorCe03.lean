/- A region that draws its order: a quiet beginning in a class of worlds, then a tail in one forced order. Plain laws: decimal numbers and their texts; the order of words. Plain laws: the order of words of early versions, and of versions. Contracts of ver.compareWords, compareEarly, Order, Compare. Contracts of cmp.Or[int], ver.Order, Compare. -/
import Derived.Test.YtaobnifiengglaaGreatDoorCe01
import Derived.StillTail
import Derived.Lib.AtoiAll
import Derived.Lib.Small
import Derived.Lib.Bytealg
import Derived.Test.YtaobnifiengglaaGreatDoorCe02

namespace Go.Proofs.YtaobnifiengglaaGreatDoor
open Go.RowKit
section
variable {P : Program} {ops : Array Oper} {md : Region.Mode} {C : World → Prop}

/-- So many operations, each below n and quiet, in whatever order is picked; then L. -/
def anyT (P : Program) (md : Region.Mode) (ops : Array Oper) (C : World → Prop) (n : Nat) (L : Array Bool → Act → Prop) : Nat → Array Bool → Act → Prop
  | 0, listed, a => L listed a
  | f + 1, listed, a => Region.ready md ops listed ≠ [] ∧ ∀ i ∈ Region.ready md ops listed, i < n ∧ qOp P ops C i (anyT P md ops C n L f (listed.setIfInBounds i true)) a

theorem wpAny_of_anyT {n g : Nat} {L : Array Bool → Act → Prop} {Q : Exit → Act → World → Prop} (hL : ∀ listed a w, C w → L listed a → wpAny P md ops Q g listed a w) :
    ∀ (f : Nat) (listed : Array Bool) (a : Act) (w : World), C w → anyT P md ops C n L f listed a → wpAny P md ops Q (f + g) listed a w := by
  intro f
  induction f with
  | zero => intro listed a w hw h; rw [Nat.zero_add]; exact hL _ _ _ hw h
  | succ f ih =>
    intro listed a w hw h
    rw [show f + 1 + g = (f + g) + 1 by omega]
    exact ⟨fun h0 => absurd h0 h.1, fun i hi => wpOp_of_qOp hw (fun a' w' hw' h' => ih _ a' w' hw' h') (h.2 i hi).2⟩

theorem anyT_first {n i : Nat} {oi : Oper} {v : Value} {L : Array Bool → Act → Prop} (hi : ops[i]? = some oi) (hsel : ∀ (j : Nat) (o : Oper) cs b, ops[j]? = some o → o.op ≠ .select cs b)
    (hs : Region.sinkB md ops n = true) (hc : Region.chainB md ops n = true) (hn : n < ops.size) (hin : i < n) (hdone : ∀ listed a, L listed a → ∀ j ∈ Region.ready md ops listed, n ≤ j) :
    ∀ (f : Nat) (listed : Array Bool) (a : Act), HeadInv md ops n listed →
      (∀ j oj, ops[j]? = some oj → j ≠ i → listed.getD j true = false → (∀ e ∈ oj.after, Region.binds md e = true → e.on ≠ i) → oi.apart ops oj = true) →
      i ∈ Region.ready md ops listed → YieldsIn P ops C oi v a →
      anyT P md ops C n L f (listed.setIfInBounds i true) (a.put oi.dst v) → anyT P md ops C n L (f + 1) listed a := by
  intro f
  induction f with
  | zero =>
    intro listed a inv _ hr hy H
    refine ⟨(fun h => by rw [h] at hr; cases hr), fun j hj => ?_⟩
    have hjn : j < n := Nat.lt_of_not_le fun h => tail_waits hs hc hn inv _ i rfl hin (mem_ready.1 hr).1 j h hj
    refine ⟨hjn, ?_⟩
    rcases Nat.decEq j i with hji | hji
    · have := hdone _ _ H j (ready_mono hj hji); omega
    · subst hji; exact hy.qOp hi H
  | succ f ih =>
    intro listed a inv hfree hr hy H
    have hun := (mem_ready.1 hr).1
    refine ⟨(fun h => by rw [h] at hr; cases hr), fun j hj => ?_⟩
    have hjn : j < n := Nat.lt_of_not_le fun h => tail_waits hs hc hn inv _ i rfl hin hun j h hj
    refine ⟨hjn, ?_⟩
    rcases Nat.decEq j i with hji | hji
    · have h1 := (H.2 j (ready_mono hj hji)).2
      obtain ⟨hjun, oj, hoj, hall⟩ := mem_ready.1 hj
      have hnot : ∀ e ∈ oj.after, Region.binds md e = true → e.on ≠ i := fun e he hb heq => by
        have h3 := hall e he hb
        rw [heq, getD_both hun] at h3
        cases h3
      have h2 := qOp_put hoj (hfree j oj hoj hji hjun hnot) (fun cs b => hsel i oi cs b hi) (fun cs b => hsel j oj cs b hoj) hy h1
      refine qOp_mono (fun a' h3 => ih (listed.setIfInBounds j true) a' (inv.set hj hjn) (fun k ok hk hki hku hno => hfree k ok hk hki ?_ hno) (ready_mono hr (Ne.symm hji)) h3.1 ?_) h2
      · rcases Nat.decEq j k with hjk | hjk
        · rw [getD_set_ne true hjk] at hku; exact hku
        · subst hjk; exact hjun
      · rw [Array.setIfInBounds_comm _ _ hji]; exact h3.2
    · subst hji; exact hy.qOp hi H

theorem anyT_lex {n g : Nat} {Lq : Act → Prop} (hsel : Region.noSelect ops = true) (hs : Region.sinkB md ops n = true) (hc : Region.chainB md ops n = true) (hn : n < ops.size) :
    ∀ (l : List Oper) (k : Nat) (listed : Array Bool) (a : Act), (∀ j, j < l.length → l[j]? = ops[k + j]?) → k + l.length = n → HeadInv md ops n listed →
      Region.lexHead md ops g l.length k listed = true → wpQuiet P ops C Lq l a →
      anyT P md ops C n (fun listed' a' => Region.seqB md ops g n listed' = true ∧ Lq a') l.length listed a := by
  intro l
  induction l with
  | nil =>
    intro k listed a _ hk _ hB h
    obtain rfl : k = n := by simpa using hk
    exact ⟨by simpa [Region.lexHead] using hB, h⟩
  | cons o l ih =>
    intro k listed a hl hk inv hB h
    have h0 : ops[k]? = some o := by simpa using (hl 0 (by simp)).symm
    simp only [List.length_cons, Region.lexHead, Bool.and_eq_true] at hB hk
    obtain ⟨⟨hr, hf⟩, hB'⟩ := hB
    have hr' : k ∈ Region.ready md ops listed := by simpa using hr
    have hst : qOp P ops C k (wpQuiet P ops C Lq l) a := by unfold qOp; simp only [h0]; exact h
    obtain ⟨v, hy, hK⟩ := yieldsIn_of_qOp h0 hst
    exact anyT_first h0 (Region.noSelect_spec hsel) hs hc hn (by omega) (fun listed' a' hL => seqB_ready hL.1) l.length listed a inv (Region.free_spec h0 hf) hr' hy
      (ih (k + 1) _ _ (fun j hj => by have := hl (j + 1) (by simp; omega); simpa [Nat.add_assoc, Nat.add_comm 1 j] using this) (by omega) (inv.set hr' (by omega)) hB' hK)

theorem wp_region_tail {id : Nat} {Q : Exit → Act → World → Prop} {a : Act} {w : World} {l : List Oper} (n : Nat) (hm : P.follows .mixedOrders = true) (hB : Region.lexTailB .any l.toArray n = true) (hC : C { w with drawn := w.drawn + 1 })
    (h : wpQuiet P l.toArray C (fun a' => ∀ w', C w' → wpList P l.toArray Q (l.drop n) a' w') (l.take n) a) : (Code.region id l.toArray true).wp P Q a w := by
  simp only [Region.lexTailB, Bool.and_eq_true, decide_eq_true_eq] at hB
  obtain ⟨⟨⟨⟨hsel, hn⟩, hs⟩, hc⟩, hlex⟩ := hB
  have hn' : n < l.length := by simpa using hn
  have htl : (l.take n).length = n := by simp; omega
  have inv0 : HeadInv .any l.toArray n (Array.replicate l.toArray.size false) :=
    ⟨by simp, (fun j oj _ hl => by rw [getD_replicate_false] at hl; cases hl), fun t _ ht => getD_in (by simpa using ht) (getD_replicate_false _ _)⟩
  have H := anyT_lex (md := .any) (C := C) (g := l.toArray.size - n) hsel hs hc hn (l.take n) 0 _ a (fun j hj => by
    rw [htl] at hj
    simp [hj]) (by simpa using htl) inv0 (by rw [htl]; exact hlex) h
  refine wp_region_any hm ?_
  have H2 := wpAny_of_anyT (Q := Q) (g := l.toArray.size - n) (fun listed a' w' hw' hL => by
    have H3 := wpAny_of_seq (md := .any) (Q' := Q) (l.drop n) n listed a' w' (fun j => by simp [List.getElem?_drop]) (by simpa using hL.1) (hL.2 w' hw')
    simpa using H3) _ _ _ _ hC H
  rw [htl, show n + (l.toArray.size - n) = l.toArray.size by omega] at H2
  exact H2
theorem wp_region_ext_tail {id : Nat} {Q : Exit → Act → World → Prop} {a : Act} {w : World} {l : List Oper} (n : Nat) (hm : P.follows .mixedOrders = true) (hB : Region.lexTailB .any l.toArray n = true)
    (h : wpQuiet P l.toArray (Ext w) (fun a' => ∀ w', Ext w w' → wpList P l.toArray Q (l.drop n) a' w') (l.take n) a) : (Code.region id l.toArray true).wp P Q a w :=
  wp_region_tail (C := Ext w) n hm hB ((Ext.refl w).drewN 1) h
end
end Go.Proofs.YtaobnifiengglaaGreatDoor

namespace Go.Proofs.YtaobnifiengglaaGreatDoor

def decVal (l : Str) : Nat := l.foldl (fun a c => a * 10 + (c.toNat - 48)) 0
theorem foldl_dec (l : Str) : ∀ a : Nat, l.foldl (fun a c => a * 10 + (c.toNat - 48)) a = a * 10 ^ l.length + decVal l := by
  induction l with
  | nil => intro a; simp [decVal]
  | cons c l ih =>
    intro a
    have h1 := ih (a * 10 + (c.toNat - 48))
    have h2 := ih (0 * 10 + (c.toNat - 48))
    simp only [List.foldl_cons, List.length_cons, decVal] at h1 h2 ⊢
    rw [h1, h2, Nat.pow_succ, Nat.zero_mul, Nat.zero_add, Nat.add_mul, Nat.mul_assoc, Nat.mul_comm 10, Nat.add_assoc]
theorem decVal_cons (c : UInt8) (l : Str) : decVal (c :: l) = (c.toNat - 48) * 10 ^ l.length + decVal l := by
  have := foldl_dec l (0 * 10 + (c.toNat - 48))
  simp only [Nat.zero_mul, Nat.zero_add] at this
  rw [← this]
  simp [decVal]
theorem digit_bounds {c : UInt8} (h : digitB c = true) : 48 ≤ c.toNat ∧ c.toNat ≤ 57 := by simpa [digitB] using h
theorem decVal_lt : ∀ l : Str, l.all digitB = true → decVal l < 10 ^ l.length
  | [], _ => by simp [decVal]
  | c :: l, h => by
    simp only [List.all_cons, Bool.and_eq_true] at h
    have h1 := decVal_lt l h.2
    have h2 := digit_bounds h.1
    rw [decVal_cons, List.length_cons, Nat.pow_succ]
    have : (c.toNat - 48) * 10 ^ l.length ≤ 9 * 10 ^ l.length := Nat.mul_le_mul_right _ (by omega)
    omega
theorem parse_digits : ∀ (l : Str) (k acc : Nat), l.all digitB = true → acc < 10 ^ k → k + l.length ≤ 18 → Lib.parseUint10 acc l = .ok (acc * 10 ^ l.length + decVal l)
  | [], _, acc, _, _, _ => by simp [Lib.parseUint10, decVal]
  | c :: l, k, acc, h, hk, hl => by
    simp only [List.all_cons, Bool.and_eq_true] at h
    have h2 := digit_bounds h.1
    simp only [List.length_cons] at hl
    have hp : (10 : Nat) ^ k ≤ 10 ^ 17 := Nat.pow_le_pow_right (by decide) (by omega)
    have hp2 : (10 : Nat) ^ 17 = 100000000000000000 := by decide
    have hs : acc * 10 + (c.toNat - 48) < 10 ^ (k + 1) := by rw [Nat.pow_succ]; omega
    unfold Lib.parseUint10
    rw [if_pos h2, if_neg (by omega), if_neg (by omega), parse_digits l (k + 1) _ h.2 hs (by omega), decVal_cons, List.length_cons, Nat.pow_succ]
    rw [Nat.add_mul, Nat.mul_assoc, Nat.mul_comm 10, Nat.add_assoc]
theorem atoi_digits (l : Str) (h : l.all digitB = true) (h0 : 0 < l.length) (hl : l.length ≤ 18) : Lib.atoiAll l = .ok (decVal l) := by
  cases l with
  | nil => simp at h0
  | cons c r =>
    have hc : digitB c = true := by simp only [List.all_cons, Bool.and_eq_true] at h; exact h.1
    have h2 := digit_bounds hc
    have h3 := parse_digits (c :: r) 0 0 h (by decide) (by omega)
    have h4 := decVal_lt (c :: r) h
    have h5 : (10 : Nat) ^ (c :: r).length ≤ 10 ^ 18 := Nat.pow_le_pow_right (by decide) hl
    have h6 : (10 : Nat) ^ 18 = 1000000000000000000 := by decide
    rw [Nat.zero_mul, Nat.zero_add] at h3
    unfold Lib.atoiAll
    simp only [Lib.parseMag]
    have e1 : ¬ (c.toNat = 43 ∨ c.toNat = 45) := by omega
    have e2 : ¬ c.toNat = 45 := by omega
    rw [if_neg e1, if_neg (by simp), h3]
    simp only [e2, not_false_eq_true, true_and, false_and, if_false]
    rw [if_neg (by omega)]

/-! ### itoa -/
end Go.Proofs.YtaobnifiengglaaGreatDoor

namespace Go.Proofs.YtaobnifiengglaaGreatDoor

/-- compareWords -/
def cmpWordL (a b : Str) : Int :=
  if (numeralL a && numeralL b) = true then (if a.length = b.length then Lib.compareBytes a b else Lib.compareInt a.length b.length)
  else if numeralL a = true then -1 else if numeralL b = true then 1 else Lib.compareBytes a b
/-- word by word, then by how many -/
def cmpWordsL (f : Str → Str → Int) : List Str → List Str → Int
  | x :: xs, y :: ys => if f x y = 0 then cmpWordsL f xs ys else f x y
  | xs, ys => Lib.compareInt xs.length ys.length
theorem compareInt_succ (a b : Nat) : Lib.compareInt ((a + 1 : Nat) : Int) ((b + 1 : Nat) : Int) = Lib.compareInt a b := by
  unfold Lib.compareInt
  by_cases h1 : (a : Int) < b
  · rw [if_pos h1, if_pos (by omega)]
  · rw [if_neg h1, if_neg (by omega)]
    by_cases h2 : (a : Int) > b
    · rw [if_pos h2, if_pos (by omega)]
    · rw [if_neg h2, if_neg (by omega)]
theorem cmpWords_end (f : Str → Str → Int) : ∀ (xs ys : List Str), (∀ j (h1 : j < xs.length) (h2 : j < ys.length), f xs[j] ys[j] = 0) → cmpWordsL f xs ys = Lib.compareInt xs.length ys.length
  | [], ys, _ => by cases ys <;> rfl
  | x :: xs, [], _ => rfl
  | x :: xs, y :: ys, h => by
    have h0 : f x y = 0 := h 0 (by simp) (by simp)
    unfold cmpWordsL
    rw [if_pos h0, cmpWords_end f xs ys (fun j h1 h2 => h (j + 1) (by simpa using h1) (by simpa using h2))]
    simp only [List.length_cons]
    rw [compareInt_succ]
theorem cmpWords_at (f : Str → Str → Int) : ∀ (xs ys : List Str) (k : Nat) (h1 : k < xs.length) (h2 : k < ys.length), (∀ j (hj : j < k), f xs[j] ys[j] = 0) → f xs[k] ys[k] ≠ 0 → cmpWordsL f xs ys = f xs[k] ys[k]
  | x :: xs, y :: ys, 0, _, _, _, h => by unfold cmpWordsL; rw [if_neg (by simpa using h)]; rfl
  | x :: xs, y :: ys, k + 1, h1, h2, h0, h => by
    have hz : f x y = 0 := h0 0 (by omega)
    unfold cmpWordsL
    rw [if_pos hz]
    exact cmpWords_at f xs ys k (by simpa using h1) (by simpa using h2) (fun j hj => h0 (j + 1) (by omega)) (by simpa using h)
/-- compareEarly -/
def cmpEarlyL (a b : Str) : Int :=
  if a = b then 0 else if a = [] then 1 else if b = [] then -1 else cmpWordsL cmpWordL (splitC 46 a) (splitC 46 b)
/-- ver.Order -/
def orderL (a1 a2 a3 : Int) (a : Str) (b1 b2 b3 : Int) (b : Str) : Int := firstI [Lib.compareInt a1 b1, Lib.compareInt a2 b2, Lib.compareInt a3 b3, cmpEarlyL a b]
end Go.Proofs.YtaobnifiengglaaGreatDoor

namespace Go.Proofs.YtaobnifiengglaaGreatDoor
open Go.RowKit

set_option maxHeartbeats 400000 in
theorem compareWords_any (a b : ByteArray) (w : World) (ha : a.size ≤ 2097152) (hb : b.size ≤ 2097152) :
    Calls Tryz.prog 232 #[.string a, .string b] w fun e w' => e = .returned (.int .i64 (cmpWordL (bs a) (bs b))) ∧ w = w' := by
  go_enter Tryz.func232, Tryz.ntmps232
  go_wp2_with fail
  refine (isNumeral_any a _ ha).mono ?_
  rintro e w' ⟨rfl, rfl⟩
  go_wp2_with fail
  refine (isNumeral_any b _ hb).mono ?_
  rintro e w' ⟨rfl, rfl⟩
  cases h1 : numeralL (bs a) <;> cases h2 : numeralL (bs b)
  · go_wp2_with fail
    refine (compare_any a b _).mono ?_
    rintro e w' ⟨rfl, rfl⟩
    go_wp2
    go_ret
    exact ⟨ret_int (by rw [cmpWordL, h1, h2]; rfl), rfl⟩
  · go_wp2
    go_ret
    exact ⟨ret_int (by rw [cmpWordL, h1, h2]; rfl), rfl⟩
  · go_wp2
    go_ret
    exact ⟨ret_int (by rw [cmpWordL, h1, h2]; rfl), rfl⟩
  · by_cases h3 : a.size = b.size
    · have h4 : (((a.size : Nat) : Int) != ((b.size : Nat) : Int)) = false := by rw [h3]; simp
      have h5 : (bs a).length = (bs b).length := by rw [bs_length, bs_length, h3]
      have H5 := Lib.hid h5
      clear h3 h5
      go_wp2_with fail
      refine (compare_any a b _).mono ?_
      rintro e w' ⟨rfl, rfl⟩
      go_wp2
      go_ret
      exact ⟨ret_int (by rw [cmpWordL, h1, h2, if_pos (by rfl), if_pos H5.out]), rfl⟩
    · have h4 : (((a.size : Nat) : Int) != ((b.size : Nat) : Int)) = true := by rw [bne_iff_ne]; omega
      have h5 : ¬ (bs a).length = (bs b).length := by rw [bs_length, bs_length]; exact h3
      have H5 := Lib.hid h5
      clear h3 h5
      go_wp2_with fail
      refine (compareInt_any _ _ _).mono ?_
      rintro e w' ⟨rfl, rfl⟩
      go_wp2
      go_ret
      exact ⟨ret_int (by rw [cmpWordL, h1, h2, if_pos (by rfl), if_neg H5.out, bs_length, bs_length]), rfl⟩

theorem map_bs_get {xs : List ByteArray} {k : Nat} (h : k < (xs.map bs).length) : (xs.map bs)[k] = bs (xs[k]'(by simpa using h)) := by simp
theorem cmpWords_all {xs ys : List ByteArray} {X Y : List Str} (hX : xs.map bs = X) (hY : ys.map bs = Y) (h : ∀ j (h1 : j < xs.length) (h2 : j < ys.length), cmpWordL (bs xs[j]) (bs ys[j]) = 0) : cmpWordsL cmpWordL X Y = Lib.compareInt xs.length ys.length := by
  subst hX hY
  rw [cmpWords_end _ _ _ (fun j h1 h2 => by rw [map_bs_get, map_bs_get]; exact h j (by simpa using h1) (by simpa using h2))]
  simp
theorem cmpWords_hit {xs ys : List ByteArray} {X Y : List Str} (hX : xs.map bs = X) (hY : ys.map bs = Y) {k : Nat} (h1 : k < xs.length) (h2 : k < ys.length) (h : ∀ j (hj : j < k), cmpWordL (bs xs[j]) (bs ys[j]) = 0) (hk : cmpWordL (bs xs[k]) (bs ys[k]) ≠ 0) : cmpWordsL cmpWordL X Y = cmpWordL (bs xs[k]) (bs ys[k]) := by
  subst hX hY
  rw [cmpWords_at _ _ _ k (by simpa using h1) (by simpa using h2) (fun j hj => by rw [map_bs_get, map_bs_get]; exact h j hj) (by rw [map_bs_get, map_bs_get]; exact hk), map_bs_get, map_bs_get]
theorem bs_inj {a b : ByteArray} (h : bs a = bs b) : a = b := by rw [← mk_bs a, ← mk_bs b, h]

set_option maxHeartbeats 1000000 in
theorem compareEarly_any (a b : ByteArray) (w : World) (hg : Good w) (ha : a.size ≤ 2097152) (hb : b.size ≤ 2097152) :
    Calls Tryz.prog 172 #[.string a, .string b] w fun e w' => e = .returned (.int .i64 (cmpEarlyL (bs a) (bs b))) ∧ Ext w w' := by
  go_enter Tryz.func172, Tryz.ntmps172
  by_cases hab : a = b
  · subst hab
    have h1 : (a.toList == a.toList) = true := by simp
    go_wp2
    go_ret
    exact ⟨ret_int (by rw [cmpEarlyL, if_pos rfl]), Ext.refl _⟩
  have hne : (a.toList == b.toList) = false := by
    rw [beq_eq_false_iff_ne, ByteArray.toList_eq, ByteArray.toList_eq]
    exact fun e => hab (bs_inj e)
  have hne2 : ¬ bs a = bs b := fun e => hab (bs_inj e)
  have HNE := Lib.hid hne2
  clear hab hne2
  rcases Nat.eq_zero_or_pos a.size with ha0 | ha0
  · have hi := emp_bool ha0
    go_wp2
    go_ret
    exact ⟨ret_int (by rw [cmpEarlyL, if_neg HNE.out, if_pos (bs_nil ha0)]), Ext.refl _⟩
  have hia := nemp_bool ha0
  have hna : ¬ bs a = [] := fun e => by have := bs_length a; rw [e] at this; simp at this; omega
  have HNA := Lib.hid hna
  clear hna
  rcases Nat.eq_zero_or_pos b.size with hb0 | hb0
  · have hi := emp_bool hb0
    go_wp2
    go_ret
    exact ⟨ret_int (by rw [cmpEarlyL, if_neg HNE.out, if_neg HNA.out, if_pos (bs_nil hb0)]), Ext.refl _⟩
  have hib := nemp_bool hb0
  have hnb : ¬ bs b = [] := fun e => by have := bs_length b; rw [e] at this; simp at this; omega
  have HNB := Lib.hid hnb
  clear hnb
  go_wp2_with fail
  refine (split_any 46 a _ hg ha).mono ?_
  rintro e w1 ⟨b1, xs, rfl, hb1, hst1, hxs, hx1⟩
  go_wp2_with fail
  refine (split_any 46 b _ (hg.ext hx1) hb).mono ?_
  rintro e w2 ⟨b2, ys, rfl, hb2, hst2, hys, hx2⟩
  have hl1 := pieces_le hxs
  have hl2 := pieces_le hys
  have HXS := Lib.hid hxs
  have HYS := Lib.hid hys
  clear hxs hys
  have hc1 := (hst1.ext hx2).cell
  have hc2 := hst2.cell
  have HC1 := Lib.hid hc1
  have HC2 := Lib.hid hc2
  have hx := hx1.trans hx2
  clear hc1 hc2 hst1 hst2 hx1 hx2 hb2
  go_wp2
  go_loopw [28] (fun i wr => ∃ k : Nat, i = .int .i64 k ∧ k ≤ xs.length ∧ k ≤ ys.length ∧ (∀ j (h1 : j < xs.length) (h2 : j < ys.length), j < k → cmpWordL (bs xs[j]) (bs ys[j]) = 0) ∧ Ext w2 wr) (fun i _ => xs.length - (intOf i).toNat)
  case atStart => exact ⟨0, rfl, Nat.zero_le _, Nat.zero_le _, fun j _ _ h => absurd h (by omega), Ext.refl _⟩
  case round =>
    obtain ⟨k, rfl, hk1, hk2, hall, hxr⟩ := hrel
    have HALL := Lib.hid hall
    clear hall
    by_cases hlt : k < xs.length ∧ k < ys.length
    · obtain ⟨hlt1, hlt2⟩ := hlt
      have hm : (k : Int) < min (xs.length : Int) (ys.length : Int) := by omega
      have d1 := hxr.cell (HC1.out k hlt1)
      have d2 := hxr.cell (HC2.out k hlt2)
      have q1 := lt_of_cell d1
      have q2 := lt_of_cell d2
      have s1 := piece_le HXS.out hlt1
      have s2 := piece_le HYS.out hlt2
      go_wp2_with fail
      refine wp_region_ext (by kernel_rfl) (by kernel_rfl) ?_
      repeat (first | go_big_quiet_skip | (refine wpQuiet_step (fun K hK => ?_); go_simp; first | (refine hK _ ?_; clear hK K) | (apply Exists.intro; refine ⟨fun wq hwq => ?_, hK _ ?_⟩; (obtain ⟨hqc, hqf⟩ := hwq.cells; have hqs := hwq.size; (try go_simp); first | rfl | ((first | rw [if_neg (by omega)] | rw [if_pos (by omega)]); (try go_simp); rfl) | ((go_at_call 232; refine (compareWords_any xs[k] ys[k] _ (by omega) (by omega)).mono (fun e w'' h => ⟨h.1, h.2 ▸ hwq⟩)))); clear hK K)))
      refine wpQuiet_nil ?_
      intro wN hxN
      obtain ⟨hcN, hfN⟩ := hxN.cells
      have hsN := hxN.size
      by_cases hz : cmpWordL (bs xs[k]) (bs ys[k]) = 0
      · have hz2 : (cmpWordL (bs xs[k]) (bs ys[k]) != 0) = false := by rw [hz]; rfl
        have HZ := Lib.hid hz
        clear hz
        go_wp2
        go_roundw
        case rel =>
          refine ⟨k + 1, by go_num, by omega, by omega, fun j h1 h2 h3 => ?_, hxr.trans hxN⟩
          by_cases hj : j = k
          · subst hj; exact HZ.out
          · exact HALL.out j h1 h2 (by omega)
        case measure => simp [intOf]; omega
      · have hz2 : (cmpWordL (bs xs[k]) (bs ys[k]) != 0) = true := by rw [bne_iff_ne]; exact hz
        have HZ := Lib.hid hz
        clear hz
        go_wp2
        go_ret
        refine ⟨ret_int ?_, (hx.trans hxr).trans hxN⟩
        rw [cmpEarlyL, if_neg HNE.out, if_neg HNA.out, if_neg HNB.out, cmpWords_hit HXS.out HYS.out hlt1 hlt2 (fun j hj => HALL.out j (by omega) (by omega) hj) HZ.out]
    · have hm : ¬ (k : Int) < min (xs.length : Int) (ys.length : Int) := by omega
      have hfin : cmpEarlyL (bs a) (bs b) = Lib.compareInt xs.length ys.length := by
        rw [cmpEarlyL, if_neg HNE.out, if_neg HNA.out, if_neg HNB.out, cmpWords_all HXS.out HYS.out (fun j h1 h2 => HALL.out j h1 h2 (by omega))]
      have HFIN := Lib.hid hfin
      clear hfin
      go_wp2_with fail
      refine (compareInt_any _ _ _).mono ?_
      rintro e w' ⟨rfl, rfl⟩
      go_wp2
      go_ret
      exact ⟨ret_int HFIN.out.symm, hx.trans hxr⟩
end Go.Proofs.YtaobnifiengglaaGreatDoor

namespace Go.Proofs.YtaobnifiengglaaGreatDoor
open Go.RowKit

set_option maxHeartbeats 400000 in
theorem Or_any (b c : Nat) (es : List Int) (w : World) (hc : ∀ k (h : k < es.length), w.cell? ⟨b, k, none⟩ = some (.int .i64 es[k])) (hl : es.length ≤ 1000) :
    Calls Tryz.prog 100 #[.slice (some ⟨b, 0, none⟩) es.length c] w fun e w' => e = .returned (.int .i64 (firstI es)) ∧ w = w' := by
  go_enter Tryz.func100, Tryz.ntmps100
  go_wp2
  go_loop [8] (fun i => ∃ k : Nat, k ≤ es.length ∧ i = .int .i64 k ∧ ∀ x ∈ es.take k, x = 0) (fun i => es.length - (intOf i).toNat)
  case atStart => exact ⟨0, Nat.zero_le _, rfl, by simp⟩
  case round =>
    obtain ⟨k, hk, rfl, hall⟩ := hrel
    have HALL := Lib.hid hall
    clear hall
    by_cases hlt : k < es.length
    · have hk1 := hc k hlt
      have HC := Lib.hid hc
      clear hc
      by_cases h0 : es[k] = 0
      · have H0 := Lib.hid h0
        rw [h0] at hk1
        clear h0
        go_wp2
        go_round
        case rel => exact ⟨k + 1, by omega, by go_num, take_zero_succ hlt HALL.out H0.out⟩
        case measure => simp [intOf]; omega
      · have h1 : (es[k] != 0) = true := by rw [bne_iff_ne]; exact h0
        go_wp2
        go_ret
        exact ⟨ret_int (firstI_at hlt HALL.out h0).symm, rfl⟩
    · obtain rfl : k = es.length := by omega
      have HC := Lib.hid hc
      clear hc
      go_wp2
      go_ret
      exact ⟨ret_int (firstI_zero (by simpa using HALL.out)).symm, rfl⟩

set_option maxHeartbeats 2000000 in
theorem Order_any (a1 a2 a3 b1 b2 b3 : Int) (a b : ByteArray) (w : World) (hg : Good w) (ha : a.size ≤ 2097152) (hb : b.size ≤ 2097152) :
    Calls Tryz.prog 90 #[.agg #[.int .i64 a1, .int .i64 a2, .int .i64 a3, .string a], .agg #[.int .i64 b1, .int .i64 b2, .int .i64 b3, .string b]] w
      fun e w' => e = .returned (.int .i64 (orderL a1 a2 a3 (bs a) b1 b2 b3 (bs b))) ∧ Ext w w' := by
  go_enter Tryz.func90, Tryz.ntmps90
  go_wp2_with fail
  refine wp_region_ext_tail 20 (by kernel_rfl) (by kernel_rfl) ?_
  simp only [List.take_succ_cons, List.take_zero, List.drop_succ_cons, List.drop_zero]
  repeat (first | go_big_quiet_skip | (refine wpQuiet_step (fun K hK => ?_); go_simp; first | (refine hK _ ?_; clear hK K) | (apply Exists.intro; refine ⟨fun wq hwq => ?_, hK _ ?_⟩; (obtain ⟨hqc, hqf⟩ := hwq.cells; have hqs := hwq.size; (try go_simp); first | rfl | ((first | rw [if_neg (by omega)] | rw [if_pos (by omega)]); (try go_simp); rfl) | ((first | (go_at_call 101; exact (compareInt_any _ _ _).mono (fun e w'' h => ⟨h.1, h.2 ▸ hwq⟩)) | (go_at_call 172; exact (compareEarly_any a b _ (hg.ext (Ext.trans (by repeat (first | with_reducible exact Ext.refl _ | with_reducible assumption | with_reducible apply Ext.drewN | with_reducible apply Ext.drew | with_reducible apply Ext.alloc | exact Ext.refl _ | assumption | apply Ext.drewN | apply Ext.drew | apply Ext.alloc)) hwq)) ha hb).mono (fun e w'' h => ⟨h.1, hwq.trans h.2⟩))))); clear hK K)))
  refine wpQuiet_nil ?_
  intro wN hxN
  obtain ⟨hcN, hfN⟩ := hxN.cells
  have hsN := hxN.size
  go_wp2_with fail
  refine (Or_any _ _ [Lib.compareInt a1 b1, Lib.compareInt a2 b2, Lib.compareInt a3 b3, cmpEarlyL (bs a) (bs b)] _ ?_ (by simp)).mono ?_
  · intro k hk
    rw [World.cell?_alloc_at _ _ _ _ rfl]
    match k, hk with
    | 0, _ => rfl
    | 1, _ => rfl
    | 2, _ => rfl
    | 3, _ => rfl
  rintro e w' ⟨rfl, rfl⟩
  go_wp2
  go_ret
  exact ⟨rfl, (Ext.trans (by repeat (first | with_reducible exact Ext.refl _ | with_reducible assumption | with_reducible apply Ext.drewN | with_reducible apply Ext.drew | with_reducible apply Ext.alloc | exact Ext.refl _ | assumption | apply Ext.drewN | apply Ext.drew | apply Ext.alloc)) hxN).alloc _⟩

/-- A version in memory, at the head of a block. -/
structure Ver4 (w : World) (g : Nat) (a1 a2 a3 : Int) (a : ByteArray) : Prop where
  c0 : w.cell? ⟨g, 0, none⟩ = some (.int .i64 a1)
  c1 : w.cell? ⟨g, 1, none⟩ = some (.int .i64 a2)
  c2 : w.cell? ⟨g, 2, none⟩ = some (.int .i64 a3)
  c3 : w.cell? ⟨g, 3, none⟩ = some (.string a)
theorem Ver4.ext {w w' : World} {g : Nat} {a1 a2 a3 : Int} {a : ByteArray} (h : Ver4 w g a1 a2 a3 a) (hx : Ext w w') : Ver4 w' g a1 a2 a3 a := ⟨hx.cell h.c0, hx.cell h.c1, hx.cell h.c2, hx.cell h.c3⟩
theorem Ver4.lt {w : World} {g : Nat} {a1 a2 a3 : Int} {a : ByteArray} (h : Ver4 w g a1 a2 a3 a) : g < w.heap.size := lt_of_cell h.c0

end Go.Proofs.YtaobnifiengglaaGreatDoor
