/- Plain law: the reference's order of words is the program's. Contract of outref2.CompareOf, at right versions. Contract of outref2.NextOf. Plain law: ver.Parse reads what ver.Print writes. What the proofs of all rows of this seat share: the package variables out of the row's list, arguments that stay as they were, the row's last step behind a world that has only grown. -/
import Derived.Test.YtghhjlcbcojcnaaGreatDoorMt02
import Derived.Test.YtghhjlcbcojcnaaGreatDoorMt06
import Derived.Test.YtghhjlcbcojcnaaGreatDoorMt03
import Derived.Deep.RegionHeld3
import Derived.Test.YtghhjlcbcojcnaaGreatDoorMt04
import Derived.Test.YtghhjlcbcojcnaaGreatDoorMt05
import Derived.Test.YtghhjlcbcojcnaaGreatDoorCards
import Derived.Test.YtghhjlcbcojcnaaGreatDoorTie
import Derived.Test.YtghhjlcbcojcnaaGreatDoorMt01
import Derived.ProofKit
import Derived.OpenShut
import Derived.Deep.DeepHandedRow
import Derived.Deep.DeepWitnessRowRef
import Derived.Lib.LaidTab
import Derived.Lib.LaidIn
import Derived.Lib.SmallJoins
import Derived.Stop.LaidErr
import Derived.LaidSub
import Derived.SizedLaws

namespace Go.Proofs.YtghhjlcbcojcnaaGreatDoor

theorem compareInt_lt {a b : Nat} (h : a < b) : Lib.compareInt a b = -1 := by unfold Lib.compareInt; rw [if_pos (by omega)]
theorem compareInt_gt {a b : Nat} (h : b < a) : Lib.compareInt a b = 1 := by unfold Lib.compareInt; rw [if_neg (by omega), if_pos (by omega)]
theorem compareInt_self (a : Nat) : Lib.compareInt a a = 0 := by unfold Lib.compareInt; rw [if_neg (by omega), if_neg (by omega)]
theorem compareBytes_self : ∀ l : Str, Lib.compareBytes l l = 0
  | [] => rfl
  | a :: l => by
    unfold Lib.compareBytes
    rw [if_neg (by simp), if_neg (by simp)]
    exact compareBytes_self l
/-- digits of one length are as their numbers -/
theorem cmp_digits : ∀ (x y : Str), x.all digitB = true → y.all digitB = true → x.length = y.length → Lib.compareBytes x y = Lib.compareInt (decVal x) (decVal y)
  | [], [], _, _, _ => rfl
  | a :: x, b :: y, hx, hy, hl => by
    simp only [List.all_cons, Bool.and_eq_true] at hx hy
    simp only [List.length_cons, Nat.add_right_cancel_iff] at hl
    have ha := digit_bounds hx.1
    have hb := digit_bounds hy.1
    have lx := decVal_lt x hx.2
    have ly := decVal_lt y hy.2
    rw [decVal_cons, decVal_cons]
    unfold Lib.compareBytes
    by_cases h1 : a < b
    · rw [if_pos h1]
      have h2 : a.toNat < b.toNat := UInt8.lt_iff_toNat_lt.1 h1
      have h3 : (a.toNat - 48 + 1) * 10 ^ x.length ≤ (b.toNat - 48) * 10 ^ y.length := by rw [← hl]; exact Nat.mul_le_mul_right _ (by omega)
      rw [Nat.add_mul, Nat.one_mul] at h3
      rw [compareInt_lt (by omega)]
    · rw [if_neg h1]
      by_cases h2 : b < a
      · rw [if_pos h2]
        have h2' : b.toNat < a.toNat := UInt8.lt_iff_toNat_lt.1 h2
        have h3 : (b.toNat - 48 + 1) * 10 ^ y.length ≤ (a.toNat - 48) * 10 ^ x.length := by rw [← hl]; exact Nat.mul_le_mul_right _ (by omega)
        rw [Nat.add_mul, Nat.one_mul] at h3
        rw [compareInt_gt (by omega)]
      · rw [if_neg h2, cmp_digits x y hx.2 hy.2 hl]
        have h3 : a = b := by
          apply UInt8.toNat_inj.1
          rw [UInt8.lt_iff_toNat_lt] at h1 h2
          omega
        subst h3
        rw [hl]
        generalize (a.toNat - 48) * 10 ^ y.length = m
        rcases Nat.lt_trichotomy (decVal x) (decVal y) with g | g | g
        · rw [compareInt_lt g, compareInt_lt (by omega)]
        · rw [g, compareInt_self, compareInt_self]
        · rw [compareInt_gt g, compareInt_gt (by omega)]
/-- a number without a 0 ahead is as great as its length says -/
theorem decVal_ge : ∀ (y : Str), y.all digitB = true → 1 < y.length → y.headD 0 ≠ 48 → 10 ^ (y.length - 1) ≤ decVal y
  | [], _, h, _ => by simp at h
  | b :: y, h, hl, h0 => by
    simp only [List.all_cons, Bool.and_eq_true] at h
    have hb := digit_bounds h.1
    have h1 : b.toNat ≠ 48 := fun e => h0 (UInt8.toNat_inj.1 e)
    rw [decVal_cons]
    have : 1 * 10 ^ y.length ≤ (b.toNat - 48) * 10 ^ y.length := Nat.mul_le_mul_right _ (by omega)
    simp only [List.length_cons, Nat.add_sub_cancel]
    omega
/-- the reference's order of two words -/
def refWord (x y : Str) : Int :=
  if (x.all digitB && y.all digitB) = true then Lib.compareInt (decVal x) (decVal y) else if x.all digitB = true then -1 else if y.all digitB = true then 1 else Lib.compareBytes x y
theorem word_parts {x : Str} (h : earlyWordL x = true) : x ≠ [] ∧ x.length ≤ 10 ∧ numeralL x = x.all digitB ∧ (x.all digitB = true → 1 < x.length → x.headD 0 ≠ 48) := by
  rw [earlyWord_eq] at h
  simp only [Bool.not_eq_true', Bool.or_eq_false_iff, beq_eq_false_iff_ne, decide_eq_false_iff_not, Bool.not_eq_false', Bool.and_eq_false_iff] at h
  obtain ⟨⟨⟨h1, h2⟩, h3⟩, h4⟩ := h
  have h5 : 0 < x.length := List.length_pos_iff.2 h1
  refine ⟨h1, by omega, ?_, fun hd hl => ?_⟩
  · unfold numeralL eachL
    rw [decide_eq_true h5, decide_eq_true (by omega : x.length ≤ 10)]; simp
  · rcases h4 with (h4 | h4) | h4
    · rw [hd] at h4; cases h4
    · exact absurd hl h4
    · exact h4
theorem cmp_shorter {x y : Str} (hx : x.all digitB = true) (hy : y.all digitB = true) (h0 : 0 < x.length) (hl : x.length < y.length) (hh : y.headD 0 ≠ 48) : decVal x < decVal y := by
  have h1 := decVal_lt x hx
  have h2 := decVal_ge y hy (by omega) hh
  have h3 : (10 : Nat) ^ x.length ≤ 10 ^ (y.length - 1) := Nat.pow_le_pow_right (by decide) (by omega)
  omega
theorem word_same {x y : Str} (hx : earlyWordL x = true) (hy : earlyWordL y = true) : refWord x y = cmpWordL x y := by
  obtain ⟨x0, x1, x2, x3⟩ := word_parts hx
  obtain ⟨y0, y1, y2, y3⟩ := word_parts hy
  have hx0 : 0 < x.length := List.length_pos_iff.2 x0
  have hy0 : 0 < y.length := List.length_pos_iff.2 y0
  unfold refWord cmpWordL
  rw [x2, y2]
  by_cases h : (x.all digitB && y.all digitB) = true
  · rw [if_pos h, if_pos h]
    simp only [Bool.and_eq_true] at h
    by_cases hl : x.length = y.length
    · rw [if_pos hl, cmp_digits x y h.1 h.2 hl]
    · rw [if_neg hl]
      rcases Nat.lt_or_gt_of_ne hl with hlt | hgt
      · rw [compareInt_lt hlt, compareInt_lt (cmp_shorter h.1 h.2 hx0 hlt (y3 h.2 (by omega)))]
      · rw [compareInt_gt hgt, compareInt_gt (cmp_shorter h.2 h.1 hy0 hgt (x3 h.1 (by omega)))]
  · rw [if_neg h, if_neg h]
theorem cmpWord_self (x : Str) : cmpWordL x x = 0 := by
  unfold cmpWordL
  by_cases h : (numeralL x && numeralL x) = true
  · rw [if_pos h, if_pos rfl, compareBytes_self]
  · rw [if_neg h]
    have h1 : ¬ numeralL x = true := fun e => h (by rw [e]; rfl)
    rw [if_neg h1, if_neg h1, compareBytes_self]
theorem cmpWords_self : ∀ l : List Str, cmpWordsL cmpWordL l l = 0
  | [] => rfl
  | x :: l => by
    unfold cmpWordsL
    rw [if_pos (cmpWord_self x)]
    exact cmpWords_self l
/-- compareEarly where both are there -/
theorem cmpEarly_both {a b : Str} (ha : a ≠ []) (hb : b ≠ []) : cmpEarlyL a b = cmpWordsL cmpWordL (splitC 46 a) (splitC 46 b) := by
  unfold cmpEarlyL
  by_cases h : a = b
  · rw [if_pos h, h, cmpWords_self]
  · rw [if_neg h, if_neg ha, if_neg hb]
theorem cmpEarly_left {a b : Str} (ha : a = []) : cmpEarlyL a b = if b = [] then 0 else 1 := by
  subst ha
  cases b with
  | nil => rfl
  | cons x r => simp [cmpEarlyL]
theorem cmpEarly_right {a b : Str} (ha : a ≠ []) (hb : b = []) : cmpEarlyL a b = -1 := by
  unfold cmpEarlyL
  rw [if_neg (by rw [hb]; exact ha), if_neg ha, if_pos hb]
end Go.Proofs.YtghhjlcbcojcnaaGreatDoor

namespace Go.Proofs.YtghhjlcbcojcnaaGreatDoor
open Go.RowKit

theorem order_split (x y z e : Int) : firstI [x, y, z, e] = if firstI [x, y, z] = 0 then e else firstI [x, y, z] := by
  simp only [firstI]
  by_cases hx : x = 0
  · by_cases hy : y = 0
    · by_cases hz : z = 0
      · by_cases he : e = 0
        · simp [hx, hy, hz, he]
        · simp [hx, hy, hz, he]
      · simp [hx, hy, hz]
    · simp [hx, hy]
  · simp [hx]
theorem early_of {a1 a2 a3 : Int} {a : ByteArray} (h : checkV a1 a2 a3 (bs a) = 0) (h0 : 0 < a.size) : earlyL (bs a) = true := by
  rcases (checkV_ok h).2.2.2 with e | e
  · have := bs_length a; rw [e] at this; simp at this; omega
  · exact e
theorem words_of {a : ByteArray} {xs : List ByteArray} (h : earlyL (bs a) = true) (hx : xs.map bs = splitC 46 (bs a)) {k : Nat} (hk : k < xs.length) : earlyWordL (bs xs[k]) = true := by
  unfold earlyL at h
  rw [Bool.and_eq_true] at h
  exact List.all_eq_true.1 h.1 _ (by rw [← hx]; exact List.mem_map.2 ⟨_, List.getElem_mem hk, rfl⟩)
/-- digits alone (a plain name: the walk does not open it) -/
def digL (l : Str) : Bool := l.all digitB
theorem of_digitD (s : ByteArray) (w : World) (hs : s.size ≤ 2097152) :
    Calls Tryz.prog 92 #[.string s, .string ⟨#[48, 49, 50, 51, 52, 53, 54, 55, 56, 57]⟩] w fun e w' => e = .returned (.bool (digL (bs s))) ∧ Ext w w' := of_digit s w hs
theorem min_cmp (n m : Nat) : Lib.compareInt (min 1 (n : Int)) (min 1 (m : Int)) = if n = 0 then (if m = 0 then 0 else -1) else (if m = 0 then 1 else 0) := by
  unfold Lib.compareInt
  by_cases hn : n = 0
  · by_cases hm : m = 0
    · subst hn hm; rfl
    · rw [if_pos hn, if_neg hm, if_pos (by omega)]
  · by_cases hm : m = 0
    · rw [if_neg hn, if_pos hm, if_neg (by omega), if_pos (by omega)]
    · rw [if_neg hn, if_neg hm, if_neg (by omega), if_neg (by omega)]
set_option maxHeartbeats 4000000 in
set_option maxRecDepth 100000 in
theorem CompareOf_any (a1 a2 a3 b1 b2 b3 : Int) (a b : ByteArray) (w : World) (hg : GoodN w) (ha : a.size ≤ 2097152) (hb : b.size ≤ 2097152) (oA : checkV a1 a2 a3 (bs a) = 0) (oB : checkV b1 b2 b3 (bs b) = 0) :
    Calls Tryz.prog 36 #[.agg #[.int .i64 a1, .int .i64 a2, .int .i64 a3, .string a], .agg #[.int .i64 b1, .int .i64 b2, .int .i64 b3, .string b]] w
      fun e w' => e = .returned (.int .i64 (orderL a1 a2 a3 (bs a) b1 b2 b3 (bs b))) ∧ Ext w w' := by
  have os : orderL a1 a2 a3 (bs a) b1 b2 b3 (bs b) = _ := order_split _ _ _ _
  have OS := Lib.hid os
  have OA := Lib.hid oA
  have OB := Lib.hid oB
  clear os oA oB
  go_enter Tryz.func36, Tryz.ntmps36
  go_wp2_with fail
  refine wp_region_ext_tail 15 (by kernel_rfl) (by kernel_rfl) ?_
  simp only [List.take_succ_cons, List.take_zero, List.drop_succ_cons, List.drop_zero]
  repeat (first | go_big_quiet_skip | (refine wpQuiet_step (fun K hK => ?_); go_simp; first | (refine hK _ ?_; clear hK K) | (apply Exists.intro; refine ⟨fun wq hwq => ?_, hK _ ?_⟩; (obtain ⟨hqc, hqf⟩ := hwq.cells; have hqs := hwq.size; (try go_simp); first | rfl | ((first | rw [if_neg (by omega)] | rw [if_pos (by omega)]); (try go_simp); rfl) | (((go_at_call 105; exact (compareInt_any _ _ _).mono (fun e w'' h => ⟨h.1, h.2 ▸ hwq⟩))))); clear hK K)))
  refine wpQuiet_nil ?_
  intro wN hxN
  obtain ⟨hcN, hfN⟩ := hxN.cells
  have hsN := hxN.size
  go_wp2_with fail
  refine (Or_any _ _ [Lib.compareInt a1 b1, Lib.compareInt a2 b2, Lib.compareInt a3 b3] _ ?_ (by simp)).mono ?_
  · intro k hk
    rw [World.cell?_alloc_at _ _ _ _ rfl]
    match k, hk with
    | 0, _ => rfl
    | 1, _ => rfl
    | 2, _ => rfl
  rintro e w' ⟨rfl, rfl⟩
  have hgN : GoodN wN := hg.ext (Ext.trans (by repeat (first | with_reducible exact Ext.refl _ | with_reducible assumption | with_reducible apply Ext.drewN | with_reducible apply Ext.drew | with_reducible apply Ext.alloc | exact Ext.refl _ | assumption | apply Ext.drewN | apply Ext.drew | apply Ext.alloc)) hxN)
  have hxw : Ext w wN := Ext.trans (by repeat (first | with_reducible exact Ext.refl _ | with_reducible assumption | with_reducible apply Ext.drewN | with_reducible apply Ext.drew | with_reducible apply Ext.alloc | exact Ext.refl _ | assumption | apply Ext.drewN | apply Ext.drew | apply Ext.alloc)) hxN
  have q1 : w.heap.size + 1 < wN.heap.size := by simp at hsN; omega
  have q2 : w.heap.size < wN.heap.size := by omega
  clear hsN
  by_cases h0 : firstI [Lib.compareInt a1 b1, Lib.compareInt a2 b2, Lib.compareInt a3 b3] = 0
  rotate_left
  · have HF := Lib.hid h0
    have hb2 : (firstI [Lib.compareInt a1 b1, Lib.compareInt a2 b2, Lib.compareInt a3 b3] != 0) = true := by rw [bne_iff_ne]; exact h0
    have hfin := OS.out
    rw [if_neg h0] at hfin
    have HFIN := Lib.hid hfin
    clear hfin h0
    generalize firstI [Lib.compareInt a1 b1, Lib.compareInt a2 b2, Lib.compareInt a3 b3] = r at *
    go_wp2
    go_ret
    exact ⟨ret_int HFIN.out.symm, hxw.alloc _⟩
  have oe := OS.out
  rw [if_pos h0] at oe
  have OE0 := Lib.hid oe
  rw [h0]
  clear oe h0
  rcases Nat.eq_zero_or_pos a.size with za | za
  · have hi := emp_bool za
    have hfin : orderL a1 a2 a3 (bs a) b1 b2 b3 (bs b) = Lib.compareInt (min 1 (b.size : Int)) (min 1 (a.size : Int)) := by
      rw [OE0.out, cmpEarly_left (bs_nil za), min_cmp, if_pos za]
      by_cases zb : b.size = 0
      · rw [if_pos zb, if_pos (bs_nil zb)]
      · rw [if_neg zb, if_neg (fun e => zb (by rw [← bs_length, e]; rfl))]; simp [za]
    have HFIN := Lib.hid hfin
    clear hfin za
    go_wp2_with (go_at_call 105; refine (compareInt_any _ _ _).mono ?_; rintro e w' ⟨rfl, rfl⟩)
    go_ret
    exact ⟨ret_int HFIN.out.symm, hxw.alloc _⟩
  have hia := nemp_bool za
  have na : ¬ bs a = [] := fun e => by have := bs_length a; rw [e] at this; simp at this; omega
  have NA := Lib.hid na
  clear na
  rcases Nat.eq_zero_or_pos b.size with zb | zb
  · have hi := emp_bool zb
    have hfin : orderL a1 a2 a3 (bs a) b1 b2 b3 (bs b) = Lib.compareInt (min 1 (b.size : Int)) (min 1 (a.size : Int)) := by
      rw [OE0.out, cmpEarly_right NA.out (bs_nil zb), min_cmp, if_pos zb, if_neg (by omega)]
    have HFIN := Lib.hid hfin
    clear hfin zb
    go_wp2_with (go_at_call 105; refine (compareInt_any _ _ _).mono ?_; rintro e w' ⟨rfl, rfl⟩)
    go_ret
    exact ⟨ret_int HFIN.out.symm, hxw.alloc _⟩
  have hib := nemp_bool zb
  have nb : ¬ bs b = [] := fun e => by have := bs_length b; rw [e] at this; simp at this; omega
  have oe := OE0.out
  rw [cmpEarly_both NA.out nb] at oe
  have OE := Lib.hid oe
  have EA := Lib.hid (early_of OA.out za)
  have EB := Lib.hid (early_of OB.out zb)
  clear oe nb
  have hgM : GoodN (wN.alloc (.cells #[.int .i64 (Lib.compareInt a1 b1), .int .i64 (Lib.compareInt a2 b2), .int .i64 (Lib.compareInt a3 b3)] 3)) := hgN.ext (by repeat (first | with_reducible exact Ext.refl _ | with_reducible assumption | with_reducible apply Ext.drewN | with_reducible apply Ext.drew | with_reducible apply Ext.alloc | exact Ext.refl _ | assumption | apply Ext.drewN | apply Ext.drew | apply Ext.alloc))
  have hx6 : Ext w (wN.alloc (.cells #[.int .i64 (Lib.compareInt a1 b1), .int .i64 (Lib.compareInt a2 b2), .int .i64 (Lib.compareInt a3 b3)] 3)) := hxw.alloc _
  have s1 : (wN.alloc (.cells #[.int .i64 (Lib.compareInt a1 b1), .int .i64 (Lib.compareInt a2 b2), .int .i64 (Lib.compareInt a3 b3)] 3)).cell? ⟨w.heap.size, 3, none⟩ = some (.string a) := by
    rw [World.cell?_alloc_past _ _ _ q2, hcN _ _ (by simp <;> omega)]
    go_simp
  have s2 : (wN.alloc (.cells #[.int .i64 (Lib.compareInt a1 b1), .int .i64 (Lib.compareInt a2 b2), .int .i64 (Lib.compareInt a3 b3)] 3)).cell? ⟨w.heap.size + 1, 3, none⟩ = some (.string b) := by
    rw [World.cell?_alloc_past _ _ _ q1, hcN _ _ (by simp <;> omega)]
    go_simp
  go_wp2_with fail
  generalize (wN.alloc (.cells #[.int .i64 (Lib.compareInt a1 b1), .int .i64 (Lib.compareInt a2 b2), .int .i64 (Lib.compareInt a3 b3)] 3)) = W6 at *
  clear hxN hcN hfN hxw hgN q1 q2
  go_region_held3 (fun w' => w'.cell? ⟨w.heap.size, 3, none⟩ = some (.string a) ∧ w'.cell? ⟨w.heap.size + 1, 3, none⟩ = some (.string b))
    (first
      | exact ⟨hy1.cell s1, hy1.cell s2⟩
      | exact ⟨hy2.cell (hy1.cell s1), hy2.cell (hy1.cell s2)⟩
      | go_keep)
    (first
      | (go_at_call 91; with_reducible refine (split_any 46 a _ (hgM.toGood.ext ((Ext.refl _).drew)) ha).mono ?_; rintro e w1 ⟨p1, xs, rfl, hp1, hst1, hxs, hy1⟩)
      | (go_at_call 91; with_reducible refine (split_any 46 b _ ((hgM.toGood.ext ((Ext.refl _).drew)).ext hy1) hb).mono ?_; rintro e w2 ⟨p2, ys, rfl, hp2, hst2, hys, hy2⟩))
  have hl1 := pieces_le hxs
  have hl2 := pieces_le hys
  have HXS := Lib.hid hxs
  have HYS := Lib.hid hys
  have hc1 := (hst1.ext hy2).cell
  have hc2 := hst2.cell
  have HC1 := Lib.hid hc1
  have HC2 := Lib.hid hc2
  have hx : Ext w w2 := (hx6.trans ((Ext.refl W6).drew.trans hy1)).trans hy2
  have hgw : GoodN w2 := hg.ext hx
  clear hxs hys hc1 hc2 hst1 hst2 s1 s2 hy1 hy2 hgM hx6 hp1 hp2
  go_wp2
  go_loopw [64] (fun i wr => ∃ k : Nat, i = .int .i64 k ∧ k ≤ xs.length ∧ k ≤ ys.length ∧ (∀ j (h1 : j < xs.length) (h2 : j < ys.length), j < k → cmpWordL (bs xs[j]) (bs ys[j]) = 0) ∧ Ext w2 wr) (fun i _ => xs.length - (intOf i).toNat)
  case atStart => exact ⟨0, rfl, Nat.zero_le _, Nat.zero_le _, fun j _ _ h => absurd h (by omega), Ext.refl _⟩
  case round =>
    obtain ⟨k, rfl, hk1, hk2, hall, hxr⟩ := hrel
    have HALL := Lib.hid hall
    clear hall
    by_cases hlt : k < xs.length ∧ k < ys.length
    · obtain ⟨hlt1, hlt2⟩ := hlt
      have hm : (k : Int) < min (xs.length : Int) (ys.length : Int) := by omega
      have d1 := hxr.cell (HC1.out k hlt1)
      have d2 := hxr.cell (HC2.out k hlt2)
      have g1 := lt_of_cell d1
      have g2 := lt_of_cell d2
      have z1 := piece_le HXS.out hlt1
      have z2 := piece_le HYS.out hlt2
      have ew1 := words_of EA.out HXS.out hlt1
      have ew2 := words_of EB.out HYS.out hlt2
      have hw := word_same ew1 ew2
      have hmiss := fun h : refWord (bs xs[k]) (bs ys[k]) = 0 => (word_same ew1 ew2).symm.trans h
      have hhit := fun h : refWord (bs xs[k]) (bs ys[k]) ≠ 0 => cmpWords_hit HXS.out HYS.out hlt1 hlt2 (fun j hj => HALL.out j (by omega) (by omega) hj) (by rw [← word_same ew1 ew2]; exact h)
      obtain ⟨x0, x1, _, _⟩ := word_parts ew1
      obtain ⟨y0, y1, _, _⟩ := word_parts ew2
      have zx : 0 < xs[k].size := by rw [← bs_length]; exact List.length_pos_iff.2 x0
      have zy : 0 < ys[k].size := by rw [← bs_length]; exact List.length_pos_iff.2 y0
      rw [bs_length] at x1 y1
      have hstep : cmpWordL (bs xs[k]) (bs ys[k]) = 0 → ∀ j (h1 : j < xs.length) (h2 : j < ys.length), j < k + 1 → cmpWordL (bs xs[j]) (bs ys[j]) = 0 := fun h j h1 h2 h3 => by
        by_cases hj : j = k
        · subst hj; exact h
        · exact HALL.out j h1 h2 (by omega)
      have HW := Lib.hid hw
      have HHIT := Lib.hid hhit
      have HSTEP := Lib.hid hstep
      clear hw hmiss hhit hstep ew1 ew2 x0 y0
      generalize xs[k] = x at *
      generalize ys[k] = y at *
      go_wp2_with fail
      refine wp_region_ext (by kernel_rfl) (by kernel_rfl) ?_
      repeat (first | go_big_quiet_skip | (refine wpQuiet_step (fun K hK => ?_); go_simp; first | (refine hK _ ?_; clear hK K) | (apply Exists.intro; refine ⟨fun wq hwq => ?_, hK _ ?_⟩; (obtain ⟨hqc, hqf⟩ := hwq.cells; have hqs := hwq.size; (try go_simp); first | rfl | ((first | rw [if_neg (by omega)] | rw [if_pos (by omega)]); (try go_simp); rfl) | ((go_at_call 92; refine (of_digitD _ _ ?_).mono (fun e w'' h => ⟨h.1, hwq.trans h.2⟩); omega))); clear hK K)))
      refine wpQuiet_nil ?_
      intro wN hxN
      obtain ⟨hcN, hfN⟩ := hxN.cells
      have hsN := hxN.size
      have d3 := hxN.cell d1
      have d4 := hxN.cell d2
      go_wp2_with fail
      refine (atoi_any x _ (hgw.ext (hxr.trans hxN)) (by omega)).mono ?_
      rintro e w3 ⟨v1, ev1, rfl, hx3, hv1, _⟩
      have hv1 := Lib.hid hv1
      have d5 := hx3.cell d3
      have d6 := hx3.cell d4
      go_wp2_with fail
      refine (atoi_any y _ ((hgw.ext (hxr.trans hxN)).ext hx3) (by omega)).mono ?_
      rintro e w4 ⟨v2, ev2, rfl, hx4, hv2, _⟩
      have hv2 := Lib.hid hv2
      have d7 := hx4.cell d5
      have d8 := hx4.cell d6
      have g3 := lt_of_cell d7
      have g4 := lt_of_cell d8
      have hxz4 := ((hxN.trans hx3).trans hx4)
      clear d1 d2 d3 d4 d5 d6 hcN hfN hsN hx3 hx4 hxN
      go_wp2_with fail
      refine wp_region_ext (by kernel_rfl) (by kernel_rfl) ?_
      repeat (first | go_big_quiet_skip | (refine wpQuiet_step (fun K hK => ?_); go_simp; first | (refine hK _ ?_; clear hK K) | (apply Exists.intro; refine ⟨fun wq hwq => ?_, hK _ ?_⟩; (obtain ⟨hqc, hqf⟩ := hwq.cells; have hqs := hwq.size; (try go_simp); first | rfl | ((first | rw [if_neg (by omega)] | rw [if_pos (by omega)]); (try go_simp); rfl) | ((go_at_call 107; exact (compare_any x y _).mono (fun e w'' h => ⟨h.1, h.2 ▸ hwq⟩)))); clear hK K)))
      refine wpQuiet_nil ?_
      intro wN hxN
      obtain ⟨hcN, hfN⟩ := hxN.cells
      have hsN := hxN.size
      have hxz := hxz4.trans hxN
      clear hcN hfN hsN
      cases hp : digL (bs x)
      · cases hq : digL (bs y)
        · have HV := Lib.hid (show refWord (bs x) (bs y) = Lib.compareBytes (bs x) (bs y) by unfold refWord; rw [show (bs x).all digitB = _ from hp, show (bs y).all digitB = _ from hq]; rfl)
          by_cases hz : Lib.compareBytes (bs x) (bs y) = 0
          · have hz2 : (Lib.compareBytes (bs x) (bs y) != 0) = false := by rw [hz]; rfl
            have HZ := Lib.hid hz
            clear hz
            go_wp2
            go_roundw
            case rel =>
              exact ⟨k + 1, by go_num, by omega, by omega, HSTEP.out (by rw [← HW.out, HV.out]; exact HZ.out), hxr.trans hxz⟩
            case measure => simp [intOf]; omega
          · have hz2 : (Lib.compareBytes (bs x) (bs y) != 0) = true := by rw [bne_iff_ne]; exact hz
            have HNZ := Lib.hid hz
            clear hz
            go_wp2
            go_ret
            refine ⟨ret_int ?_, (hx.trans hxr).trans hxz⟩
            rw [OE.out, HHIT.out (by rw [HV.out]; exact HNZ.out), ← HW.out, HV.out]
        · have HV := Lib.hid (show refWord (bs x) (bs y) = 1 by unfold refWord; rw [show (bs x).all digitB = _ from hp, show (bs y).all digitB = _ from hq]; rfl)
          have HNZ := Lib.hid (show (1 : Int) ≠ 0 by decide)
          go_wp2
          go_ret
          refine ⟨ret_int ?_, (hx.trans hxr).trans hxz⟩
          rw [OE.out, HHIT.out (by rw [HV.out]; exact HNZ.out), ← HW.out, HV.out]
      · cases hq : digL (bs y)
        · have HV := Lib.hid (show refWord (bs x) (bs y) = -1 by unfold refWord; rw [show (bs x).all digitB = _ from hp, show (bs y).all digitB = _ from hq]; rfl)
          have HNZ := Lib.hid (show (-1 : Int) ≠ 0 by decide)
          go_wp2
          go_ret
          refine ⟨ret_int ?_, (hx.trans hxr).trans hxz⟩
          rw [OE.out, HHIT.out (by rw [HV.out]; exact HNZ.out), ← HW.out, HV.out]
        · have hu1 := (hv1.out _ (atoi_digits _ hp (by rw [bs_length]; exact zx) (by rw [bs_length]; omega))).1
          have hu2 := (hv2.out _ (atoi_digits _ hq (by rw [bs_length]; exact zy) (by rw [bs_length]; omega))).1
          have HV := Lib.hid (show refWord (bs x) (bs y) = Lib.compareInt v1 v2 by unfold refWord; rw [show (bs x).all digitB = _ from hp, show (bs y).all digitB = _ from hq, hu1, hu2]; rfl)
          clear hu1 hu2
          by_cases hz : Lib.compareInt v1 v2 = 0
          · have hz2 : (Lib.compareInt v1 v2 != 0) = false := by rw [hz]; rfl
            have HZ := Lib.hid hz
            clear hz
            go_wp2_with (go_at_call 105; refine (compareInt_any _ _ _).mono ?_; rintro e w' ⟨rfl, rfl⟩)
            go_roundw
            case rel =>
              exact ⟨k + 1, by go_num, by omega, by omega, HSTEP.out (by rw [← HW.out, HV.out]; exact HZ.out), hxr.trans hxz⟩
            case measure => simp [intOf]; omega
          · have hz2 : (Lib.compareInt v1 v2 != 0) = true := by rw [bne_iff_ne]; exact hz
            have HNZ := Lib.hid hz
            clear hz
            go_wp2_with (go_at_call 105; refine (compareInt_any _ _ _).mono ?_; rintro e w' ⟨rfl, rfl⟩)
            go_ret
            refine ⟨ret_int ?_, (hx.trans hxr).trans hxz⟩
            rw [OE.out, HHIT.out (by rw [HV.out]; exact HNZ.out), ← HW.out, HV.out]
    · have hm : ¬ (k : Int) < min (xs.length : Int) (ys.length : Int) := by omega
      have hfin : orderL a1 a2 a3 (bs a) b1 b2 b3 (bs b) = Lib.compareInt xs.length ys.length := by
        rw [OE.out, cmpWords_all HXS.out HYS.out (fun j h1 h2 => HALL.out j h1 h2 (by omega))]
      have HFIN := Lib.hid hfin
      clear hfin
      go_wp2_with (go_at_call 105; refine (compareInt_any _ _ _).mono ?_; rintro e w' ⟨rfl, rfl⟩)
      go_ret
      exact ⟨ret_int HFIN.out.symm, hx.trans hxr⟩
end Go.Proofs.YtghhjlcbcojcnaaGreatDoor

namespace Go.Proofs.YtghhjlcbcojcnaaGreatDoor
open Go.RowKit

end Go.Proofs.YtghhjlcbcojcnaaGreatDoor

namespace Go.Proofs.YtghhjlcbcojcnaaGreatDoor

end Go.Proofs.YtghhjlcbcojcnaaGreatDoor

namespace Go.Proofs.YtghhjlcbcojcnaaGreatDoor
open Go.ChangeShapes Go.WideShapes Go.ChangeAt Go.RowKit Go.WideElems

theorem own : ownKnob Tryz.prog.godebug = none := by kernel_rfl
theorem laidOut : laidOutB Tryz.prog = true := by kernel_rfl
theorem stays {H : Type} {enc : TypeId × Value → H} {W W' : World} {sp : Nat → Bool} : ∀ (ts : List TypeId) (vs : List Value) (ds : List (DataW H)) (ps : List MemPlace),
    (∀ t ∈ ts, Tryz.prog.readableRec t = true ∧ t < Tryz.prog.types.size) → DataW.TrodAll enc Tryz.prog W 0 (fun _ => true) true ts vs ds ps → (∀ p ∈ ps, W.sameAt W' p) → (∀ p ∈ ps, sp p.block = true) →
    DataW.TrodAll enc Tryz.prog W' 0 sp true ts vs ds ps
  | [], vs, ds, ps, _, h, _, _ => by
    obtain ⟨rfl, rfl, rfl⟩ := trodAll_nil h
    exact trodAll_mk0
  | t :: ts, vs, ds, ps, hr, h, hs, hp => by
    obtain ⟨v0, vs0, d0, ds0, p0, q0, rfl, rfl, rfl, h0, r0⟩ := trodAll_cons h
    exact trodAll_cons_mk (Trod_stays laidOut (hr t (by simp)).1 (hr t (by simp)).2 h0 (fun p hm => hs p (List.mem_append_left _ hm)) (fun p hm => hp p (List.mem_append_left _ hm)))
      (stays ts vs0 ds0 q0 (fun t ht => hr t (by simp [ht])) r0 (fun p hm => hs p (List.mem_append_right _ hm)) (fun p hm => hp p (List.mem_append_right _ hm)))

set_option maxRecDepth 100000 in
/-- The row's last step, where nothing that was there has turned, and the call answers true. -/
theorem post_true {H : Type} {enc : TypeId × Value → H} {f : Func} {s : ChangeSpec} {apart fresh handsOn again : Bool} {W W' : World} {args : Array Value} {ds gs : List (DataW H)} {before : List MemPlace}
    (hW : DataW.Whole enc Tryz.prog f.params.toList s.vars apart W args.toList ds gs before) (hvars : s.vars = []) (hrt : f.resultTypes = #[4])
    (hr : ∀ t ∈ f.params.toList, Tryz.prog.readableRec t = true ∧ t < Tryz.prog.types.size)
    (hres : (s.fn H (ds ++ gs)).results = [.lit (.bool true)]) (hargs : (s.fn H (ds ++ gs)).args = ds) (hv : (s.fn H (ds ++ gs)).vars = []) (hb : Ext W W') :
    s.post enc Tryz.prog f apart fresh handsOn again W args (.bool true) W' := by
  have hlt : ∀ p ∈ before, p.block < W.heap.size := fun p hp => hW.lt p hp
  have hW' := hW
  obtain ⟨p, q, hA, hV, rfl, hz, hn⟩ := hW'
  rw [hvars] at hV
  obtain ⟨rfl, rfl⟩ := trodVars_none hV
  have hsame : ∀ x ∈ p, W.sameAt W' x := fun x hx => Below.same hb (hlt x (by simp [hx]))
  have hT : ∀ sp : Nat → Bool, (∀ x ∈ p ++ [], sp x.block = true) → DataW.TrodAll enc Tryz.prog W' 0 sp true f.params.toList args.toList (s.fn H (ds ++ [])).args p := fun sp hs => by
    rw [hargs]
    exact stays _ _ _ _ hr hA hsame (fun x hx => hs x (by simp [hx]))
  have hR : ∀ (b : Nat) (sp : Nat → Bool) (hd : Bool), DataW.TrodAll enc Tryz.prog W' b sp hd f.resultTypes.toList ((Value.bool true).resultList f.resultTypes.size) (s.fn H (ds ++ [])).results [] := fun b sp hd => by
    rw [hres, hrt]
    exact trodAll_mk1 (shut_bool Tryz.underlying4 true)
  have hVV : ∀ sp : Nat → Bool, DataW.TrodVars enc Tryz.prog W' sp s.vars (s.fn H (ds ++ [])).vars [] := fun sp => by
    rw [hvars, hv]
    exact rfl
  refine ⟨ds, [], p ++ [], [], p, [], hW, hR _ _ _, hT _ (fun x hx => by simpa using hlt x hx), hVV _, World.keptBut_mono (fun x hx => ⟨hx, .inr (by simpa using hx)⟩) (Below.frame hb (· ∈ p ++ [])), fun _ => ?_⟩
  refine ⟨?_, _, _, ([] ++ p) ++ [], ⟨[] ++ p, [], trodAll_append (hT _ (fun _ _ => rfl)) (hR _ _ _), hVV _, rfl, ?_, ?_⟩, ?_⟩
  · intro j t r h1 h2
    rw [hrt] at h1 h2
    match j with
    | 0 =>
      obtain rfl : 4 = t := by simpa using h1
      obtain rfl : Value.bool true = r := by simpa [Value.resultList] using h2
      exact okWide_bool_mk Tryz.underlying4 true
    | j + 1 => simp at h1
  · intro b off hp
    have hin : MemPlace.cell b off ∈ p ++ [] := by simpa using hp
    rw [Below.frozen hb (hlt _ hin)]
    exact hz b off hin
  · intro ha
    simpa using hn ha
  · intro x hx _
    simpa using hx
end Go.Proofs.YtghhjlcbcojcnaaGreatDoor
