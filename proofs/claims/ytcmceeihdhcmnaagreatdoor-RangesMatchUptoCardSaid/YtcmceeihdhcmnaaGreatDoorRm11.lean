/- Contracts of outref2: ValueOf, Number, VersionText. -/
import Derived.Test.YtcmceeihdhcmnaaGreatDoorRm10
import Derived.Test.YtcmceeihdhcmnaaGreatDoorRm08

namespace Go.Proofs.YtcmceeihdhcmnaaGreatDoor
open Go.RowKit

set_option maxHeartbeats 1000000 in
theorem ValueOf_any (s : ByteArray) (w : World) (hs : s.size ≤ 2097152) :
    Calls Tryz.prog 31 #[.string s] w fun e w' => e = .returned (.bool (valueL (bs s))) ∧ w = w' := by
  go_enter Tryz.func31, Tryz.ntmps31
  go_wp2
  go_loop [6] (fun i => ∃ k : Nat, k ≤ s.size ∧ i = .int .i64 k ∧ (s.data.toList.take k).all valueB = true) (fun i => s.size - (intOf i).toNat)
  case atStart => exact ⟨0, Nat.zero_le _, rfl, by simp⟩
  case round =>
    obtain ⟨k, hk, rfl, hall⟩ := hrel
    have HALL := Lib.hid hall
    clear hall
    by_cases hlt : k < s.size
    · have hfa := all_false_of valueB s k hlt
      have hsu := all_take_succ valueB s k hlt
      have HFA := Lib.hid hfa
      have HSU := Lib.hid hsu
      clear hfa hsu
      by_cases h1 : s[k].toNat < 32
      · have h1' : ((s[k].toNat : Nat) : Int) < 32 := by omega
        have hv : valueB s[k] = false := by simp [valueB]; omega
        have HV := Lib.hid (HFA.out hv)
        clear hv h1
        go_wp2
        go_ret
        exact ⟨ret_bool (by rw [valueL, show (bs s).all valueB = false from HV.out]; rfl), rfl⟩
      · have h1' : ¬ ((s[k].toNat : Nat) : Int) < 32 := by omega
        by_cases h2 : 126 < s[k].toNat
        · have h2' : (126 : Int) < ((s[k].toNat : Nat) : Int) := by omega
          have hv : valueB s[k] = false := by simp [valueB]; omega
          have HV := Lib.hid (HFA.out hv)
          clear hv h1 h2
          go_wp2
          go_ret
          exact ⟨ret_bool (by rw [valueL, show (bs s).all valueB = false from HV.out]; rfl), rfl⟩
        · have h2' : ¬ (126 : Int) < ((s[k].toNat : Nat) : Int) := by omega
          have hv : valueB s[k] = true := by simp [valueB]; omega
          have HV := Lib.hid hv
          clear hv h1 h2
          go_wp2
          go_round
          case rel => exact ⟨k + 1, by omega, by go_num, by rw [HSU.out, HALL.out, HV.out]; rfl⟩
          case measure => simp [intOf]; omega
    · obtain rfl : k = s.size := by omega
      go_wp2
      go_ret
      refine ⟨ret_bool ?_, rfl⟩
      rw [take_size] at HALL
      rw [valueL, show (bs s).all valueB = true from HALL.out, bs_length]
      simp
      omega

theorem numOk_eq (l : Str) : numOk l = ((l != []) && decide (l.length ≤ 9) && l.all digitB && !(decide (1 < l.length) && (l.headD 0 == 48))) := by
  unfold numOk eachL
  cases l with
  | nil => simp
  | cons x r =>
    have h1 : decide (0 < (x :: r).length) = true := by simp
    have h2 : ((x :: r) != ([] : Str)) = true := rfl
    rw [h1, h2]
    by_cases hx : x = 48
    · subst hx
      cases r with
      | nil => decide
      | cons y t =>
        have h3 : ((48 :: y :: t : Str) != [48]) = true := rfl
        have h4 : decide (1 < (48 :: y :: t : Str).length) = true := by simp
        rw [h3, h4]
        generalize (48 :: y :: t : Str).all digitB = a
        generalize decide ((48 :: y :: t : Str).length ≤ 9) = b
        cases a <;> cases b <;> rfl
    · have h3 : (((x :: r : Str).headD 0) == 48) = false := by simpa using hx
      rw [h3]
      generalize (x :: r : Str).all digitB = a
      generalize decide ((x :: r : Str).length ≤ 9) = b
      generalize ((x :: r : Str) != [48]) = c
      generalize decide (1 < (x :: r : Str).length) = d
      cases a <;> cases b <;> cases c <;> cases d <;> rfl
set_option maxHeartbeats 2000000 in
theorem Number_any (s : ByteArray) (w : World) (hg : GoodN w) (hs : s.size ≤ 2097152) :
    Calls Tryz.prog 90 #[.string s, .int .i64 9] w fun e w' => e = .returned (.tuple #[.int .i64 (numV (bs s)), .bool (numOk (bs s))]) ∧ Ext w w' := by
  have hpl := numOk_eq (bs s)
  have HPL := Lib.hid hpl
  clear hpl
  have hno : numOk (bs s) = false → numV (bs s) = 0 := fun h => by rw [numV, h]; rfl
  have HNO := Lib.hid hno
  clear hno
  go_enter Tryz.func90, Tryz.ntmps90
  rcases Nat.eq_zero_or_pos s.size with hz | hz
  · have hi := emp_bool hz
    have hp : numOk (bs s) = false := by rw [HPL.out, bs_nil hz]; rfl
    have HP := Lib.hid hp
    clear hp
    go_wp2
    go_ret2
    exact ⟨by rw [HNO.out HP.out, HP.out]; rfl, Ext.refl _⟩
  have hi := nemp_bool hz
  have e1 : (bs s != ([] : Str)) = true := by
    rw [bne_iff_ne]; intro e; have := bs_length s; rw [e] at this; simp at this; omega
  by_cases h9 : 9 < s.size
  · have hp : numOk (bs s) = false := by rw [HPL.out, bs_length, decide_eq_false (by omega : ¬ s.size ≤ 9)]; simp
    have HP := Lib.hid hp
    clear hp e1
    go_wp2
    go_ret2
    exact ⟨by rw [HNO.out HP.out, HP.out]; rfl, Ext.refl _⟩
  have e2 : decide (s.size ≤ 9) = true := decide_eq_true (by omega)
  go_wp2_with fail
  refine (of_digit s _ hs).mono ?_
  rintro e w1 ⟨rfl, hx1⟩
  cases hd : (bs s).all digitB
  · have hp : numOk (bs s) = false := by rw [HPL.out, hd]; simp
    have HP := Lib.hid hp
    clear hp hd e1 e2
    go_wp2
    go_ret2
    exact ⟨by rw [HNO.out HP.out, HP.out]; rfl, hx1⟩
  have hq : numOk (bs s) = !(decide (1 < s.size) && (s[0] == 48)) := by
    rw [HPL.out, e1, hd, bs_length, e2, head_bs s hz]; simp
  have HQ := Lib.hid hq
  have hV : numOk (bs s) = true → numV (bs s) = (decVal (bs s) : Nat) ∧ Lib.atoiAll (bs s) = .ok ((decVal (bs s) : Nat) : Int) := fun h =>
    ⟨by rw [numV, if_pos h], atoi_digits _ hd (by rw [bs_length]; exact hz) (by rw [bs_length]; omega)⟩
  have HV := Lib.hid hV
  clear hq hV hd e1 e2
  by_cases h1 : 1 < s.size
  · by_cases h48 : s[0].toNat = 48
    · have h48' : ((s[0].toNat : Nat) : Int) = 48 := by omega
      have hp : numOk (bs s) = false := by
        have : s[0] = 48 := UInt8.toNat_inj.1 h48
        rw [HQ.out, this, decide_eq_true h1]; rfl
      have HP := Lib.hid hp
      have hb : (((s[0].toNat : Nat) : Int) == 48) = true := by rw [beq_iff_eq]; exact h48'
      have HB := Lib.hid hb
      clear hp h48 h48' hb
      have hb := HB.out
      go_wp2
      go_ret2
      exact ⟨by rw [HNO.out HP.out, HP.out]; rfl, hx1⟩
    · have hb : (((s[0].toNat : Nat) : Int) == 48) = false := by rw [beq_eq_false_iff_ne]; omega
      have hp : numOk (bs s) = true := by
        have : (s[0] == 48) = false := by rw [beq_eq_false_iff_ne]; intro e; rw [e] at h48; exact h48 rfl
        rw [HQ.out, this]; simp
      have HP := Lib.hid hp
      clear hp h48
      go_wp2_with fail
      refine (atoi_any s _ (hg.ext hx1) hs).mono ?_
      rintro e w2 ⟨v, ev, rfl, hx2, hv, hev⟩
      obtain ⟨rfl, rfl⟩ := hv _ (HV.out HP.out).2
      clear hv hev
      go_wp2_with fail
      refine wp_region_ext (by kernel_rfl) (by kernel_rfl) ?_
      repeat (first | go_big_quiet_skip | (refine wpQuiet_step (fun K hK => ?_); go_simp; first | (refine hK _ ?_; clear hK K) | (apply Exists.intro; refine ⟨fun wq hwq => ?_, hK _ ?_⟩; (obtain ⟨hqc, hqf⟩ := hwq.cells; have hqs := hwq.size; (try go_simp); first | rfl | ((first | rw [if_neg (by omega)] | rw [if_pos (by omega)]); (try go_simp); rfl) | ((fail))); clear hK K)))
      refine wpQuiet_nil ?_
      intro wN hxN
      obtain ⟨hcN, hfN⟩ := hxN.cells
      have hsN := hxN.size
      go_wp2
      go_ret2
      exact ⟨by rw [(HV.out HP.out).1, HP.out]; rfl, (hx1.trans hx2).trans hxN⟩
  · have hp : numOk (bs s) = true := by rw [HQ.out, decide_eq_false h1]; rfl
    have HP := Lib.hid hp
    clear hp
    go_wp2_with fail
    refine (atoi_any s _ (hg.ext hx1) hs).mono ?_
    rintro e w2 ⟨v, ev, rfl, hx2, hv, hev⟩
    obtain ⟨rfl, rfl⟩ := hv _ (HV.out HP.out).2
    clear hv hev
    go_wp2_with fail
    refine wp_region_ext (by kernel_rfl) (by kernel_rfl) ?_
    repeat (first | go_big_quiet_skip | (refine wpQuiet_step (fun K hK => ?_); go_simp; first | (refine hK _ ?_; clear hK K) | (apply Exists.intro; refine ⟨fun wq hwq => ?_, hK _ ?_⟩; (obtain ⟨hqc, hqf⟩ := hwq.cells; have hqs := hwq.size; (try go_simp); first | rfl | ((first | rw [if_neg (by omega)] | rw [if_pos (by omega)]); (try go_simp); rfl) | ((fail))); clear hK K)))
    refine wpQuiet_nil ?_
    intro wN hxN
    obtain ⟨hcN, hfN⟩ := hxN.cells
    have hsN := hxN.size
    go_wp2
    go_ret2
    exact ⟨by rw [(HV.out HP.out).1, HP.out]; rfl, (hx1.trans hx2).trans hxN⟩

set_option maxHeartbeats 1000000 in
theorem VersionText_any (ma mi pa : Int) (ea : ByteArray) (w : World) (hg : GoodN w) (hs : ea.size ≤ 2097152) (h1 : 0 ≤ ma) (h2 : ma ≤ 999999) (h3 : 0 ≤ mi) (h4 : mi ≤ 999999) (h5 : 0 ≤ pa) (h6 : pa ≤ 999999) :
    Calls Tryz.prog 32 #[.agg #[.int .i64 ma, .int .i64 mi, .int .i64 pa, .string ea]] w fun e w' => e = .returned (S (textL ma mi pa (bs ea))) ∧ Ext w w' := by
  have la := Lib.itoa_length_le ma (by omega) (by omega)
  have li := Lib.itoa_length_le mi (by omega) (by omega)
  have lp := Lib.itoa_length_le pa (by omega) (by omega)
  go_enter Tryz.func32, Tryz.ntmps32
  go_wp2_with fail
  refine wp_region_ext (by kernel_rfl) (by kernel_rfl) ?_
  repeat (first | go_big_quiet_skip | (refine wpQuiet_step (fun K hK => ?_); go_simp; first | (refine hK _ ?_; clear hK K) | (apply Exists.intro; refine ⟨fun wq hwq => ?_, hK _ ?_⟩; (obtain ⟨hqc, hqf⟩ := hwq.cells; have hqs := hwq.size; (try go_simp); first | rfl | ((first | rw [if_neg (by omega)] | rw [if_pos (by omega)]); (try go_simp); rfl) | ((go_at_call 84; refine (itoa_any _ _ (hg.ext (Ext.trans (by repeat (first | with_reducible exact Ext.refl _ | with_reducible assumption | with_reducible apply Ext.drewN | with_reducible apply Ext.drew | with_reducible apply Ext.alloc | exact Ext.refl _ | assumption | apply Ext.drewN | apply Ext.drew | apply Ext.alloc)) hwq)) (by omega) (by omega)).mono (fun e w'' h => ⟨h.1, hwq.trans h.2⟩)))); clear hK K)))
  refine wpQuiet_nil ?_
  intro wN hxN
  obtain ⟨hcN, hfN⟩ := hxN.cells
  have hsN := hxN.size
  rcases Nat.eq_zero_or_pos ea.size with h0 | h0
  · have he := emp_of_size h0
    go_wp2
    go_ret
    refine ⟨ret_strS ?_, Ext.trans (by repeat (first | with_reducible exact Ext.refl _ | with_reducible assumption | with_reducible apply Ext.drewN | with_reducible apply Ext.drew | with_reducible apply Ext.alloc | exact Ext.refl _ | assumption | apply Ext.drewN | apply Ext.drew | apply Ext.alloc)) hxN⟩
    simp [textL, bs_nil h0]
  · have he := nemp_of_size h0
    have hi := nemp_bool h0
    have he2 : ¬ bs ea = [] := fun e => by have := bs_length ea; rw [e] at this; simp at this; omega
    go_wp2
    go_ret
    refine ⟨ret_strS ?_, Ext.trans (by repeat (first | with_reducible exact Ext.refl _ | with_reducible assumption | with_reducible apply Ext.drewN | with_reducible apply Ext.drew | with_reducible apply Ext.alloc | exact Ext.refl _ | assumption | apply Ext.drewN | apply Ext.drew | apply Ext.alloc)) hxN⟩
    simp [textL, he2]
end Go.Proofs.YtcmceeihdhcmnaaGreatDoor
