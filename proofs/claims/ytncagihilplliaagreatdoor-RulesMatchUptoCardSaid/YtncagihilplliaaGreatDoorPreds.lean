/- Contracts of the byte predicates of package ver. -/
import Derived.Test.YtncagihilplliaaGreatDoorBase
namespace Go.Proofs.YtncagihilplliaaGreatDoor
open Go.RowKit

def smallB (c : UInt8) : Bool := decide (97 ≤ c.toNat) && decide (c.toNat ≤ 122)
def digitB (c : UInt8) : Bool := decide (48 ≤ c.toNat) && decide (c.toNat ≤ 57)
def greatB (c : UInt8) : Bool := decide (65 ≤ c.toNat) && decide (c.toNat ≤ 90)
def nameB (c : UInt8) : Bool := smallB c || digitB c || decide (c.toNat = 45) || decide (c.toNat = 46)
def partB (c : UInt8) : Bool := smallB c || greatB c || digitB c || decide (c.toNat = 45) || decide (c.toNat = 46) || decide (c.toNat = 95)
def valueB (c : UInt8) : Bool := decide (32 ≤ c.toNat) && decide (c.toNat ≤ 126)
def wordB (c : UInt8) : Bool := smallB c || digitB c

set_option maxHeartbeats 400000 in
theorem isSmall_any (c : UInt8) (w : World) :
    Calls Tryz.prog 66 #[.int .u8 c.toNat] w fun e w' => e = .returned (.bool (smallB c)) ∧ w = w' := by
  go_enter Tryz.func66, Tryz.ntmps66
  go_wp2
  all_goals go_ret
  all_goals refine ⟨ret_bool ?_, rfl⟩
  all_goals rw [Bool.eq_iff_iff]
  all_goals simp only [smallB, Bool.and_eq_true, decide_eq_true_eq, Bool.false_eq_true, false_iff, not_and]
  all_goals omega
set_option maxHeartbeats 400000 in
theorem isDigit_any (c : UInt8) (w : World) :
    Calls Tryz.prog 67 #[.int .u8 c.toNat] w fun e w' => e = .returned (.bool (digitB c)) ∧ w = w' := by
  go_enter Tryz.func67, Tryz.ntmps67
  go_wp2
  all_goals go_ret
  all_goals refine ⟨ret_bool ?_, rfl⟩
  all_goals rw [Bool.eq_iff_iff]
  all_goals simp only [digitB, Bool.and_eq_true, decide_eq_true_eq, Bool.false_eq_true, false_iff, not_and]
  all_goals omega
set_option maxHeartbeats 400000 in
theorem isName1_any (c : UInt8) (w : World) :
    Calls Tryz.prog 65 #[.int .u8 c.toNat] w fun e w' => e = .returned (.bool (nameB c)) ∧ w = w' := by
  go_enter Tryz.func65, Tryz.ntmps65
  go_wp2_with (first | (go_at_call 66; refine (isSmall_any _ _).mono ?_; rintro e w' ⟨rfl, rfl⟩) | (go_at_call 67; refine (isDigit_any _ _).mono ?_; rintro e w' ⟨rfl, rfl⟩))
  all_goals go_ret
  all_goals refine ⟨ret_bool ?_, rfl⟩
  all_goals rw [Bool.eq_iff_iff]
  all_goals simp [nameB, *]
  all_goals omega
set_option maxHeartbeats 400000 in
theorem isValue1_any (c : UInt8) (w : World) :
    Calls Tryz.prog 69 #[.int .u8 c.toNat] w fun e w' => e = .returned (.bool (valueB c)) ∧ w = w' := by
  go_enter Tryz.func69, Tryz.ntmps69
  go_wp2
  all_goals go_ret
  all_goals refine ⟨ret_bool ?_, rfl⟩
  all_goals rw [Bool.eq_iff_iff]
  all_goals simp only [valueB, Bool.and_eq_true, decide_eq_true_eq, Bool.false_eq_true, false_iff, not_and]
  all_goals omega
set_option maxHeartbeats 400000 in
theorem isEarly1_any (c : UInt8) (w : World) :
    Calls Tryz.prog 105 #[.int .u8 c.toNat] w fun e w' => e = .returned (.bool (wordB c)) ∧ w = w' := by
  go_enter Tryz.func105, Tryz.ntmps105
  go_wp2_with (first | (go_at_call 66; refine (isSmall_any _ _).mono ?_; rintro e w' ⟨rfl, rfl⟩) | (go_at_call 67; refine (isDigit_any _ _).mono ?_; rintro e w' ⟨rfl, rfl⟩))
  all_goals go_ret
  all_goals refine ⟨ret_bool ?_, rfl⟩
  all_goals simp [wordB, *]
set_option maxHeartbeats 400000 in
theorem isPart1_any (c : UInt8) (w : World) :
    Calls Tryz.prog 107 #[.int .u8 c.toNat] w fun e w' => e = .returned (.bool (partB c)) ∧ w = w' := by
  go_enter Tryz.func107, Tryz.ntmps107
  go_wp2_with (first | (go_at_call 66; refine (isSmall_any _ _).mono ?_; rintro e w' ⟨rfl, rfl⟩) | (go_at_call 67; refine (isDigit_any _ _).mono ?_; rintro e w' ⟨rfl, rfl⟩))
  all_goals go_ret
  all_goals refine ⟨ret_bool ?_, rfl⟩
  all_goals rw [Bool.eq_iff_iff]
  all_goals simp [partB, greatB, *]
  all_goals omega

/-- A function that answers a byte, as a plain predicate does. -/
structure IsPred (f : FuncId) (p : UInt8 → Bool) : Prop where
  enter : ∀ xs w, Sem.run Tryz.prog (callFunc f xs) w = .ok (.enter f xs) w
  calls : ∀ (c : UInt8) (w : World), Calls Tryz.prog f #[.int .u8 c.toNat] w fun e w' => e = .returned (.bool (p c)) ∧ w = w'

theorem isDigit_pred : IsPred 67 digitB := ⟨fun xs w => by kernel_rfl, isDigit_any⟩
theorem isValue1_pred : IsPred 69 valueB := ⟨fun xs w => by kernel_rfl, isValue1_any⟩
theorem isEarly1_pred : IsPred 105 wordB := ⟨fun xs w => by kernel_rfl, isEarly1_any⟩
theorem isPart1_pred : IsPred 107 partB := ⟨fun xs w => by kernel_rfl, isPart1_any⟩
theorem isName1_pred : IsPred 65 nameB := ⟨fun xs w => by kernel_rfl, isName1_any⟩

theorem all_take_succ (p : UInt8 → Bool) (s : ByteArray) (k : Nat) (h : k < s.size) : (s.data.toList.take (k + 1)).all p = ((s.data.toList.take k).all p && p s[k]) := by
  rw [List.take_succ_eq_append_getElem (by simpa using h)]
  simp [ByteArray.getElem_eq_getElem_data]
theorem all_false_of (p : UInt8 → Bool) (s : ByteArray) (k : Nat) (h : k < s.size) (hp : p s[k] = false) : s.data.toList.all p = false := by
  rw [List.all_eq_false]
  exact ⟨s[k], by simp [ByteArray.getElem_eq_getElem_data], by simp [hp]⟩

def eachB (p : UInt8 → Bool) (s : ByteArray) (n : Int) : Bool := s.data.toList.all p && decide (0 < s.size) && decide ((s.size : Int) ≤ n)
set_option maxHeartbeats 400000 in
theorem each_any (f : FuncId) (p : UInt8 → Bool) (s : ByteArray) (n : Int) (w : World) (hs : s.size ≤ 2097152) (hf : IsPred f p) :
    Calls Tryz.prog 64 #[.string s, .int .i64 n, .func (.func f) #[] #[]] w fun e w' => e = .returned (.bool (eachB p s n)) ∧ w = w' := by
  have hen := hf.enter
  go_enter Tryz.func64, Tryz.ntmps64
  go_wp2
  go_loop [7] (fun i => ∃ k : Nat, k ≤ s.size ∧ i = .int .i64 k ∧ (s.data.toList.take k).all p = true) (fun i => s.size - (intOf i).toNat)
  case atStart => exact ⟨0, Nat.zero_le _, rfl, by simp⟩
  case round =>
    obtain ⟨k, hk, rfl, hall⟩ := hrel
    have HALL := Lib.hid hall
    clear hall
    by_cases hlt : k < s.size
    · go_wp2_with (fail)
      refine (hf.calls _ _).mono ?_
      rintro e w' ⟨rfl, rfl⟩
      cases hp : p s[k]
      · go_wp2
        go_ret
        refine ⟨ret_bool ?_, rfl⟩
        unfold eachB
        rw [all_false_of p s k hlt hp]
        rfl
      · go_wp2
        go_round
        case rel => exact ⟨k + 1, by omega, by go_num, by rw [all_take_succ _ _ _ hlt, HALL.out, hp]; rfl⟩
        case measure => simp [intOf]; omega
    · obtain rfl : k = s.size := by omega
      go_wp2
      all_goals go_ret
      all_goals refine ⟨ret_bool ?_, rfl⟩
      all_goals rw [take_size] at HALL
      all_goals unfold eachB
      all_goals rw [HALL.out]
      · simp [size_zero ‹_›]
      · simp [size_pos ‹_›, ‹¬ s.toList = []›]
end Go.Proofs.YtncagihilplliaaGreatDoor
