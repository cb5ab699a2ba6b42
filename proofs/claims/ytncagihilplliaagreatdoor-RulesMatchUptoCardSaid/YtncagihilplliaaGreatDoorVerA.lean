/- Contracts of ver.IsName, isPart, IsValue, isNumeral, outside; outref2.In, When, First. -/
import Derived.Test.YtncagihilplliaaGreatDoorPreds
namespace Go.Proofs.YtncagihilplliaaGreatDoor
open Go.RowKit

theorem size_list (s : ByteArray) : s.size = (bs s).length := (bs_length s).symm
/-- 'each' as a plain law on lists -/
def eachL (p : UInt8 → Bool) (l : Str) (n : Nat) : Bool := l.all p && decide (0 < l.length) && decide (l.length ≤ n)
theorem eachB_L (p : UInt8 → Bool) (s : ByteArray) (n : Nat) : eachB p s (n : Int) = eachL p (bs s) n := by
  unfold eachB eachL
  rw [size_list]
  congr 1
  rw [decide_eq_decide]
  omega
theorem eachL_pos {p : UInt8 → Bool} {s : ByteArray} {n : Nat} (h : eachL p (bs s) n = true) : 0 < s.size := by
  unfold eachL at h
  simp only [Bool.and_eq_true, decide_eq_true_eq] at h
  rw [size_list]; exact h.1.2
theorem each_list (f : FuncId) (p : UInt8 → Bool) (s : ByteArray) (n : Nat) (w : World) (hs : s.size ≤ 2097152) (hf : IsPred f p) :
    Calls Tryz.prog 64 #[.string s, .int .i64 n, .func (.func f) #[] #[]] w fun e w' => e = .returned (.bool (eachL p (bs s) n)) ∧ w = w' :=
  (each_any f p s n w hs hf).mono fun _ _ ⟨h, k⟩ => ⟨by rw [h, eachB_L], k⟩

def nameL (l : Str) : Bool := eachL nameB l 40 && smallB (l.headD 0)
theorem head_bs (s : ByteArray) (h : 0 < s.size) : (bs s).headD 0 = s[0] := by
  have h1 : s.data.toList[0]? = some s[0] := Lib.data_getElem? s 0 h
  unfold bs
  cases hl : s.data.toList with
  | nil => rw [hl] at h1; cases h1
  | cons x r => rw [hl] at h1; simpa using h1
set_option maxHeartbeats 400000 in
theorem IsName_any (s : ByteArray) (w : World) (hs : s.size ≤ 2097152) :
    Calls Tryz.prog 24 #[.string s] w fun e w' => e = .returned (.bool (nameL (bs s))) ∧ w = w' := by
  go_enter Tryz.func24, Tryz.ntmps24
  go_wp2_with fail
  refine (each_list _ _ s 40 _ hs isName1_pred).mono ?_
  rintro e w' ⟨rfl, rfl⟩
  cases h : eachL nameB (bs s) 40
  · go_wp2
    go_ret
    exact ⟨ret_bool (by rw [nameL, h]; rfl), rfl⟩
  · have hp := eachL_pos h
    go_wp2_with (go_at_call 66; refine (isSmall_any _ _).mono ?_; rintro e w' ⟨rfl, rfl⟩)
    go_ret
    exact ⟨ret_bool (by rw [nameL, h, head_bs s hp]; rfl), rfl⟩

def partL (l : Str) : Bool := eachL partB l 40 && (l != [46]) && (l != [46, 46])
theorem lit_beq (s : ByteArray) (l : Str) : (s.toList == l) = (bs s == l) := by rw [ByteArray.toList_eq]
theorem lit_bne (s : ByteArray) (l : Str) : (s.toList != l) = (bs s != l) := by rw [ByteArray.toList_eq]
set_option maxHeartbeats 400000 in
theorem isPart_any (s : ByteArray) (w : World) (hs : s.size ≤ 2097152) :
    Calls Tryz.prog 68 #[.string s] w fun e w' => e = .returned (.bool (partL (bs s))) ∧ w = w' := by
  go_enter Tryz.func68, Tryz.ntmps68
  go_wp2_with fail
  refine (each_list _ _ s 40 _ hs isPart1_pred).mono ?_
  rintro e w' ⟨rfl, rfl⟩
  cases h : eachL partB (bs s) 40
  · go_wp2
    go_ret
    exact ⟨ret_bool (by rw [partL, h]; rfl), rfl⟩
  · go_wp2
    all_goals go_ret
    all_goals refine ⟨ret_bool ?_, rfl⟩
    all_goals simp_all [partL, ByteArray.toList_eq]
    all_goals rfl

def valueL (l : Str) : Bool := l.all valueB && decide (l.length ≤ 1000)
theorem bs_nil {s : ByteArray} (h : s.size = 0) : bs s = [] := List.eq_nil_of_length_eq_zero (by rw [bs_length, h])
theorem eachL_value {s : ByteArray} (h : 0 < s.size) : eachL valueB (bs s) 1000 = valueL (bs s) := by
  unfold eachL valueL
  rw [bs_length, decide_eq_true h, Bool.and_true]
set_option maxHeartbeats 400000 in
theorem IsValue_any (s : ByteArray) (w : World) (hs : s.size ≤ 2097152) :
    Calls Tryz.prog 28 #[.string s] w fun e w' => e = .returned (.bool (valueL (bs s))) ∧ w = w' := by
  go_enter Tryz.func28, Tryz.ntmps28
  rcases Nat.eq_zero_or_pos s.size with h0 | h0
  · have he := emp_of_size h0
    go_wp2
    go_ret
    exact ⟨ret_bool (by rw [bs_nil h0]; rfl), rfl⟩
  · have he := nemp_of_size h0
    go_wp2_with (go_at_call 64; refine (each_list _ _ s 1000 _ hs isValue1_pred).mono ?_; rintro e w' ⟨rfl, rfl⟩)
    go_ret
    have hi : s.toList.isEmpty = false := by simpa using he
    exact ⟨ret_bool (by rw [eachL_value h0, hi]; rfl), rfl⟩
def numeralL (l : Str) : Bool := eachL digitB l 10
set_option maxHeartbeats 400000 in
theorem isNumeral_any (s : ByteArray) (w : World) (hs : s.size ≤ 2097152) :
    Calls Tryz.prog 106 #[.string s] w fun e w' => e = .returned (.bool (numeralL (bs s))) ∧ w = w' := by
  go_enter Tryz.func106, Tryz.ntmps106
  go_wp2_with (go_at_call 64; refine (each_list _ _ s 10 _ hs isDigit_pred).mono ?_; rintro e w' ⟨rfl, rfl⟩)
  go_ret
  exact ⟨rfl, rfl⟩
set_option maxHeartbeats 400000 in
theorem outside_any (n a b : Int) (w : World) :
    Calls Tryz.prog 62 #[.int .i64 n, .int .i64 a, .int .i64 b] w fun e w' => e = .returned (.bool (decide (n < a ∨ b < n))) ∧ w = w' := by
  go_enter Tryz.func62, Tryz.ntmps62
  go_wp2
  all_goals go_ret
  all_goals refine ⟨ret_bool ?_, rfl⟩
  all_goals simp
  all_goals omega
set_option maxHeartbeats 400000 in
theorem In_any (n a b : Int) (w : World) :
    Calls Tryz.prog 56 #[.int .i64 n, .int .i64 a, .int .i64 b] w fun e w' => e = .returned (.bool (decide (a ≤ n ∧ n ≤ b))) ∧ w = w' := by
  go_enter Tryz.func56, Tryz.ntmps56
  go_wp2
  all_goals go_ret
  all_goals refine ⟨ret_bool ?_, rfl⟩
  all_goals simp
  all_goals omega
set_option maxHeartbeats 400000 in
theorem When_any (b : Bool) (n : Int) (w : World) :
    Calls Tryz.prog 61 #[.bool b, .int .i64 n] w fun e w' => e = .returned (.int .i64 (if b then n else 0)) ∧ w = w' := by
  go_enter Tryz.func61, Tryz.ntmps61
  cases b
  all_goals go_wp2
  all_goals go_ret
  all_goals exact ⟨rfl, rfl⟩
end Go.Proofs.YtncagihilplliaaGreatDoor
