/- Contracts of the byte predicates of package ver. Contracts of ver.IsName, isPart, IsValue, isNumeral, outside; outref2.In, When, First. Contracts of outref2.First, cmp.Or[int]: the first of several numbers that is not 0. -/
import Derived.Test.YtcmceeihdhcmnaaGreatDoorRm01

namespace Go.Proofs.YtcmceeihdhcmnaaGreatDoor
open Go.RowKit

def smallB (c : UInt8) : Bool := decide (97 ≤ c.toNat) && decide (c.toNat ≤ 122)
def digitB (c : UInt8) : Bool := decide (48 ≤ c.toNat) && decide (c.toNat ≤ 57)
def greatB (c : UInt8) : Bool := decide (65 ≤ c.toNat) && decide (c.toNat ≤ 90)
def nameB (c : UInt8) : Bool := smallB c || digitB c || decide (c.toNat = 45) || decide (c.toNat = 46)
def partB (c : UInt8) : Bool := smallB c || greatB c || digitB c || decide (c.toNat = 45) || decide (c.toNat = 46) || decide (c.toNat = 95)
def valueB (c : UInt8) : Bool := decide (32 ≤ c.toNat) && decide (c.toNat ≤ 126)
def wordB (c : UInt8) : Bool := smallB c || digitB c

set_option maxHeartbeats 400000 in
theorem isSmall_any (c : UInt8) (w : World) :
    Calls Tryz.prog 80 #[.int .u8 c.toNat] w fun e w' => e = .returned (.bool (smallB c)) ∧ w = w' := by
  go_enter Tryz.func80, Tryz.ntmps80
  go_wp2
  all_goals go_ret
  all_goals refine ⟨ret_bool ?_, rfl⟩
  all_goals rw [Bool.eq_iff_iff]
  all_goals simp only [smallB, Bool.and_eq_true, decide_eq_true_eq, Bool.false_eq_true, false_iff, not_and]
  all_goals omega
set_option maxHeartbeats 400000 in
theorem isDigit_any (c : UInt8) (w : World) :
    Calls Tryz.prog 81 #[.int .u8 c.toNat] w fun e w' => e = .returned (.bool (digitB c)) ∧ w = w' := by
  go_enter Tryz.func81, Tryz.ntmps81
  go_wp2
  all_goals go_ret
  all_goals refine ⟨ret_bool ?_, rfl⟩
  all_goals rw [Bool.eq_iff_iff]
  all_goals simp only [digitB, Bool.and_eq_true, decide_eq_true_eq, Bool.false_eq_true, false_iff, not_and]
  all_goals omega
set_option maxHeartbeats 400000 in
theorem isName1_any (c : UInt8) (w : World) :
    Calls Tryz.prog 79 #[.int .u8 c.toNat] w fun e w' => e = .returned (.bool (nameB c)) ∧ w = w' := by
  go_enter Tryz.func79, Tryz.ntmps79
  go_wp2_with (first | (go_at_call 80; refine (isSmall_any _ _).mono ?_; rintro e w' ⟨rfl, rfl⟩) | (go_at_call 81; refine (isDigit_any _ _).mono ?_; rintro e w' ⟨rfl, rfl⟩))
  all_goals go_ret
  all_goals refine ⟨ret_bool ?_, rfl⟩
  all_goals rw [Bool.eq_iff_iff]
  all_goals simp [nameB, *]
  all_goals omega
set_option maxHeartbeats 400000 in
theorem isValue1_any (c : UInt8) (w : World) :
    Calls Tryz.prog 83 #[.int .u8 c.toNat] w fun e w' => e = .returned (.bool (valueB c)) ∧ w = w' := by
  go_enter Tryz.func83, Tryz.ntmps83
  go_wp2
  all_goals go_ret
  all_goals refine ⟨ret_bool ?_, rfl⟩
  all_goals rw [Bool.eq_iff_iff]
  all_goals simp only [valueB, Bool.and_eq_true, decide_eq_true_eq, Bool.false_eq_true, false_iff, not_and]
  all_goals omega
set_option maxHeartbeats 400000 in
theorem isEarly1_any (c : UInt8) (w : World) :
    Calls Tryz.prog 131 #[.int .u8 c.toNat] w fun e w' => e = .returned (.bool (wordB c)) ∧ w = w' := by
  go_enter Tryz.func131, Tryz.ntmps131
  go_wp2_with (first | (go_at_call 80; refine (isSmall_any _ _).mono ?_; rintro e w' ⟨rfl, rfl⟩) | (go_at_call 81; refine (isDigit_any _ _).mono ?_; rintro e w' ⟨rfl, rfl⟩))
  all_goals go_ret
  all_goals refine ⟨ret_bool ?_, rfl⟩
  all_goals simp [wordB, *]
set_option maxHeartbeats 400000 in
theorem isPart1_any (c : UInt8) (w : World) :
    Calls Tryz.prog 133 #[.int .u8 c.toNat] w fun e w' => e = .returned (.bool (partB c)) ∧ w = w' := by
  go_enter Tryz.func133, Tryz.ntmps133
  go_wp2_with (first | (go_at_call 80; refine (isSmall_any _ _).mono ?_; rintro e w' ⟨rfl, rfl⟩) | (go_at_call 81; refine (isDigit_any _ _).mono ?_; rintro e w' ⟨rfl, rfl⟩))
  all_goals go_ret
  all_goals refine ⟨ret_bool ?_, rfl⟩
  all_goals rw [Bool.eq_iff_iff]
  all_goals simp [partB, greatB, *]
  all_goals omega

/-- A function that answers a byte, as a plain predicate does. -/
structure IsPred (f : FuncId) (p : UInt8 → Bool) : Prop where
  enter : ∀ xs w, Sem.run Tryz.prog (callFunc f xs) w = .ok (.enter f xs) w
  calls : ∀ (c : UInt8) (w : World), Calls Tryz.prog f #[.int .u8 c.toNat] w fun e w' => e = .returned (.bool (p c)) ∧ w = w'

theorem isDigit_pred : IsPred 81 digitB := ⟨fun xs w => by kernel_rfl, isDigit_any⟩
theorem isValue1_pred : IsPred 83 valueB := ⟨fun xs w => by kernel_rfl, isValue1_any⟩
theorem isEarly1_pred : IsPred 131 wordB := ⟨fun xs w => by kernel_rfl, isEarly1_any⟩
theorem isPart1_pred : IsPred 133 partB := ⟨fun xs w => by kernel_rfl, isPart1_any⟩
theorem isName1_pred : IsPred 79 nameB := ⟨fun xs w => by kernel_rfl, isName1_any⟩

theorem all_take_succ (p : UInt8 → Bool) (s : ByteArray) (k : Nat) (h : k < s.size) : (s.data.toList.take (k + 1)).all p = ((s.data.toList.take k).all p && p s[k]) := by
  rw [List.take_succ_eq_append_getElem (by simpa using h)]
  simp [ByteArray.getElem_eq_getElem_data]
theorem all_false_of (p : UInt8 → Bool) (s : ByteArray) (k : Nat) (h : k < s.size) (hp : p s[k] = false) : s.data.toList.all p = false := by
  rw [List.all_eq_false]
  exact ⟨s[k], by simp [ByteArray.getElem_eq_getElem_data], by simp [hp]⟩

def eachB (p : UInt8 → Bool) (s : ByteArray) (n : Int) : Bool := s.data.toList.all p && decide (0 < s.size) && decide ((s.size : Int) ≤ n)
set_option maxHeartbeats 400000 in
theorem each_any (f : FuncId) (p : UInt8 → Bool) (s : ByteArray) (n : Int) (w : World) (hs : s.size ≤ 2097152) (hf : IsPred f p) :
    Calls Tryz.prog 78 #[.string s, .int .i64 n, .func (.func f) #[] #[]] w fun e w' => e = .returned (.bool (eachB p s n)) ∧ w = w' := by
  have hen := hf.enter
  go_enter Tryz.func78, Tryz.ntmps78
  go_wp2
  go_loop [7] (fun i => ∃ k : Nat, k ≤ s.size ∧ i = .int .i64 k ∧ (s.data.toList.take k).all p = true) (fun i => s.size - (intOf i).toNat)
  case atStart => exact ⟨0, Nat.zero_le _, rfl, by simp⟩
  case round =>
    obtain ⟨k, hk, rfl, hall⟩ := hrel
    have HALL := Lib.hid hall
    clear hall
    by_cases hlt : k < s.size
    · go_wp2_with (fail)
      refine (hf.calls _ _).mono ?_
      rintro e w' ⟨rfl, rfl⟩
      cases hp : p s[k]
      · go_wp2
        go_ret
        refine ⟨ret_bool ?_, rfl⟩
        unfold eachB
        rw [all_false_of p s k hlt hp]
        rfl
      · go_wp2
        go_round
        case rel => exact ⟨k + 1, by omega, by go_num, by rw [all_take_succ _ _ _ hlt, HALL.out, hp]; rfl⟩
        case measure => simp [intOf]; omega
    · obtain rfl : k = s.size := by omega
      go_wp2
      all_goals go_ret
      all_goals refine ⟨ret_bool ?_, rfl⟩
      all_goals rw [take_size] at HALL
      all_goals unfold eachB
      all_goals rw [HALL.out]
      · simp [size_zero ‹_›]
      · simp [size_pos ‹_›, ‹¬ s.toList = []›]
end Go.Proofs.YtcmceeihdhcmnaaGreatDoor

namespace Go.Proofs.YtcmceeihdhcmnaaGreatDoor
open Go.RowKit

theorem size_list (s : ByteArray) : s.size = (bs s).length := (bs_length s).symm
/-- 'each' as a plain law on lists -/
def eachL (p : UInt8 → Bool) (l : Str) (n : Nat) : Bool := l.all p && decide (0 < l.length) && decide (l.length ≤ n)
theorem eachB_L (p : UInt8 → Bool) (s : ByteArray) (n : Nat) : eachB p s (n : Int) = eachL p (bs s) n := by
  unfold eachB eachL
  rw [size_list]
  congr 1
  rw [decide_eq_decide]
  omega
theorem eachL_pos {p : UInt8 → Bool} {s : ByteArray} {n : Nat} (h : eachL p (bs s) n = true) : 0 < s.size := by
  unfold eachL at h
  simp only [Bool.and_eq_true, decide_eq_true_eq] at h
  rw [size_list]; exact h.1.2
theorem each_list (f : FuncId) (p : UInt8 → Bool) (s : ByteArray) (n : Nat) (w : World) (hs : s.size ≤ 2097152) (hf : IsPred f p) :
    Calls Tryz.prog 78 #[.string s, .int .i64 n, .func (.func f) #[] #[]] w fun e w' => e = .returned (.bool (eachL p (bs s) n)) ∧ w = w' :=
  (each_any f p s n w hs hf).mono fun _ _ ⟨h, k⟩ => ⟨by rw [h, eachB_L], k⟩

def nameL (l : Str) : Bool := eachL nameB l 40 && smallB (l.headD 0)
theorem head_bs (s : ByteArray) (h : 0 < s.size) : (bs s).headD 0 = s[0] := by
  have h1 : s.data.toList[0]? = some s[0] := Lib.data_getElem? s 0 h
  unfold bs
  cases hl : s.data.toList with
  | nil => rw [hl] at h1; cases h1
  | cons x r => rw [hl] at h1; simpa using h1
set_option maxHeartbeats 400000 in
theorem IsName_any (s : ByteArray) (w : World) (hs : s.size ≤ 2097152) :
    Calls Tryz.prog 26 #[.string s] w fun e w' => e = .returned (.bool (nameL (bs s))) ∧ w = w' := by
  go_enter Tryz.func26, Tryz.ntmps26
  go_wp2_with fail
  refine (each_list _ _ s 40 _ hs isName1_pred).mono ?_
  rintro e w' ⟨rfl, rfl⟩
  cases h : eachL nameB (bs s) 40
  · go_wp2
    go_ret
    exact ⟨ret_bool (by rw [nameL, h]; rfl), rfl⟩
  · have hp := eachL_pos h
    go_wp2_with (go_at_call 80; refine (isSmall_any _ _).mono ?_; rintro e w' ⟨rfl, rfl⟩)
    go_ret
    exact ⟨ret_bool (by rw [nameL, h, head_bs s hp]; rfl), rfl⟩

def partL (l : Str) : Bool := eachL partB l 40 && (l != [46]) && (l != [46, 46])
theorem lit_beq (s : ByteArray) (l : Str) : (s.toList == l) = (bs s == l) := by rw [ByteArray.toList_eq]
theorem lit_bne (s : ByteArray) (l : Str) : (s.toList != l) = (bs s != l) := by rw [ByteArray.toList_eq]
set_option maxHeartbeats 400000 in
theorem isPart_any (s : ByteArray) (w : World) (hs : s.size ≤ 2097152) :
    Calls Tryz.prog 82 #[.string s] w fun e w' => e = .returned (.bool (partL (bs s))) ∧ w = w' := by
  go_enter Tryz.func82, Tryz.ntmps82
  go_wp2_with fail
  refine (each_list _ _ s 40 _ hs isPart1_pred).mono ?_
  rintro e w' ⟨rfl, rfl⟩
  cases h : eachL partB (bs s) 40
  · go_wp2
    go_ret
    exact ⟨ret_bool (by rw [partL, h]; rfl), rfl⟩
  · go_wp2
    all_goals go_ret
    all_goals refine ⟨ret_bool ?_, rfl⟩
    all_goals simp_all [partL, ByteArray.toList_eq]
    all_goals rfl

def valueL (l : Str) : Bool := l.all valueB && decide (l.length ≤ 1000)
theorem bs_nil {s : ByteArray} (h : s.size = 0) : bs s = [] := List.eq_nil_of_length_eq_zero (by rw [bs_length, h])
theorem eachL_value {s : ByteArray} (h : 0 < s.size) : eachL valueB (bs s) 1000 = valueL (bs s) := by
  unfold eachL valueL
  rw [bs_length, decide_eq_true h, Bool.and_true]
set_option maxHeartbeats 400000 in
theorem IsValue_any (s : ByteArray) (w : World) (hs : s.size ≤ 2097152) :
    Calls Tryz.prog 30 #[.string s] w fun e w' => e = .returned (.bool (valueL (bs s))) ∧ w = w' := by
  go_enter Tryz.func30, Tryz.ntmps30
  rcases Nat.eq_zero_or_pos s.size with h0 | h0
  · have he := emp_of_size h0
    go_wp2
    go_ret
    exact ⟨ret_bool (by rw [bs_nil h0]; rfl), rfl⟩
  · have he := nemp_of_size h0
    go_wp2_with (go_at_call 78; refine (each_list _ _ s 1000 _ hs isValue1_pred).mono ?_; rintro e w' ⟨rfl, rfl⟩)
    go_ret
    have hi : s.toList.isEmpty = false := by simpa using he
    exact ⟨ret_bool (by rw [eachL_value h0, hi]; rfl), rfl⟩
def numeralL (l : Str) : Bool := eachL digitB l 10
set_option maxHeartbeats 400000 in
theorem isNumeral_any (s : ByteArray) (w : World) (hs : s.size ≤ 2097152) :
    Calls Tryz.prog 132 #[.string s] w fun e w' => e = .returned (.bool (numeralL (bs s))) ∧ w = w' := by
  go_enter Tryz.func132, Tryz.ntmps132
  go_wp2_with (go_at_call 78; refine (each_list _ _ s 10 _ hs isDigit_pred).mono ?_; rintro e w' ⟨rfl, rfl⟩)
  go_ret
  exact ⟨rfl, rfl⟩
set_option maxHeartbeats 400000 in
theorem outside_any (n a b : Int) (w : World) :
    Calls Tryz.prog 76 #[.int .i64 n, .int .i64 a, .int .i64 b] w fun e w' => e = .returned (.bool (decide (n < a ∨ b < n))) ∧ w = w' := by
  go_enter Tryz.func76, Tryz.ntmps76
  go_wp2
  all_goals go_ret
  all_goals refine ⟨ret_bool ?_, rfl⟩
  all_goals simp
  all_goals omega
set_option maxHeartbeats 400000 in
theorem In_any (n a b : Int) (w : World) :
    Calls Tryz.prog 71 #[.int .i64 n, .int .i64 a, .int .i64 b] w fun e w' => e = .returned (.bool (decide (a ≤ n ∧ n ≤ b))) ∧ w = w' := by
  go_enter Tryz.func71, Tryz.ntmps71
  go_wp2
  all_goals go_ret
  all_goals refine ⟨ret_bool ?_, rfl⟩
  all_goals simp
  all_goals omega
set_option maxHeartbeats 400000 in
theorem When_any (b : Bool) (n : Int) (w : World) :
    Calls Tryz.prog 57 #[.bool b, .int .i64 n] w fun e w' => e = .returned (.int .i64 (if b then n else 0)) ∧ w = w' := by
  go_enter Tryz.func57, Tryz.ntmps57
  cases b
  all_goals go_wp2
  all_goals go_ret
  all_goals exact ⟨rfl, rfl⟩
end Go.Proofs.YtcmceeihdhcmnaaGreatDoor

namespace Go.Proofs.YtcmceeihdhcmnaaGreatDoor
open Go.RowKit

def firstI : List Int → Int
  | [] => 0
  | e :: r => if e = 0 then firstI r else e
theorem firstI_zero : ∀ {l : List Int}, (∀ x ∈ l, x = 0) → firstI l = 0
  | [], _ => rfl
  | e :: r, h => by
    unfold firstI
    rw [if_pos (h e (by simp)), firstI_zero fun x hx => h x (by simp [hx])]
theorem firstI_at : ∀ {l : List Int} {k : Nat} (hk : k < l.length), (∀ x ∈ l.take k, x = 0) → l[k] ≠ 0 → firstI l = l[k]
  | e :: r, 0, _, _, h => by unfold firstI; rw [if_neg (by simpa using h)]; rfl
  | e :: r, k + 1, hk, h0, h => by
    unfold firstI
    rw [if_pos (h0 e (by simp))]
    exact firstI_at (l := r) (k := k) (by simpa using hk) (fun x hx => h0 x (by simp [hx])) (by simpa using h)
theorem take_zero_succ {l : List Int} {k : Nat} (hk : k < l.length) (h : ∀ x ∈ l.take k, x = 0) (h0 : l[k] = 0) : ∀ x ∈ l.take (k + 1), x = 0 := by
  intro x hx
  rw [List.take_succ_eq_append_getElem hk, List.mem_append] at hx
  rcases hx with hx | hx
  · exact h x hx
  · simp at hx; rw [hx, h0]

set_option maxHeartbeats 400000 in
theorem First_any (b c : Nat) (es : List Int) (w : World) (hc : ∀ k (h : k < es.length), w.cell? ⟨b, k, none⟩ = some (.int .i64 es[k])) (hl : es.length ≤ 1000) :
    Calls Tryz.prog 19 #[.slice (some ⟨b, 0, none⟩) es.length c] w fun e w' => e = .returned (.int .i64 (firstI es)) ∧ w = w' := by
  go_enter Tryz.func19, Tryz.ntmps19
  go_wp2
  go_loop [7] (fun i => ∃ k : Nat, k ≤ es.length ∧ i = .int .i64 k ∧ ∀ x ∈ es.take k, x = 0) (fun i => es.length - (intOf i).toNat)
  case atStart => exact ⟨0, Nat.zero_le _, rfl, by simp⟩
  case round =>
    obtain ⟨k, hk, rfl, hall⟩ := hrel
    have HALL := Lib.hid hall
    clear hall
    by_cases hlt : k < es.length
    · have hk1 := hc k hlt
      have HC := Lib.hid hc
      clear hc
      by_cases h0 : es[k] = 0
      · have H0 := Lib.hid h0
        rw [h0] at hk1
        clear h0
        go_wp2
        go_round
        case rel => exact ⟨k + 1, by omega, by go_num, take_zero_succ hlt HALL.out H0.out⟩
        case measure => simp [intOf]; omega
      · go_wp2
        go_ret
        exact ⟨ret_int (firstI_at hlt HALL.out h0).symm, rfl⟩
    · obtain rfl : k = es.length := by omega
      have HC := Lib.hid hc
      clear hc
      go_wp2
      go_ret
      exact ⟨ret_int (firstI_zero (by simpa using HALL.out)).symm, rfl⟩
end Go.Proofs.YtcmceeihdhcmnaaGreatDoor
