/- Contracts of ver.IsName, isPart, IsValue, isNumeral, outside; outref2.In, When, First. Contracts of outref2.First, cmp.Or[int]: the first of several numbers that is not 0. The library's contracts in this claim's words: a world that has only grown, texts as lists of bytes. Contracts of ver.IsPath, isEarly, Check. Contracts of ver.text. -/
import Derived.Test.YtghhjlcbcojcnaaGreatDoorRn01
import Derived.Test.YtghhjlcbcojcnaaGreatDoorShelf

namespace Go.Proofs.YtghhjlcbcojcnaaGreatDoor
open Go.RowKit

theorem size_list (s : ByteArray) : s.size = (bs s).length := (bs_length s).symm
/-- 'each' as a plain law on lists -/
def eachL (p : UInt8 → Bool) (l : Str) (n : Nat) : Bool := l.all p && decide (0 < l.length) && decide (l.length ≤ n)
theorem eachB_L (p : UInt8 → Bool) (s : ByteArray) (n : Nat) : eachB p s (n : Int) = eachL p (bs s) n := by
  unfold eachB eachL
  rw [size_list]
  congr 1
  rw [decide_eq_decide]
  omega
theorem eachL_pos {p : UInt8 → Bool} {s : ByteArray} {n : Nat} (h : eachL p (bs s) n = true) : 0 < s.size := by
  unfold eachL at h
  simp only [Bool.and_eq_true, decide_eq_true_eq] at h
  rw [size_list]; exact h.1.2
theorem each_list (f : FuncId) (p : UInt8 → Bool) (s : ByteArray) (n : Nat) (w : World) (hs : s.size ≤ 2097152) (hf : IsPred f p) :
    Calls Tryz.prog 97 #[.string s, .int .i64 n, .func (.func f) #[] #[]] w fun e w' => e = .returned (.bool (eachL p (bs s) n)) ∧ w = w' :=
  (each_any f p s n w hs hf).mono fun _ _ ⟨h, k⟩ => ⟨by rw [h, eachB_L], k⟩

def nameL (l : Str) : Bool := eachL nameB l 40 && smallB (l.headD 0)
theorem head_bs (s : ByteArray) (h : 0 < s.size) : (bs s).headD 0 = s[0] := by
  have h1 : s.data.toList[0]? = some s[0] := Lib.data_getElem? s 0 h
  unfold bs
  cases hl : s.data.toList with
  | nil => rw [hl] at h1; cases h1
  | cons x r => rw [hl] at h1; simpa using h1
set_option maxHeartbeats 400000 in
theorem IsName_any (s : ByteArray) (w : World) (hs : s.size ≤ 2097152) :
    Calls Tryz.prog 29 #[.string s] w fun e w' => e = .returned (.bool (nameL (bs s))) ∧ w = w' := by
  go_enter Tryz.func29, Tryz.ntmps29
  go_wp2_with fail
  refine (each_list _ _ s 40 _ hs isName1_pred).mono ?_
  rintro e w' ⟨rfl, rfl⟩
  cases h : eachL nameB (bs s) 40
  · go_wp2
    go_ret
    exact ⟨ret_bool (by rw [nameL, h]; rfl), rfl⟩
  · have hp := eachL_pos h
    go_wp2_with (go_at_call 99; refine (isSmall_any _ _).mono ?_; rintro e w' ⟨rfl, rfl⟩)
    go_ret
    exact ⟨ret_bool (by rw [nameL, h, head_bs s hp]; rfl), rfl⟩

def partL (l : Str) : Bool := eachL partB l 40 && (l != [46]) && (l != [46, 46])
theorem lit_beq (s : ByteArray) (l : Str) : (s.toList == l) = (bs s == l) := by rw [ByteArray.toList_eq]
set_option maxHeartbeats 400000 in
theorem isPart_any (s : ByteArray) (w : World) (hs : s.size ≤ 2097152) :
    Calls Tryz.prog 101 #[.string s] w fun e w' => e = .returned (.bool (partL (bs s))) ∧ w = w' := by
  go_enter Tryz.func101, Tryz.ntmps101
  go_wp2_with fail
  refine (each_list _ _ s 40 _ hs isPart1_pred).mono ?_
  rintro e w' ⟨rfl, rfl⟩
  cases h : eachL partB (bs s) 40
  · go_wp2
    go_ret
    exact ⟨ret_bool (by rw [partL, h]; rfl), rfl⟩
  · go_wp2
    all_goals go_ret
    all_goals refine ⟨ret_bool ?_, rfl⟩
    all_goals simp_all [partL, ByteArray.toList_eq]
    all_goals rfl

def valueL (l : Str) : Bool := l.all valueB && decide (l.length ≤ 1000)
theorem bs_nil {s : ByteArray} (h : s.size = 0) : bs s = [] := List.eq_nil_of_length_eq_zero (by rw [bs_length, h])
theorem eachL_value {s : ByteArray} (h : 0 < s.size) : eachL valueB (bs s) 1000 = valueL (bs s) := by
  unfold eachL valueL
  rw [bs_length, decide_eq_true h, Bool.and_true]
set_option maxHeartbeats 400000 in
theorem IsValue_any (s : ByteArray) (w : World) (hs : s.size ≤ 2097152) :
    Calls Tryz.prog 33 #[.string s] w fun e w' => e = .returned (.bool (valueL (bs s))) ∧ w = w' := by
  go_enter Tryz.func33, Tryz.ntmps33
  rcases Nat.eq_zero_or_pos s.size with h0 | h0
  · have he := emp_of_size h0
    go_wp2
    go_ret
    exact ⟨ret_bool (by rw [bs_nil h0]; rfl), rfl⟩
  · have he := nemp_of_size h0
    go_wp2_with (go_at_call 97; refine (each_list _ _ s 1000 _ hs isValue1_pred).mono ?_; rintro e w' ⟨rfl, rfl⟩)
    go_ret
    have hi : s.toList.isEmpty = false := by simpa using he
    exact ⟨ret_bool (by rw [eachL_value h0, hi]; rfl), rfl⟩
def numeralL (l : Str) : Bool := eachL digitB l 10
set_option maxHeartbeats 400000 in
theorem isNumeral_any (s : ByteArray) (w : World) (hs : s.size ≤ 2097152) :
    Calls Tryz.prog 164 #[.string s] w fun e w' => e = .returned (.bool (numeralL (bs s))) ∧ w = w' := by
  go_enter Tryz.func164, Tryz.ntmps164
  go_wp2_with (go_at_call 97; refine (each_list _ _ s 10 _ hs isDigit_pred).mono ?_; rintro e w' ⟨rfl, rfl⟩)
  go_ret
  exact ⟨rfl, rfl⟩
set_option maxHeartbeats 400000 in
theorem outside_any (n a b : Int) (w : World) :
    Calls Tryz.prog 95 #[.int .i64 n, .int .i64 a, .int .i64 b] w fun e w' => e = .returned (.bool (decide (n < a ∨ b < n))) ∧ w = w' := by
  go_enter Tryz.func95, Tryz.ntmps95
  go_wp2
  all_goals go_ret
  all_goals refine ⟨ret_bool ?_, rfl⟩
  all_goals simp
  all_goals omega
set_option maxHeartbeats 400000 in
theorem When_any (b : Bool) (n : Int) (w : World) :
    Calls Tryz.prog 60 #[.bool b, .int .i64 n] w fun e w' => e = .returned (.int .i64 (if b then n else 0)) ∧ w = w' := by
  go_enter Tryz.func60, Tryz.ntmps60
  cases b
  all_goals go_wp2
  all_goals go_ret
  all_goals exact ⟨rfl, rfl⟩
end Go.Proofs.YtghhjlcbcojcnaaGreatDoor

namespace Go.Proofs.YtghhjlcbcojcnaaGreatDoor
open Go.RowKit

def firstI : List Int → Int
  | [] => 0
  | e :: r => if e = 0 then firstI r else e
theorem firstI_zero : ∀ {l : List Int}, (∀ x ∈ l, x = 0) → firstI l = 0
  | [], _ => rfl
  | e :: r, h => by
    unfold firstI
    rw [if_pos (h e (by simp)), firstI_zero fun x hx => h x (by simp [hx])]
theorem firstI_at : ∀ {l : List Int} {k : Nat} (hk : k < l.length), (∀ x ∈ l.take k, x = 0) → l[k] ≠ 0 → firstI l = l[k]
  | e :: r, 0, _, _, h => by unfold firstI; rw [if_neg (by simpa using h)]; rfl
  | e :: r, k + 1, hk, h0, h => by
    unfold firstI
    rw [if_pos (h0 e (by simp))]
    exact firstI_at (l := r) (k := k) (by simpa using hk) (fun x hx => h0 x (by simp [hx])) (by simpa using h)
theorem take_zero_succ {l : List Int} {k : Nat} (hk : k < l.length) (h : ∀ x ∈ l.take k, x = 0) (h0 : l[k] = 0) : ∀ x ∈ l.take (k + 1), x = 0 := by
  intro x hx
  rw [List.take_succ_eq_append_getElem hk, List.mem_append] at hx
  rcases hx with hx | hx
  · exact h x hx
  · simp at hx; rw [hx, h0]

set_option maxHeartbeats 400000 in
theorem First_any (b c : Nat) (es : List Int) (w : World) (hc : ∀ k (h : k < es.length), w.cell? ⟨b, k, none⟩ = some (.int .i64 es[k])) (hl : es.length ≤ 1000) :
    Calls Tryz.prog 22 #[.slice (some ⟨b, 0, none⟩) es.length c] w fun e w' => e = .returned (.int .i64 (firstI es)) ∧ w = w' := by
  go_enter Tryz.func22, Tryz.ntmps22
  go_wp2
  go_loop [7] (fun i => ∃ k : Nat, k ≤ es.length ∧ i = .int .i64 k ∧ ∀ x ∈ es.take k, x = 0) (fun i => es.length - (intOf i).toNat)
  case atStart => exact ⟨0, Nat.zero_le _, rfl, by simp⟩
  case round =>
    obtain ⟨k, hk, rfl, hall⟩ := hrel
    have HALL := Lib.hid hall
    clear hall
    by_cases hlt : k < es.length
    · have hk1 := hc k hlt
      have HC := Lib.hid hc
      clear hc
      by_cases h0 : es[k] = 0
      · have H0 := Lib.hid h0
        rw [h0] at hk1
        clear h0
        go_wp2
        go_round
        case rel => exact ⟨k + 1, by omega, by go_num, take_zero_succ hlt HALL.out H0.out⟩
        case measure => simp [intOf]; omega
      · go_wp2
        go_ret
        exact ⟨ret_int (firstI_at hlt HALL.out h0).symm, rfl⟩
    · obtain rfl : k = es.length := by omega
      have HC := Lib.hid hc
      clear hc
      go_wp2
      go_ret
      exact ⟨ret_int (firstI_zero (by simpa using HALL.out)).symm, rfl⟩
end Go.Proofs.YtghhjlcbcojcnaaGreatDoor

namespace Go.Proofs.YtghhjlcbcojcnaaGreatDoor
open Go.RowKit

/-- A slice of strings that lies at the head of a block. -/
structure Strs (w : World) (b : Nat) (xs : List ByteArray) : Prop where
  lt : b < w.heap.size
  cell : ∀ k (h : k < xs.length), w.cell? ⟨b, k, none⟩ = some (.string xs[k])
theorem Strs.ext {w w' : World} {b : Nat} {xs : List ByteArray} (h : Strs w b xs) (hx : Ext w w') : Strs w' b xs := ⟨Nat.lt_of_lt_of_le h.lt hx.size, fun k hk => hx.cell (h.cell k hk)⟩

theorem split_any (c : UInt8) (s : ByteArray) (w : World) (hg : Good w) (hs : s.size ≤ 2097152) :
    Calls Tryz.prog 91 #[.string s, .string ⟨#[c]⟩] w fun e w' => ∃ (b : Nat) (xs : List ByteArray),
      e = .returned (.slice (some ⟨b, 0, none⟩) xs.length xs.length) ∧ w.heap.size ≤ b ∧ Strs w' b xs ∧ xs.map bs = splitC c (bs s) ∧ Ext w w' := by
  obtain ⟨m, hm⟩ := hg.maxLen
  refine (Tryz.strings_Split s ⟨#[c]⟩ m w (by omega) hm (Nat.le_refl _)).mono ?_
  rintro e w' ⟨rfl, rfl⟩
  have hlen : (Lib.splitB ⟨#[c]⟩ 0 (Lib.countB s ⟨#[c]⟩) s).length = Lib.countB s ⟨#[c]⟩ + 1 := by
    rw [splitC_length, splitC_count c _ _ (Nat.le_refl _)]
  refine ⟨w.heap.size, _, by rw [hlen], Nat.le_refl _, ⟨by simp, ?_⟩, splitB_one c s, (Ext.refl w).alloc _⟩
  intro k hk
  rw [World.cell?_alloc_at _ _ _ _ rfl]
  simp [hk]
theorem cut_any (c : UInt8) (s : ByteArray) (w : World) (hg : Good w) (hs : s.size ≤ 2097152) :
    Calls Tryz.prog 83 #[.string s, .string ⟨#[c]⟩] w fun e w' => e = .returned (.tuple #[S (cutC c (bs s)).1, S (cutC c (bs s)).2.1, .bool (cutC c (bs s)).2.2]) ∧ Ext w w' := by
  obtain ⟨m, hm⟩ := hg.maxLen
  refine (Tryz.strings_Cut s ⟨#[c]⟩ m w (by omega) hm).mono ?_
  rintro e w' ⟨rfl, n, rfl⟩
  exact ⟨by rw [show (⟨#[c]⟩ : ByteArray).data.toList = [c] from rfl, cut_one], (Ext.refl w).drewN n⟩
theorem cutC_size (c : UInt8) (l : Str) : (cutC c l).1.length ≤ l.length ∧ (cutC c l).2.1.length ≤ l.length := by
  rcases first_cut c l with h | ⟨a, r, ha, rfl⟩
  · rw [cutC_none c l h]; simp
  · rw [cutC_app c a r ha]; simp; omega
/-- strings.Cut, its parts named -/
theorem cut_ex (c : UInt8) (s : ByteArray) (w : World) (hg : Good w) (hs : s.size ≤ 2097152) :
    Calls Tryz.prog 83 #[.string s, .string ⟨#[c]⟩] w fun e w' => ∃ (a b : ByteArray) (f : Bool), e = .returned (.tuple #[.string a, .string b, .bool f]) ∧ cutC c (bs s) = (bs a, bs b, f) ∧ a.size ≤ s.size ∧ b.size ≤ s.size ∧ Ext w w' :=
  (cut_any c s w hg hs).mono fun _ _ ⟨h, k⟩ => by
    have h1 := cutC_size c (bs s)
    rw [bs_length] at h1
    exact ⟨_, _, _, h, by rw [bs_mk, bs_mk], by rw [← bs_length, bs_mk]; exact h1.1, by rw [← bs_length, bs_mk]; exact h1.2, k⟩
theorem contains_any (c : UInt8) (s : ByteArray) (w : World) (hg : Good w) (hs : s.size ≤ 2097152) :
    Calls Tryz.prog 85 #[.string s, .string ⟨#[c]⟩] w fun e w' => e = .returned (.bool ((bs s).contains c)) ∧ w = w' := by
  obtain ⟨m, hm⟩ := hg.maxLen
  refine (Tryz.strings_Contains s ⟨#[c]⟩ m w (by omega) hm).mono ?_
  rintro e w' ⟨rfl, rfl⟩
  refine ⟨ret_bool ?_, rfl⟩
  unfold Lib.contains
  rw [show (⟨#[c]⟩ : ByteArray).data.toList = [c] from rfl]
  rcases first_cut c (bs s) with h | ⟨a, r, ha, hr⟩
  · rw [index_none c _ h]; simp [h]
  · rw [show s.data.toList = a ++ c :: r from hr, index_app c a r ha]; simp [bs, hr]
theorem hasPrefix_any (s p : ByteArray) (w : World) :
    Calls Tryz.prog 78 #[.string s, .string p] w fun e w' => e = .returned (.bool ((bs p).isPrefixOf (bs s))) ∧ w = w' :=
  (Tryz.strings_HasPrefix s p w).mono fun _ _ ⟨h, k⟩ => ⟨h, k.symm⟩
theorem cutPrefix_any (s p : ByteArray) (w : World) :
    Calls Tryz.prog 116 #[.string s, .string p] w fun e w' => e = .returned (.tuple #[S (Lib.trimPrefix (bs s) (bs p)), .bool ((bs p).isPrefixOf (bs s))]) ∧ w = w' :=
  (Tryz.strings_CutPrefix s p w).mono fun _ _ ⟨h, k⟩ => ⟨h, k.symm⟩
theorem indexByte_any (s : ByteArray) (c : UInt8) (w : World) :
    Calls Tryz.prog 175 #[.string s, .int .u8 c.toNat] w fun e w' => e = .returned (.int .i64 (Lib.indexByte (bs s) c)) ∧ w = w' :=
  (Tryz.strings_IndexByte s c.toNat w).mono fun _ _ ⟨h, k⟩ => ⟨by rw [h, Lib.byte_back], k.symm⟩
theorem compare_any (a b : ByteArray) (w : World) :
    Calls Tryz.prog 107 #[.string a, .string b] w fun e w' => e = .returned (.int .i64 (Lib.compareBytes (bs a) (bs b))) ∧ w = w' :=
  (Tryz.strings_Compare a b w).mono fun _ _ ⟨h, k⟩ => ⟨h, k.symm⟩
theorem compareInt_any (a b : Int) (w : World) :
    Calls Tryz.prog 105 #[.int .i64 a, .int .i64 b] w fun e w' => e = .returned (.int .i64 (Lib.compareInt a b)) ∧ w = w' :=
  (Tryz.cmp_Compare_int a b w).mono fun _ _ ⟨h, k⟩ => ⟨h, k.symm⟩
theorem atoi_any (s : ByteArray) (w : World) (hg : GoodN w) (hs : s.size ≤ 2097152) :
    Calls Tryz.prog 106 #[.string s] w fun e w' => ∃ (v : Int) (ev : Value), e = .returned (.tuple #[.int .i64 v, ev]) ∧ Ext w w' ∧
      (∀ u, Lib.atoiAll (bs s) = .ok u → v = u ∧ ev = .nilIface) ∧ (ev = .nilIface ∨ ∃ t p, ev = .iface t p) := by
  cases h : Lib.atoiAll s.data.toList
  · rename_i u
    refine (Tryz.strconv_Atoi_ok s (by omega) u h w).mono ?_
    rintro e w' ⟨rfl, hw⟩
    refine ⟨u, .nilIface, rfl, ?_, fun u' hu => ⟨by injection hu, rfl⟩, .inl rfl⟩
    rcases hw with rfl | ⟨t, rfl⟩
    · exact Ext.refl _
    · exact (Ext.refl _).bytesWorld _ _
  · obtain ⟨tp, p, hv⟩ := hg.errS
    refine (Any.strconv_Atoi_syntax_var Tryz.laysC172 s (by omega) h tp p w hv).mono ?_
    rintro e w' ⟨N, rfl, _, _, hb⟩
    exact ⟨_, _, rfl, hb, (fun u' hu => by cases hu), .inr ⟨_, _, rfl⟩⟩
  · obtain ⟨tp, p, hv⟩ := hg.errR
    refine (Tryz.strconv_Atoi_range_var s (by omega) h tp p w hv).mono ?_
    rintro e w' ⟨N, rfl, _, _, hb⟩
    exact ⟨_, _, rfl, hb, (fun u' hu => by cases hu), .inr ⟨_, _, rfl⟩⟩
theorem trim_any (s cs : ByteArray) (w : World) (hs : s.size ≤ 2097152) (hcs : cs.size ≤ 1000) (hascii : ∀ (j : Nat) b, cs.data.toList[j]? = some b → b.toNat < 128) :
    Calls Tryz.prog 160 #[.string s, .string cs] w fun e w' => e = .returned (S (Lib.trimS (bs s) (bs cs))) ∧ Ext w w' :=
  Any.strings_Trim_laid Tryz.laysT160 (by kernel_rfl) s cs w (by omega) (by omega) hascii
end Go.Proofs.YtghhjlcbcojcnaaGreatDoor

namespace Go.Proofs.YtghhjlcbcojcnaaGreatDoor
open Go.RowKit

/-! ### A predicate along a list of strings -/
theorem allS_succ (p : Str → Bool) (xs : List ByteArray) (k : Nat) (h : k < xs.length) (h1 : (xs.take k).all (fun x => p (bs x)) = true) (h2 : p (bs xs[k]) = true) : (xs.take (k + 1)).all (fun x => p (bs x)) = true := by
  rw [List.take_succ_eq_append_getElem h, List.all_append, h1]
  simp [h2]
theorem allS_false (p : Str → Bool) (xs : List ByteArray) (k : Nat) (h : k < xs.length) (h2 : p (bs xs[k]) = false) : (xs.map bs).all p = false := by
  rw [List.all_eq_false]
  exact ⟨bs xs[k], List.mem_map.2 ⟨xs[k], List.getElem_mem h, rfl⟩, by simp [h2]⟩
theorem allS_true (p : Str → Bool) (xs : List ByteArray) (h1 : (xs.take xs.length).all (fun x => p (bs x)) = true) : (xs.map bs).all p = true := by
  rw [List.take_length] at h1
  rw [List.all_map]; exact h1

/-- pieces of a text are no longer than it -/
theorem splitC_le (c : UInt8) : ∀ (l p : Str), p ∈ splitC c l → p.length ≤ l.length
  | [], p, h => by simp [splitC] at h; simp [h]
  | x :: r, p, h => by
    unfold splitC at h
    by_cases hx : x = c
    · rw [if_pos hx] at h
      rcases List.mem_cons.1 h with e | e
      · simp [e]
      · have := splitC_le c r p e; simp; omega
    · rw [if_neg hx] at h
      cases hs : splitC c r with
      | nil => exact absurd hs (splitC_ne c r)
      | cons q t =>
        rw [hs] at h
        rcases List.mem_cons.1 h with e | e
        · have := splitC_le c r q (by rw [hs]; simp)
          rw [e]; simp; omega
        · have := splitC_le c r p (by rw [hs]; simp [e]); simp; omega
theorem piece_le {c : UInt8} {s : ByteArray} {xs : List ByteArray} (h : xs.map bs = splitC c (bs s)) {k : Nat} (hk : k < xs.length) : xs[k].size ≤ s.size := by
  rw [← bs_length, ← bs_length]
  exact splitC_le c _ _ (by rw [← h]; exact List.mem_map.2 ⟨_, List.getElem_mem hk, rfl⟩)

theorem splitC_length_le (c : UInt8) : ∀ l : Str, (splitC c l).length ≤ l.length + 1
  | [] => by simp [splitC]
  | x :: r => by
    have := splitC_length_le c r
    unfold splitC
    split
    · simp; omega
    · split <;> simp_all; omega
theorem pieces_le {c : UInt8} {s : ByteArray} {xs : List ByteArray} (h : xs.map bs = splitC c (bs s)) : xs.length ≤ s.size + 1 := by
  have h1 := splitC_length_le c (bs s)
  rw [← h, List.length_map, bs_length] at h1
  exact h1

def pathL (l : Str) : Bool := (splitC 47 l).all partL && decide (l.length ≤ 200)
set_option maxHeartbeats 400000 in
theorem IsPath_any (s : ByteArray) (w : World) (hg : Good w) (hs : s.size ≤ 2097152) :
    Calls Tryz.prog 31 #[.string s] w fun e w' => e = .returned (.bool (pathL (bs s))) ∧ Ext w w' := by
  go_enter Tryz.func31, Tryz.ntmps31
  go_wp2_with fail
  refine (split_any 47 s _ hg hs).mono ?_
  rintro e w1 ⟨b, xs, rfl, hb0, hst, hxs, hx⟩
  have HXS := Lib.hid hxs
  have hcell := hst.cell
  have HC := Lib.hid hcell
  clear hcell
  have hlen := pieces_le hxs
  clear hxs
  go_wp2
  go_loop [8] (fun i => ∃ k : Nat, k ≤ xs.length ∧ i = .int .i64 k ∧ (xs.take k).all (fun x => partL (bs x)) = true) (fun i => xs.length - (intOf i).toNat)
  case atStart => exact ⟨0, Nat.zero_le _, rfl, by simp⟩
  case round =>
    obtain ⟨k, hk, rfl, hall⟩ := hrel
    have HALL := Lib.hid hall
    clear hall
    by_cases hlt : k < xs.length
    · have hk1 := HC.out k hlt
      have hsz := piece_le HXS.out hlt
      go_wp2_with fail
      refine (isPart_any xs[k] _ (by omega)).mono ?_
      rintro e w' ⟨rfl, rfl⟩
      cases hp : partL (bs xs[k])
      · go_wp2
        go_ret
        refine ⟨ret_bool ?_, hx⟩
        unfold pathL
        rw [← HXS.out, allS_false partL xs k hlt hp]
        rfl
      · go_wp2
        go_round
        case rel => exact ⟨k + 1, by omega, by go_num, allS_succ _ _ _ hlt HALL.out hp⟩
        case measure => simp [intOf]; omega
    · obtain rfl : k = xs.length := by omega
      go_wp2
      go_ret
      refine ⟨ret_bool ?_, hx⟩
      unfold pathL
      rw [← HXS.out, allS_true partL xs HALL.out, bs_length]
      simp
      omega

def earlyWordL (l : Str) : Bool := eachL wordB l 10 && !(numeralL l && (l.headD 0 == 48) && (l != [48]))
def earlyL (l : Str) : Bool := (splitC 46 l).all earlyWordL && decide (l.length ≤ 40)
theorem cast_beq (a : UInt8) (n : Nat) (h : n < 256) : (((a.toNat : Nat) : Int) == (n : Int)) = (a == UInt8.ofNat n) := by
  rw [Bool.eq_iff_iff, beq_iff_eq, beq_iff_eq]
  constructor
  · intro e
    apply UInt8.toNat_inj.1
    rw [UInt8.toNat_ofNat']
    omega
  · rintro rfl
    rw [UInt8.toNat_ofNat']
    omega
theorem ew_bad {x : ByteArray} {h0 : 0 < x.size} (hh : (bs x).headD 0 = x[0]) (hn : numeralL (bs x) = true) (h1 : (x[0].toNat : Int) = 48) (h2 : (!x.toList == [48]) = true) : earlyWordL (bs x) = false := by
  have h3 : x[0] = 48 := UInt8.toNat_inj.1 (by show x[0].toNat = 48; omega)
  rw [ByteArray.toList_eq] at h2
  have h4 : (bs x != [48]) = true := h2
  rw [earlyWordL, hh, h3, hn, h4]
  simp
theorem ew_good1 {x : ByteArray} (hp : eachL wordB (bs x) 10 = true) (h2 : (!x.toList == [48]) = false) : earlyWordL (bs x) = true := by
  rw [ByteArray.toList_eq] at h2
  have h4 : (bs x != [48]) = false := h2
  rw [earlyWordL, hp, h4]
  simp
theorem ew_good2 {x : ByteArray} {h0 : 0 < x.size} (hp : eachL wordB (bs x) 10 = true) (hh : (bs x).headD 0 = x[0]) (h1 : ¬ (x[0].toNat : Int) = 48) : earlyWordL (bs x) = true := by
  have h3 : (x[0] == 48) = false := by
    rw [beq_eq_false_iff_ne]
    intro e
    rw [e] at h1
    exact h1 rfl
  rw [earlyWordL, hp, hh, h3]
  simp
set_option maxHeartbeats 1000000 in
theorem isEarly_any (s : ByteArray) (w : World) (hg : Good w) (hs : s.size ≤ 2097152) :
    Calls Tryz.prog 96 #[.string s] w fun e w' => e = .returned (.bool (earlyL (bs s))) ∧ Ext w w' := by
  go_enter Tryz.func96, Tryz.ntmps96
  go_wp2_with fail
  refine (split_any 46 s _ hg hs).mono ?_
  rintro e w1 ⟨b, xs, rfl, hb0, hst, hxs, hx⟩
  have HXS := Lib.hid hxs
  have hcell := hst.cell
  have HC := Lib.hid hcell
  clear hcell
  have hlen := pieces_le hxs
  clear hxs
  go_wp2
  go_loop [8] (fun i => ∃ k : Nat, k ≤ xs.length ∧ i = .int .i64 k ∧ (xs.take k).all (fun x => earlyWordL (bs x)) = true) (fun i => xs.length - (intOf i).toNat)
  case atStart => exact ⟨0, Nat.zero_le _, rfl, by simp⟩
  case round =>
    obtain ⟨k, hk, rfl, hall⟩ := hrel
    have HALL := Lib.hid hall
    clear hall
    by_cases hlt : k < xs.length
    · have hk1 := HC.out k hlt
      have hsz := piece_le HXS.out hlt
      have hne : earlyWordL (bs xs[k]) = false → (xs.map bs).all earlyWordL = false := allS_false earlyWordL xs k hlt
      have HNE := Lib.hid hne
      clear hne
      have hsu := allS_succ earlyWordL xs k hlt HALL.out
      have HSU := Lib.hid hsu
      clear hsu
      generalize xs[k] = x at *
      go_wp2_with fail
      refine (each_list _ _ x 10 _ (by omega) isEarly1_pred).mono ?_
      rintro e w' ⟨rfl, rfl⟩
      cases hp : eachL wordB (bs x) 10
      · go_wp2
        go_ret
        refine ⟨ret_bool ?_, hx⟩
        unfold earlyL
        rw [← HXS.out, HNE.out (by rw [earlyWordL, hp]; rfl)]
        rfl
      · have h0 := eachL_pos hp
        have hh := head_bs x h0
        have HH := Lib.hid hh
        clear hh
        go_wp2_with fail
        refine (isNumeral_any x _ (by omega)).mono ?_
        rintro e w' ⟨rfl, rfl⟩
        cases hn : numeralL (bs x)
        · go_wp2
          go_round
          case rel => exact ⟨k + 1, by omega, by go_num, HSU.out (by rw [earlyWordL, hp, hn]; rfl)⟩
          case measure => simp [intOf]; omega
        · go_wp2
          · go_ret
            refine ⟨ret_bool ?_, hx⟩
            unfold earlyL
            rw [← HXS.out, HNE.out (ew_bad HH.out hn (by assumption) (by assumption))]
            rfl
          · go_round
            case rel => exact ⟨k + 1, by omega, by go_num, HSU.out (ew_good1 hp (by assumption))⟩
            case measure => simp [intOf]; omega
          · go_round
            case rel => exact ⟨k + 1, by omega, by go_num, HSU.out (ew_good2 hp HH.out (by assumption))⟩
            case measure => simp [intOf]; omega
    · obtain rfl : k = xs.length := by omega
      go_wp2
      go_ret
      refine ⟨ret_bool ?_, hx⟩
      unfold earlyL
      rw [← HXS.out, allS_true earlyWordL xs HALL.out, bs_length]
      simp
      omega
end Go.Proofs.YtghhjlcbcojcnaaGreatDoor

namespace Go.Proofs.YtghhjlcbcojcnaaGreatDoor
open Go.RowKit

def inNum (n : Int) : Bool := decide (0 ≤ n ∧ n ≤ 999999)
def textL (ma mi pa : Int) (e : Str) : Str := Lib.itoa ma ++ [46] ++ Lib.itoa mi ++ [46] ++ Lib.itoa pa ++ (if e = [] then [] else 45 :: e)
end Go.Proofs.YtghhjlcbcojcnaaGreatDoor
