/- Contracts of outref2: inner, Of, NameOf, PathOf, ValueOf. -/
import Derived.Test.YtcmceeihdhcmnaaGreatDoorRm03

namespace Go.Proofs.YtcmceeihdhcmnaaGreatDoor
open Go.RowKit

theorem u8_all (p : UInt8 → Bool) (h : (List.range 256).all (fun n => p (UInt8.ofNat n)) = true) (c : UInt8) : p c = true := by
  have h1 := List.all_eq_true.1 h c.toNat (List.mem_range.2 c.toNat_lt)
  simpa using h1
def ofL (l cs : Str) : Bool := l.all (cs.contains ·)
theorem indexByte_out {c : UInt8} {l : Str} (h : l.contains c = false) : Lib.indexByte l c < 0 := by
  rw [indexByte_none c l (by simpa using h)]; decide
theorem indexByte_in {c : UInt8} {l : Str} (h : l.contains c = true) : ¬ Lib.indexByte l c < 0 := by
  rcases first_cut c l with h1 | ⟨a, r, ha, rfl⟩
  · exact absurd h (by simpa using h1)
  · rw [indexByte_app c r a ha]; omega
theorem trim_empty (l cs : Str) (h : ofL l cs = true) : Lib.trimS l cs = [] := by
  unfold Lib.trimS Lib.trimRightS Lib.trimLeftS
  have h1 : ∀ x ∈ l.reverse, cs.contains x = true := fun x hx => by
    have := List.all_eq_true.1 h x (by simpa using hx)
    exact this
  rw [(while_all (fun x => cs.contains x) l.reverse h1).2]
  rfl
set_option maxHeartbeats 400000 in
theorem inner_any (s cs : ByteArray) (w : World) (hs : s.size ≤ 2097152) :
    Calls Tryz.prog 129 #[.string s, .string cs] w fun e w' => e = .returned (.bool (ofL (bs s) (bs cs))) ∧ w = w' := by
  go_enter Tryz.func129, Tryz.ntmps129
  go_wp2
  go_loop [8] (fun i => ∃ k : Nat, k ≤ s.size ∧ i = .int .i64 k ∧ (s.data.toList.take k).all (fun c => (bs cs).contains c) = true) (fun i => s.size - (intOf i).toNat)
  case atStart => exact ⟨0, Nat.zero_le _, rfl, by simp⟩
  case round =>
    obtain ⟨k, hk, rfl, hall⟩ := hrel
    have HALL := Lib.hid hall
    clear hall
    by_cases hlt : k < s.size
    · have hfa := all_false_of (fun c => (bs cs).contains c) s k hlt
      have hsu := all_take_succ (fun c => (bs cs).contains c) s k hlt
      have HFA := Lib.hid hfa
      have HSU := Lib.hid hsu
      clear hfa hsu
      go_wp2_with fail
      refine (indexByte_any cs s[k] _).mono ?_
      rintro e w' ⟨rfl, rfl⟩
      cases hp : (bs cs).contains s[k]
      · have hn := indexByte_out hp
        have HP := Lib.hid hp
        clear hp
        go_wp2
        go_ret
        refine ⟨ret_bool ?_, rfl⟩
        unfold ofL
        exact (HFA.out HP.out).symm
      · have hn := indexByte_in hp
        have HP := Lib.hid hp
        clear hp
        go_wp2
        go_round
        case rel => exact ⟨k + 1, by omega, by go_num, by rw [HSU.out, HALL.out, HP.out]; rfl⟩
        case measure => simp [intOf]; omega
    · obtain rfl : k = s.size := by omega
      go_wp2
      go_ret
      refine ⟨ret_bool ?_, rfl⟩
      rw [take_size] at HALL
      exact HALL.out.symm
def asciiB (l : Str) : Bool := l.all fun c => decide (c.toNat < 128)
theorem ascii_at {l : Str} (h : asciiB l = true) : ∀ (j : Nat) b, l[j]? = some b → b.toNat < 128 := fun j b hb => by
  have := List.all_eq_true.1 h b (List.mem_of_getElem? hb)
  simpa using this
set_option maxHeartbeats 400000 in
theorem Of_any (s cs : ByteArray) (w : World) (hs : s.size ≤ 2097152) (hcs : cs.size ≤ 1000) (ha : asciiB (bs cs) = true) :
    Calls Tryz.prog 73 #[.string s, .string cs] w fun e w' => e = .returned (.bool (ofL (bs s) (bs cs))) ∧ Ext w w' := by
  have hasc := ascii_at ha
  have HASC := Lib.hid hasc
  clear hasc
  go_enter Tryz.func73, Tryz.ntmps73
  go_wp2_with fail
  refine (trim_any s cs _ hs hcs HASC.out).mono ?_
  rintro e w1 ⟨rfl, hx1⟩
  by_cases ht : Lib.trimS (bs s) (bs cs) = []
  · have HT := Lib.hid ht
    rw [ht]
    clear ht
    go_wp2_with fail
    refine (inner_any s cs _ hs).mono ?_
    rintro e w' ⟨rfl, rfl⟩
    go_wp2
    go_ret
    exact ⟨rfl, hx1⟩
  · have hf : ofL (bs s) (bs cs) = false := by
      cases h : ofL (bs s) (bs cs)
      · rfl
      · exact absurd (trim_empty _ _ h) ht
    have HF := Lib.hid hf
    clear hf
    go_wp2
    go_ret
    exact ⟨ret_bool HF.out.symm, hx1⟩

def smallS : Str := [97, 98, 99, 100, 101, 102, 103, 104, 105, 106, 107, 108, 109, 110, 111, 112, 113, 114, 115, 116, 117, 118, 119, 120, 121, 122]
def greatS : Str := [65, 66, 67, 68, 69, 70, 71, 72, 73, 74, 75, 76, 77, 78, 79, 80, 81, 82, 83, 84, 85, 86, 87, 88, 89, 90]
def digitS : Str := [48, 49, 50, 51, 52, 53, 54, 55, 56, 57]
theorem small_set (c : UInt8) : smallS.contains c = smallB c := eq_of_beq (u8_all (fun c => smallS.contains c == smallB c) (by decide +kernel) c)
theorem digit_set (c : UInt8) : digitS.contains c = digitB c := eq_of_beq (u8_all (fun c => digitS.contains c == digitB c) (by decide +kernel) c)
theorem word_set (c : UInt8) : (smallS ++ digitS).contains c = wordB c := eq_of_beq (u8_all (fun c => (smallS ++ digitS).contains c == wordB c) (by decide +kernel) c)
theorem name_set (c : UInt8) : (smallS ++ digitS ++ [45, 46]).contains c = nameB c := eq_of_beq (u8_all (fun c => (smallS ++ digitS ++ [45, 46]).contains c == nameB c) (by decide +kernel) c)
theorem part_set (c : UInt8) : (smallS ++ greatS ++ digitS ++ [45, 46, 95]).contains c = partB c := eq_of_beq (u8_all (fun c => (smallS ++ greatS ++ digitS ++ [45, 46, 95]).contains c == partB c) (by decide +kernel) c)
theorem of_set {p : UInt8 → Bool} {cs : Str} (h : ∀ c, cs.contains c = p c) (l : Str) : ofL l cs = l.all p := by
  unfold ofL
  congr 1
  funext c
  exact h c
theorem of_name (s : ByteArray) (w : World) (hs : s.size ≤ 2097152) :
    Calls Tryz.prog 73 #[.string s, .string ⟨#[97, 98, 99, 100, 101, 102, 103, 104, 105, 106, 107, 108, 109, 110, 111, 112, 113, 114, 115, 116, 117, 118, 119, 120, 121, 122, 48, 49, 50, 51, 52, 53, 54, 55, 56, 57, 45, 46]⟩] w fun e w' => e = .returned (.bool ((bs s).all nameB)) ∧ Ext w w' :=
  (Of_any s ⟨#[97, 98, 99, 100, 101, 102, 103, 104, 105, 106, 107, 108, 109, 110, 111, 112, 113, 114, 115, 116, 117, 118, 119, 120, 121, 122, 48, 49, 50, 51, 52, 53, 54, 55, 56, 57, 45, 46]⟩ w hs (by decide) (by decide)).mono fun _ _ ⟨h, k⟩ => ⟨by rw [h]; exact ret_bool (of_set name_set (bs s)), k⟩
theorem of_small (s : ByteArray) (w : World) (hs : s.size ≤ 2097152) :
    Calls Tryz.prog 73 #[.string s, .string ⟨#[97, 98, 99, 100, 101, 102, 103, 104, 105, 106, 107, 108, 109, 110, 111, 112, 113, 114, 115, 116, 117, 118, 119, 120, 121, 122]⟩] w fun e w' => e = .returned (.bool ((bs s).all smallB)) ∧ Ext w w' :=
  (Of_any s ⟨#[97, 98, 99, 100, 101, 102, 103, 104, 105, 106, 107, 108, 109, 110, 111, 112, 113, 114, 115, 116, 117, 118, 119, 120, 121, 122]⟩ w hs (by decide) (by decide)).mono fun _ _ ⟨h, k⟩ => ⟨by rw [h]; exact ret_bool (of_set small_set (bs s)), k⟩
theorem of_digit (s : ByteArray) (w : World) (hs : s.size ≤ 2097152) :
    Calls Tryz.prog 73 #[.string s, .string ⟨#[48, 49, 50, 51, 52, 53, 54, 55, 56, 57]⟩] w fun e w' => e = .returned (.bool ((bs s).all digitB)) ∧ Ext w w' :=
  (Of_any s ⟨#[48, 49, 50, 51, 52, 53, 54, 55, 56, 57]⟩ w hs (by decide) (by decide)).mono fun _ _ ⟨h, k⟩ => ⟨by rw [h]; exact ret_bool (of_set digit_set (bs s)), k⟩
theorem of_word (s : ByteArray) (w : World) (hs : s.size ≤ 2097152) :
    Calls Tryz.prog 73 #[.string s, .string ⟨#[97, 98, 99, 100, 101, 102, 103, 104, 105, 106, 107, 108, 109, 110, 111, 112, 113, 114, 115, 116, 117, 118, 119, 120, 121, 122, 48, 49, 50, 51, 52, 53, 54, 55, 56, 57]⟩] w fun e w' => e = .returned (.bool ((bs s).all wordB)) ∧ Ext w w' :=
  (Of_any s ⟨#[97, 98, 99, 100, 101, 102, 103, 104, 105, 106, 107, 108, 109, 110, 111, 112, 113, 114, 115, 116, 117, 118, 119, 120, 121, 122, 48, 49, 50, 51, 52, 53, 54, 55, 56, 57]⟩ w hs (by decide) (by decide)).mono fun _ _ ⟨h, k⟩ => ⟨by rw [h]; exact ret_bool (of_set word_set (bs s)), k⟩
theorem of_part (s : ByteArray) (w : World) (hs : s.size ≤ 2097152) :
    Calls Tryz.prog 73 #[.string s, .string ⟨#[97, 98, 99, 100, 101, 102, 103, 104, 105, 106, 107, 108, 109, 110, 111, 112, 113, 114, 115, 116, 117, 118, 119, 120, 121, 122, 65, 66, 67, 68, 69, 70, 71, 72, 73, 74, 75, 76, 77, 78, 79, 80, 81, 82, 83, 84, 85, 86, 87, 88, 89, 90, 48, 49, 50, 51, 52, 53, 54, 55, 56, 57, 45, 46, 95]⟩] w fun e w' => e = .returned (.bool ((bs s).all partB)) ∧ Ext w w' :=
  (Of_any s ⟨#[97, 98, 99, 100, 101, 102, 103, 104, 105, 106, 107, 108, 109, 110, 111, 112, 113, 114, 115, 116, 117, 118, 119, 120, 121, 122, 65, 66, 67, 68, 69, 70, 71, 72, 73, 74, 75, 76, 77, 78, 79, 80, 81, 82, 83, 84, 85, 86, 87, 88, 89, 90, 48, 49, 50, 51, 52, 53, 54, 55, 56, 57, 45, 46, 95]⟩ w hs (by decide) (by decide)).mono fun _ _ ⟨h, k⟩ => ⟨by rw [h]; exact ret_bool (of_set part_set (bs s)), k⟩
theorem head_take (s : ByteArray) (h : 0 < s.size) : bs (s.extract 0 1) = [s[0]] := by
  have h1 : s.data.toList[0]? = some s[0] := Lib.data_getElem? s 0 h
  unfold bs
  rw [Lib.extract_data]
  cases hl : s.data.toList with
  | nil => rw [hl] at h1; cases h1
  | cons x r => rw [hl] at h1; simp at h1; simp [h1]
set_option maxHeartbeats 1000000 in
theorem NameOf_any (s : ByteArray) (w : World) (hs : s.size ≤ 2097152) :
    Calls Tryz.prog 27 #[.string s] w fun e w' => e = .returned (.bool (nameL (bs s))) ∧ Ext w w' := by
  go_enter Tryz.func27, Tryz.ntmps27
  rcases Nat.eq_zero_or_pos s.size with h0 | h0
  · have hi := emp_bool h0
    go_wp2
    go_ret
    exact ⟨ret_bool (by rw [bs_nil h0]; rfl), Ext.refl _⟩
  · have hi := nemp_bool h0
    by_cases h40 : s.size ≤ 40
    · have he : eachL nameB (bs s) 40 = (bs s).all nameB := by
        unfold eachL
        rw [bs_length, decide_eq_true h0, decide_eq_true h40, Bool.and_true, Bool.and_true]
      have hh := head_bs s h0
      have ht := head_take s h0
      have HE := Lib.hid he
      have HH := Lib.hid hh
      have HT := Lib.hid ht
      clear he hh ht
      go_wp2_with fail
      refine (of_name s _ hs).mono ?_
      rintro e w1 ⟨rfl, hx1⟩
      cases hn : (bs s).all nameB
      · have HN := Lib.hid hn
        clear hn
        go_wp2
        go_ret
        exact ⟨ret_bool (by rw [nameL, HE.out, HN.out]; rfl), hx1⟩
      · have HN := Lib.hid hn
        clear hn
        have hsz : (s.extract 0 1).size ≤ 2097152 := by rw [← bs_length, HT.out]; simp
        go_wp2_with fail
        refine (of_small _ _ hsz).mono ?_
        rintro e w2 ⟨rfl, hx2⟩
        rw [HT.out]
        go_wp2
        go_ret
        exact ⟨ret_bool (by rw [nameL, HE.out, HN.out, HH.out]; simp), hx1.trans hx2⟩
    · have hn : nameL (bs s) = false := by
        have : eachL nameB (bs s) 40 = false := by
          unfold eachL
          rw [bs_length, decide_eq_false h40]; simp
        rw [nameL, this]; rfl
      have HN := Lib.hid hn
      clear hn
      go_wp2
      go_ret
      exact ⟨ret_bool HN.out.symm, Ext.refl _⟩

theorem partL_eq (l : Str) : partL l = ((l != []) && (l != [46]) && (l != [46, 46]) && decide (l.length ≤ 40) && l.all partB) := by
  unfold partL eachL
  cases l with
  | nil => simp
  | cons x r =>
    have : decide (0 < (x :: r).length) = true := by simp
    rw [this]
    have h2 : ((x :: r) != ([] : Str)) = true := rfl
    rw [h2]
    generalize (x :: r).all partB = a
    generalize decide ((x :: r).length ≤ 40) = b
    generalize ((x :: r) != [46]) = c
    generalize ((x :: r) != [46, 46]) = d
    cases a <;> cases b <;> cases c <;> cases d <;> rfl
theorem tl_beq (s : ByteArray) (l : Str) : (s.toList == l) = (bs s == l) := by rw [ByteArray.toList_eq]
set_option maxHeartbeats 2000000 in
theorem PathOf_any (s : ByteArray) (w : World) (hg : Good w) (hs : s.size ≤ 2097152) :
    Calls Tryz.prog 29 #[.string s] w fun e w' => e = .returned (.bool (pathL (bs s))) ∧ Ext w w' := by
  go_enter Tryz.func29, Tryz.ntmps29
  by_cases h200 : 200 < s.size
  · have hn : pathL (bs s) = false := by
      unfold pathL
      rw [bs_length, decide_eq_false (by omega)]; simp
    have HN := Lib.hid hn
    clear hn
    go_wp2
    go_ret
    exact ⟨ret_bool HN.out.symm, Ext.refl _⟩
  go_wp2_with fail
  refine (split_any 47 s _ hg hs).mono ?_
  rintro e w1 ⟨b, xs, rfl, hb0, hst, hxs, hx⟩
  have HXS := Lib.hid hxs
  have hcell := hst.cell
  have HC := Lib.hid hcell
  clear hcell
  have hlen := pieces_le hxs
  clear hxs
  go_wp2
  go_loopw [11] (fun i wr => ∃ k : Nat, k ≤ xs.length ∧ i = .int .i64 k ∧ (xs.take k).all (fun x => partL (bs x)) = true ∧ Ext w1 wr) (fun i _ => xs.length - (intOf i).toNat)
  case atStart => exact ⟨0, Nat.zero_le _, rfl, by simp, Ext.refl _⟩
  case round =>
    obtain ⟨k, hk, rfl, hall, hxr⟩ := hrel
    have HALL := Lib.hid hall
    clear hall
    by_cases hlt : k < xs.length
    · have hk1 := hxr.cell (HC.out k hlt)
      have hsz := piece_le HXS.out hlt
      have hne := allS_false partL xs k hlt
      have HNE := Lib.hid hne
      clear hne
      have hsu := allS_succ partL xs k hlt HALL.out
      have HSU := Lib.hid hsu
      clear hsu
      generalize xs[k] = x at *
      have hpl := partL_eq (bs x)
      have HPL := Lib.hid hpl
      clear hpl
      have hbad : partL (bs x) = false → pathL (bs s) = false := fun h => by
        unfold pathL
        rw [← HXS.out, HNE.out h]; rfl
      have HBAD := Lib.hid hbad
      clear hbad
      cases e1 : (bs x == ([] : Str))
      rotate_left
      · have hz : x.size = 0 := by rw [← bs_length, eq_of_beq e1]; rfl
        have hi := emp_bool hz
        have HP := Lib.hid (HBAD.out (by rw [HPL.out, bne, e1]; rfl))
        clear e1
        go_wp2
        go_ret
        exact ⟨ret_bool HP.out.symm, hx.trans hxr⟩
      have hz : 0 < x.size := by
        rcases Nat.eq_zero_or_pos x.size with h | h
        · rw [bs_nil h] at e1; cases e1
        · exact h
      have hi := nemp_bool hz
      cases e2 : (bs x == [46])
      rotate_left
      · have t2 : (x.toList == [46]) = true := by rw [tl_beq]; exact e2
        have HP := Lib.hid (HBAD.out (by rw [HPL.out, bne, bne, e2]; simp))
        clear e1 e2
        go_wp2
        go_ret
        exact ⟨ret_bool HP.out.symm, hx.trans hxr⟩
      have t2 : (x.toList == [46]) = false := by rw [tl_beq]; exact e2
      cases e3 : (bs x == [46, 46])
      rotate_left
      · have t3 : (x.toList == [46, 46]) = true := by rw [tl_beq]; exact e3
        have HP := Lib.hid (HBAD.out (by rw [HPL.out, bne, bne, bne, e3]; simp))
        clear e1 e2 e3
        go_wp2
        go_ret
        exact ⟨ret_bool HP.out.symm, hx.trans hxr⟩
      have t3 : (x.toList == [46, 46]) = false := by rw [tl_beq]; exact e3
      by_cases h40 : 40 < x.size
      · have HP := Lib.hid (HBAD.out (by rw [HPL.out, bs_length, decide_eq_false (by omega : ¬ x.size ≤ 40)]; simp))
        clear e1 e2 e3
        go_wp2
        go_ret
        exact ⟨ret_bool HP.out.symm, hx.trans hxr⟩
      have hgood : partL (bs x) = (bs x).all partB := by
        rw [HPL.out, bne, bne, bne, e1, e2, e3, bs_length, decide_eq_true (by omega : x.size ≤ 40)]; simp
      have HG := Lib.hid hgood
      clear hgood e1 e2 e3
      go_wp2_with fail
      refine (of_part x _ (by omega)).mono ?_
      rintro e w2 ⟨rfl, hx2⟩
      cases hn : (bs x).all partB
      · have HP := Lib.hid (HBAD.out (HG.out.trans hn))
        clear hn
        go_wp2
        go_ret
        exact ⟨ret_bool HP.out.symm, (hx.trans hxr).trans hx2⟩
      · have HP := Lib.hid (HG.out.trans hn)
        clear hn
        go_wp2
        go_roundw
        case rel => exact ⟨k + 1, by omega, by go_num, HSU.out HP.out, hxr.trans hx2⟩
        case measure => simp [intOf]; omega
    · obtain rfl : k = xs.length := by omega
      go_wp2
      go_ret
      refine ⟨ret_bool ?_, hx.trans hxr⟩
      unfold pathL
      rw [← HXS.out, allS_true partL xs HALL.out, bs_length]
      simp
      omega
end Go.Proofs.YtcmceeihdhcmnaaGreatDoor
