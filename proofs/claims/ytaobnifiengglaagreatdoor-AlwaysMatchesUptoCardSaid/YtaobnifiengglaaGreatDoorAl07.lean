/- Contracts of outref2: inner, Of, NameOf, PathOf, ValueOf. Contracts of outref2: ValueOf, Number, VersionText. -/
import Derived.Test.YtaobnifiengglaaGreatDoorAl02
import Derived.Test.YtaobnifiengglaaGreatDoorAl05

namespace Go.Proofs.YtaobnifiengglaaGreatDoor
open Go.RowKit

theorem u8_all (p : UInt8 → Bool) (h : (List.range 256).all (fun n => p (UInt8.ofNat n)) = true) (c : UInt8) : p c = true := by
  have h1 := List.all_eq_true.1 h c.toNat (List.mem_range.2 c.toNat_lt)
  simpa using h1
def ofL (l cs : Str) : Bool := l.all (cs.contains ·)
theorem indexByte_out {c : UInt8} {l : Str} (h : l.contains c = false) : Lib.indexByte l c < 0 := by
  rw [indexByte_none c l (by simpa using h)]; decide
theorem indexByte_in {c : UInt8} {l : Str} (h : l.contains c = true) : ¬ Lib.indexByte l c < 0 := by
  rcases first_cut c l with h1 | ⟨a, r, ha, rfl⟩
  · exact absurd h (by simpa using h1)
  · rw [indexByte_app c r a ha]; omega
theorem trim_empty (l cs : Str) (h : ofL l cs = true) : Lib.trimS l cs = [] := by
  unfold Lib.trimS Lib.trimRightS Lib.trimLeftS
  have h1 : ∀ x ∈ l.reverse, cs.contains x = true := fun x hx => by
    have := List.all_eq_true.1 h x (by simpa using hx)
    exact this
  rw [(while_all (fun x => cs.contains x) l.reverse h1).2]
  rfl
set_option maxHeartbeats 400000 in
theorem inner_any (s cs : ByteArray) (w : World) (hs : s.size ≤ 2097152) :
    Calls Tryz.prog 171 #[.string s, .string cs] w fun e w' => e = .returned (.bool (ofL (bs s) (bs cs))) ∧ w = w' := by
  go_enter Tryz.func171, Tryz.ntmps171
  go_wp2
  go_loop [8] (fun i => ∃ k : Nat, k ≤ s.size ∧ i = .int .i64 k ∧ (s.data.toList.take k).all (fun c => (bs cs).contains c) = true) (fun i => s.size - (intOf i).toNat)
  case atStart => exact ⟨0, Nat.zero_le _, rfl, by simp⟩
  case round =>
    obtain ⟨k, hk, rfl, hall⟩ := hrel
    have HALL := Lib.hid hall
    clear hall
    by_cases hlt : k < s.size
    · have hfa := all_false_of (fun c => (bs cs).contains c) s k hlt
      have hsu := all_take_succ (fun c => (bs cs).contains c) s k hlt
      have HFA := Lib.hid hfa
      have HSU := Lib.hid hsu
      clear hfa hsu
      go_wp2_with fail
      refine (indexByte_any cs s[k] _).mono ?_
      rintro e w' ⟨rfl, rfl⟩
      cases hp : (bs cs).contains s[k]
      · have hn := indexByte_out hp
        have HP := Lib.hid hp
        clear hp
        go_wp2
        go_ret
        refine ⟨ret_bool ?_, rfl⟩
        unfold ofL
        exact (HFA.out HP.out).symm
      · have hn := indexByte_in hp
        have HP := Lib.hid hp
        clear hp
        go_wp2
        go_round
        case rel => exact ⟨k + 1, by omega, by go_num, by rw [HSU.out, HALL.out, HP.out]; rfl⟩
        case measure => simp [intOf]; omega
    · obtain rfl : k = s.size := by omega
      go_wp2
      go_ret
      refine ⟨ret_bool ?_, rfl⟩
      rw [take_size] at HALL
      exact HALL.out.symm
def asciiB (l : Str) : Bool := l.all fun c => decide (c.toNat < 128)
theorem ascii_at {l : Str} (h : asciiB l = true) : ∀ (j : Nat) b, l[j]? = some b → b.toNat < 128 := fun j b hb => by
  have := List.all_eq_true.1 h b (List.mem_of_getElem? hb)
  simpa using this
set_option maxHeartbeats 400000 in
theorem Of_any (s cs : ByteArray) (w : World) (hs : s.size ≤ 2097152) (hcs : cs.size ≤ 1000) (ha : asciiB (bs cs) = true) :
    Calls Tryz.prog 88 #[.string s, .string cs] w fun e w' => e = .returned (.bool (ofL (bs s) (bs cs))) ∧ Ext w w' := by
  have hasc := ascii_at ha
  have HASC := Lib.hid hasc
  clear hasc
  go_enter Tryz.func88, Tryz.ntmps88
  go_wp2_with fail
  refine (trim_any s cs _ hs hcs HASC.out).mono ?_
  rintro e w1 ⟨rfl, hx1⟩
  by_cases ht : Lib.trimS (bs s) (bs cs) = []
  · have HT := Lib.hid ht
    rw [ht]
    clear ht
    go_wp2_with fail
    refine (inner_any s cs _ hs).mono ?_
    rintro e w' ⟨rfl, rfl⟩
    go_wp2
    go_ret
    exact ⟨rfl, hx1⟩
  · have hf : ofL (bs s) (bs cs) = false := by
      cases h : ofL (bs s) (bs cs)
      · rfl
      · exact absurd (trim_empty _ _ h) ht
    have HF := Lib.hid hf
    clear hf
    go_wp2
    go_ret
    exact ⟨ret_bool HF.out.symm, hx1⟩

def smallS : Str := [97, 98, 99, 100, 101, 102, 103, 104, 105, 106, 107, 108, 109, 110, 111, 112, 113, 114, 115, 116, 117, 118, 119, 120, 121, 122]
def greatS : Str := [65, 66, 67, 68, 69, 70, 71, 72, 73, 74, 75, 76, 77, 78, 79, 80, 81, 82, 83, 84, 85, 86, 87, 88, 89, 90]
def digitS : Str := [48, 49, 50, 51, 52, 53, 54, 55, 56, 57]
theorem small_set (c : UInt8) : smallS.contains c = smallB c := eq_of_beq (u8_all (fun c => smallS.contains c == smallB c) (by decide +kernel) c)
theorem digit_set (c : UInt8) : digitS.contains c = digitB c := eq_of_beq (u8_all (fun c => digitS.contains c == digitB c) (by decide +kernel) c)
theorem word_set (c : UInt8) : (smallS ++ digitS).contains c = wordB c := eq_of_beq (u8_all (fun c => (smallS ++ digitS).contains c == wordB c) (by decide +kernel) c)
theorem name_set (c : UInt8) : (smallS ++ digitS ++ [45, 46]).contains c = nameB c := eq_of_beq (u8_all (fun c => (smallS ++ digitS ++ [45, 46]).contains c == nameB c) (by decide +kernel) c)
theorem part_set (c : UInt8) : (smallS ++ greatS ++ digitS ++ [45, 46, 95]).contains c = partB c := eq_of_beq (u8_all (fun c => (smallS ++ greatS ++ digitS ++ [45, 46, 95]).contains c == partB c) (by decide +kernel) c)
theorem of_set {p : UInt8 → Bool} {cs : Str} (h : ∀ c, cs.contains c = p c) (l : Str) : ofL l cs = l.all p := by
  unfold ofL
  congr 1
  funext c
  exact h c
theorem of_name (s : ByteArray) (w : World) (hs : s.size ≤ 2097152) :
    Calls Tryz.prog 88 #[.string s, .string ⟨#[97, 98, 99, 100, 101, 102, 103, 104, 105, 106, 107, 108, 109, 110, 111, 112, 113, 114, 115, 116, 117, 118, 119, 120, 121, 122, 48, 49, 50, 51, 52, 53, 54, 55, 56, 57, 45, 46]⟩] w fun e w' => e = .returned (.bool ((bs s).all nameB)) ∧ Ext w w' :=
  (Of_any s ⟨#[97, 98, 99, 100, 101, 102, 103, 104, 105, 106, 107, 108, 109, 110, 111, 112, 113, 114, 115, 116, 117, 118, 119, 120, 121, 122, 48, 49, 50, 51, 52, 53, 54, 55, 56, 57, 45, 46]⟩ w hs (by decide) (by decide)).mono fun _ _ ⟨h, k⟩ => ⟨by rw [h]; exact ret_bool (of_set name_set (bs s)), k⟩
theorem of_small (s : ByteArray) (w : World) (hs : s.size ≤ 2097152) :
    Calls Tryz.prog 88 #[.string s, .string ⟨#[97, 98, 99, 100, 101, 102, 103, 104, 105, 106, 107, 108, 109, 110, 111, 112, 113, 114, 115, 116, 117, 118, 119, 120, 121, 122]⟩] w fun e w' => e = .returned (.bool ((bs s).all smallB)) ∧ Ext w w' :=
  (Of_any s ⟨#[97, 98, 99, 100, 101, 102, 103, 104, 105, 106, 107, 108, 109, 110, 111, 112, 113, 114, 115, 116, 117, 118, 119, 120, 121, 122]⟩ w hs (by decide) (by decide)).mono fun _ _ ⟨h, k⟩ => ⟨by rw [h]; exact ret_bool (of_set small_set (bs s)), k⟩
theorem of_digit (s : ByteArray) (w : World) (hs : s.size ≤ 2097152) :
    Calls Tryz.prog 88 #[.string s, .string ⟨#[48, 49, 50, 51, 52, 53, 54, 55, 56, 57]⟩] w fun e w' => e = .returned (.bool ((bs s).all digitB)) ∧ Ext w w' :=
  (Of_any s ⟨#[48, 49, 50, 51, 52, 53, 54, 55, 56, 57]⟩ w hs (by decide) (by decide)).mono fun _ _ ⟨h, k⟩ => ⟨by rw [h]; exact ret_bool (of_set digit_set (bs s)), k⟩
theorem of_word (s : ByteArray) (w : World) (hs : s.size ≤ 2097152) :
    Calls Tryz.prog 88 #[.string s, .string ⟨#[97, 98, 99, 100, 101, 102, 103, 104, 105, 106, 107, 108, 109, 110, 111, 112, 113, 114, 115, 116, 117, 118, 119, 120, 121, 122, 48, 49, 50, 51, 52, 53, 54, 55, 56, 57]⟩] w fun e w' => e = .returned (.bool ((bs s).all wordB)) ∧ Ext w w' :=
  (Of_any s ⟨#[97, 98, 99, 100, 101, 102, 103, 104, 105, 106, 107, 108, 109, 110, 111, 112, 113, 114, 115, 116, 117, 118, 119, 120, 121, 122, 48, 49, 50, 51, 52, 53, 54, 55, 56, 57]⟩ w hs (by decide) (by decide)).mono fun _ _ ⟨h, k⟩ => ⟨by rw [h]; exact ret_bool (of_set word_set (bs s)), k⟩
theorem of_part (s : ByteArray) (w : World) (hs : s.size ≤ 2097152) :
    Calls Tryz.prog 88 #[.string s, .string ⟨#[97, 98, 99, 100, 101, 102, 103, 104, 105, 106, 107, 108, 109, 110, 111, 112, 113, 114, 115, 116, 117, 118, 119, 120, 121, 122, 65, 66, 67, 68, 69, 70, 71, 72, 73, 74, 75, 76, 77, 78, 79, 80, 81, 82, 83, 84, 85, 86, 87, 88, 89, 90, 48, 49, 50, 51, 52, 53, 54, 55, 56, 57, 45, 46, 95]⟩] w fun e w' => e = .returned (.bool ((bs s).all partB)) ∧ Ext w w' :=
  (Of_any s ⟨#[97, 98, 99, 100, 101, 102, 103, 104, 105, 106, 107, 108, 109, 110, 111, 112, 113, 114, 115, 116, 117, 118, 119, 120, 121, 122, 65, 66, 67, 68, 69, 70, 71, 72, 73, 74, 75, 76, 77, 78, 79, 80, 81, 82, 83, 84, 85, 86, 87, 88, 89, 90, 48, 49, 50, 51, 52, 53, 54, 55, 56, 57, 45, 46, 95]⟩ w hs (by decide) (by decide)).mono fun _ _ ⟨h, k⟩ => ⟨by rw [h]; exact ret_bool (of_set part_set (bs s)), k⟩
theorem head_take (s : ByteArray) (h : 0 < s.size) : bs (s.extract 0 1) = [s[0]] := by
  have h1 : s.data.toList[0]? = some s[0] := Lib.data_getElem? s 0 h
  unfold bs
  rw [Lib.extract_data]
  cases hl : s.data.toList with
  | nil => rw [hl] at h1; cases h1
  | cons x r => rw [hl] at h1; simp at h1; simp [h1]
set_option maxHeartbeats 1000000 in
theorem NameOf_any (s : ByteArray) (w : World) (hs : s.size ≤ 2097152) :
    Calls Tryz.prog 29 #[.string s] w fun e w' => e = .returned (.bool (nameL (bs s))) ∧ Ext w w' := by
  go_enter Tryz.func29, Tryz.ntmps29
  rcases Nat.eq_zero_or_pos s.size with h0 | h0
  · have hi := emp_bool h0
    go_wp2
    go_ret
    exact ⟨ret_bool (by rw [bs_nil h0]; rfl), Ext.refl _⟩
  · have hi := nemp_bool h0
    by_cases h40 : s.size ≤ 40
    · have he : eachL nameB (bs s) 40 = (bs s).all nameB := by
        unfold eachL
        rw [bs_length, decide_eq_true h0, decide_eq_true h40, Bool.and_true, Bool.and_true]
      have hh := head_bs s h0
      have ht := head_take s h0
      have HE := Lib.hid he
      have HH := Lib.hid hh
      have HT := Lib.hid ht
      clear he hh ht
      go_wp2_with fail
      refine (of_name s _ hs).mono ?_
      rintro e w1 ⟨rfl, hx1⟩
      cases hn : (bs s).all nameB
      · have HN := Lib.hid hn
        clear hn
        go_wp2
        go_ret
        exact ⟨ret_bool (by rw [nameL, HE.out, HN.out]; rfl), hx1⟩
      · have HN := Lib.hid hn
        clear hn
        have hsz : (s.extract 0 1).size ≤ 2097152 := by rw [← bs_length, HT.out]; simp
        go_wp2_with fail
        refine (of_small _ _ hsz).mono ?_
        rintro e w2 ⟨rfl, hx2⟩
        rw [HT.out]
        go_wp2
        go_ret
        exact ⟨ret_bool (by rw [nameL, HE.out, HN.out, HH.out]; simp), hx1.trans hx2⟩
    · have hn : nameL (bs s) = false := by
        have : eachL nameB (bs s) 40 = false := by
          unfold eachL
          rw [bs_length, decide_eq_false h40]; simp
        rw [nameL, this]; rfl
      have HN := Lib.hid hn
      clear hn
      go_wp2
      go_ret
      exact ⟨ret_bool HN.out.symm, Ext.refl _⟩

theorem partL_eq (l : Str) : partL l = ((l != []) && (l != [46]) && (l != [46, 46]) && decide (l.length ≤ 40) && l.all partB) := by
  unfold partL eachL
  cases l with
  | nil => simp
  | cons x r =>
    have : decide (0 < (x :: r).length) = true := by simp
    rw [this]
    have h2 : ((x :: r) != ([] : Str)) = true := rfl
    rw [h2]
    generalize (x :: r).all partB = a
    generalize decide ((x :: r).length ≤ 40) = b
    generalize ((x :: r) != [46]) = c
    generalize ((x :: r) != [46, 46]) = d
    cases a <;> cases b <;> cases c <;> cases d <;> rfl
theorem tl_beq (s : ByteArray) (l : Str) : (s.toList == l) = (bs s == l) := by rw [ByteArray.toList_eq]
set_option maxHeartbeats 2000000 in
theorem PathOf_any (s : ByteArray) (w : World) (hg : Good w) (hs : s.size ≤ 2097152) :
    Calls Tryz.prog 31 #[.string s] w fun e w' => e = .returned (.bool (pathL (bs s))) ∧ Ext w w' := by
  go_enter Tryz.func31, Tryz.ntmps31
  by_cases h200 : 200 < s.size
  · have hn : pathL (bs s) = false := by
      unfold pathL
      rw [bs_length, decide_eq_false (by omega)]; simp
    have HN := Lib.hid hn
    clear hn
    go_wp2
    go_ret
    exact ⟨ret_bool HN.out.symm, Ext.refl _⟩
  go_wp2_with fail
  refine (split_any 47 s _ hg hs).mono ?_
  rintro e w1 ⟨b, xs, rfl, hb0, hst, hxs, hx⟩
  have HXS := Lib.hid hxs
  have hcell := hst.cell
  have HC := Lib.hid hcell
  clear hcell
  have hlen := pieces_le hxs
  clear hxs
  go_wp2
  go_loopw [11] (fun i wr => ∃ k : Nat, k ≤ xs.length ∧ i = .int .i64 k ∧ (xs.take k).all (fun x => partL (bs x)) = true ∧ Ext w1 wr) (fun i _ => xs.length - (intOf i).toNat)
  case atStart => exact ⟨0, Nat.zero_le _, rfl, by simp, Ext.refl _⟩
  case round =>
    obtain ⟨k, hk, rfl, hall, hxr⟩ := hrel
    have HALL := Lib.hid hall
    clear hall
    by_cases hlt : k < xs.length
    · have hk1 := hxr.cell (HC.out k hlt)
      have hsz := piece_le HXS.out hlt
      have hne := allS_false partL xs k hlt
      have HNE := Lib.hid hne
      clear hne
      have hsu := allS_succ partL xs k hlt HALL.out
      have HSU := Lib.hid hsu
      clear hsu
      generalize xs[k] = x at *
      have hpl := partL_eq (bs x)
      have HPL := Lib.hid hpl
      clear hpl
      have hbad : partL (bs x) = false → pathL (bs s) = false := fun h => by
        unfold pathL
        rw [← HXS.out, HNE.out h]; rfl
      have HBAD := Lib.hid hbad
      clear hbad
      cases e1 : (bs x == ([] : Str))
      rotate_left
      · have hz : x.size = 0 := by rw [← bs_length, eq_of_beq e1]; rfl
        have hi := emp_bool hz
        have HP := Lib.hid (HBAD.out (by rw [HPL.out, bne, e1]; rfl))
        clear e1
        go_wp2
        go_ret
        exact ⟨ret_bool HP.out.symm, hx.trans hxr⟩
      have hz : 0 < x.size := by
        rcases Nat.eq_zero_or_pos x.size with h | h
        · rw [bs_nil h] at e1; cases e1
        · exact h
      have hi := nemp_bool hz
      cases e2 : (bs x == [46])
      rotate_left
      · have t2 : (x.toList == [46]) = true := by rw [tl_beq]; exact e2
        have HP := Lib.hid (HBAD.out (by rw [HPL.out, bne, bne, e2]; simp))
        clear e1 e2
        go_wp2
        go_ret
        exact ⟨ret_bool HP.out.symm, hx.trans hxr⟩
      have t2 : (x.toList == [46]) = false := by rw [tl_beq]; exact e2
      cases e3 : (bs x == [46, 46])
      rotate_left
      · have t3 : (x.toList == [46, 46]) = true := by rw [tl_beq]; exact e3
        have HP := Lib.hid (HBAD.out (by rw [HPL.out, bne, bne, bne, e3]; simp))
        clear e1 e2 e3
        go_wp2
        go_ret
        exact ⟨ret_bool HP.out.symm, hx.trans hxr⟩
      have t3 : (x.toList == [46, 46]) = false := by rw [tl_beq]; exact e3
      by_cases h40 : 40 < x.size
      · have HP := Lib.hid (HBAD.out (by rw [HPL.out, bs_length, decide_eq_false (by omega : ¬ x.size ≤ 40)]; simp))
        clear e1 e2 e3
        go_wp2
        go_ret
        exact ⟨ret_bool HP.out.symm, hx.trans hxr⟩
      have hgood : partL (bs x) = (bs x).all partB := by
        rw [HPL.out, bne, bne, bne, e1, e2, e3, bs_length, decide_eq_true (by omega : x.size ≤ 40)]; simp
      have HG := Lib.hid hgood
      clear hgood e1 e2 e3
      go_wp2_with fail
      refine (of_part x _ (by omega)).mono ?_
      rintro e w2 ⟨rfl, hx2⟩
      cases hn : (bs x).all partB
      · have HP := Lib.hid (HBAD.out (HG.out.trans hn))
        clear hn
        go_wp2
        go_ret
        exact ⟨ret_bool HP.out.symm, (hx.trans hxr).trans hx2⟩
      · have HP := Lib.hid (HG.out.trans hn)
        clear hn
        go_wp2
        go_roundw
        case rel => exact ⟨k + 1, by omega, by go_num, HSU.out HP.out, hxr.trans hx2⟩
        case measure => simp [intOf]; omega
    · obtain rfl : k = xs.length := by omega
      go_wp2
      go_ret
      refine ⟨ret_bool ?_, hx.trans hxr⟩
      unfold pathL
      rw [← HXS.out, allS_true partL xs HALL.out, bs_length]
      simp
      omega
end Go.Proofs.YtaobnifiengglaaGreatDoor

namespace Go.Proofs.YtaobnifiengglaaGreatDoor
open Go.RowKit

set_option maxHeartbeats 1000000 in
theorem ValueOf_any (s : ByteArray) (w : World) (hs : s.size ≤ 2097152) :
    Calls Tryz.prog 33 #[.string s] w fun e w' => e = .returned (.bool (valueL (bs s))) ∧ w = w' := by
  go_enter Tryz.func33, Tryz.ntmps33
  go_wp2
  go_loop [6] (fun i => ∃ k : Nat, k ≤ s.size ∧ i = .int .i64 k ∧ (s.data.toList.take k).all valueB = true) (fun i => s.size - (intOf i).toNat)
  case atStart => exact ⟨0, Nat.zero_le _, rfl, by simp⟩
  case round =>
    obtain ⟨k, hk, rfl, hall⟩ := hrel
    have HALL := Lib.hid hall
    clear hall
    by_cases hlt : k < s.size
    · have hfa := all_false_of valueB s k hlt
      have hsu := all_take_succ valueB s k hlt
      have HFA := Lib.hid hfa
      have HSU := Lib.hid hsu
      clear hfa hsu
      by_cases h1 : s[k].toNat < 32
      · have h1' : ((s[k].toNat : Nat) : Int) < 32 := by omega
        have hv : valueB s[k] = false := by simp [valueB]; omega
        have HV := Lib.hid (HFA.out hv)
        clear hv h1
        go_wp2
        go_ret
        exact ⟨ret_bool (by rw [valueL, show (bs s).all valueB = false from HV.out]; rfl), rfl⟩
      · have h1' : ¬ ((s[k].toNat : Nat) : Int) < 32 := by omega
        by_cases h2 : 126 < s[k].toNat
        · have h2' : (126 : Int) < ((s[k].toNat : Nat) : Int) := by omega
          have hv : valueB s[k] = false := by simp [valueB]; omega
          have HV := Lib.hid (HFA.out hv)
          clear hv h1 h2
          go_wp2
          go_ret
          exact ⟨ret_bool (by rw [valueL, show (bs s).all valueB = false from HV.out]; rfl), rfl⟩
        · have h2' : ¬ (126 : Int) < ((s[k].toNat : Nat) : Int) := by omega
          have hv : valueB s[k] = true := by simp [valueB]; omega
          have HV := Lib.hid hv
          clear hv h1 h2
          go_wp2
          go_round
          case rel => exact ⟨k + 1, by omega, by go_num, by rw [HSU.out, HALL.out, HV.out]; rfl⟩
          case measure => simp [intOf]; omega
    · obtain rfl : k = s.size := by omega
      go_wp2
      go_ret
      refine ⟨ret_bool ?_, rfl⟩
      rw [take_size] at HALL
      rw [valueL, show (bs s).all valueB = true from HALL.out, bs_length]
      simp
      omega

theorem numOk_eq (l : Str) : numOk l = ((l != []) && decide (l.length ≤ 9) && l.all digitB && !(decide (1 < l.length) && (l.headD 0 == 48))) := by
  unfold numOk eachL
  cases l with
  | nil => simp
  | cons x r =>
    have h1 : decide (0 < (x :: r).length) = true := by simp
    have h2 : ((x :: r) != ([] : Str)) = true := rfl
    rw [h1, h2]
    by_cases hx : x = 48
    · subst hx
      cases r with
      | nil => decide
      | cons y t =>
        have h3 : ((48 :: y :: t : Str) != [48]) = true := rfl
        have h4 : decide (1 < (48 :: y :: t : Str).length) = true := by simp
        rw [h3, h4]
        generalize (48 :: y :: t : Str).all digitB = a
        generalize decide ((48 :: y :: t : Str).length ≤ 9) = b
        cases a <;> cases b <;> rfl
    · have h3 : (((x :: r : Str).headD 0) == 48) = false := by simpa using hx
      rw [h3]
      generalize (x :: r : Str).all digitB = a
      generalize decide ((x :: r : Str).length ≤ 9) = b
      generalize ((x :: r : Str) != [48]) = c
      generalize decide (1 < (x :: r : Str).length) = d
      cases a <;> cases b <;> cases c <;> cases d <;> rfl
set_option maxHeartbeats 2000000 in
theorem Number_any (s : ByteArray) (w : World) (hg : GoodN w) (hs : s.size ≤ 2097152) :
    Calls Tryz.prog 105 #[.string s, .int .i64 9] w fun e w' => e = .returned (.tuple #[.int .i64 (numV (bs s)), .bool (numOk (bs s))]) ∧ Ext w w' := by
  have hpl := numOk_eq (bs s)
  have HPL := Lib.hid hpl
  clear hpl
  have hno : numOk (bs s) = false → numV (bs s) = 0 := fun h => by rw [numV, h]; rfl
  have HNO := Lib.hid hno
  clear hno
  go_enter Tryz.func105, Tryz.ntmps105
  rcases Nat.eq_zero_or_pos s.size with hz | hz
  · have hi := emp_bool hz
    have hp : numOk (bs s) = false := by rw [HPL.out, bs_nil hz]; rfl
    have HP := Lib.hid hp
    clear hp
    go_wp2
    go_ret2
    exact ⟨by rw [HNO.out HP.out, HP.out]; rfl, Ext.refl _⟩
  have hi := nemp_bool hz
  have e1 : (bs s != ([] : Str)) = true := by
    rw [bne_iff_ne]; intro e; have := bs_length s; rw [e] at this; simp at this; omega
  by_cases h9 : 9 < s.size
  · have hp : numOk (bs s) = false := by rw [HPL.out, bs_length, decide_eq_false (by omega : ¬ s.size ≤ 9)]; simp
    have HP := Lib.hid hp
    clear hp e1
    go_wp2
    go_ret2
    exact ⟨by rw [HNO.out HP.out, HP.out]; rfl, Ext.refl _⟩
  have e2 : decide (s.size ≤ 9) = true := decide_eq_true (by omega)
  go_wp2_with fail
  refine (of_digit s _ hs).mono ?_
  rintro e w1 ⟨rfl, hx1⟩
  cases hd : (bs s).all digitB
  · have hp : numOk (bs s) = false := by rw [HPL.out, hd]; simp
    have HP := Lib.hid hp
    clear hp hd e1 e2
    go_wp2
    go_ret2
    exact ⟨by rw [HNO.out HP.out, HP.out]; rfl, hx1⟩
  have hq : numOk (bs s) = !(decide (1 < s.size) && (s[0] == 48)) := by
    rw [HPL.out, e1, hd, bs_length, e2, head_bs s hz]; simp
  have HQ := Lib.hid hq
  have hV : numOk (bs s) = true → numV (bs s) = (decVal (bs s) : Nat) ∧ Lib.atoiAll (bs s) = .ok ((decVal (bs s) : Nat) : Int) := fun h =>
    ⟨by rw [numV, if_pos h], atoi_digits _ hd (by rw [bs_length]; exact hz) (by rw [bs_length]; omega)⟩
  have HV := Lib.hid hV
  clear hq hV hd e1 e2
  by_cases h1 : 1 < s.size
  · by_cases h48 : s[0].toNat = 48
    · have h48' : ((s[0].toNat : Nat) : Int) = 48 := by omega
      have hp : numOk (bs s) = false := by
        have : s[0] = 48 := UInt8.toNat_inj.1 h48
        rw [HQ.out, this, decide_eq_true h1]; rfl
      have HP := Lib.hid hp
      have hb : (((s[0].toNat : Nat) : Int) == 48) = true := by rw [beq_iff_eq]; exact h48'
      have HB := Lib.hid hb
      clear hp h48 h48' hb
      have hb := HB.out
      go_wp2
      go_ret2
      exact ⟨by rw [HNO.out HP.out, HP.out]; rfl, hx1⟩
    · have hb : (((s[0].toNat : Nat) : Int) == 48) = false := by rw [beq_eq_false_iff_ne]; omega
      have hp : numOk (bs s) = true := by
        have : (s[0] == 48) = false := by rw [beq_eq_false_iff_ne]; intro e; rw [e] at h48; exact h48 rfl
        rw [HQ.out, this]; simp
      have HP := Lib.hid hp
      clear hp h48
      go_wp2_with fail
      refine (atoi_any s _ (hg.ext hx1) hs).mono ?_
      rintro e w2 ⟨v, ev, rfl, hx2, hv, hev⟩
      obtain ⟨rfl, rfl⟩ := hv _ (HV.out HP.out).2
      clear hv hev
      go_wp2_with fail
      refine wp_region_ext (by kernel_rfl) (by kernel_rfl) ?_
      repeat (first | go_big_quiet_skip | (refine wpQuiet_step (fun K hK => ?_); go_simp; first | (refine hK _ ?_; clear hK K) | (apply Exists.intro; refine ⟨fun wq hwq => ?_, hK _ ?_⟩; (obtain ⟨hqc, hqf⟩ := hwq.cells; have hqs := hwq.size; (try go_simp); first | rfl | ((first | rw [if_neg (by omega)] | rw [if_pos (by omega)]); (try go_simp); rfl) | ((fail))); clear hK K)))
      refine wpQuiet_nil ?_
      intro wN hxN
      obtain ⟨hcN, hfN⟩ := hxN.cells
      have hsN := hxN.size
      go_wp2
      go_ret2
      exact ⟨by rw [(HV.out HP.out).1, HP.out]; rfl, (hx1.trans hx2).trans hxN⟩
  · have hp : numOk (bs s) = true := by rw [HQ.out, decide_eq_false h1]; rfl
    have HP := Lib.hid hp
    clear hp
    go_wp2_with fail
    refine (atoi_any s _ (hg.ext hx1) hs).mono ?_
    rintro e w2 ⟨v, ev, rfl, hx2, hv, hev⟩
    obtain ⟨rfl, rfl⟩ := hv _ (HV.out HP.out).2
    clear hv hev
    go_wp2_with fail
    refine wp_region_ext (by kernel_rfl) (by kernel_rfl) ?_
    repeat (first | go_big_quiet_skip | (refine wpQuiet_step (fun K hK => ?_); go_simp; first | (refine hK _ ?_; clear hK K) | (apply Exists.intro; refine ⟨fun wq hwq => ?_, hK _ ?_⟩; (obtain ⟨hqc, hqf⟩ := hwq.cells; have hqs := hwq.size; (try go_simp); first | rfl | ((first | rw [if_neg (by omega)] | rw [if_pos (by omega)]); (try go_simp); rfl) | ((fail))); clear hK K)))
    refine wpQuiet_nil ?_
    intro wN hxN
    obtain ⟨hcN, hfN⟩ := hxN.cells
    have hsN := hxN.size
    go_wp2
    go_ret2
    exact ⟨by rw [(HV.out HP.out).1, HP.out]; rfl, (hx1.trans hx2).trans hxN⟩

end Go.Proofs.YtaobnifiengglaaGreatDoor
