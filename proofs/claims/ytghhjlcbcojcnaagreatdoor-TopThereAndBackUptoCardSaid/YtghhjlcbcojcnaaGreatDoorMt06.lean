/- Contracts of outref2: inner, Of, NameOf, PathOf, ValueOf. Contracts of outref2: ValueOf, Number, VersionText. Contracts of outref2: VersionError. Contract of outref2.ReadVersion. -/
import Derived.Test.YtghhjlcbcojcnaaGreatDoorMt02
import Derived.Test.YtghhjlcbcojcnaaGreatDoorMt04
import Derived.Test.YtghhjlcbcojcnaaGreatDoorMt05

namespace Go.Proofs.YtghhjlcbcojcnaaGreatDoor
open Go.RowKit

theorem u8_all (p : UInt8 → Bool) (h : (List.range 256).all (fun n => p (UInt8.ofNat n)) = true) (c : UInt8) : p c = true := by
  have h1 := List.all_eq_true.1 h c.toNat (List.mem_range.2 c.toNat_lt)
  simpa using h1
def ofL (l cs : Str) : Bool := l.all (cs.contains ·)
theorem indexByte_out {c : UInt8} {l : Str} (h : l.contains c = false) : Lib.indexByte l c < 0 := by
  rw [indexByte_none c l (by simpa using h)]; decide
theorem indexByte_in {c : UInt8} {l : Str} (h : l.contains c = true) : ¬ Lib.indexByte l c < 0 := by
  rcases first_cut c l with h1 | ⟨a, r, ha, rfl⟩
  · exact absurd h (by simpa using h1)
  · rw [indexByte_app c r a ha]; omega
theorem trim_empty (l cs : Str) (h : ofL l cs = true) : Lib.trimS l cs = [] := by
  unfold Lib.trimS Lib.trimRightS Lib.trimLeftS
  have h1 : ∀ x ∈ l.reverse, cs.contains x = true := fun x hx => by
    have := List.all_eq_true.1 h x (by simpa using hx)
    exact this
  rw [(while_all (fun x => cs.contains x) l.reverse h1).2]
  rfl
set_option maxHeartbeats 400000 in
theorem inner_any (s cs : ByteArray) (w : World) (hs : s.size ≤ 2097152) :
    Calls Tryz.prog 161 #[.string s, .string cs] w fun e w' => e = .returned (.bool (ofL (bs s) (bs cs))) ∧ w = w' := by
  go_enter Tryz.func161, Tryz.ntmps161
  go_wp2
  go_loop [8] (fun i => ∃ k : Nat, k ≤ s.size ∧ i = .int .i64 k ∧ (s.data.toList.take k).all (fun c => (bs cs).contains c) = true) (fun i => s.size - (intOf i).toNat)
  case atStart => exact ⟨0, Nat.zero_le _, rfl, by simp⟩
  case round =>
    obtain ⟨k, hk, rfl, hall⟩ := hrel
    have HALL := Lib.hid hall
    clear hall
    by_cases hlt : k < s.size
    · have hfa := all_false_of (fun c => (bs cs).contains c) s k hlt
      have hsu := all_take_succ (fun c => (bs cs).contains c) s k hlt
      have HFA := Lib.hid hfa
      have HSU := Lib.hid hsu
      clear hfa hsu
      go_wp2_with fail
      refine (indexByte_any cs s[k] _).mono ?_
      rintro e w' ⟨rfl, rfl⟩
      cases hp : (bs cs).contains s[k]
      · have hn := indexByte_out hp
        have HP := Lib.hid hp
        clear hp
        go_wp2
        go_ret
        refine ⟨ret_bool ?_, rfl⟩
        unfold ofL
        exact (HFA.out HP.out).symm
      · have hn := indexByte_in hp
        have HP := Lib.hid hp
        clear hp
        go_wp2
        go_round
        case rel => exact ⟨k + 1, by omega, by go_num, by rw [HSU.out, HALL.out, HP.out]; rfl⟩
        case measure => simp [intOf]; omega
    · obtain rfl : k = s.size := by omega
      go_wp2
      go_ret
      refine ⟨ret_bool ?_, rfl⟩
      rw [take_size] at HALL
      exact HALL.out.symm
def asciiB (l : Str) : Bool := l.all fun c => decide (c.toNat < 128)
theorem ascii_at {l : Str} (h : asciiB l = true) : ∀ (j : Nat) b, l[j]? = some b → b.toNat < 128 := fun j b hb => by
  have := List.all_eq_true.1 h b (List.mem_of_getElem? hb)
  simpa using this
set_option maxHeartbeats 400000 in
theorem Of_any (s cs : ByteArray) (w : World) (hs : s.size ≤ 2097152) (hcs : cs.size ≤ 1000) (ha : asciiB (bs cs) = true) :
    Calls Tryz.prog 92 #[.string s, .string cs] w fun e w' => e = .returned (.bool (ofL (bs s) (bs cs))) ∧ Ext w w' := by
  have hasc := ascii_at ha
  have HASC := Lib.hid hasc
  clear hasc
  go_enter Tryz.func92, Tryz.ntmps92
  go_wp2_with fail
  refine (trim_any s cs _ hs hcs HASC.out).mono ?_
  rintro e w1 ⟨rfl, hx1⟩
  by_cases ht : Lib.trimS (bs s) (bs cs) = []
  · have HT := Lib.hid ht
    rw [ht]
    clear ht
    go_wp2_with fail
    refine (inner_any s cs _ hs).mono ?_
    rintro e w' ⟨rfl, rfl⟩
    go_wp2
    go_ret
    exact ⟨rfl, hx1⟩
  · have hf : ofL (bs s) (bs cs) = false := by
      cases h : ofL (bs s) (bs cs)
      · rfl
      · exact absurd (trim_empty _ _ h) ht
    have HF := Lib.hid hf
    clear hf
    go_wp2
    go_ret
    exact ⟨ret_bool HF.out.symm, hx1⟩

def smallS : Str := [97, 98, 99, 100, 101, 102, 103, 104, 105, 106, 107, 108, 109, 110, 111, 112, 113, 114, 115, 116, 117, 118, 119, 120, 121, 122]
def greatS : Str := [65, 66, 67, 68, 69, 70, 71, 72, 73, 74, 75, 76, 77, 78, 79, 80, 81, 82, 83, 84, 85, 86, 87, 88, 89, 90]
def digitS : Str := [48, 49, 50, 51, 52, 53, 54, 55, 56, 57]
theorem digit_set (c : UInt8) : digitS.contains c = digitB c := eq_of_beq (u8_all (fun c => digitS.contains c == digitB c) (by decide +kernel) c)
theorem word_set (c : UInt8) : (smallS ++ digitS).contains c = wordB c := eq_of_beq (u8_all (fun c => (smallS ++ digitS).contains c == wordB c) (by decide +kernel) c)
theorem part_set (c : UInt8) : (smallS ++ greatS ++ digitS ++ [45, 46, 95]).contains c = partB c := eq_of_beq (u8_all (fun c => (smallS ++ greatS ++ digitS ++ [45, 46, 95]).contains c == partB c) (by decide +kernel) c)
theorem of_set {p : UInt8 → Bool} {cs : Str} (h : ∀ c, cs.contains c = p c) (l : Str) : ofL l cs = l.all p := by
  unfold ofL
  congr 1
  funext c
  exact h c
theorem of_digit (s : ByteArray) (w : World) (hs : s.size ≤ 2097152) :
    Calls Tryz.prog 92 #[.string s, .string ⟨#[48, 49, 50, 51, 52, 53, 54, 55, 56, 57]⟩] w fun e w' => e = .returned (.bool ((bs s).all digitB)) ∧ Ext w w' :=
  (Of_any s ⟨#[48, 49, 50, 51, 52, 53, 54, 55, 56, 57]⟩ w hs (by decide) (by decide)).mono fun _ _ ⟨h, k⟩ => ⟨by rw [h]; exact ret_bool (of_set digit_set (bs s)), k⟩
theorem of_word (s : ByteArray) (w : World) (hs : s.size ≤ 2097152) :
    Calls Tryz.prog 92 #[.string s, .string ⟨#[97, 98, 99, 100, 101, 102, 103, 104, 105, 106, 107, 108, 109, 110, 111, 112, 113, 114, 115, 116, 117, 118, 119, 120, 121, 122, 48, 49, 50, 51, 52, 53, 54, 55, 56, 57]⟩] w fun e w' => e = .returned (.bool ((bs s).all wordB)) ∧ Ext w w' :=
  (Of_any s ⟨#[97, 98, 99, 100, 101, 102, 103, 104, 105, 106, 107, 108, 109, 110, 111, 112, 113, 114, 115, 116, 117, 118, 119, 120, 121, 122, 48, 49, 50, 51, 52, 53, 54, 55, 56, 57]⟩ w hs (by decide) (by decide)).mono fun _ _ ⟨h, k⟩ => ⟨by rw [h]; exact ret_bool (of_set word_set (bs s)), k⟩
theorem of_part (s : ByteArray) (w : World) (hs : s.size ≤ 2097152) :
    Calls Tryz.prog 92 #[.string s, .string ⟨#[97, 98, 99, 100, 101, 102, 103, 104, 105, 106, 107, 108, 109, 110, 111, 112, 113, 114, 115, 116, 117, 118, 119, 120, 121, 122, 65, 66, 67, 68, 69, 70, 71, 72, 73, 74, 75, 76, 77, 78, 79, 80, 81, 82, 83, 84, 85, 86, 87, 88, 89, 90, 48, 49, 50, 51, 52, 53, 54, 55, 56, 57, 45, 46, 95]⟩] w fun e w' => e = .returned (.bool ((bs s).all partB)) ∧ Ext w w' :=
  (Of_any s ⟨#[97, 98, 99, 100, 101, 102, 103, 104, 105, 106, 107, 108, 109, 110, 111, 112, 113, 114, 115, 116, 117, 118, 119, 120, 121, 122, 65, 66, 67, 68, 69, 70, 71, 72, 73, 74, 75, 76, 77, 78, 79, 80, 81, 82, 83, 84, 85, 86, 87, 88, 89, 90, 48, 49, 50, 51, 52, 53, 54, 55, 56, 57, 45, 46, 95]⟩ w hs (by decide) (by decide)).mono fun _ _ ⟨h, k⟩ => ⟨by rw [h]; exact ret_bool (of_set part_set (bs s)), k⟩
theorem partL_eq (l : Str) : partL l = ((l != []) && (l != [46]) && (l != [46, 46]) && decide (l.length ≤ 40) && l.all partB) := by
  unfold partL eachL
  cases l with
  | nil => simp
  | cons x r =>
    have : decide (0 < (x :: r).length) = true := by simp
    rw [this]
    have h2 : ((x :: r) != ([] : Str)) = true := rfl
    rw [h2]
    generalize (x :: r).all partB = a
    generalize decide ((x :: r).length ≤ 40) = b
    generalize ((x :: r) != [46]) = c
    generalize ((x :: r) != [46, 46]) = d
    cases a <;> cases b <;> cases c <;> cases d <;> rfl
theorem tl_beq (s : ByteArray) (l : Str) : (s.toList == l) = (bs s == l) := by rw [ByteArray.toList_eq]
set_option maxHeartbeats 2000000 in
theorem PathOf_any (s : ByteArray) (w : World) (hg : Good w) (hs : s.size ≤ 2097152) :
    Calls Tryz.prog 32 #[.string s] w fun e w' => e = .returned (.bool (pathL (bs s))) ∧ Ext w w' := by
  go_enter Tryz.func32, Tryz.ntmps32
  by_cases h200 : 200 < s.size
  · have hn : pathL (bs s) = false := by
      unfold pathL
      rw [bs_length, decide_eq_false (by omega)]; simp
    have HN := Lib.hid hn
    clear hn
    go_wp2
    go_ret
    exact ⟨ret_bool HN.out.symm, Ext.refl _⟩
  go_wp2_with fail
  refine (split_any 47 s _ hg hs).mono ?_
  rintro e w1 ⟨b, xs, rfl, hb0, hst, hxs, hx⟩
  have HXS := Lib.hid hxs
  have hcell := hst.cell
  have HC := Lib.hid hcell
  clear hcell
  have hlen := pieces_le hxs
  clear hxs
  go_wp2
  go_loopw [11] (fun i wr => ∃ k : Nat, k ≤ xs.length ∧ i = .int .i64 k ∧ (xs.take k).all (fun x => partL (bs x)) = true ∧ Ext w1 wr) (fun i _ => xs.length - (intOf i).toNat)
  case atStart => exact ⟨0, Nat.zero_le _, rfl, by simp, Ext.refl _⟩
  case round =>
    obtain ⟨k, hk, rfl, hall, hxr⟩ := hrel
    have HALL := Lib.hid hall
    clear hall
    by_cases hlt : k < xs.length
    · have hk1 := hxr.cell (HC.out k hlt)
      have hsz := piece_le HXS.out hlt
      have hne := allS_false partL xs k hlt
      have HNE := Lib.hid hne
      clear hne
      have hsu := allS_succ partL xs k hlt HALL.out
      have HSU := Lib.hid hsu
      clear hsu
      generalize xs[k] = x at *
      have hpl := partL_eq (bs x)
      have HPL := Lib.hid hpl
      clear hpl
      have hbad : partL (bs x) = false → pathL (bs s) = false := fun h => by
        unfold pathL
        rw [← HXS.out, HNE.out h]; rfl
      have HBAD := Lib.hid hbad
      clear hbad
      cases e1 : (bs x == ([] : Str))
      rotate_left
      · have hz : x.size = 0 := by rw [← bs_length, eq_of_beq e1]; rfl
        have hi := emp_bool hz
        have HP := Lib.hid (HBAD.out (by rw [HPL.out, bne, e1]; rfl))
        clear e1
        go_wp2
        go_ret
        exact ⟨ret_bool HP.out.symm, hx.trans hxr⟩
      have hz : 0 < x.size := by
        rcases Nat.eq_zero_or_pos x.size with h | h
        · rw [bs_nil h] at e1; cases e1
        · exact h
      have hi := nemp_bool hz
      cases e2 : (bs x == [46])
      rotate_left
      · have t2 : (x.toList == [46]) = true := by rw [tl_beq]; exact e2
        have HP := Lib.hid (HBAD.out (by rw [HPL.out, bne, bne, e2]; simp))
        clear e1 e2
        go_wp2
        go_ret
        exact ⟨ret_bool HP.out.symm, hx.trans hxr⟩
      have t2 : (x.toList == [46]) = false := by rw [tl_beq]; exact e2
      cases e3 : (bs x == [46, 46])
      rotate_left
      · have t3 : (x.toList == [46, 46]) = true := by rw [tl_beq]; exact e3
        have HP := Lib.hid (HBAD.out (by rw [HPL.out, bne, bne, bne, e3]; simp))
        clear e1 e2 e3
        go_wp2
        go_ret
        exact ⟨ret_bool HP.out.symm, hx.trans hxr⟩
      have t3 : (x.toList == [46, 46]) = false := by rw [tl_beq]; exact e3
      by_cases h40 : 40 < x.size
      · have HP := Lib.hid (HBAD.out (by rw [HPL.out, bs_length, decide_eq_false (by omega : ¬ x.size ≤ 40)]; simp))
        clear e1 e2 e3
        go_wp2
        go_ret
        exact ⟨ret_bool HP.out.symm, hx.trans hxr⟩
      have hgood : partL (bs x) = (bs x).all partB := by
        rw [HPL.out, bne, bne, bne, e1, e2, e3, bs_length, decide_eq_true (by omega : x.size ≤ 40)]; simp
      have HG := Lib.hid hgood
      clear hgood e1 e2 e3
      go_wp2_with fail
      refine (of_part x _ (by omega)).mono ?_
      rintro e w2 ⟨rfl, hx2⟩
      cases hn : (bs x).all partB
      · have HP := Lib.hid (HBAD.out (HG.out.trans hn))
        clear hn
        go_wp2
        go_ret
        exact ⟨ret_bool HP.out.symm, (hx.trans hxr).trans hx2⟩
      · have HP := Lib.hid (HG.out.trans hn)
        clear hn
        go_wp2
        go_roundw
        case rel => exact ⟨k + 1, by omega, by go_num, HSU.out HP.out, hxr.trans hx2⟩
        case measure => simp [intOf]; omega
    · obtain rfl : k = xs.length := by omega
      go_wp2
      go_ret
      refine ⟨ret_bool ?_, hx.trans hxr⟩
      unfold pathL
      rw [← HXS.out, allS_true partL xs HALL.out, bs_length]
      simp
      omega
end Go.Proofs.YtghhjlcbcojcnaaGreatDoor

namespace Go.Proofs.YtghhjlcbcojcnaaGreatDoor
open Go.RowKit

set_option maxHeartbeats 1000000 in
theorem ValueOf_any (s : ByteArray) (w : World) (hs : s.size ≤ 2097152) :
    Calls Tryz.prog 34 #[.string s] w fun e w' => e = .returned (.bool (valueL (bs s))) ∧ w = w' := by
  go_enter Tryz.func34, Tryz.ntmps34
  go_wp2
  go_loop [6] (fun i => ∃ k : Nat, k ≤ s.size ∧ i = .int .i64 k ∧ (s.data.toList.take k).all valueB = true) (fun i => s.size - (intOf i).toNat)
  case atStart => exact ⟨0, Nat.zero_le _, rfl, by simp⟩
  case round =>
    obtain ⟨k, hk, rfl, hall⟩ := hrel
    have HALL := Lib.hid hall
    clear hall
    by_cases hlt : k < s.size
    · have hfa := all_false_of valueB s k hlt
      have hsu := all_take_succ valueB s k hlt
      have HFA := Lib.hid hfa
      have HSU := Lib.hid hsu
      clear hfa hsu
      by_cases h1 : s[k].toNat < 32
      · have h1' : ((s[k].toNat : Nat) : Int) < 32 := by omega
        have hv : valueB s[k] = false := by simp [valueB]; omega
        have HV := Lib.hid (HFA.out hv)
        clear hv h1
        go_wp2
        go_ret
        exact ⟨ret_bool (by rw [valueL, show (bs s).all valueB = false from HV.out]; rfl), rfl⟩
      · have h1' : ¬ ((s[k].toNat : Nat) : Int) < 32 := by omega
        by_cases h2 : 126 < s[k].toNat
        · have h2' : (126 : Int) < ((s[k].toNat : Nat) : Int) := by omega
          have hv : valueB s[k] = false := by simp [valueB]; omega
          have HV := Lib.hid (HFA.out hv)
          clear hv h1 h2
          go_wp2
          go_ret
          exact ⟨ret_bool (by rw [valueL, show (bs s).all valueB = false from HV.out]; rfl), rfl⟩
        · have h2' : ¬ (126 : Int) < ((s[k].toNat : Nat) : Int) := by omega
          have hv : valueB s[k] = true := by simp [valueB]; omega
          have HV := Lib.hid hv
          clear hv h1 h2
          go_wp2
          go_round
          case rel => exact ⟨k + 1, by omega, by go_num, by rw [HSU.out, HALL.out, HV.out]; rfl⟩
          case measure => simp [intOf]; omega
    · obtain rfl : k = s.size := by omega
      go_wp2
      go_ret
      refine ⟨ret_bool ?_, rfl⟩
      rw [take_size] at HALL
      rw [valueL, show (bs s).all valueB = true from HALL.out, bs_length]
      simp
      omega

end Go.Proofs.YtghhjlcbcojcnaaGreatDoor

namespace Go.Proofs.YtghhjlcbcojcnaaGreatDoor
open Go.RowKit

theorem In_num (n : Int) (w : World) :
    Calls Tryz.prog 90 #[.int .i64 n, .int .i64 0, .int .i64 999999] w fun e w' => e = .returned (.bool (inNum n)) ∧ w = w' := In_any n 0 999999 w
structure V4 where
  a1 : Int
  a2 : Int
  a3 : Int
  a : ByteArray
def V4.err (v : V4) : Int := checkV v.a1 v.a2 v.a3 (bs v.a)
/-- versions in a slice, at the head of a block -/
structure VerS (w : World) (b : Nat) (l : List V4) : Prop where
  c0 : ∀ k (h : k < l.length), w.cell? ⟨b, k * 4, none⟩ = some (.int .i64 l[k].a1)
  c1 : ∀ k (h : k < l.length), w.cell? ⟨b, k * 4 + 1, none⟩ = some (.int .i64 l[k].a2)
  c2 : ∀ k (h : k < l.length), w.cell? ⟨b, k * 4 + 2, none⟩ = some (.int .i64 l[k].a3)
  c3 : ∀ k (h : k < l.length), w.cell? ⟨b, k * 4 + 3, none⟩ = some (.string l[k].a)
theorem VerS.ext {w w' : World} {b : Nat} {l : List V4} (h : VerS w b l) (hx : Ext w w') : VerS w' b l :=
  ⟨fun k hk => hx.cell (h.c0 k hk), fun k hk => hx.cell (h.c1 k hk), fun k hk => hx.cell (h.c2 k hk), fun k hk => hx.cell (h.c3 k hk)⟩
theorem earlyWord_eq (l : Str) : earlyWordL l = !((l == []) || decide (10 < l.length) || !(l.all wordB) || (l.all digitB && decide (1 < l.length) && (l.headD 0 == 48))) := by
  unfold earlyWordL numeralL eachL
  cases l with
  | nil => simp
  | cons x r =>
    have h1 : decide (0 < (x :: r).length) = true := by simp
    have h2 : ((x :: r) == ([] : Str)) = false := rfl
    rw [h1, h2]
    by_cases h10 : (x :: r : Str).length ≤ 10
    · rw [decide_eq_true h10, decide_eq_false (by omega : ¬ 10 < (x :: r : Str).length)]
      by_cases hx : x = 48
      · subst hx
        cases r with
        | nil => decide
        | cons y t =>
          have h3 : ((48 :: y :: t : Str) != [48]) = true := rfl
          have h4 : decide (1 < (48 :: y :: t : Str).length) = true := by simp
          rw [h3, h4]
          generalize (48 :: y :: t : Str).all digitB = a
          generalize (48 :: y :: t : Str).all wordB = b
          cases a <;> cases b <;> rfl
      · have h3 : (((x :: r : Str).headD 0) == 48) = false := by simpa using hx
        rw [h3]
        generalize (x :: r : Str).all digitB = a
        generalize (x :: r : Str).all wordB = b
        generalize ((x :: r : Str) != [48]) = c
        generalize decide (1 < (x :: r : Str).length) = d
        cases a <;> cases b <;> cases c <;> cases d <;> rfl
    · rw [decide_eq_false h10, decide_eq_true (by omega : 10 < (x :: r : Str).length)]
      simp
set_option maxHeartbeats 4000000 in
set_option maxRecDepth 100000 in
theorem VersionError_any (b c : Nat) (l : List V4) (w : World) (hg : Good w) (hv : VerS w b l) (hs : ∀ v ∈ l, v.a.size ≤ 2097152) (hl : l.length ≤ 2097152) :
    Calls Tryz.prog 21 #[.slice (some ⟨b, 0, none⟩) l.length c] w fun e w' => e = .returned (.int .i64 (firstI (l.map V4.err))) ∧ Ext w w' := by
  go_enter Tryz.func21, Tryz.ntmps21
  go_wp2
  go_loopw [11] (fun i wr => ∃ k : Nat, k ≤ l.length ∧ i = .int .i64 k ∧ (∀ x ∈ (l.map V4.err).take k, x = 0) ∧ Ext w wr) (fun i _ => l.length - (intOf i).toNat)
  case atStart => exact ⟨0, Nat.zero_le _, rfl, by simp, Ext.refl _⟩
  case round =>
    obtain ⟨k, hk, rfl, hall, hxr⟩ := hrel
    have HALL := Lib.hid hall
    clear hall
    by_cases hlt : k < l.length
    · have vr := hv.ext hxr
      have c0 := vr.c0 k hlt
      have c1 := vr.c1 k hlt
      have c2 := vr.c2 k hlt
      have c3 := vr.c3 k hlt
      have hsz := hs l[k] (List.getElem_mem hlt)
      have herr : firstI (l.map V4.err) = l[k].err ∨ l[k].err = 0 := by
        by_cases h0 : l[k].err = 0
        · exact .inr h0
        · have := firstI_at (l := l.map V4.err) (k := k) (by simpa using hlt) HALL.out (by simpa using h0)
          exact .inl (by simpa using this)
      have hnext : l[k].err = 0 → ∀ x ∈ (l.map V4.err).take (k + 1), x = 0 := fun h0 => take_zero_succ (by simpa using hlt) HALL.out (by simpa using h0)
      have HERR := Lib.hid herr
      have HNEXT := Lib.hid hnext
      clear herr hnext vr
      generalize l[k] = v at *
      obtain ⟨a1, a2, a3, a⟩ := v
      obtain ⟨wo, rfl⟩ : ∃ wo : World, wo = wr := ⟨_, rfl⟩
      have hx0 : Ext wo ((wo.alloc (.cells #[.int .i64 a1, .int .i64 a2, .int .i64 a3, .string a] 35)).alloc (.cells #[.int .i64 a1, .int .i64 a2, .int .i64 a3] 3)) := (by repeat (first | with_reducible exact Ext.refl _ | with_reducible assumption | with_reducible apply Ext.drewN | with_reducible apply Ext.drew | with_reducible apply Ext.alloc | exact Ext.refl _ | assumption | apply Ext.drewN | apply Ext.drew | apply Ext.alloc))
      have bad3 : (inNum a1 && inNum a2 && inNum a3) = false → firstI (l.map V4.err) = 3 := fun h => by
        have h1 : (V4.mk a1 a2 a3 a).err = 3 := by unfold V4.err checkV; rw [if_pos h]
        rcases HERR.out with h2 | h2
        · rw [h2, h1]
        · rw [h1] at h2; cases h2
      have bad2 : (inNum a1 && inNum a2 && inNum a3) = true → (bs a).isEmpty = false → earlyL (bs a) = false → firstI (l.map V4.err) = 2 := fun h he hl => by
        have h1 : (V4.mk a1 a2 a3 a).err = 2 := by unfold V4.err checkV; rw [if_neg (by rw [h]; decide), if_pos (by rw [he, hl]; rfl)]
        rcases HERR.out with h2 | h2
        · rw [h2, h1]
        · rw [h1] at h2; cases h2
      have good : (inNum a1 && inNum a2 && inNum a3) = true → ((bs a).isEmpty = true ∨ earlyL (bs a) = true) → ∀ x ∈ (l.map V4.err).take (k + 1), x = 0 := fun h he => by
        refine HNEXT.out ?_
        show (V4.mk a1 a2 a3 a).err = 0
        unfold V4.err checkV
        rw [if_neg (by rw [h]; decide), if_neg]
        rcases he with he | he <;> simp [he]
      have BAD3 := Lib.hid bad3
      have BAD2 := Lib.hid bad2
      have GOOD := Lib.hid good
      clear bad3 bad2 good HERR HNEXT
      go_wp2
      go_loop [23] (fun i => (i = .int .i64 0 ∨ (i = .int .i64 1 ∧ inNum a1 = true) ∨ (i = .int .i64 2 ∧ inNum a1 = true ∧ inNum a2 = true) ∨ (i = .int .i64 3 ∧ inNum a1 = true ∧ inNum a2 = true ∧ inNum a3 = true))) (fun i => 3 - (intOf i).toNat)
      case atStart => exact .inl rfl
      case round =>
        rcases hrel with rfl | ⟨rfl, h1⟩ | ⟨rfl, h1, h2⟩ | ⟨rfl, h1, h2, h3⟩
        · go_wp2_with fail
          refine (In_num _ _).mono ?_
          rintro e w' ⟨rfl, rfl⟩
          cases h1 : inNum a1
          · go_wp2
            go_ret
            exact ⟨ret_int (BAD3.out (by rw [h1]; rfl)).symm, hxr.trans hx0⟩
          · go_wp2
            go_round
            case rel => exact .inr (.inl ⟨rfl, h1⟩)
            case measure => decide
        · go_wp2_with fail
          refine (In_num _ _).mono ?_
          rintro e w' ⟨rfl, rfl⟩
          cases h2 : inNum a2
          · go_wp2
            go_ret
            exact ⟨ret_int (BAD3.out (by rw [h1, h2]; rfl)).symm, hxr.trans hx0⟩
          · go_wp2
            go_round
            case rel => exact .inr (.inr (.inl ⟨rfl, h1, h2⟩))
            case measure => decide
        · go_wp2_with fail
          refine (In_num _ _).mono ?_
          rintro e w' ⟨rfl, rfl⟩
          cases h3 : inNum a3
          · go_wp2
            go_ret
            exact ⟨ret_int (BAD3.out (by rw [h1, h2, h3]; rfl)).symm, hxr.trans hx0⟩
          · go_wp2
            go_round
            case rel => exact .inr (.inr (.inr ⟨rfl, h1, h2, h3⟩))
            case measure => decide
        · have h123 : (inNum a1 && inNum a2 && inNum a3) = true := by rw [h1, h2, h3]; rfl
          have H := Lib.hid h123
          clear h1 h2 h3 h123 c0 c1 c2 c3
          rcases Nat.eq_zero_or_pos a.size with hz | hz
          · have hi := emp_bool hz
            have hG := GOOD.out H.out (.inl (by rw [bs_nil hz]; rfl))
            have HG := Lib.hid hG
            clear hG
            go_wp2
            go_roundw
            case rel => exact ⟨k + 1, by omega, by go_num, HG.out, hxr.trans hx0⟩
            case measure => simp [intOf]; omega
          have hi := nemp_bool hz
          have hie : (bs a).isEmpty = false := by rw [ByteArray.toList_eq] at hi; exact hi
          have HIE := Lib.hid hie
          clear hie
          by_cases h40 : 40 < a.size
          · have hB := BAD2.out H.out HIE.out (by unfold earlyL; rw [bs_length, decide_eq_false (by omega : ¬ a.size ≤ 40)]; simp)
            have HB := Lib.hid hB
            clear hB
            go_wp2
            go_ret
            exact ⟨ret_int HB.out.symm, hxr.trans hx0⟩
          go_wp2_with fail
          refine (split_any 46 a _ (hg.ext (hxr.trans hx0)) (by omega)).mono ?_
          rintro e w1 ⟨b1, xs, rfl, hb0, hst, hxs, hx1⟩
          have HXS := Lib.hid hxs
          have hcell := hst.cell
          have HC := Lib.hid hcell
          have hlen := pieces_le hxs
          clear hcell hxs
          have hxw : Ext w w1 := (hxr.trans hx0).trans hx1
          go_wp2
          go_loopw [42] (fun i wr => ∃ j : Nat, j ≤ xs.length ∧ i = .int .i64 j ∧ (xs.take j).all (fun x => earlyWordL (bs x)) = true ∧ Ext w1 wr) (fun i _ => xs.length - (intOf i).toNat)
          case atStart => exact ⟨0, Nat.zero_le _, rfl, by simp, Ext.refl _⟩
          case round =>
            obtain ⟨j, hj, rfl, hall2, hxr2⟩ := hrel
            have HALL2 := Lib.hid hall2
            clear hall2
            by_cases hlt2 : j < xs.length
            · have hk1 := hxr2.cell (HC.out j hlt2)
              have hsz2 := piece_le HXS.out hlt2
              have hne := allS_false earlyWordL xs j hlt2
              have hsu := allS_succ earlyWordL xs j hlt2 HALL2.out
              have HNE := Lib.hid hne
              have HSU := Lib.hid hsu
              clear hne hsu
              generalize xs[j] = x at *
              have hpl := earlyWord_eq (bs x)
              have HPL := Lib.hid hpl
              have hbad : earlyWordL (bs x) = false → firstI (l.map V4.err) = 2 := fun h => BAD2.out H.out HIE.out (by
                unfold earlyL
                rw [← HXS.out, HNE.out h]; rfl)
              have HBAD := Lib.hid hbad
              clear hpl hbad
              rcases Nat.eq_zero_or_pos x.size with hxz | hxz
              · have hi2 := emp_bool hxz
                have HP := Lib.hid (HBAD.out (by rw [bs_nil hxz]; rfl))
                go_wp2
                go_ret
                exact ⟨ret_int HP.out.symm, hxw.trans hxr2⟩
              have hi2 := nemp_bool hxz
              have e1 : (bs x == ([] : Str)) = false := by
                rw [beq_eq_false_iff_ne]; intro e; have := bs_length x; rw [e] at this; simp at this; omega
              by_cases h10 : 10 < x.size
              · have HP := Lib.hid (HBAD.out (by rw [HPL.out, bs_length, decide_eq_true h10]; simp))
                clear e1
                go_wp2
                go_ret
                exact ⟨ret_int HP.out.symm, hxw.trans hxr2⟩
              have e2 : decide (10 < x.size) = false := decide_eq_false h10
              go_wp2_with fail
              refine (of_word x _ (by omega)).mono ?_
              rintro e w2 ⟨rfl, hx2⟩
              cases hw1 : (bs x).all wordB
              · have HP := Lib.hid (HBAD.out (by rw [HPL.out, hw1]; simp))
                clear e1 e2 hw1
                go_wp2
                go_ret
                exact ⟨ret_int HP.out.symm, (hxw.trans hxr2).trans hx2⟩
              go_wp2_with fail
              refine (of_digit x _ (by omega)).mono ?_
              rintro e w3 ⟨rfl, hx3⟩
              have hx5 := (hxr2.trans hx2).trans hx3
              cases hd1 : (bs x).all digitB
              · have HP := Lib.hid (HSU.out (by rw [HPL.out, e1, hw1, hd1, bs_length, e2]; rfl))
                clear e1 e2 hw1 hd1
                go_wp2
                go_roundw
                case rel => exact ⟨j + 1, by omega, by go_num, HP.out, hx5⟩
                case measure => simp [intOf]; omega
              have hq : earlyWordL (bs x) = !(decide (1 < x.size) && (x[0] == 48)) := by
                rw [HPL.out, e1, hw1, hd1, bs_length, e2, head_bs x hxz]; simp
              have HQ := Lib.hid hq
              clear hq e1 e2 hw1 hd1
              by_cases h1 : 1 < x.size
              · by_cases h48 : x[0].toNat = 48
                · have hb : (((x[0].toNat : Nat) : Int) == 48) = true := by rw [beq_iff_eq]; omega
                  have HP := Lib.hid (HBAD.out (by
                    have : x[0] = 48 := UInt8.toNat_inj.1 h48
                    rw [HQ.out, this, decide_eq_true h1]; rfl))
                  clear h48
                  go_wp2
                  go_ret
                  exact ⟨ret_int HP.out.symm, hxw.trans hx5⟩
                · have hb : (((x[0].toNat : Nat) : Int) == 48) = false := by rw [beq_eq_false_iff_ne]; omega
                  have HP := Lib.hid (HSU.out (by
                    have : (x[0] == 48) = false := by rw [beq_eq_false_iff_ne]; intro e; rw [e] at h48; exact h48 rfl
                    rw [HQ.out, this]; simp))
                  clear h48
                  go_wp2
                  go_roundw
                  case rel => exact ⟨j + 1, by omega, by go_num, HP.out, hx5⟩
                  case measure => simp [intOf]; omega
              · have HP := Lib.hid (HSU.out (by rw [HQ.out, decide_eq_false h1]; rfl))
                go_wp2
                go_roundw
                case rel => exact ⟨j + 1, by omega, by go_num, HP.out, hx5⟩
                case measure => simp [intOf]; omega
            · obtain rfl : j = xs.length := by omega
              have hG := GOOD.out H.out (.inr (by
                unfold earlyL
                rw [← HXS.out, allS_true earlyWordL xs HALL2.out, bs_length, decide_eq_true (by omega : a.size ≤ 40)]; rfl))
              have HG := Lib.hid hG
              clear hG
              go_wp2
              go_roundw
              case rel => exact ⟨k + 1, by omega, by go_num, HG.out, hxw.trans hxr2⟩
              case measure => simp [intOf]; omega
    · obtain rfl : k = l.length := by omega
      go_wp2
      go_ret
      have hz := HALL.out
      rw [List.take_of_length_le (by simp)] at hz
      exact ⟨ret_int (firstI_zero hz).symm, hxr⟩
end Go.Proofs.YtghhjlcbcojcnaaGreatDoor

namespace Go.Proofs.YtghhjlcbcojcnaaGreatDoor
open Go.RowKit

theorem VerS.one {w : World} {b : Nat} {a1 a2 a3 : Int} {a : ByteArray} (h0 : w.cell? ⟨b, 0, none⟩ = some (.int .i64 a1)) (h1 : w.cell? ⟨b, 1, none⟩ = some (.int .i64 a2)) (h2 : w.cell? ⟨b, 2, none⟩ = some (.int .i64 a3)) (h3 : w.cell? ⟨b, 3, none⟩ = some (.string a)) : VerS w b [⟨a1, a2, a3, a⟩] := by
  constructor
  all_goals intro k hk
  all_goals obtain rfl : k = 0 := by simpa using hk
  · exact h0
  · exact h1
  · exact h2
  · exact h3
end Go.Proofs.YtghhjlcbcojcnaaGreatDoor
