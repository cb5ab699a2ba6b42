/- Contracts of ver.compareWords, compareEarly, Order, Compare. Contracts of cmp.Or[int], ver.Order, Compare. -/
import Derived.Test.YtghhjlcbcojcnaaGreatDoorMt02

namespace Go.Proofs.YtghhjlcbcojcnaaGreatDoor
open Go.RowKit

set_option maxHeartbeats 400000 in
theorem compareWords_any (a b : ByteArray) (w : World) (ha : a.size ≤ 2097152) (hb : b.size ≤ 2097152) :
    Calls Tryz.prog 224 #[.string a, .string b] w fun e w' => e = .returned (.int .i64 (cmpWordL (bs a) (bs b))) ∧ w = w' := by
  go_enter Tryz.func224, Tryz.ntmps224
  go_wp2_with fail
  refine (isNumeral_any a _ ha).mono ?_
  rintro e w' ⟨rfl, rfl⟩
  go_wp2_with fail
  refine (isNumeral_any b _ hb).mono ?_
  rintro e w' ⟨rfl, rfl⟩
  cases h1 : numeralL (bs a) <;> cases h2 : numeralL (bs b)
  · go_wp2_with fail
    refine (compare_any a b _).mono ?_
    rintro e w' ⟨rfl, rfl⟩
    go_wp2
    go_ret
    exact ⟨ret_int (by rw [cmpWordL, h1, h2]; rfl), rfl⟩
  · go_wp2
    go_ret
    exact ⟨ret_int (by rw [cmpWordL, h1, h2]; rfl), rfl⟩
  · go_wp2
    go_ret
    exact ⟨ret_int (by rw [cmpWordL, h1, h2]; rfl), rfl⟩
  · by_cases h3 : a.size = b.size
    · have h4 : (((a.size : Nat) : Int) != ((b.size : Nat) : Int)) = false := by rw [h3]; simp
      have h5 : (bs a).length = (bs b).length := by rw [bs_length, bs_length, h3]
      have H5 := Lib.hid h5
      clear h3 h5
      go_wp2_with fail
      refine (compare_any a b _).mono ?_
      rintro e w' ⟨rfl, rfl⟩
      go_wp2
      go_ret
      exact ⟨ret_int (by rw [cmpWordL, h1, h2, if_pos (by rfl), if_pos H5.out]), rfl⟩
    · have h4 : (((a.size : Nat) : Int) != ((b.size : Nat) : Int)) = true := by rw [bne_iff_ne]; omega
      have h5 : ¬ (bs a).length = (bs b).length := by rw [bs_length, bs_length]; exact h3
      have H5 := Lib.hid h5
      clear h3 h5
      go_wp2_with fail
      refine (compareInt_any _ _ _).mono ?_
      rintro e w' ⟨rfl, rfl⟩
      go_wp2
      go_ret
      exact ⟨ret_int (by rw [cmpWordL, h1, h2, if_pos (by rfl), if_neg H5.out, bs_length, bs_length]), rfl⟩

theorem map_bs_get {xs : List ByteArray} {k : Nat} (h : k < (xs.map bs).length) : (xs.map bs)[k] = bs (xs[k]'(by simpa using h)) := by simp
theorem cmpWords_all {xs ys : List ByteArray} {X Y : List Str} (hX : xs.map bs = X) (hY : ys.map bs = Y) (h : ∀ j (h1 : j < xs.length) (h2 : j < ys.length), cmpWordL (bs xs[j]) (bs ys[j]) = 0) : cmpWordsL cmpWordL X Y = Lib.compareInt xs.length ys.length := by
  subst hX hY
  rw [cmpWords_end _ _ _ (fun j h1 h2 => by rw [map_bs_get, map_bs_get]; exact h j (by simpa using h1) (by simpa using h2))]
  simp
theorem cmpWords_hit {xs ys : List ByteArray} {X Y : List Str} (hX : xs.map bs = X) (hY : ys.map bs = Y) {k : Nat} (h1 : k < xs.length) (h2 : k < ys.length) (h : ∀ j (hj : j < k), cmpWordL (bs xs[j]) (bs ys[j]) = 0) (hk : cmpWordL (bs xs[k]) (bs ys[k]) ≠ 0) : cmpWordsL cmpWordL X Y = cmpWordL (bs xs[k]) (bs ys[k]) := by
  subst hX hY
  rw [cmpWords_at _ _ _ k (by simpa using h1) (by simpa using h2) (fun j hj => by rw [map_bs_get, map_bs_get]; exact h j hj) (by rw [map_bs_get, map_bs_get]; exact hk), map_bs_get, map_bs_get]
theorem bs_inj {a b : ByteArray} (h : bs a = bs b) : a = b := by rw [← mk_bs a, ← mk_bs b, h]

set_option maxHeartbeats 1000000 in
theorem compareEarly_any (a b : ByteArray) (w : World) (hg : Good w) (ha : a.size ≤ 2097152) (hb : b.size ≤ 2097152) :
    Calls Tryz.prog 162 #[.string a, .string b] w fun e w' => e = .returned (.int .i64 (cmpEarlyL (bs a) (bs b))) ∧ Ext w w' := by
  go_enter Tryz.func162, Tryz.ntmps162
  by_cases hab : a = b
  · subst hab
    have h1 : (a.toList == a.toList) = true := by simp
    go_wp2
    go_ret
    exact ⟨ret_int (by rw [cmpEarlyL, if_pos rfl]), Ext.refl _⟩
  have hne : (a.toList == b.toList) = false := by
    rw [beq_eq_false_iff_ne, ByteArray.toList_eq, ByteArray.toList_eq]
    exact fun e => hab (bs_inj e)
  have hne2 : ¬ bs a = bs b := fun e => hab (bs_inj e)
  have HNE := Lib.hid hne2
  clear hab hne2
  rcases Nat.eq_zero_or_pos a.size with ha0 | ha0
  · have hi := emp_bool ha0
    go_wp2
    go_ret
    exact ⟨ret_int (by rw [cmpEarlyL, if_neg HNE.out, if_pos (bs_nil ha0)]), Ext.refl _⟩
  have hia := nemp_bool ha0
  have hna : ¬ bs a = [] := fun e => by have := bs_length a; rw [e] at this; simp at this; omega
  have HNA := Lib.hid hna
  clear hna
  rcases Nat.eq_zero_or_pos b.size with hb0 | hb0
  · have hi := emp_bool hb0
    go_wp2
    go_ret
    exact ⟨ret_int (by rw [cmpEarlyL, if_neg HNE.out, if_neg HNA.out, if_pos (bs_nil hb0)]), Ext.refl _⟩
  have hib := nemp_bool hb0
  have hnb : ¬ bs b = [] := fun e => by have := bs_length b; rw [e] at this; simp at this; omega
  have HNB := Lib.hid hnb
  clear hnb
  go_wp2_with fail
  refine (split_any 46 a _ hg ha).mono ?_
  rintro e w1 ⟨b1, xs, rfl, hb1, hst1, hxs, hx1⟩
  go_wp2_with fail
  refine (split_any 46 b _ (hg.ext hx1) hb).mono ?_
  rintro e w2 ⟨b2, ys, rfl, hb2, hst2, hys, hx2⟩
  have hl1 := pieces_le hxs
  have hl2 := pieces_le hys
  have HXS := Lib.hid hxs
  have HYS := Lib.hid hys
  clear hxs hys
  have hc1 := (hst1.ext hx2).cell
  have hc2 := hst2.cell
  have HC1 := Lib.hid hc1
  have HC2 := Lib.hid hc2
  have hx := hx1.trans hx2
  clear hc1 hc2 hst1 hst2 hx1 hx2 hb2
  go_wp2
  go_loopw [28] (fun i wr => ∃ k : Nat, i = .int .i64 k ∧ k ≤ xs.length ∧ k ≤ ys.length ∧ (∀ j (h1 : j < xs.length) (h2 : j < ys.length), j < k → cmpWordL (bs xs[j]) (bs ys[j]) = 0) ∧ Ext w2 wr) (fun i _ => xs.length - (intOf i).toNat)
  case atStart => exact ⟨0, rfl, Nat.zero_le _, Nat.zero_le _, fun j _ _ h => absurd h (by omega), Ext.refl _⟩
  case round =>
    obtain ⟨k, rfl, hk1, hk2, hall, hxr⟩ := hrel
    have HALL := Lib.hid hall
    clear hall
    by_cases hlt : k < xs.length ∧ k < ys.length
    · obtain ⟨hlt1, hlt2⟩ := hlt
      have hm : (k : Int) < min (xs.length : Int) (ys.length : Int) := by omega
      have d1 := hxr.cell (HC1.out k hlt1)
      have d2 := hxr.cell (HC2.out k hlt2)
      have q1 := lt_of_cell d1
      have q2 := lt_of_cell d2
      have s1 := piece_le HXS.out hlt1
      have s2 := piece_le HYS.out hlt2
      go_wp2_with fail
      refine wp_region_ext (by kernel_rfl) (by kernel_rfl) ?_
      repeat (first | go_big_quiet_skip | (refine wpQuiet_step (fun K hK => ?_); go_simp; first | (refine hK _ ?_; clear hK K) | (apply Exists.intro; refine ⟨fun wq hwq => ?_, hK _ ?_⟩; (obtain ⟨hqc, hqf⟩ := hwq.cells; have hqs := hwq.size; (try go_simp); first | rfl | ((first | rw [if_neg (by omega)] | rw [if_pos (by omega)]); (try go_simp); rfl) | ((go_at_call 224; refine (compareWords_any xs[k] ys[k] _ (by omega) (by omega)).mono (fun e w'' h => ⟨h.1, h.2 ▸ hwq⟩)))); clear hK K)))
      refine wpQuiet_nil ?_
      intro wN hxN
      obtain ⟨hcN, hfN⟩ := hxN.cells
      have hsN := hxN.size
      by_cases hz : cmpWordL (bs xs[k]) (bs ys[k]) = 0
      · have hz2 : (cmpWordL (bs xs[k]) (bs ys[k]) != 0) = false := by rw [hz]; rfl
        have HZ := Lib.hid hz
        clear hz
        go_wp2
        go_roundw
        case rel =>
          refine ⟨k + 1, by go_num, by omega, by omega, fun j h1 h2 h3 => ?_, hxr.trans hxN⟩
          by_cases hj : j = k
          · subst hj; exact HZ.out
          · exact HALL.out j h1 h2 (by omega)
        case measure => simp [intOf]; omega
      · have hz2 : (cmpWordL (bs xs[k]) (bs ys[k]) != 0) = true := by rw [bne_iff_ne]; exact hz
        have HZ := Lib.hid hz
        clear hz
        go_wp2
        go_ret
        refine ⟨ret_int ?_, (hx.trans hxr).trans hxN⟩
        rw [cmpEarlyL, if_neg HNE.out, if_neg HNA.out, if_neg HNB.out, cmpWords_hit HXS.out HYS.out hlt1 hlt2 (fun j hj => HALL.out j (by omega) (by omega) hj) HZ.out]
    · have hm : ¬ (k : Int) < min (xs.length : Int) (ys.length : Int) := by omega
      have hfin : cmpEarlyL (bs a) (bs b) = Lib.compareInt xs.length ys.length := by
        rw [cmpEarlyL, if_neg HNE.out, if_neg HNA.out, if_neg HNB.out, cmpWords_all HXS.out HYS.out (fun j h1 h2 => HALL.out j h1 h2 (by omega))]
      have HFIN := Lib.hid hfin
      clear hfin
      go_wp2_with fail
      refine (compareInt_any _ _ _).mono ?_
      rintro e w' ⟨rfl, rfl⟩
      go_wp2
      go_ret
      exact ⟨ret_int HFIN.out.symm, hx.trans hxr⟩
end Go.Proofs.YtghhjlcbcojcnaaGreatDoor

namespace Go.Proofs.YtghhjlcbcojcnaaGreatDoor
open Go.RowKit

set_option maxHeartbeats 400000 in
theorem Or_any (b c : Nat) (es : List Int) (w : World) (hc : ∀ k (h : k < es.length), w.cell? ⟨b, k, none⟩ = some (.int .i64 es[k])) (hl : es.length ≤ 1000) :
    Calls Tryz.prog 104 #[.slice (some ⟨b, 0, none⟩) es.length c] w fun e w' => e = .returned (.int .i64 (firstI es)) ∧ w = w' := by
  go_enter Tryz.func104, Tryz.ntmps104
  go_wp2
  go_loop [8] (fun i => ∃ k : Nat, k ≤ es.length ∧ i = .int .i64 k ∧ ∀ x ∈ es.take k, x = 0) (fun i => es.length - (intOf i).toNat)
  case atStart => exact ⟨0, Nat.zero_le _, rfl, by simp⟩
  case round =>
    obtain ⟨k, hk, rfl, hall⟩ := hrel
    have HALL := Lib.hid hall
    clear hall
    by_cases hlt : k < es.length
    · have hk1 := hc k hlt
      have HC := Lib.hid hc
      clear hc
      by_cases h0 : es[k] = 0
      · have H0 := Lib.hid h0
        rw [h0] at hk1
        clear h0
        go_wp2
        go_round
        case rel => exact ⟨k + 1, by omega, by go_num, take_zero_succ hlt HALL.out H0.out⟩
        case measure => simp [intOf]; omega
      · have h1 : (es[k] != 0) = true := by rw [bne_iff_ne]; exact h0
        go_wp2
        go_ret
        exact ⟨ret_int (firstI_at hlt HALL.out h0).symm, rfl⟩
    · obtain rfl : k = es.length := by omega
      have HC := Lib.hid hc
      clear hc
      go_wp2
      go_ret
      exact ⟨ret_int (firstI_zero (by simpa using HALL.out)).symm, rfl⟩

set_option maxHeartbeats 2000000 in
theorem Order_any (a1 a2 a3 b1 b2 b3 : Int) (a b : ByteArray) (w : World) (hg : Good w) (ha : a.size ≤ 2097152) (hb : b.size ≤ 2097152) :
    Calls Tryz.prog 94 #[.agg #[.int .i64 a1, .int .i64 a2, .int .i64 a3, .string a], .agg #[.int .i64 b1, .int .i64 b2, .int .i64 b3, .string b]] w
      fun e w' => e = .returned (.int .i64 (orderL a1 a2 a3 (bs a) b1 b2 b3 (bs b))) ∧ Ext w w' := by
  go_enter Tryz.func94, Tryz.ntmps94
  go_wp2_with fail
  refine wp_region_ext_tail 20 (by kernel_rfl) (by kernel_rfl) ?_
  simp only [List.take_succ_cons, List.take_zero, List.drop_succ_cons, List.drop_zero]
  repeat (first | go_big_quiet_skip | (refine wpQuiet_step (fun K hK => ?_); go_simp; first | (refine hK _ ?_; clear hK K) | (apply Exists.intro; refine ⟨fun wq hwq => ?_, hK _ ?_⟩; (obtain ⟨hqc, hqf⟩ := hwq.cells; have hqs := hwq.size; (try go_simp); first | rfl | ((first | rw [if_neg (by omega)] | rw [if_pos (by omega)]); (try go_simp); rfl) | ((first | (go_at_call 105; exact (compareInt_any _ _ _).mono (fun e w'' h => ⟨h.1, h.2 ▸ hwq⟩)) | (go_at_call 162; exact (compareEarly_any a b _ (hg.ext (Ext.trans (by repeat (first | with_reducible exact Ext.refl _ | with_reducible assumption | with_reducible apply Ext.drewN | with_reducible apply Ext.drew | with_reducible apply Ext.alloc | exact Ext.refl _ | assumption | apply Ext.drewN | apply Ext.drew | apply Ext.alloc)) hwq)) ha hb).mono (fun e w'' h => ⟨h.1, hwq.trans h.2⟩))))); clear hK K)))
  refine wpQuiet_nil ?_
  intro wN hxN
  obtain ⟨hcN, hfN⟩ := hxN.cells
  have hsN := hxN.size
  go_wp2_with fail
  refine (Or_any _ _ [Lib.compareInt a1 b1, Lib.compareInt a2 b2, Lib.compareInt a3 b3, cmpEarlyL (bs a) (bs b)] _ ?_ (by simp)).mono ?_
  · intro k hk
    rw [World.cell?_alloc_at _ _ _ _ rfl]
    match k, hk with
    | 0, _ => rfl
    | 1, _ => rfl
    | 2, _ => rfl
    | 3, _ => rfl
  rintro e w' ⟨rfl, rfl⟩
  go_wp2
  go_ret
  exact ⟨rfl, (Ext.trans (by repeat (first | with_reducible exact Ext.refl _ | with_reducible assumption | with_reducible apply Ext.drewN | with_reducible apply Ext.drew | with_reducible apply Ext.alloc | exact Ext.refl _ | assumption | apply Ext.drewN | apply Ext.drew | apply Ext.alloc)) hxN).alloc _⟩

/-- A version in memory, at the head of a block. -/
structure Ver4 (w : World) (g : Nat) (a1 a2 a3 : Int) (a : ByteArray) : Prop where
  c0 : w.cell? ⟨g, 0, none⟩ = some (.int .i64 a1)
  c1 : w.cell? ⟨g, 1, none⟩ = some (.int .i64 a2)
  c2 : w.cell? ⟨g, 2, none⟩ = some (.int .i64 a3)
  c3 : w.cell? ⟨g, 3, none⟩ = some (.string a)
theorem Ver4.ext {w w' : World} {g : Nat} {a1 a2 a3 : Int} {a : ByteArray} (h : Ver4 w g a1 a2 a3 a) (hx : Ext w w') : Ver4 w' g a1 a2 a3 a := ⟨hx.cell h.c0, hx.cell h.c1, hx.cell h.c2, hx.cell h.c3⟩
theorem Ver4.lt {w : World} {g : Nat} {a1 a2 a3 : Int} {a : ByteArray} (h : Ver4 w g a1 a2 a3 a) : g < w.heap.size := lt_of_cell h.c0

/-- the first error of two versions; their order, if there is none -/
def bothV (a1 a2 a3 : Int) (a : Str) (b1 b2 b3 : Int) (b : Str) : Int := firstI [checkV a1 a2 a3 a, checkV b1 b2 b3 b]
def compareV (a1 a2 a3 : Int) (a : Str) (b1 b2 b3 : Int) (b : Str) : Int := if bothV a1 a2 a3 a b1 b2 b3 b = 0 then orderL a1 a2 a3 a b1 b2 b3 b else 0
theorem both_a {a1 a2 a3 b1 b2 b3 : Int} {a b : Str} (h : checkV a1 a2 a3 a ≠ 0) : bothV a1 a2 a3 a b1 b2 b3 b = checkV a1 a2 a3 a ∧ compareV a1 a2 a3 a b1 b2 b3 b = 0 := by
  have h2 : bothV a1 a2 a3 a b1 b2 b3 b = checkV a1 a2 a3 a := by rw [bothV, firstI, if_neg h]
  exact ⟨h2, by rw [compareV, h2, if_neg h]⟩
theorem both_b {a1 a2 a3 b1 b2 b3 : Int} {a b : Str} (h1 : checkV a1 a2 a3 a = 0) (h : checkV b1 b2 b3 b ≠ 0) : bothV a1 a2 a3 a b1 b2 b3 b = checkV b1 b2 b3 b ∧ compareV a1 a2 a3 a b1 b2 b3 b = 0 := by
  have h2 : bothV a1 a2 a3 a b1 b2 b3 b = checkV b1 b2 b3 b := by rw [bothV, firstI, if_pos h1, firstI, if_neg h]
  exact ⟨h2, by rw [compareV, h2, if_neg h]⟩
theorem both_0 {a1 a2 a3 b1 b2 b3 : Int} {a b : Str} (h1 : checkV a1 a2 a3 a = 0) (h : checkV b1 b2 b3 b = 0) : bothV a1 a2 a3 a b1 b2 b3 b = 0 ∧ compareV a1 a2 a3 a b1 b2 b3 b = orderL a1 a2 a3 a b1 b2 b3 b := by
  have h2 : bothV a1 a2 a3 a b1 b2 b3 b = 0 := by rw [bothV, firstI, if_pos h1, firstI, if_pos h, firstI]
  exact ⟨h2, by rw [compareV, if_pos h2]⟩
set_option maxHeartbeats 2000000 in
theorem Compare_any (a1 a2 a3 b1 b2 b3 : Int) (a b : ByteArray) (w : World) (hg : Good w) (ha : a.size ≤ 2097152) (hb : b.size ≤ 2097152) :
    Calls Tryz.prog 24 #[.agg #[.int .i64 a1, .int .i64 a2, .int .i64 a3, .string a], .agg #[.int .i64 b1, .int .i64 b2, .int .i64 b3, .string b]] w
      fun e w' => e = .returned (.tuple #[.int .i64 (compareV a1 a2 a3 (bs a) b1 b2 b3 (bs b)), .int .i64 (bothV a1 a2 a3 (bs a) b1 b2 b3 (bs b))]) ∧ Ext w w' := by
  have i0 : ∀ w, (Instr.index 129 (.agg #[.int .i64 a1, .int .i64 a2, .int .i64 a3, .string a, .int .i64 b1, .int .i64 b2, .int .i64 b3, .string b]) (.int .i64 0)).run Tryz.prog w = .ok (.agg #[.int .i64 a1, .int .i64 a2, .int .i64 a3, .string a]) w := fun _ => by kernel_rfl
  have i1 : ∀ w, (Instr.index 129 (.agg #[.int .i64 a1, .int .i64 a2, .int .i64 a3, .string a, .int .i64 b1, .int .i64 b2, .int .i64 b3, .string b]) (.int .i64 1)).run Tryz.prog w = .ok (.agg #[.int .i64 b1, .int .i64 b2, .int .i64 b3, .string b]) w := fun _ => by kernel_rfl
  go_enter Tryz.func24, Tryz.ntmps24
  go_wp2
  go_loopw [12] (fun i wr => (i = .int .i64 0 ∨ (i = .int .i64 1 ∧ checkV a1 a2 a3 (bs a) = 0) ∨ (i = .int .i64 2 ∧ checkV a1 a2 a3 (bs a) = 0 ∧ checkV b1 b2 b3 (bs b) = 0)) ∧ Ver4 wr w.heap.size a1 a2 a3 a ∧ Ver4 wr (w.heap.size + 1) b1 b2 b3 b ∧ Ext w wr) (fun i _ => 2 - (intOf i).toNat)
  case atStart =>
    refine ⟨.inl rfl, ⟨?_, ?_, ?_, ?_⟩, ⟨?_, ?_, ?_, ?_⟩, (by repeat (first | with_reducible exact Ext.refl _ | with_reducible assumption | with_reducible apply Ext.drewN | with_reducible apply Ext.drew | with_reducible apply Ext.alloc | exact Ext.refl _ | assumption | apply Ext.drewN | apply Ext.drew | apply Ext.alloc))⟩
    all_goals go_simp
  case round =>
    obtain ⟨hi, hA, hB, hxr⟩ := hrel
    have hA0 := hA.lt
    have hB0 := hB.lt
    rcases hi with rfl | ⟨rfl, h1⟩ | ⟨rfl, h1, h2⟩
    · go_wp2_with fail
      refine (Check_any a1 a2 a3 a _ (hg.ext (Ext.alloc hxr _)) ha).mono ?_
      rintro e w1 ⟨rfl, hx1⟩
      have hA1 := hA.ext (Ext.trans ((Ext.refl _).alloc _) hx1)
      have hB1 := hB.ext (Ext.trans ((Ext.refl _).alloc _) hx1)
      by_cases h1 : checkV a1 a2 a3 (bs a) = 0
      · have H1 := Lib.hid h1
        rw [h1]
        clear h1
        go_wp2
        go_roundw
        case rel => exact ⟨.inr (.inl ⟨rfl, H1.out⟩), hA1, hB1, (hxr.alloc _).trans hx1⟩
        case measure => decide
      · go_wp2
        go_ret2
        refine ⟨?_, (hxr.alloc _).trans hx1⟩
        rw [(both_a h1).1, (both_a h1).2]
        rfl
    · have H1 := Lib.hid h1
      clear h1
      go_wp2_with fail
      refine (Check_any b1 b2 b3 b _ (hg.ext (Ext.alloc hxr _)) hb).mono ?_
      rintro e w1 ⟨rfl, hx1⟩
      have hA1 := hA.ext (Ext.trans ((Ext.refl _).alloc _) hx1)
      have hB1 := hB.ext (Ext.trans ((Ext.refl _).alloc _) hx1)
      by_cases h2 : checkV b1 b2 b3 (bs b) = 0
      · have H2 := Lib.hid h2
        rw [h2]
        clear h2
        go_wp2
        go_roundw
        case rel => exact ⟨.inr (.inr ⟨rfl, H1.out, H2.out⟩), hA1, hB1, (hxr.alloc _).trans hx1⟩
        case measure => decide
      · go_wp2
        go_ret2
        refine ⟨?_, (hxr.alloc _).trans hx1⟩
        rw [(both_b H1.out h2).1, (both_b H1.out h2).2]
        rfl
    · have H1 := Lib.hid h1
      have H2 := Lib.hid h2
      clear h1 h2
      have a0 := hA.c0
      have a1' := hA.c1
      have a2' := hA.c2
      have a3' := hA.c3
      have b0 := hB.c0
      have b1' := hB.c1
      have b2' := hB.c2
      have b3' := hB.c3
      go_wp2_with fail
      refine (Order_any a1 a2 a3 b1 b2 b3 a b _ (hg.ext hxr) ha hb).mono ?_
      rintro e w1 ⟨rfl, hx1⟩
      go_wp2
      go_ret2
      refine ⟨?_, hxr.trans hx1⟩
      rw [(both_0 H1.out H2.out).1, (both_0 H1.out H2.out).2]
      rfl
end Go.Proofs.YtghhjlcbcojcnaaGreatDoor
