/- Contracts of ver.IsPath, isEarly, Check. -/
import Derived.Test.YtncagihilplliaaGreatDoorLib
import Derived.Test.YtncagihilplliaaGreatDoorVerB
namespace Go.Proofs.YtncagihilplliaaGreatDoor
open Go.RowKit

/-! ### A predicate along a list of strings -/
theorem allS_succ (p : Str → Bool) (xs : List ByteArray) (k : Nat) (h : k < xs.length) (h1 : (xs.take k).all (fun x => p (bs x)) = true) (h2 : p (bs xs[k]) = true) : (xs.take (k + 1)).all (fun x => p (bs x)) = true := by
  rw [List.take_succ_eq_append_getElem h, List.all_append, h1]
  simp [h2]
theorem allS_false (p : Str → Bool) (xs : List ByteArray) (k : Nat) (h : k < xs.length) (h2 : p (bs xs[k]) = false) : (xs.map bs).all p = false := by
  rw [List.all_eq_false]
  exact ⟨bs xs[k], List.mem_map.2 ⟨xs[k], List.getElem_mem h, rfl⟩, by simp [h2]⟩
theorem allS_true (p : Str → Bool) (xs : List ByteArray) (h1 : (xs.take xs.length).all (fun x => p (bs x)) = true) : (xs.map bs).all p = true := by
  rw [List.take_length] at h1
  rw [List.all_map]; exact h1

/-- pieces of a text are no longer than it -/
theorem splitC_le (c : UInt8) : ∀ (l p : Str), p ∈ splitC c l → p.length ≤ l.length
  | [], p, h => by simp [splitC] at h; simp [h]
  | x :: r, p, h => by
    unfold splitC at h
    by_cases hx : x = c
    · rw [if_pos hx] at h
      rcases List.mem_cons.1 h with e | e
      · simp [e]
      · have := splitC_le c r p e; simp; omega
    · rw [if_neg hx] at h
      cases hs : splitC c r with
      | nil => exact absurd hs (splitC_ne c r)
      | cons q t =>
        rw [hs] at h
        rcases List.mem_cons.1 h with e | e
        · have := splitC_le c r q (by rw [hs]; simp)
          rw [e]; simp; omega
        · have := splitC_le c r p (by rw [hs]; simp [e]); simp; omega
theorem piece_le {c : UInt8} {s : ByteArray} {xs : List ByteArray} (h : xs.map bs = splitC c (bs s)) {k : Nat} (hk : k < xs.length) : xs[k].size ≤ s.size := by
  rw [← bs_length, ← bs_length]
  exact splitC_le c _ _ (by rw [← h]; exact List.mem_map.2 ⟨_, List.getElem_mem hk, rfl⟩)

theorem splitC_length_le (c : UInt8) : ∀ l : Str, (splitC c l).length ≤ l.length + 1
  | [] => by simp [splitC]
  | x :: r => by
    have := splitC_length_le c r
    unfold splitC
    split
    · simp; omega
    · split <;> simp_all; omega
theorem pieces_le {c : UInt8} {s : ByteArray} {xs : List ByteArray} (h : xs.map bs = splitC c (bs s)) : xs.length ≤ s.size + 1 := by
  have h1 := splitC_length_le c (bs s)
  rw [← h, List.length_map, bs_length] at h1
  exact h1

def pathL (l : Str) : Bool := (splitC 47 l).all partL && decide (l.length ≤ 200)
set_option maxHeartbeats 400000 in
theorem IsPath_any (s : ByteArray) (w : World) (hg : Good w) (hs : s.size ≤ 2097152) :
    Calls Tryz.prog 26 #[.string s] w fun e w' => e = .returned (.bool (pathL (bs s))) ∧ Ext w w' := by
  go_enter Tryz.func26, Tryz.ntmps26
  go_wp2_with fail
  refine (split_any 47 s _ hg hs).mono ?_
  rintro e w1 ⟨b, xs, rfl, hb0, hst, hxs, hx⟩
  have HXS := Lib.hid hxs
  have hcell := hst.cell
  have HC := Lib.hid hcell
  clear hcell
  have hlen := pieces_le hxs
  clear hxs
  go_wp2
  go_loop [8] (fun i => ∃ k : Nat, k ≤ xs.length ∧ i = .int .i64 k ∧ (xs.take k).all (fun x => partL (bs x)) = true) (fun i => xs.length - (intOf i).toNat)
  case atStart => exact ⟨0, Nat.zero_le _, rfl, by simp⟩
  case round =>
    obtain ⟨k, hk, rfl, hall⟩ := hrel
    have HALL := Lib.hid hall
    clear hall
    by_cases hlt : k < xs.length
    · have hk1 := HC.out k hlt
      have hsz := piece_le HXS.out hlt
      go_wp2_with fail
      refine (isPart_any xs[k] _ (by omega)).mono ?_
      rintro e w' ⟨rfl, rfl⟩
      cases hp : partL (bs xs[k])
      · go_wp2
        go_ret
        refine ⟨ret_bool ?_, hx⟩
        unfold pathL
        rw [← HXS.out, allS_false partL xs k hlt hp]
        rfl
      · go_wp2
        go_round
        case rel => exact ⟨k + 1, by omega, by go_num, allS_succ _ _ _ hlt HALL.out hp⟩
        case measure => simp [intOf]; omega
    · obtain rfl : k = xs.length := by omega
      go_wp2
      go_ret
      refine ⟨ret_bool ?_, hx⟩
      unfold pathL
      rw [← HXS.out, allS_true partL xs HALL.out, bs_length]
      simp
      omega

def earlyWordL (l : Str) : Bool := eachL wordB l 10 && !(numeralL l && (l.headD 0 == 48) && (l != [48]))
def earlyL (l : Str) : Bool := (splitC 46 l).all earlyWordL && decide (l.length ≤ 40)
theorem cast_beq (a : UInt8) (n : Nat) (h : n < 256) : (((a.toNat : Nat) : Int) == (n : Int)) = (a == UInt8.ofNat n) := by
  rw [Bool.eq_iff_iff, beq_iff_eq, beq_iff_eq]
  constructor
  · intro e
    apply UInt8.toNat_inj.1
    rw [UInt8.toNat_ofNat']
    omega
  · rintro rfl
    rw [UInt8.toNat_ofNat']
    omega
theorem ew_bad {x : ByteArray} {h0 : 0 < x.size} (hh : (bs x).headD 0 = x[0]) (hn : numeralL (bs x) = true) (h1 : (x[0].toNat : Int) = 48) (h2 : (!x.toList == [48]) = true) : earlyWordL (bs x) = false := by
  have h3 : x[0] = 48 := UInt8.toNat_inj.1 (by show x[0].toNat = 48; omega)
  rw [ByteArray.toList_eq] at h2
  have h4 : (bs x != [48]) = true := h2
  rw [earlyWordL, hh, h3, hn, h4]
  simp
theorem ew_good1 {x : ByteArray} (hp : eachL wordB (bs x) 10 = true) (h2 : (!x.toList == [48]) = false) : earlyWordL (bs x) = true := by
  rw [ByteArray.toList_eq] at h2
  have h4 : (bs x != [48]) = false := h2
  rw [earlyWordL, hp, h4]
  simp
theorem ew_good2 {x : ByteArray} {h0 : 0 < x.size} (hp : eachL wordB (bs x) 10 = true) (hh : (bs x).headD 0 = x[0]) (h1 : ¬ (x[0].toNat : Int) = 48) : earlyWordL (bs x) = true := by
  have h3 : (x[0] == 48) = false := by
    rw [beq_eq_false_iff_ne]
    intro e
    rw [e] at h1
    exact h1 rfl
  rw [earlyWordL, hp, hh, h3]
  simp
set_option maxHeartbeats 1000000 in
theorem isEarly_any (s : ByteArray) (w : World) (hg : Good w) (hs : s.size ≤ 2097152) :
    Calls Tryz.prog 63 #[.string s] w fun e w' => e = .returned (.bool (earlyL (bs s))) ∧ Ext w w' := by
  go_enter Tryz.func63, Tryz.ntmps63
  go_wp2_with fail
  refine (split_any 46 s _ hg hs).mono ?_
  rintro e w1 ⟨b, xs, rfl, hb0, hst, hxs, hx⟩
  have HXS := Lib.hid hxs
  have hcell := hst.cell
  have HC := Lib.hid hcell
  clear hcell
  have hlen := pieces_le hxs
  clear hxs
  go_wp2
  go_loop [8] (fun i => ∃ k : Nat, k ≤ xs.length ∧ i = .int .i64 k ∧ (xs.take k).all (fun x => earlyWordL (bs x)) = true) (fun i => xs.length - (intOf i).toNat)
  case atStart => exact ⟨0, Nat.zero_le _, rfl, by simp⟩
  case round =>
    obtain ⟨k, hk, rfl, hall⟩ := hrel
    have HALL := Lib.hid hall
    clear hall
    by_cases hlt : k < xs.length
    · have hk1 := HC.out k hlt
      have hsz := piece_le HXS.out hlt
      have hne : earlyWordL (bs xs[k]) = false → (xs.map bs).all earlyWordL = false := allS_false earlyWordL xs k hlt
      have HNE := Lib.hid hne
      clear hne
      have hsu := allS_succ earlyWordL xs k hlt HALL.out
      have HSU := Lib.hid hsu
      clear hsu
      generalize xs[k] = x at *
      go_wp2_with fail
      refine (each_list _ _ x 10 _ (by omega) isEarly1_pred).mono ?_
      rintro e w' ⟨rfl, rfl⟩
      cases hp : eachL wordB (bs x) 10
      · go_wp2
        go_ret
        refine ⟨ret_bool ?_, hx⟩
        unfold earlyL
        rw [← HXS.out, HNE.out (by rw [earlyWordL, hp]; rfl)]
        rfl
      · have h0 := eachL_pos hp
        have hh := head_bs x h0
        have HH := Lib.hid hh
        clear hh
        go_wp2_with fail
        refine (isNumeral_any x _ (by omega)).mono ?_
        rintro e w' ⟨rfl, rfl⟩
        cases hn : numeralL (bs x)
        · go_wp2
          go_round
          case rel => exact ⟨k + 1, by omega, by go_num, HSU.out (by rw [earlyWordL, hp, hn]; rfl)⟩
          case measure => simp [intOf]; omega
        · go_wp2
          · go_ret
            refine ⟨ret_bool ?_, hx⟩
            unfold earlyL
            rw [← HXS.out, HNE.out (ew_bad HH.out hn (by assumption) (by assumption))]
            rfl
          · go_round
            case rel => exact ⟨k + 1, by omega, by go_num, HSU.out (ew_good1 hp (by assumption))⟩
            case measure => simp [intOf]; omega
          · go_round
            case rel => exact ⟨k + 1, by omega, by go_num, HSU.out (ew_good2 hp HH.out (by assumption))⟩
            case measure => simp [intOf]; omega
    · obtain rfl : k = xs.length := by omega
      go_wp2
      go_ret
      refine ⟨ret_bool ?_, hx⟩
      unfold earlyL
      rw [← HXS.out, allS_true earlyWordL xs HALL.out, bs_length]
      simp
      omega
end Go.Proofs.YtncagihilplliaaGreatDoor
