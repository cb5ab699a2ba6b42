/- Contracts of outref2.First, cmp.Or[int]: the first of several numbers that is not 0. -/
import Derived.Test.YtncagihilplliaaGreatDoorVerA
namespace Go.Proofs.YtncagihilplliaaGreatDoor
open Go.RowKit

def firstI : List Int → Int
  | [] => 0
  | e :: r => if e = 0 then firstI r else e
theorem firstI_zero : ∀ {l : List Int}, (∀ x ∈ l, x = 0) → firstI l = 0
  | [], _ => rfl
  | e :: r, h => by
    unfold firstI
    rw [if_pos (h e (by simp)), firstI_zero fun x hx => h x (by simp [hx])]
theorem firstI_at : ∀ {l : List Int} {k : Nat} (hk : k < l.length), (∀ x ∈ l.take k, x = 0) → l[k] ≠ 0 → firstI l = l[k]
  | e :: r, 0, _, _, h => by unfold firstI; rw [if_neg (by simpa using h)]; rfl
  | e :: r, k + 1, hk, h0, h => by
    unfold firstI
    rw [if_pos (h0 e (by simp))]
    exact firstI_at (l := r) (k := k) (by simpa using hk) (fun x hx => h0 x (by simp [hx])) (by simpa using h)
theorem take_zero_succ {l : List Int} {k : Nat} (hk : k < l.length) (h : ∀ x ∈ l.take k, x = 0) (h0 : l[k] = 0) : ∀ x ∈ l.take (k + 1), x = 0 := by
  intro x hx
  rw [List.take_succ_eq_append_getElem hk, List.mem_append] at hx
  rcases hx with hx | hx
  · exact h x hx
  · simp at hx; rw [hx, h0]

set_option maxHeartbeats 400000 in
theorem First_any (b c : Nat) (es : List Int) (w : World) (hc : ∀ k (h : k < es.length), w.cell? ⟨b, k, none⟩ = some (.int .i64 es[k])) (hl : es.length ≤ 1000) :
    Calls Tryz.prog 17 #[.slice (some ⟨b, 0, none⟩) es.length c] w fun e w' => e = .returned (.int .i64 (firstI es)) ∧ w = w' := by
  go_enter Tryz.func17, Tryz.ntmps17
  go_wp2
  go_loop [7] (fun i => ∃ k : Nat, k ≤ es.length ∧ i = .int .i64 k ∧ ∀ x ∈ es.take k, x = 0) (fun i => es.length - (intOf i).toNat)
  case atStart => exact ⟨0, Nat.zero_le _, rfl, by simp⟩
  case round =>
    obtain ⟨k, hk, rfl, hall⟩ := hrel
    have HALL := Lib.hid hall
    clear hall
    by_cases hlt : k < es.length
    · have hk1 := hc k hlt
      have HC := Lib.hid hc
      clear hc
      by_cases h0 : es[k] = 0
      · have H0 := Lib.hid h0
        rw [h0] at hk1
        clear h0
        go_wp2
        go_round
        case rel => exact ⟨k + 1, by omega, by go_num, take_zero_succ hlt HALL.out H0.out⟩
        case measure => simp [intOf]; omega
      · go_wp2
        go_ret
        exact ⟨ret_int (firstI_at hlt HALL.out h0).symm, rfl⟩
    · obtain rfl : k = es.length := by omega
      have HC := Lib.hid hc
      clear hc
      go_wp2
      go_ret
      exact ⟨ret_int (firstI_zero (by simpa using HALL.out)).symm, rfl⟩
end Go.Proofs.YtncagihilplliaaGreatDoor
