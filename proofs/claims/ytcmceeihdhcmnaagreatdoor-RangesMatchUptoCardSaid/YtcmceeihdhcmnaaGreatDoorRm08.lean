/- Contracts of ver.number, Parse. -/
import Derived.Test.YtcmceeihdhcmnaaGreatDoorRm06

namespace Go.Proofs.YtcmceeihdhcmnaaGreatDoor
open Go.RowKit

def numOk (l : Str) : Bool := eachL digitB l 9 && !((l.headD 0 == 48) && (l != [48]))
def numV (l : Str) : Int := if numOk l = true then decVal l else 0
theorem eachL_digits {l : Str} {n : Nat} (h : eachL digitB l n = true) : l.all digitB = true ∧ 0 < l.length ∧ l.length ≤ n := by
  unfold eachL at h
  simp only [Bool.and_eq_true, decide_eq_true_eq] at h
  exact ⟨h.1.1, h.1.2, h.2⟩
theorem no_bad {x : ByteArray} {h0 : 0 < x.size} (hh : (bs x).headD 0 = x[0]) (h1 : (x[0].toNat : Int) = 48) (h2 : (!x.toList == [48]) = true) : numOk (bs x) = false := by
  have h3 : x[0] = 48 := UInt8.toNat_inj.1 (by show x[0].toNat = 48; omega)
  rw [ByteArray.toList_eq] at h2
  have h4 : (bs x != [48]) = true := h2
  rw [numOk, hh, h3, h4]
  simp
theorem no_good1 {x : ByteArray} (hp : eachL digitB (bs x) 9 = true) (h2 : (!x.toList == [48]) = false) : numOk (bs x) = true := by
  rw [ByteArray.toList_eq] at h2
  have h4 : (bs x != [48]) = false := h2
  rw [numOk, hp, h4]
  simp
theorem no_good2 {x : ByteArray} {h0 : 0 < x.size} (hp : eachL digitB (bs x) 9 = true) (hh : (bs x).headD 0 = x[0]) (h1 : ¬ (x[0].toNat : Int) = 48) : numOk (bs x) = true := by
  have h3 : (x[0] == 48) = false := by
    rw [beq_eq_false_iff_ne]
    intro e
    rw [e] at h1
    exact h1 rfl
  rw [numOk, hp, hh, h3]
  simp

set_option maxHeartbeats 1000000 in
theorem number_any (s : ByteArray) (w : World) (hg : GoodN w) (hs : s.size ≤ 2097152) :
    Calls Tryz.prog 89 #[.string s] w fun e w' => e = .returned (.tuple #[.int .i64 (numV (bs s)), .bool (numOk (bs s))]) ∧ Ext w w' := by
  go_enter Tryz.func89, Tryz.ntmps89
  go_wp2_with fail
  refine (each_list _ _ s 9 _ hs isDigit_pred).mono ?_
  rintro e w' ⟨rfl, rfl⟩
  cases hp : eachL digitB (bs s) 9
  · go_wp2
    go_ret2
    refine ⟨?_, Ext.refl _⟩
    have h1 : numOk (bs s) = false := by rw [numOk, hp]; rfl
    rw [numV, h1]
    rfl
  · have h0 := eachL_pos hp
    have hh := head_bs s h0
    have HH := Lib.hid hh
    clear hh
    have hok : numOk (bs s) = true → numV (bs s) = (decVal (bs s) : Nat) ∧ Lib.atoiAll (bs s) = .ok ((decVal (bs s) : Nat) : Int) := fun h => by
      obtain ⟨d1, d2, d3⟩ := eachL_digits hp
      exact ⟨by rw [numV, if_pos h], atoi_digits _ d1 d2 (by omega)⟩
    have HOK := Lib.hid hok
    clear hok
    go_wp2_with fail
    · go_ret2
      refine ⟨?_, Ext.refl _⟩
      have h1 : numOk (bs s) = false := no_bad HH.out (by assumption) (by assumption)
      rw [numV, h1]
      rfl
    · have hN : numOk (bs s) = true := no_good1 hp (by assumption)
      have HN := Lib.hid hN
      clear hN
      refine (atoi_any s _ hg hs).mono ?_
      rintro e w1 ⟨v, ev, rfl, hx1, hv, hev⟩
      obtain ⟨rfl, rfl⟩ := hv _ (HOK.out HN.out).2
      have hV := (HOK.out HN.out).1
      have HV := Lib.hid hV
      clear hV hv hev
      go_wp2_with fail
      refine wp_region_ext (by kernel_rfl) (by kernel_rfl) ?_
      repeat (first | go_big_quiet_skip | (refine wpQuiet_step (fun K hK => ?_); go_simp; first | (refine hK _ ?_; clear hK K) | (apply Exists.intro; refine ⟨fun wq hwq => ?_, hK _ ?_⟩; (obtain ⟨hqc, hqf⟩ := hwq.cells; have hqs := hwq.size; (try go_simp); first | rfl | ((first | rw [if_neg (by omega)] | rw [if_pos (by omega)]); (try go_simp); rfl) | ((fail))); clear hK K)))
      refine wpQuiet_nil ?_
      intro wN hxN
      obtain ⟨hcN, hfN⟩ := hxN.cells
      have hsN := hxN.size
      go_wp2
      go_ret2
      refine ⟨?_, hx1.trans hxN⟩
      rw [HV.out, HN.out]
      rfl
    · have hN : numOk (bs s) = true := no_good2 hp HH.out (by assumption)
      have HN := Lib.hid hN
      clear hN
      refine (atoi_any s _ hg hs).mono ?_
      rintro e w1 ⟨v, ev, rfl, hx1, hv, hev⟩
      obtain ⟨rfl, rfl⟩ := hv _ (HOK.out HN.out).2
      have hV := (HOK.out HN.out).1
      have HV := Lib.hid hV
      clear hV hv hev
      go_wp2_with fail
      refine wp_region_ext (by kernel_rfl) (by kernel_rfl) ?_
      repeat (first | go_big_quiet_skip | (refine wpQuiet_step (fun K hK => ?_); go_simp; first | (refine hK _ ?_; clear hK K) | (apply Exists.intro; refine ⟨fun wq hwq => ?_, hK _ ?_⟩; (obtain ⟨hqc, hqf⟩ := hwq.cells; have hqs := hwq.size; (try go_simp); first | rfl | ((first | rw [if_neg (by omega)] | rw [if_pos (by omega)]); (try go_simp); rfl) | ((fail))); clear hK K)))
      refine wpQuiet_nil ?_
      intro wN hxN
      obtain ⟨hcN, hfN⟩ := hxN.cells
      have hsN := hxN.size
      go_wp2
      go_ret2
      refine ⟨?_, hx1.trans hxN⟩
      rw [HV.out, HN.out]
      rfl
end Go.Proofs.YtcmceeihdhcmnaaGreatDoor
