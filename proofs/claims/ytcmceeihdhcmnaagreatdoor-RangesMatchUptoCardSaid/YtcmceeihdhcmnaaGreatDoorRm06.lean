/- Contracts of cmp.Or[int], ver.Order, Compare. -/
import Derived.Test.YtcmceeihdhcmnaaGreatDoorRm05

namespace Go.Proofs.YtcmceeihdhcmnaaGreatDoor
open Go.RowKit

set_option maxHeartbeats 400000 in
theorem Or_any (b c : Nat) (es : List Int) (w : World) (hc : ∀ k (h : k < es.length), w.cell? ⟨b, k, none⟩ = some (.int .i64 es[k])) (hl : es.length ≤ 1000) :
    Calls Tryz.prog 85 #[.slice (some ⟨b, 0, none⟩) es.length c] w fun e w' => e = .returned (.int .i64 (firstI es)) ∧ w = w' := by
  go_enter Tryz.func85, Tryz.ntmps85
  go_wp2
  go_loop [8] (fun i => ∃ k : Nat, k ≤ es.length ∧ i = .int .i64 k ∧ ∀ x ∈ es.take k, x = 0) (fun i => es.length - (intOf i).toNat)
  case atStart => exact ⟨0, Nat.zero_le _, rfl, by simp⟩
  case round =>
    obtain ⟨k, hk, rfl, hall⟩ := hrel
    have HALL := Lib.hid hall
    clear hall
    by_cases hlt : k < es.length
    · have hk1 := hc k hlt
      have HC := Lib.hid hc
      clear hc
      by_cases h0 : es[k] = 0
      · have H0 := Lib.hid h0
        rw [h0] at hk1
        clear h0
        go_wp2
        go_round
        case rel => exact ⟨k + 1, by omega, by go_num, take_zero_succ hlt HALL.out H0.out⟩
        case measure => simp [intOf]; omega
      · have h1 : (es[k] != 0) = true := by rw [bne_iff_ne]; exact h0
        go_wp2
        go_ret
        exact ⟨ret_int (firstI_at hlt HALL.out h0).symm, rfl⟩
    · obtain rfl : k = es.length := by omega
      have HC := Lib.hid hc
      clear hc
      go_wp2
      go_ret
      exact ⟨ret_int (firstI_zero (by simpa using HALL.out)).symm, rfl⟩

set_option maxHeartbeats 2000000 in
theorem Order_any (a1 a2 a3 b1 b2 b3 : Int) (a b : ByteArray) (w : World) (hg : Good w) (ha : a.size ≤ 2097152) (hb : b.size ≤ 2097152) :
    Calls Tryz.prog 75 #[.agg #[.int .i64 a1, .int .i64 a2, .int .i64 a3, .string a], .agg #[.int .i64 b1, .int .i64 b2, .int .i64 b3, .string b]] w
      fun e w' => e = .returned (.int .i64 (orderL a1 a2 a3 (bs a) b1 b2 b3 (bs b))) ∧ Ext w w' := by
  go_enter Tryz.func75, Tryz.ntmps75
  go_wp2_with fail
  refine wp_region_ext_tail 20 (by kernel_rfl) (by kernel_rfl) ?_
  simp only [List.take_succ_cons, List.take_zero, List.drop_succ_cons, List.drop_zero]
  repeat (first | go_big_quiet_skip | (refine wpQuiet_step (fun K hK => ?_); go_simp; first | (refine hK _ ?_; clear hK K) | (apply Exists.intro; refine ⟨fun wq hwq => ?_, hK _ ?_⟩; (obtain ⟨hqc, hqf⟩ := hwq.cells; have hqs := hwq.size; (try go_simp); first | rfl | ((first | rw [if_neg (by omega)] | rw [if_pos (by omega)]); (try go_simp); rfl) | ((first | (go_at_call 86; exact (compareInt_any _ _ _).mono (fun e w'' h => ⟨h.1, h.2 ▸ hwq⟩)) | (go_at_call 130; exact (compareEarly_any a b _ (hg.ext (Ext.trans (by repeat (first | with_reducible exact Ext.refl _ | with_reducible assumption | with_reducible apply Ext.drewN | with_reducible apply Ext.drew | with_reducible apply Ext.alloc | exact Ext.refl _ | assumption | apply Ext.drewN | apply Ext.drew | apply Ext.alloc)) hwq)) ha hb).mono (fun e w'' h => ⟨h.1, hwq.trans h.2⟩))))); clear hK K)))
  refine wpQuiet_nil ?_
  intro wN hxN
  obtain ⟨hcN, hfN⟩ := hxN.cells
  have hsN := hxN.size
  go_wp2_with fail
  refine (Or_any _ _ [Lib.compareInt a1 b1, Lib.compareInt a2 b2, Lib.compareInt a3 b3, cmpEarlyL (bs a) (bs b)] _ ?_ (by simp)).mono ?_
  · intro k hk
    rw [World.cell?_alloc_at _ _ _ _ rfl]
    match k, hk with
    | 0, _ => rfl
    | 1, _ => rfl
    | 2, _ => rfl
    | 3, _ => rfl
  rintro e w' ⟨rfl, rfl⟩
  go_wp2
  go_ret
  exact ⟨rfl, (Ext.trans (by repeat (first | with_reducible exact Ext.refl _ | with_reducible assumption | with_reducible apply Ext.drewN | with_reducible apply Ext.drew | with_reducible apply Ext.alloc | exact Ext.refl _ | assumption | apply Ext.drewN | apply Ext.drew | apply Ext.alloc)) hxN).alloc _⟩

/-- A version in memory, at the head of a block. -/
structure Ver4 (w : World) (g : Nat) (a1 a2 a3 : Int) (a : ByteArray) : Prop where
  c0 : w.cell? ⟨g, 0, none⟩ = some (.int .i64 a1)
  c1 : w.cell? ⟨g, 1, none⟩ = some (.int .i64 a2)
  c2 : w.cell? ⟨g, 2, none⟩ = some (.int .i64 a3)
  c3 : w.cell? ⟨g, 3, none⟩ = some (.string a)
theorem Ver4.ext {w w' : World} {g : Nat} {a1 a2 a3 : Int} {a : ByteArray} (h : Ver4 w g a1 a2 a3 a) (hx : Ext w w') : Ver4 w' g a1 a2 a3 a := ⟨hx.cell h.c0, hx.cell h.c1, hx.cell h.c2, hx.cell h.c3⟩
theorem Ver4.lt {w : World} {g : Nat} {a1 a2 a3 : Int} {a : ByteArray} (h : Ver4 w g a1 a2 a3 a) : g < w.heap.size := lt_of_cell h.c0

/-- the first error of two versions; their order, if there is none -/
def bothV (a1 a2 a3 : Int) (a : Str) (b1 b2 b3 : Int) (b : Str) : Int := firstI [checkV a1 a2 a3 a, checkV b1 b2 b3 b]
def compareV (a1 a2 a3 : Int) (a : Str) (b1 b2 b3 : Int) (b : Str) : Int := if bothV a1 a2 a3 a b1 b2 b3 b = 0 then orderL a1 a2 a3 a b1 b2 b3 b else 0
theorem both_a {a1 a2 a3 b1 b2 b3 : Int} {a b : Str} (h : checkV a1 a2 a3 a ≠ 0) : bothV a1 a2 a3 a b1 b2 b3 b = checkV a1 a2 a3 a ∧ compareV a1 a2 a3 a b1 b2 b3 b = 0 := by
  have h2 : bothV a1 a2 a3 a b1 b2 b3 b = checkV a1 a2 a3 a := by rw [bothV, firstI, if_neg h]
  exact ⟨h2, by rw [compareV, h2, if_neg h]⟩
theorem both_b {a1 a2 a3 b1 b2 b3 : Int} {a b : Str} (h1 : checkV a1 a2 a3 a = 0) (h : checkV b1 b2 b3 b ≠ 0) : bothV a1 a2 a3 a b1 b2 b3 b = checkV b1 b2 b3 b ∧ compareV a1 a2 a3 a b1 b2 b3 b = 0 := by
  have h2 : bothV a1 a2 a3 a b1 b2 b3 b = checkV b1 b2 b3 b := by rw [bothV, firstI, if_pos h1, firstI, if_neg h]
  exact ⟨h2, by rw [compareV, h2, if_neg h]⟩
theorem both_0 {a1 a2 a3 b1 b2 b3 : Int} {a b : Str} (h1 : checkV a1 a2 a3 a = 0) (h : checkV b1 b2 b3 b = 0) : bothV a1 a2 a3 a b1 b2 b3 b = 0 ∧ compareV a1 a2 a3 a b1 b2 b3 b = orderL a1 a2 a3 a b1 b2 b3 b := by
  have h2 : bothV a1 a2 a3 a b1 b2 b3 b = 0 := by rw [bothV, firstI, if_pos h1, firstI, if_pos h, firstI]
  exact ⟨h2, by rw [compareV, if_pos h2]⟩
set_option maxHeartbeats 2000000 in
theorem Compare_any (a1 a2 a3 b1 b2 b3 : Int) (a b : ByteArray) (w : World) (hg : Good w) (ha : a.size ≤ 2097152) (hb : b.size ≤ 2097152) :
    Calls Tryz.prog 21 #[.agg #[.int .i64 a1, .int .i64 a2, .int .i64 a3, .string a], .agg #[.int .i64 b1, .int .i64 b2, .int .i64 b3, .string b]] w
      fun e w' => e = .returned (.tuple #[.int .i64 (compareV a1 a2 a3 (bs a) b1 b2 b3 (bs b)), .int .i64 (bothV a1 a2 a3 (bs a) b1 b2 b3 (bs b))]) ∧ Ext w w' := by
  have i0 : ∀ w, (Instr.index 111 (.agg #[.int .i64 a1, .int .i64 a2, .int .i64 a3, .string a, .int .i64 b1, .int .i64 b2, .int .i64 b3, .string b]) (.int .i64 0)).run Tryz.prog w = .ok (.agg #[.int .i64 a1, .int .i64 a2, .int .i64 a3, .string a]) w := fun _ => by kernel_rfl
  have i1 : ∀ w, (Instr.index 111 (.agg #[.int .i64 a1, .int .i64 a2, .int .i64 a3, .string a, .int .i64 b1, .int .i64 b2, .int .i64 b3, .string b]) (.int .i64 1)).run Tryz.prog w = .ok (.agg #[.int .i64 b1, .int .i64 b2, .int .i64 b3, .string b]) w := fun _ => by kernel_rfl
  go_enter Tryz.func21, Tryz.ntmps21
  go_wp2
  go_loopw [12] (fun i wr => (i = .int .i64 0 ∨ (i = .int .i64 1 ∧ checkV a1 a2 a3 (bs a) = 0) ∨ (i = .int .i64 2 ∧ checkV a1 a2 a3 (bs a) = 0 ∧ checkV b1 b2 b3 (bs b) = 0)) ∧ Ver4 wr w.heap.size a1 a2 a3 a ∧ Ver4 wr (w.heap.size + 1) b1 b2 b3 b ∧ Ext w wr) (fun i _ => 2 - (intOf i).toNat)
  case atStart =>
    refine ⟨.inl rfl, ⟨?_, ?_, ?_, ?_⟩, ⟨?_, ?_, ?_, ?_⟩, (by repeat (first | with_reducible exact Ext.refl _ | with_reducible assumption | with_reducible apply Ext.drewN | with_reducible apply Ext.drew | with_reducible apply Ext.alloc | exact Ext.refl _ | assumption | apply Ext.drewN | apply Ext.drew | apply Ext.alloc))⟩
    all_goals go_simp
  case round =>
    obtain ⟨hi, hA, hB, hxr⟩ := hrel
    have hA0 := hA.lt
    have hB0 := hB.lt
    rcases hi with rfl | ⟨rfl, h1⟩ | ⟨rfl, h1, h2⟩
    · go_wp2_with fail
      refine (Check_any a1 a2 a3 a _ (hg.ext (Ext.alloc hxr _)) ha).mono ?_
      rintro e w1 ⟨rfl, hx1⟩
      have hA1 := hA.ext (Ext.trans ((Ext.refl _).alloc _) hx1)
      have hB1 := hB.ext (Ext.trans ((Ext.refl _).alloc _) hx1)
      by_cases h1 : checkV a1 a2 a3 (bs a) = 0
      · have H1 := Lib.hid h1
        rw [h1]
        clear h1
        go_wp2
        go_roundw
        case rel => exact ⟨.inr (.inl ⟨rfl, H1.out⟩), hA1, hB1, (hxr.alloc _).trans hx1⟩
        case measure => decide
      · go_wp2
        go_ret2
        refine ⟨?_, (hxr.alloc _).trans hx1⟩
        rw [(both_a h1).1, (both_a h1).2]
        rfl
    · have H1 := Lib.hid h1
      clear h1
      go_wp2_with fail
      refine (Check_any b1 b2 b3 b _ (hg.ext (Ext.alloc hxr _)) hb).mono ?_
      rintro e w1 ⟨rfl, hx1⟩
      have hA1 := hA.ext (Ext.trans ((Ext.refl _).alloc _) hx1)
      have hB1 := hB.ext (Ext.trans ((Ext.refl _).alloc _) hx1)
      by_cases h2 : checkV b1 b2 b3 (bs b) = 0
      · have H2 := Lib.hid h2
        rw [h2]
        clear h2
        go_wp2
        go_roundw
        case rel => exact ⟨.inr (.inr ⟨rfl, H1.out, H2.out⟩), hA1, hB1, (hxr.alloc _).trans hx1⟩
        case measure => decide
      · go_wp2
        go_ret2
        refine ⟨?_, (hxr.alloc _).trans hx1⟩
        rw [(both_b H1.out h2).1, (both_b H1.out h2).2]
        rfl
    · have H1 := Lib.hid h1
      have H2 := Lib.hid h2
      clear h1 h2
      have a0 := hA.c0
      have a1' := hA.c1
      have a2' := hA.c2
      have a3' := hA.c3
      have b0 := hB.c0
      have b1' := hB.c1
      have b2' := hB.c2
      have b3' := hB.c3
      go_wp2_with fail
      refine (Order_any a1 a2 a3 b1 b2 b3 a b _ (hg.ext hxr) ha hb).mono ?_
      rintro e w1 ⟨rfl, hx1⟩
      go_wp2
      go_ret2
      refine ⟨?_, hxr.trans hx1⟩
      rw [(both_0 H1.out H2.out).1, (both_0 H1.out H2.out).2]
      rfl
end Go.Proofs.YtcmceeihdhcmnaaGreatDoor
