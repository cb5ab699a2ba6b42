/- Contract of migrate.table.loses. (Printed by gen/tabg.py.) -/
import Derived.Test.YtghhjlcbcojcnaaGreatDoorRn32

namespace Go.Proofs.YtghhjlcbcojcnaaGreatDoor
open Go.RowKit

set_option maxHeartbeats 8000000 in
set_option maxRecDepth 100000 in
theorem loses1_any (b n : Nat) (f : Tb) (key tt old new : ByteArray) (w : World) (h : StrMap w b n f) (s2 : tt.size ≤ 2097152) :
    Calls Tryz.prog 140 #[.map (some b), .agg #[.int .i64 1, .string key, .string tt, .string old, .string new]] w fun e w' => ∃ v, e = .returned (.bool v) ∧ (v = true ↔ (f (bs tt)).isSome = true) ∧ Ext w w' := by
  have hlt := h.lt
  have b0 := Blk.new w 23 #[.int .i64 1, .string key, .string tt, .string old, .string new]
  have h0 := h.ext ((Ext.refl w).alloc (.cells #[.int .i64 1, .string key, .string tt, .string old, .string new] 23))
  have hx0 : Ext w (w.alloc (.cells #[.int .i64 1, .string key, .string tt, .string old, .string new] 23)) := (Ext.refl w).alloc _
  have hlook := h0.look (t := 179) Tryz.underlying179 tt s2
  obtain ⟨I, hI⟩ : ∃ I, (f (bs tt)).isSome = I := ⟨_, rfl⟩
  rw [hI] at hlook
  generalize (f (bs tt)).getD [] = V at hlook
  have HI := Lib.hid hI
  clear hI
  go_enter Tryz.func140, Tryz.ntmps140
  go_wp2
  go_ret
  exact ⟨_, rfl, by rw [HI.out], (by repeat (first | with_reducible exact Ext.refl _ | with_reducible assumption | with_reducible apply Ext.drewN | with_reducible apply Ext.drew | with_reducible apply Ext.alloc | exact Ext.refl _ | assumption | apply Ext.drewN | apply Ext.drew | apply Ext.alloc))⟩
set_option maxHeartbeats 8000000 in
set_option maxRecDepth 100000 in
theorem loses2_any (b n : Nat) (f : Tb) (key tt old new : ByteArray) (w : World) (h : StrMap w b n f) (hf : Okt f) (s2 : tt.size ≤ 2097152) :
    Calls Tryz.prog 140 #[.map (some b), .agg #[.int .i64 2, .string key, .string tt, .string old, .string new]] w fun e w' => ∃ v, e = .returned (.bool v) ∧ (v = true ↔ ∃ x, (f x).isSome = true ∧ underL x (bs tt) = true) ∧ Ext w w' := by
  have hlt := h.lt
  have b0 := Blk.new w 23 #[.int .i64 2, .string key, .string tt, .string old, .string new]
  have h0 := h.ext ((Ext.refl w).alloc (.cells #[.int .i64 2, .string key, .string tt, .string old, .string new] 23))
  have hx0 : Ext w (w.alloc (.cells #[.int .i64 2, .string key, .string tt, .string old, .string new] 23)) := (Ext.refl w).alloc _
  have HOK := Lib.hid hf
  clear hf
  go_enter Tryz.func140, Tryz.ntmps140
  go_wp2_with (first
    | (at_range; refine wp_range_t _ rfl _ 179 rfl Tryz.underlying179 b n f rfl h0 ?_; intro w0 cnt0 hrg0 hg0 hs0; simp only [World.size_alloc] at hrg0 ⊢)
    | go_in)
  go_frame
  have hxw0 : Ext w w0 := hx0.trans (grown_none hg0)
  have b1 := b0.ext (grown_none hg0)
  clear h0 b0 hx0 hg0
  go_loopw [7] (fun _ wr => ∃ (left : Str → Bool) (cnt : Nat), RangeT wr b (w.heap.size + 1) n f left cnt ∧ Hid (∀ y, (f y).isSome = true → left y = false → underL y (bs tt) = false) ∧
      Blk wr w.heap.size 23 #[.int .i64 2, .string key, .string tt, .string old, .string new] ∧ Ext w wr) (fun _ wr => wr.rangeLeft b (w.heap.size + 1))
  case atStart => exact ⟨_, cnt0, hrg0, (fun y h1 h2 => by rw [h1] at h2; cases h2), b1, hxw0⟩
  case round =>
    clear hrg0 b1 hxw0
    obtain ⟨left, cnt, hrg, HP, bK, hxr⟩ := hrel
    go_wp2_with (first
      | (at_next; refine wp_next_t _ rfl _ rfl b (w.heap.size + 1) n f left cnt rfl hrg ?_ ?_)
      | go_in)
    · intro hl0
      have HNB := Lib.hid (show ¬ ∃ x, (f x).isSome = true ∧ underL x (bs tt) = true from by
        rintro ⟨y, hy, hu⟩
        rw [HP.out y hy (hl0 y)] at hu; cases hu)
      clear hrg
      go_wp2
      go_ret
      exact ⟨_, rfl, ⟨(fun e => by cases e), (fun e => absurd e HNB.out)⟩, hxr⟩
    · intro x c w1 cnt1 hlx hfx hrg1 hcl hg1 hs1 hen
      obtain ⟨xs, cs⟩ := okt_key HOK.out hfx
      have hx1 : Ext w w1 := hxr.row hg1 (by omega)
      have b1 := bK.turned hg1 (by simp)
      have HFX := Lib.hid hfx
      have HRG := Lib.hid hrg1
      have HLE := Lib.hid hrg.left_eq
      have hcb := b1.cell; have hfb := b1.free; have hzb := b1.lt
      have CB := Lib.hid (below_any x tt w1 s2)
      have HUT := Lib.hid (under_tests x tt)
      have FALL := Lib.hid (show underL (bs x) (bs tt) = true → ∃ x, (f x).isSome = true ∧ underL x (bs tt) = true from fun hu => ⟨bs x, by rw [HFX.out]; rfl, hu⟩)
      have GO := Lib.hid (show underL (bs x) (bs tt) = false → ∃ (left : Str → Bool) (cnt : Nat), RangeT w1 b (w.heap.size + 1) n f left cnt ∧ Hid (∀ y, (f y).isSome = true → left y = false → underL y (bs tt) = false) ∧
          Blk w1 w.heap.size 23 #[.int .i64 2, .string key, .string tt, .string old, .string new] ∧ Ext w w1 from fun hu => ⟨_, cnt1, HRG.out, (fun y h1 h2 => by
            by_cases e : y = bs x
            · rw [e]; exact hu
            · have e2 : (y == bs x) = false := by simpa using e
              exact HP.out y h1 (by simpa [e2] using h2)), b1, hx1⟩)
      clear hrg hlx hfx hrg1 bK hg1
      cases h1 : (x.toList == tt.toList)
      · rw [h1, Bool.false_or] at HUT
        cases hB : belowL (bs x) (bs tt)
        · rw [hB] at CB HUT
          have RL := Lib.hid (GO.out HUT.out.symm)
          go_wp2_with fail
          refine CB.out.mono ?_
          rintro e w' ⟨rfl, rfl⟩
          go_wp2
          go_roundw
          case rel => exact RL.out
          case measure => rw [HRG.out.left_eq, HLE.out]; exact hcl
        · rw [hB] at CB HUT
          have RL := Lib.hid (FALL.out HUT.out.symm)
          go_wp2_with fail
          refine CB.out.mono ?_
          rintro e w' ⟨rfl, rfl⟩
          go_wp2
          go_ret
          exact ⟨_, rfl, ⟨(fun _ => RL.out), (fun _ => rfl)⟩, hx1⟩
      · rw [h1, Bool.true_or] at HUT
        have RL := Lib.hid (FALL.out HUT.out.symm)
        go_wp2
        go_ret
        exact ⟨_, rfl, ⟨(fun _ => RL.out), (fun _ => rfl)⟩, hx1⟩
set_option maxHeartbeats 8000000 in
set_option maxRecDepth 100000 in
theorem loses3_any (b n : Nat) (f : Tb) (key tt old new : ByteArray) (w : World) (h : StrMap w b n f) :
    Calls Tryz.prog 140 #[.map (some b), .agg #[.int .i64 3, .string key, .string tt, .string old, .string new]] w fun e w' => ∃ v, e = .returned (.bool v) ∧ (v = true ↔ False) ∧ Ext w w' := by
  have hlt := h.lt
  have b0 := Blk.new w 23 #[.int .i64 3, .string key, .string tt, .string old, .string new]
  have h0 := h.ext ((Ext.refl w).alloc (.cells #[.int .i64 3, .string key, .string tt, .string old, .string new] 23))
  have hx0 : Ext w (w.alloc (.cells #[.int .i64 3, .string key, .string tt, .string old, .string new] 23)) := (Ext.refl w).alloc _
  clear h h0
  go_enter Tryz.func140, Tryz.ntmps140
  go_wp2
  go_ret
  exact ⟨_, rfl, ⟨(fun e => by cases e), (fun e => e.elim)⟩, (by repeat (first | with_reducible exact Ext.refl _ | with_reducible assumption | with_reducible apply Ext.drewN | with_reducible apply Ext.drew | with_reducible apply Ext.alloc | exact Ext.refl _ | assumption | apply Ext.drewN | apply Ext.drew | apply Ext.alloc))⟩
set_option maxHeartbeats 8000000 in
set_option maxRecDepth 100000 in
theorem loses4_any (b n : Nat) (f : Tb) (key tt old new : ByteArray) (w : World) (h : StrMap w b n f) :
    Calls Tryz.prog 140 #[.map (some b), .agg #[.int .i64 4, .string key, .string tt, .string old, .string new]] w fun e w' => ∃ v, e = .returned (.bool v) ∧ (v = true ↔ False) ∧ Ext w w' := by
  have hlt := h.lt
  have b0 := Blk.new w 23 #[.int .i64 4, .string key, .string tt, .string old, .string new]
  have h0 := h.ext ((Ext.refl w).alloc (.cells #[.int .i64 4, .string key, .string tt, .string old, .string new] 23))
  have hx0 : Ext w (w.alloc (.cells #[.int .i64 4, .string key, .string tt, .string old, .string new] 23)) := (Ext.refl w).alloc _
  clear h h0
  go_enter Tryz.func140, Tryz.ntmps140
  go_wp2
  go_ret
  exact ⟨_, rfl, ⟨(fun e => by cases e), (fun e => e.elim)⟩, (by repeat (first | with_reducible exact Ext.refl _ | with_reducible assumption | with_reducible apply Ext.drewN | with_reducible apply Ext.drew | with_reducible apply Ext.alloc | exact Ext.refl _ | assumption | apply Ext.drewN | apply Ext.drew | apply Ext.alloc))⟩
set_option maxHeartbeats 8000000 in
set_option maxRecDepth 100000 in
theorem loses5_any (b n : Nat) (f : Tb) (key tt old new : ByteArray) (w : World) (h : StrMap w b n f) :
    Calls Tryz.prog 140 #[.map (some b), .agg #[.int .i64 5, .string key, .string tt, .string old, .string new]] w fun e w' => ∃ v, e = .returned (.bool v) ∧ (v = true ↔ False) ∧ Ext w w' := by
  have hlt := h.lt
  have b0 := Blk.new w 23 #[.int .i64 5, .string key, .string tt, .string old, .string new]
  have h0 := h.ext ((Ext.refl w).alloc (.cells #[.int .i64 5, .string key, .string tt, .string old, .string new] 23))
  have hx0 : Ext w (w.alloc (.cells #[.int .i64 5, .string key, .string tt, .string old, .string new] 23)) := (Ext.refl w).alloc _
  clear h h0
  go_enter Tryz.func140, Tryz.ntmps140
  go_wp2
  go_ret
  exact ⟨_, rfl, ⟨(fun e => by cases e), (fun e => e.elim)⟩, (by repeat (first | with_reducible exact Ext.refl _ | with_reducible assumption | with_reducible apply Ext.drewN | with_reducible apply Ext.drew | with_reducible apply Ext.alloc | exact Ext.refl _ | assumption | apply Ext.drewN | apply Ext.drew | apply Ext.alloc))⟩
set_option maxHeartbeats 8000000 in
set_option maxRecDepth 100000 in
theorem loses6_any (b n : Nat) (f : Tb) (key tt old new : ByteArray) (w : World) (h : StrMap w b n f) :
    Calls Tryz.prog 140 #[.map (some b), .agg #[.int .i64 6, .string key, .string tt, .string old, .string new]] w fun e w' => ∃ v, e = .returned (.bool v) ∧ (v = true ↔ False) ∧ Ext w w' := by
  have hlt := h.lt
  have b0 := Blk.new w 23 #[.int .i64 6, .string key, .string tt, .string old, .string new]
  have h0 := h.ext ((Ext.refl w).alloc (.cells #[.int .i64 6, .string key, .string tt, .string old, .string new] 23))
  have hx0 : Ext w (w.alloc (.cells #[.int .i64 6, .string key, .string tt, .string old, .string new] 23)) := (Ext.refl w).alloc _
  clear h h0
  go_enter Tryz.func140, Tryz.ntmps140
  go_wp2
  go_ret
  exact ⟨_, rfl, ⟨(fun e => by cases e), (fun e => e.elim)⟩, (by repeat (first | with_reducible exact Ext.refl _ | with_reducible assumption | with_reducible apply Ext.drewN | with_reducible apply Ext.drew | with_reducible apply Ext.alloc | exact Ext.refl _ | assumption | apply Ext.drewN | apply Ext.drew | apply Ext.alloc))⟩
set_option maxHeartbeats 8000000 in
set_option maxRecDepth 100000 in
theorem loses8_any (b n : Nat) (f : Tb) (key tt old new : ByteArray) (w : World) (h : StrMap w b n f) :
    Calls Tryz.prog 140 #[.map (some b), .agg #[.int .i64 8, .string key, .string tt, .string old, .string new]] w fun e w' => ∃ v, e = .returned (.bool v) ∧ (v = true ↔ False) ∧ Ext w w' := by
  have hlt := h.lt
  have b0 := Blk.new w 23 #[.int .i64 8, .string key, .string tt, .string old, .string new]
  have h0 := h.ext ((Ext.refl w).alloc (.cells #[.int .i64 8, .string key, .string tt, .string old, .string new] 23))
  have hx0 : Ext w (w.alloc (.cells #[.int .i64 8, .string key, .string tt, .string old, .string new] 23)) := (Ext.refl w).alloc _
  clear h h0
  go_enter Tryz.func140, Tryz.ntmps140
  go_wp2
  go_ret
  exact ⟨_, rfl, ⟨(fun e => by cases e), (fun e => e.elim)⟩, (by repeat (first | with_reducible exact Ext.refl _ | with_reducible assumption | with_reducible apply Ext.drewN | with_reducible apply Ext.drew | with_reducible apply Ext.alloc | exact Ext.refl _ | assumption | apply Ext.drewN | apply Ext.drew | apply Ext.alloc))⟩
set_option maxHeartbeats 8000000 in
set_option maxRecDepth 100000 in
theorem loses7_any (b n : Nat) (f : Tb) (key tt old new : ByteArray) (w : World) (h : StrMap w b n f) (s1 : key.size ≤ 2097152) :
    Calls Tryz.prog 140 #[.map (some b), .agg #[.int .i64 7, .string key, .string tt, .string old, .string new]] w fun e w' => ∃ v, e = .returned (.bool v) ∧ (v = true ↔ f (bs key) = some (bs new)) ∧ Ext w w' := by
  have hlt := h.lt
  have b0 := Blk.new w 23 #[.int .i64 7, .string key, .string tt, .string old, .string new]
  have h0 := h.ext ((Ext.refl w).alloc (.cells #[.int .i64 7, .string key, .string tt, .string old, .string new] 23))
  have hx0 : Ext w (w.alloc (.cells #[.int .i64 7, .string key, .string tt, .string old, .string new] 23)) := (Ext.refl w).alloc _
  have hlook := h0.look (t := 179) Tryz.underlying179 key s1
  cases hf : f (bs key) with
  | none =>
    rw [hf] at hlook
    simp only [Option.isSome_none, Option.getD_none] at hlook
    clear hf
    go_enter Tryz.func140, Tryz.ntmps140
    go_wp2
    go_ret
    exact ⟨_, rfl, ⟨(fun e => by cases e), (fun e => by cases e)⟩, (by repeat (first | with_reducible exact Ext.refl _ | with_reducible assumption | with_reducible apply Ext.drewN | with_reducible apply Ext.drew | with_reducible apply Ext.alloc | exact Ext.refl _ | assumption | apply Ext.drewN | apply Ext.drew | apply Ext.alloc))⟩
  | some v =>
    obtain ⟨ub, rfl⟩ : ∃ ub : ByteArray, v = bs ub := ⟨⟨v.toArray⟩, (bs_mk v).symm⟩
    rw [hf] at hlook
    simp only [Option.isSome_some, Option.getD_some, S_bs] at hlook
    clear hf
    have HE := Lib.hid (show (ub.toList == new.toList) = true ↔ (some (bs ub) : Option Str) = some (bs new) from by
      rw [beq_iff_eq, str_eq]
      exact ⟨fun e => by rw [e], fun e => bs_inj (Option.some.inj e)⟩)
    cases hB : (ub.toList == new.toList)
    · rw [hB] at HE
      suffices hs : Calls Tryz.prog 140 #[.map (some b), .agg #[.int .i64 7, .string key, .string tt, .string old, .string new]] w fun e w' => e = .returned (.bool false) ∧ Ext w w' from hs.mono fun e w' h => ⟨false, h.1, HE.out, h.2⟩
      go_enter Tryz.func140, Tryz.ntmps140
      go_wp2
      go_ret
      exact ⟨rfl, (by repeat (first | with_reducible exact Ext.refl _ | with_reducible assumption | with_reducible apply Ext.drewN | with_reducible apply Ext.drew | with_reducible apply Ext.alloc | exact Ext.refl _ | assumption | apply Ext.drewN | apply Ext.drew | apply Ext.alloc))⟩
    · rw [hB] at HE
      suffices hs : Calls Tryz.prog 140 #[.map (some b), .agg #[.int .i64 7, .string key, .string tt, .string old, .string new]] w fun e w' => e = .returned (.bool true) ∧ Ext w w' from hs.mono fun e w' h => ⟨true, h.1, HE.out, h.2⟩
      go_enter Tryz.func140, Tryz.ntmps140
      go_wp2
      go_ret
      exact ⟨rfl, (by repeat (first | with_reducible exact Ext.refl _ | with_reducible assumption | with_reducible apply Ext.drewN | with_reducible apply Ext.drew | with_reducible apply Ext.alloc | exact Ext.refl _ | assumption | apply Ext.drewN | apply Ext.drew | apply Ext.alloc))⟩
theorem loses_any (r : RB) (b n : Nat) (f : Tb) (w : World) (h : StrMap w b n f) (hf : Okt f) (hr : ruErr r.l = 0) :
    Calls Tryz.prog 140 #[.map (some b), ruV r] w fun e w' => ∃ v, e = .returned (.bool v) ∧ (v = true ↔ losesT r.l f) ∧ Ext w w' := by
  have hR := right_of hr
  obtain ⟨s1, s2, s3, s4⟩ := right_size hr
  have hkc := kind_cases hR.lo hR.hi
  obtain ⟨k, key, tt, old, new⟩ := r
  dsimp only [RB.l] at hkc s1 s2 s3 s4 ⊢
  have fin : ∀ (p : Prop), (p ↔ losesT ⟨k, bs key, bs tt, bs old, bs new⟩ f) → ∀ e w', (∃ v, e = Ending.returned (.bool v) ∧ (v = true ↔ p) ∧ Ext w w') → ∃ v, e = Ending.returned (.bool v) ∧ (v = true ↔ losesT ⟨k, bs key, bs tt, bs old, bs new⟩ f) ∧ Ext w w' :=
    fun p hp e w' ⟨v, h1, h2, h3⟩ => ⟨v, h1, h2.trans hp, h3⟩
  rcases hkc with rfl | rfl | rfl | rfl | rfl | rfl | rfl | rfl
  · exact (loses1_any b n f key tt old new w h (by omega)).mono (fin _ (by simp [losesT]))
  · exact (loses2_any b n f key tt old new w h hf (by omega)).mono (fin _ (by simp [losesT]))
  · exact (loses3_any b n f key tt old new w h).mono (fin _ (by simp [losesT]))
  · exact (loses4_any b n f key tt old new w h).mono (fin _ (by simp [losesT]))
  · exact (loses5_any b n f key tt old new w h).mono (fin _ (by simp [losesT]))
  · exact (loses6_any b n f key tt old new w h).mono (fin _ (by simp [losesT]))
  · exact (loses7_any b n f key tt old new w h (by omega)).mono (fin _ (by simp [losesT]))
  · exact (loses8_any b n f key tt old new w h).mono (fin _ (by simp [losesT]))
end Go.Proofs.YtghhjlcbcojcnaaGreatDoor
