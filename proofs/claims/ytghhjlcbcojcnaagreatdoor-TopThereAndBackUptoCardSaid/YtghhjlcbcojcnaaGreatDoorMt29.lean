/- Contracts of migrate.table.do and of outref2.one. Contract of migrate.table.loses. (Printed by gen/tabg.py.) -/
import Derived.Test.YtghhjlcbcojcnaaGreatDoorMt27
import Derived.Test.YtghhjlcbcojcnaaGreatDoorMt28

namespace Go.Proofs.YtghhjlcbcojcnaaGreatDoor
open Go.RowKit

theorem leftT_live {f : Tb} {key y : Str} {left : Str → Bool} (h : left y = true) : leftT f key left y = f y := by
  unfold leftT
  rw [h]; simp
theorem strike2 (left : Str → Bool) (y : Str) : (fun z => (left z && !(z == y)) && !(z == y)) = fun z => left z && !(z == y) := by
  funext z
  cases left z <;> cases (z == y) <;> rfl
set_option maxHeartbeats 16000000 in
set_option maxRecDepth 100000 in
theorem one2_any (b n : Nat) (f : Tb) (key tt old new : ByteArray) (w : World) (h : StrMap w b n f) (hf : Okt f) (hn : n ≤ 400000) (s1 : key.size ≤ 200) (s2 : tt.size ≤ 200) :
    Calls Tryz.prog 148 #[.map (some b), .agg #[.int .i64 2, .string key, .string tt, .string old, .string new]] w fun e w' => e = .returned (.tuple #[]) ∧ StrMap w' b (n + n) (moveT f (bs key) (bs tt)) ∧ w.grownBy w' (some b) := by
  have hlt := h.lt
  have HOK := Lib.hid hf
  clear hf
  have b0 := Blk.new w 23 #[.int .i64 2, .string key, .string tt, .string old, .string new]
  have h0 := h.ext ((Ext.refl w).alloc (.cells #[.int .i64 2, .string key, .string tt, .string old, .string new] 23))
  have hlook := h0.look (t := 178) Tryz.underlying178 key (by omega)
  have hm0 := h0.ext ((Ext.refl _).alloc (.map #[] 0))
  have bK0 := b0.alloc (.map #[] 0)
  have hM0 : StrMap ((w.alloc (.cells #[.int .i64 2, .string key, .string tt, .string old, .string new] 23)).alloc (.map #[] 0)) (w.heap.size + 1) 0 (fun _ => none) := by
    have := StrMap.made (w.alloc (.cells #[.int .i64 2, .string key, .string tt, .string old, .string new] 23))
    rwa [World.size_alloc] at this
  have hx0 : Ext w ((w.alloc (.cells #[.int .i64 2, .string key, .string tt, .string old, .string new] 23)).alloc (.map #[] 0)) := ((Ext.refl w).alloc _).alloc _
  have hmm := @run_makeMap Tryz.prog
  generalize (f (bs key)).isSome = I at hlook
  generalize (f (bs key)).getD [] = V at hlook
  clear h h0 b0
  go_enter Tryz.func148, Tryz.ntmps148
  go_wp2_with (first
    | (at_range; refine wp_range_t _ rfl _ 178 rfl Tryz.underlying178 b n f rfl hm0 ?_; intro w0 cnt0 hrg0 hg0 hs0; simp only [World.size_alloc] at hrg0 ⊢)
    | go_in)
  go_frame
  have hgw0 : w.grownBy w0 (some b) := (hx0.trans (grown_none hg0)).by _
  have bK1 := bK0.ext (grown_none hg0)
  have hM1 := hM0.ext (grown_none hg0)
  have hc0 := hrg0.cnt_le
  clear hm0 bK0 hM0 hx0 hg0 hmm hlook
  go_loopw [7] (fun _ wr => ∃ (left : Str → Bool) (cnt : Nat), RangeT wr b (w.heap.size + 1 + 1) n (leftT f (bs key) left) left cnt ∧ cnt ≤ cnt0 ∧ StrMap wr (w.heap.size + 1) (cnt0 - cnt) (movedT f (bs key) (bs tt) left) ∧
      Blk wr w.heap.size 23 #[.int .i64 2, .string key, .string tt, .string old, .string new] ∧ w.grownBy wr (some b)) (fun _ wr => wr.rangeLeft b (w.heap.size + 1 + 1))
  case atStart =>
    refine ⟨_, cnt0, hrg0.congr (leftT_start f (bs key) _ (fun _ => rfl)).symm rfl, Nat.le_refl _, ?_, bK1, hgw0⟩
    rw [Nat.sub_self, movedT_start _ _ _ _ (fun _ => rfl)]
    exact hM1
  case round =>
    clear hrg0 hM1 bK1 hgw0
    obtain ⟨left, cnt, hrg, hcc, hmv, bK, hgr⟩ := hrel
    go_wp2_with (first
      | (at_next; refine wp_next_t _ rfl _ rfl b (w.heap.size + 1 + 1) n _ left cnt rfl hrg ?_ ?_)
      | go_in)
    · intro hl0
      have hm5 := hrg.owns
      rw [leftT_end hl0] at hm5
      rw [movedT_end hl0] at hmv
      have CP := CopyR_any b (w.heap.size + 1) n (cnt0 - cnt) _ _ wr hm5 hmv (by omega) (by omega)
      clear hm5 hmv hrg
      go_wp2_with fail
      refine CP.mono ?_
      rintro e w6 ⟨rfl, hm6, hg6⟩
      go_wp2
      go_end0
      exact ⟨rfl, hm6.mono (by omega), grown_then hgr hg6⟩
    · intro x c w1 cnt1 hlx hfx hrg1 hcl hg1 hs1 hen
      rw [leftT_live hlx] at hfx
      obtain ⟨xs, cs⟩ := okt_key HOK.out hfx
      have hgr1 := grown_new hgr hg1 (by omega)
      have b1 := bK.turned hg1 (by simp; omega)
      have hmv1 := hmv.grown hg1 (by simp)
      have HFX := Lib.hid hfx
      have HMV := Lib.hid hmv1; have HRG := Lib.hid hrg1
      have HLE := Lib.hid hrg.left_eq
      have hcb := b1.cell; have hfb := b1.free; have hzb := b1.lt
      have CB := rbelow_any x key w1 (by omega) (by omega)
      clear hrg hmv hlx hfx hmv1 hrg1 bK hg1
      cases hu : underL (bs x) (bs key)
      · have HU := Lib.hid hu
        rw [hu] at CB
        clear hu
        have CB := Lib.hid CB
        go_wp2_with fail
        refine CB.out.mono ?_
        rintro e w' ⟨r, rfl, _, rfl⟩
        go_wp2
        go_roundw
        case rel => exact ⟨_, cnt1, HRG.out.congr (leftT_far HU.out).symm rfl, by omega, (HMV.out.congr (movedT_far HU.out).symm).mono (by omega), b1, hgr1⟩
        case measure => rw [HRG.out.left_eq, HLE.out]; exact hcl
      · have HU := Lib.hid hu
        rw [hu] at CB
        have STEP := Lib.hid (show ∀ r : ByteArray, bs r = (bs x).drop (bs key).length → ∃ w2 w3, (Instr.mapUpdate 178 (.map (some (w.heap.size + 1))) (.string (tt ++ r)) (.string c)).run Tryz.prog w1 = .ok () w2 ∧
            (Builtin.delete_ #[178, 9] 0 #[.map (some b), .string x]).run Tryz.prog w2 = .ok (.tuple #[]) w3 ∧ Blk w2 w.heap.size 23 #[.int .i64 2, .string key, .string tt, .string old, .string new] ∧
            w3.rangeLeft b (w.heap.size + 1 + 1) < cnt ∧
            ∃ (left : Str → Bool) (cnt : Nat), RangeT w3 b (w.heap.size + 1 + 1) n (leftT f (bs key) left) left cnt ∧ cnt ≤ cnt0 ∧ StrMap w3 (w.heap.size + 1) (cnt0 - cnt) (movedT f (bs key) (bs tt) left) ∧
              Blk w3 w.heap.size 23 #[.int .i64 2, .string key, .string tt, .string old, .string new] ∧ w.grownBy w3 (some b) from by
          intro r hr
          have hrs : r.size ≤ 200 := by rw [← bs_length, hr, List.length_drop, bs_length]; omega
          have hnl : bs (tt ++ r) = newKey (bs key) (bs tt) (bs x) := by rw [bs_append, hr]; rfl
          obtain ⟨w2, hr2, hm2, hg2⟩ := HMV.out.setS (t := 178) Tryz.underlying178 (tt ++ r) c (by rw [app_size]; omega) (by omega) (by omega)
          have hrg2 := HRG.out.grown hg2 (by simp; omega) (by simp)
          obtain ⟨w3, cnt3, hr3, hrg3, hc3, hg3⟩ := hrg2.drop (t := 178) Tryz.underlying178 x (by omega) 0
          have b2 := b1.turned hg2 (by simp)
          refine ⟨w2, w3, hr2, hr3, b2, by rw [hrg3.left_eq]; omega, _, cnt3, hrg3.congr (leftT_step hu).symm (strike2 left (bs x)), by omega, ?_, b2.turned hg3 (by simp; omega), grown_then (grown_new hgr1 hg2 (by omega)) hg3⟩
          rw [movedT_step hu HFX.out, ← hnl]
          exact (hm2.grown hg3 (by simp; omega)).mono (by omega))
        clear hu
        have CB := Lib.hid CB
        go_wp2_with fail
        refine CB.out.mono ?_
        rintro e w' ⟨r, rfl, hr, rfl⟩
        obtain ⟨w2, w3, hr2, hr3, b2, hmeas, hrl⟩ := STEP.out r (hr trivial)
        have RL := Lib.hid hrl
        have MS := Lib.hid hmeas
        have hrs : r.size ≤ 200 := by rw [← bs_length, hr trivial, List.length_drop, bs_length]; omega
        clear hr hrl hmeas
        have hcb2 := b2.cell; have hfb2 := b2.free; have hzb2 := b2.lt
        go_wp2
        go_roundw
        case rel => exact RL.out
        case measure => rw [HLE.out]; exact MS.out
theorem one_any (r : RB) (b n : Nat) (f : Tb) (w : World) (h : StrMap w b n f) (hf : Okt f) (hn : n ≤ 400000) (hr : ruErr r.l = 0) :
    Calls Tryz.prog 148 #[.map (some b), ruV r] w fun e w' => e = .returned (.tuple #[]) ∧ StrMap w' b (n + n + 2) (doF r.l f) ∧ w.grownBy w' (some b) := by
  have hR := right_of hr
  obtain ⟨s1, s2, s3, s4⟩ := right_size hr
  have hkc := kind_cases hR.lo hR.hi
  have hv : ∀ x v, f x = some v → v.length ≤ 2097152 := fun x v e => by
    have := (hf x v e).2
    simp only [valueL, Bool.and_eq_true, decide_eq_true_eq] at this
    omega
  obtain ⟨k, key, tt, old, new⟩ := r
  dsimp only [RB.l] at hkc s1 s2 s3 s4 ⊢
  have fin : ∀ e w', (e = Ending.returned (.tuple #[]) ∧ ∃ F m, doF ⟨k, bs key, bs tt, bs old, bs new⟩ f = F ∧ StrMap w' b m F ∧ m ≤ n + 2 ∧ w.grownBy w' (some b)) → (e = Ending.returned (.tuple #[]) ∧ StrMap w' b (n + n + 2) (doF ⟨k, bs key, bs tt, bs old, bs new⟩ f) ∧ w.grownBy w' (some b)) := by
    rintro e w' ⟨he, F, m, rfl, hm, hmn, hg⟩
    exact ⟨he, hm.mono (by omega), hg⟩
  rcases hkc with rfl | rfl | rfl | rfl | rfl | rfl | rfl | rfl
  · exact (one1_any b n f key tt old new w h hv (by omega) (by omega) (by omega) (by omega) (by omega)).mono fin
  · refine (one2_any b n f key tt old new w h hf hn s1 s2).mono ?_
    rintro e w' ⟨he, hm, hg⟩
    exact ⟨he, (hm.mono (by omega)).congr (by rw [doF, if_neg (by dsimp only; decide), if_pos rfl]), hg⟩
  · exact (one3_any b n f key tt old new w h hv (by omega) (by omega) (by omega) (by omega) (by omega)).mono fin
  · exact (one4_any b n f key tt old new w h (by omega) (by omega) (by omega) (by omega) (by omega)).mono fin
  · exact (one5_any b n f key tt old new w h (by omega) (by omega) (by omega) (by omega) (by omega)).mono fin
  · exact (one6_any b n f key tt old new w h (by omega) (by omega) (by omega) (by omega) (by omega)).mono fin
  · exact (one7_any b n f key tt old new w h (by omega) (by omega) (by omega) (by omega) (by omega)).mono fin
  · exact (one8_any b n f key tt old new w h (by omega) (by omega) (by omega) (by omega) (by omega)).mono fin
theorem doE_ne {r : Ru} {f : Tb} (h : r.kind ≠ 2) : doE r f = if 2000 < (keysOf (doF r f)).length then 4 else 0 := by
  rw [doE, if_neg (fun e => h e.1)]
theorem doE_two {r : Ru} {f : Tb} (_h : r.kind = 2) (hb : ¬ badT f r.key r.tt) : doE r f = if 2000 < (keysOf (doF r f)).length then 4 else 0 := by
  rw [doE, if_neg (fun e => hb e.2)]
theorem doE_bad {r : Ru} {f : Tb} (h : r.kind = 2) (hb : badT f r.key r.tt) : doE r f = 5 := by
  rw [doE, if_pos ⟨h, hb⟩]
set_option maxHeartbeats 8000000 in
set_option maxRecDepth 100000 in
theorem do2_any (b n : Nat) (f : Tb) (key tt old new : ByteArray) (w : World) (hg : Good w) (h : StrMap w b n f) (hf : Okt f) (hn : n ≤ 400000) (hk : pathL (bs key) = true) (ht : pathL (bs tt) = true) :
    Calls Tryz.prog 141 #[.map (some b), .agg #[.int .i64 2, .string key, .string tt, .string old, .string new]] w fun e w' =>
      e = .returned (.int .i64 (doE ⟨2, bs key, bs tt, bs old, bs new⟩ f)) ∧ (doE ⟨2, bs key, bs tt, bs old, bs new⟩ f = 0 → ∃ m, StrMap w' b m (doF ⟨2, bs key, bs tt, bs old, bs new⟩ f)) ∧ w.grownBy w' (some b) := by
  have hlt := h.lt
  have s1 := path_size hk
  have b0 := Blk.new w 23 #[.int .i64 2, .string key, .string tt, .string old, .string new]
  have h0 := h.ext ((Ext.refl w).alloc (.cells #[.int .i64 2, .string key, .string tt, .string old, .string new] 23))
  have hx0 : Ext w (w.alloc (.cells #[.int .i64 2, .string key, .string tt, .string old, .string new] 23)) := (Ext.refl w).alloc _
  have hlook := h0.look (t := 179) Tryz.underlying179 key (by omega)
  have CP := Lib.hid (prefix_any b n f key tt _ (hg.ext hx0) h0 hf hn hk ht)
  have HE1 := Lib.hid (fun hb => doE_bad (r := ⟨2, bs key, bs tt, bs old, bs new⟩) (f := f) rfl hb)
  have HE2 := Lib.hid (fun hb => doE_two (r := ⟨2, bs key, bs tt, bs old, bs new⟩) (f := f) rfl hb)
  have HF := Lib.hid (show doF ⟨2, bs key, bs tt, bs old, bs new⟩ f = moveT f (bs key) (bs tt) from by rw [doF, if_neg (by dsimp only; decide), if_pos rfl])
  generalize doE ⟨2, bs key, bs tt, bs old, bs new⟩ f = E at *
  generalize doF ⟨2, bs key, bs tt, bs old, bs new⟩ f = F at *
  generalize (f (bs key)).isSome = I at hlook
  generalize (f (bs key)).getD [] = V at hlook
  clear hk ht hf hg h h0
  go_enter Tryz.func141, Tryz.ntmps141
  go_wp2_with fail
  refine CP.out.mono ?_
  rintro e w1 ⟨hcs, hg1⟩
  have HG := Lib.hid ((hx0.by (some b)).andThen hg1 (fun _ e => .inr e))
  have bR := b0.turned hg1 (by simp; omega)
  have hcb := bR.cell; have hfb := bR.free; have hzb := bR.lt
  rcases hcs with ⟨rfl, hb⟩ | ⟨rfl, hb, hm⟩
  · have HE := Lib.hid (HE1.out hb)
    clear hb hlook
    go_wp2
    go_ret
    exact ⟨by rw [HE.out] <;> rfl, (fun e => by rw [HE.out] at e; cases e), HG.out⟩
  · have hlen := hm.len (t := 179) Tryz.underlying179 3
    rw [← HF.out] at hlen hm
    have hE := HE2.out hb
    have HM := Lib.hid hm
    generalize (keysOf F).length = L at *
    have HE := Lib.hid hE
    clear hb hE hm hlook
    by_cases h2 : 2000 < L
    · go_wp2
      go_ret
      exact ⟨by rw [HE.out, if_pos h2] <;> rfl, (fun e => by rw [HE.out, if_pos h2] at e; cases e), HG.out⟩
    · go_wp2
      go_ret
      exact ⟨by rw [HE.out, if_neg h2] <;> rfl, (fun _ => ⟨_, HM.out⟩), HG.out⟩
theorem do_any (r : RB) (b n : Nat) (f : Tb) (w : World) (hg : Good w) (h : StrMap w b n f) (hf : Okt f) (hn : n ≤ 400000) (hr : ruErr r.l = 0) :
    Calls Tryz.prog 141 #[.map (some b), ruV r] w fun e w' => e = .returned (.int .i64 (doE r.l f)) ∧ (doE r.l f = 0 → StrMap w' b 2000 (doF r.l f)) ∧ w.grownBy w' (some b) := by
  have hR := right_of hr
  obtain ⟨s1, s2, s3, s4⟩ := right_size hr
  have hkc := kind_cases hR.lo hR.hi
  have hv : ∀ x v, f x = some v → v.length ≤ 2097152 := fun x v e => by
    have := (hf x v e).2
    simp only [valueL, Bool.and_eq_true, decide_eq_true_eq] at this
    omega
  have hk := hR.key
  have ht := hR.to1
  obtain ⟨k, key, tt, old, new⟩ := r
  dsimp only [RB.l] at hkc s1 s2 s3 s4 hk ht ⊢
  have fin : k ≠ 2 → ∀ e w', (∃ F m, doF ⟨k, bs key, bs tt, bs old, bs new⟩ f = F ∧ StrMap w' b m F ∧ m ≤ n + 2 ∧ e = Ending.returned (.int .i64 (if 2000 < (keysOf F).length then 4 else 0)) ∧ w.grownBy w' (some b)) →
      (e = Ending.returned (.int .i64 (doE ⟨k, bs key, bs tt, bs old, bs new⟩ f)) ∧ (doE ⟨k, bs key, bs tt, bs old, bs new⟩ f = 0 → StrMap w' b 2000 (doF ⟨k, bs key, bs tt, bs old, bs new⟩ f)) ∧ w.grownBy w' (some b)) := by
    rintro h2 e w' ⟨F, m, rfl, hm, hmn, rfl, hg⟩
    exact ⟨by rw [doE_ne h2], fun e => hm.tight.mono (doE_ok e).2, hg⟩
  rcases hkc with rfl | rfl | rfl | rfl | rfl | rfl | rfl | rfl
  · exact (do1_any b n f key tt old new w h hv (by omega) (by omega) (by omega) (by omega) (by omega)).mono (fin (by decide))
  · refine (do2_any b n f key tt old new w hg h hf hn hk (ht rfl)).mono ?_
    rintro e w' ⟨he, hm, hg⟩
    refine ⟨he, fun e0 => ?_, hg⟩
    obtain ⟨m, hm⟩ := hm e0
    exact hm.tight.mono (doE_ok e0).2
  · exact (do3_any b n f key tt old new w h hv (by omega) (by omega) (by omega) (by omega) (by omega)).mono (fin (by decide))
  · exact (do4_any b n f key tt old new w h (by omega) (by omega) (by omega) (by omega) (by omega)).mono (fin (by decide))
  · exact (do5_any b n f key tt old new w h (by omega) (by omega) (by omega) (by omega) (by omega)).mono (fin (by decide))
  · exact (do6_any b n f key tt old new w h (by omega) (by omega) (by omega) (by omega) (by omega)).mono (fin (by decide))
  · exact (do7_any b n f key tt old new w h (by omega) (by omega) (by omega) (by omega) (by omega)).mono (fin (by decide))
  · exact (do8_any b n f key tt old new w h (by omega) (by omega) (by omega) (by omega) (by omega)).mono (fin (by decide))
end Go.Proofs.YtghhjlcbcojcnaaGreatDoor

namespace Go.Proofs.YtghhjlcbcojcnaaGreatDoor
open Go.RowKit

set_option maxHeartbeats 8000000 in
set_option maxRecDepth 100000 in
theorem loses1_any (b n : Nat) (f : Tb) (key tt old new : ByteArray) (w : World) (h : StrMap w b n f) (s2 : tt.size ≤ 2097152) :
    Calls Tryz.prog 140 #[.map (some b), .agg #[.int .i64 1, .string key, .string tt, .string old, .string new]] w fun e w' => ∃ v, e = .returned (.bool v) ∧ (v = true ↔ (f (bs tt)).isSome = true) ∧ Ext w w' := by
  have hlt := h.lt
  have b0 := Blk.new w 23 #[.int .i64 1, .string key, .string tt, .string old, .string new]
  have h0 := h.ext ((Ext.refl w).alloc (.cells #[.int .i64 1, .string key, .string tt, .string old, .string new] 23))
  have hx0 : Ext w (w.alloc (.cells #[.int .i64 1, .string key, .string tt, .string old, .string new] 23)) := (Ext.refl w).alloc _
  have hlook := h0.look (t := 179) Tryz.underlying179 tt s2
  obtain ⟨I, hI⟩ : ∃ I, (f (bs tt)).isSome = I := ⟨_, rfl⟩
  rw [hI] at hlook
  generalize (f (bs tt)).getD [] = V at hlook
  have HI := Lib.hid hI
  clear hI
  go_enter Tryz.func140, Tryz.ntmps140
  go_wp2
  go_ret
  exact ⟨_, rfl, by rw [HI.out], (by repeat (first | with_reducible exact Ext.refl _ | with_reducible assumption | with_reducible apply Ext.drewN | with_reducible apply Ext.drew | with_reducible apply Ext.alloc | exact Ext.refl _ | assumption | apply Ext.drewN | apply Ext.drew | apply Ext.alloc))⟩
set_option maxHeartbeats 8000000 in
set_option maxRecDepth 100000 in
theorem loses2_any (b n : Nat) (f : Tb) (key tt old new : ByteArray) (w : World) (h : StrMap w b n f) (hf : Okt f) (s2 : tt.size ≤ 2097152) :
    Calls Tryz.prog 140 #[.map (some b), .agg #[.int .i64 2, .string key, .string tt, .string old, .string new]] w fun e w' => ∃ v, e = .returned (.bool v) ∧ (v = true ↔ ∃ x, (f x).isSome = true ∧ underL x (bs tt) = true) ∧ Ext w w' := by
  have hlt := h.lt
  have b0 := Blk.new w 23 #[.int .i64 2, .string key, .string tt, .string old, .string new]
  have h0 := h.ext ((Ext.refl w).alloc (.cells #[.int .i64 2, .string key, .string tt, .string old, .string new] 23))
  have hx0 : Ext w (w.alloc (.cells #[.int .i64 2, .string key, .string tt, .string old, .string new] 23)) := (Ext.refl w).alloc _
  have HOK := Lib.hid hf
  clear hf
  go_enter Tryz.func140, Tryz.ntmps140
  go_wp2_with (first
    | (at_range; refine wp_range_t _ rfl _ 179 rfl Tryz.underlying179 b n f rfl h0 ?_; intro w0 cnt0 hrg0 hg0 hs0; simp only [World.size_alloc] at hrg0 ⊢)
    | go_in)
  go_frame
  have hxw0 : Ext w w0 := hx0.trans (grown_none hg0)
  have b1 := b0.ext (grown_none hg0)
  clear h0 b0 hx0 hg0
  go_loopw [7] (fun _ wr => ∃ (left : Str → Bool) (cnt : Nat), RangeT wr b (w.heap.size + 1) n f left cnt ∧ Hid (∀ y, (f y).isSome = true → left y = false → underL y (bs tt) = false) ∧
      Blk wr w.heap.size 23 #[.int .i64 2, .string key, .string tt, .string old, .string new] ∧ Ext w wr) (fun _ wr => wr.rangeLeft b (w.heap.size + 1))
  case atStart => exact ⟨_, cnt0, hrg0, (fun y h1 h2 => by rw [h1] at h2; cases h2), b1, hxw0⟩
  case round =>
    clear hrg0 b1 hxw0
    obtain ⟨left, cnt, hrg, HP, bK, hxr⟩ := hrel
    go_wp2_with (first
      | (at_next; refine wp_next_t _ rfl _ rfl b (w.heap.size + 1) n f left cnt rfl hrg ?_ ?_)
      | go_in)
    · intro hl0
      have HNB := Lib.hid (show ¬ ∃ x, (f x).isSome = true ∧ underL x (bs tt) = true from by
        rintro ⟨y, hy, hu⟩
        rw [HP.out y hy (hl0 y)] at hu; cases hu)
      clear hrg
      go_wp2
      go_ret
      exact ⟨_, rfl, ⟨(fun e => by cases e), (fun e => absurd e HNB.out)⟩, hxr⟩
    · intro x c w1 cnt1 hlx hfx hrg1 hcl hg1 hs1 hen
      obtain ⟨xs, cs⟩ := okt_key HOK.out hfx
      have hx1 : Ext w w1 := hxr.row hg1 (by omega)
      have b1 := bK.turned hg1 (by simp)
      have HFX := Lib.hid hfx
      have HRG := Lib.hid hrg1
      have HLE := Lib.hid hrg.left_eq
      have hcb := b1.cell; have hfb := b1.free; have hzb := b1.lt
      have CB := Lib.hid (below_any x tt w1 s2)
      have HUT := Lib.hid (under_tests x tt)
      have FALL := Lib.hid (show underL (bs x) (bs tt) = true → ∃ x, (f x).isSome = true ∧ underL x (bs tt) = true from fun hu => ⟨bs x, by rw [HFX.out]; rfl, hu⟩)
      have GO := Lib.hid (show underL (bs x) (bs tt) = false → ∃ (left : Str → Bool) (cnt : Nat), RangeT w1 b (w.heap.size + 1) n f left cnt ∧ Hid (∀ y, (f y).isSome = true → left y = false → underL y (bs tt) = false) ∧
          Blk w1 w.heap.size 23 #[.int .i64 2, .string key, .string tt, .string old, .string new] ∧ Ext w w1 from fun hu => ⟨_, cnt1, HRG.out, (fun y h1 h2 => by
            by_cases e : y = bs x
            · rw [e]; exact hu
            · have e2 : (y == bs x) = false := by simpa using e
              exact HP.out y h1 (by simpa [e2] using h2)), b1, hx1⟩)
      clear hrg hlx hfx hrg1 bK hg1
      cases h1 : (x.toList == tt.toList)
      · rw [h1, Bool.false_or] at HUT
        cases hB : belowL (bs x) (bs tt)
        · rw [hB] at CB HUT
          have RL := Lib.hid (GO.out HUT.out.symm)
          go_wp2_with fail
          refine CB.out.mono ?_
          rintro e w' ⟨rfl, rfl⟩
          go_wp2
          go_roundw
          case rel => exact RL.out
          case measure => rw [HRG.out.left_eq, HLE.out]; exact hcl
        · rw [hB] at CB HUT
          have RL := Lib.hid (FALL.out HUT.out.symm)
          go_wp2_with fail
          refine CB.out.mono ?_
          rintro e w' ⟨rfl, rfl⟩
          go_wp2
          go_ret
          exact ⟨_, rfl, ⟨(fun _ => RL.out), (fun _ => rfl)⟩, hx1⟩
      · rw [h1, Bool.true_or] at HUT
        have RL := Lib.hid (FALL.out HUT.out.symm)
        go_wp2
        go_ret
        exact ⟨_, rfl, ⟨(fun _ => RL.out), (fun _ => rfl)⟩, hx1⟩
set_option maxHeartbeats 8000000 in
set_option maxRecDepth 100000 in
theorem loses3_any (b n : Nat) (f : Tb) (key tt old new : ByteArray) (w : World) (h : StrMap w b n f) :
    Calls Tryz.prog 140 #[.map (some b), .agg #[.int .i64 3, .string key, .string tt, .string old, .string new]] w fun e w' => ∃ v, e = .returned (.bool v) ∧ (v = true ↔ False) ∧ Ext w w' := by
  have hlt := h.lt
  have b0 := Blk.new w 23 #[.int .i64 3, .string key, .string tt, .string old, .string new]
  have h0 := h.ext ((Ext.refl w).alloc (.cells #[.int .i64 3, .string key, .string tt, .string old, .string new] 23))
  have hx0 : Ext w (w.alloc (.cells #[.int .i64 3, .string key, .string tt, .string old, .string new] 23)) := (Ext.refl w).alloc _
  clear h h0
  go_enter Tryz.func140, Tryz.ntmps140
  go_wp2
  go_ret
  exact ⟨_, rfl, ⟨(fun e => by cases e), (fun e => e.elim)⟩, (by repeat (first | with_reducible exact Ext.refl _ | with_reducible assumption | with_reducible apply Ext.drewN | with_reducible apply Ext.drew | with_reducible apply Ext.alloc | exact Ext.refl _ | assumption | apply Ext.drewN | apply Ext.drew | apply Ext.alloc))⟩
set_option maxHeartbeats 8000000 in
set_option maxRecDepth 100000 in
theorem loses4_any (b n : Nat) (f : Tb) (key tt old new : ByteArray) (w : World) (h : StrMap w b n f) :
    Calls Tryz.prog 140 #[.map (some b), .agg #[.int .i64 4, .string key, .string tt, .string old, .string new]] w fun e w' => ∃ v, e = .returned (.bool v) ∧ (v = true ↔ False) ∧ Ext w w' := by
  have hlt := h.lt
  have b0 := Blk.new w 23 #[.int .i64 4, .string key, .string tt, .string old, .string new]
  have h0 := h.ext ((Ext.refl w).alloc (.cells #[.int .i64 4, .string key, .string tt, .string old, .string new] 23))
  have hx0 : Ext w (w.alloc (.cells #[.int .i64 4, .string key, .string tt, .string old, .string new] 23)) := (Ext.refl w).alloc _
  clear h h0
  go_enter Tryz.func140, Tryz.ntmps140
  go_wp2
  go_ret
  exact ⟨_, rfl, ⟨(fun e => by cases e), (fun e => e.elim)⟩, (by repeat (first | with_reducible exact Ext.refl _ | with_reducible assumption | with_reducible apply Ext.drewN | with_reducible apply Ext.drew | with_reducible apply Ext.alloc | exact Ext.refl _ | assumption | apply Ext.drewN | apply Ext.drew | apply Ext.alloc))⟩
set_option maxHeartbeats 8000000 in
set_option maxRecDepth 100000 in
theorem loses5_any (b n : Nat) (f : Tb) (key tt old new : ByteArray) (w : World) (h : StrMap w b n f) :
    Calls Tryz.prog 140 #[.map (some b), .agg #[.int .i64 5, .string key, .string tt, .string old, .string new]] w fun e w' => ∃ v, e = .returned (.bool v) ∧ (v = true ↔ False) ∧ Ext w w' := by
  have hlt := h.lt
  have b0 := Blk.new w 23 #[.int .i64 5, .string key, .string tt, .string old, .string new]
  have h0 := h.ext ((Ext.refl w).alloc (.cells #[.int .i64 5, .string key, .string tt, .string old, .string new] 23))
  have hx0 : Ext w (w.alloc (.cells #[.int .i64 5, .string key, .string tt, .string old, .string new] 23)) := (Ext.refl w).alloc _
  clear h h0
  go_enter Tryz.func140, Tryz.ntmps140
  go_wp2
  go_ret
  exact ⟨_, rfl, ⟨(fun e => by cases e), (fun e => e.elim)⟩, (by repeat (first | with_reducible exact Ext.refl _ | with_reducible assumption | with_reducible apply Ext.drewN | with_reducible apply Ext.drew | with_reducible apply Ext.alloc | exact Ext.refl _ | assumption | apply Ext.drewN | apply Ext.drew | apply Ext.alloc))⟩
set_option maxHeartbeats 8000000 in
set_option maxRecDepth 100000 in
theorem loses6_any (b n : Nat) (f : Tb) (key tt old new : ByteArray) (w : World) (h : StrMap w b n f) :
    Calls Tryz.prog 140 #[.map (some b), .agg #[.int .i64 6, .string key, .string tt, .string old, .string new]] w fun e w' => ∃ v, e = .returned (.bool v) ∧ (v = true ↔ False) ∧ Ext w w' := by
  have hlt := h.lt
  have b0 := Blk.new w 23 #[.int .i64 6, .string key, .string tt, .string old, .string new]
  have h0 := h.ext ((Ext.refl w).alloc (.cells #[.int .i64 6, .string key, .string tt, .string old, .string new] 23))
  have hx0 : Ext w (w.alloc (.cells #[.int .i64 6, .string key, .string tt, .string old, .string new] 23)) := (Ext.refl w).alloc _
  clear h h0
  go_enter Tryz.func140, Tryz.ntmps140
  go_wp2
  go_ret
  exact ⟨_, rfl, ⟨(fun e => by cases e), (fun e => e.elim)⟩, (by repeat (first | with_reducible exact Ext.refl _ | with_reducible assumption | with_reducible apply Ext.drewN | with_reducible apply Ext.drew | with_reducible apply Ext.alloc | exact Ext.refl _ | assumption | apply Ext.drewN | apply Ext.drew | apply Ext.alloc))⟩
set_option maxHeartbeats 8000000 in
set_option maxRecDepth 100000 in
theorem loses8_any (b n : Nat) (f : Tb) (key tt old new : ByteArray) (w : World) (h : StrMap w b n f) :
    Calls Tryz.prog 140 #[.map (some b), .agg #[.int .i64 8, .string key, .string tt, .string old, .string new]] w fun e w' => ∃ v, e = .returned (.bool v) ∧ (v = true ↔ False) ∧ Ext w w' := by
  have hlt := h.lt
  have b0 := Blk.new w 23 #[.int .i64 8, .string key, .string tt, .string old, .string new]
  have h0 := h.ext ((Ext.refl w).alloc (.cells #[.int .i64 8, .string key, .string tt, .string old, .string new] 23))
  have hx0 : Ext w (w.alloc (.cells #[.int .i64 8, .string key, .string tt, .string old, .string new] 23)) := (Ext.refl w).alloc _
  clear h h0
  go_enter Tryz.func140, Tryz.ntmps140
  go_wp2
  go_ret
  exact ⟨_, rfl, ⟨(fun e => by cases e), (fun e => e.elim)⟩, (by repeat (first | with_reducible exact Ext.refl _ | with_reducible assumption | with_reducible apply Ext.drewN | with_reducible apply Ext.drew | with_reducible apply Ext.alloc | exact Ext.refl _ | assumption | apply Ext.drewN | apply Ext.drew | apply Ext.alloc))⟩
set_option maxHeartbeats 8000000 in
set_option maxRecDepth 100000 in
theorem loses7_any (b n : Nat) (f : Tb) (key tt old new : ByteArray) (w : World) (h : StrMap w b n f) (s1 : key.size ≤ 2097152) :
    Calls Tryz.prog 140 #[.map (some b), .agg #[.int .i64 7, .string key, .string tt, .string old, .string new]] w fun e w' => ∃ v, e = .returned (.bool v) ∧ (v = true ↔ f (bs key) = some (bs new)) ∧ Ext w w' := by
  have hlt := h.lt
  have b0 := Blk.new w 23 #[.int .i64 7, .string key, .string tt, .string old, .string new]
  have h0 := h.ext ((Ext.refl w).alloc (.cells #[.int .i64 7, .string key, .string tt, .string old, .string new] 23))
  have hx0 : Ext w (w.alloc (.cells #[.int .i64 7, .string key, .string tt, .string old, .string new] 23)) := (Ext.refl w).alloc _
  have hlook := h0.look (t := 179) Tryz.underlying179 key s1
  cases hf : f (bs key) with
  | none =>
    rw [hf] at hlook
    simp only [Option.isSome_none, Option.getD_none] at hlook
    clear hf
    go_enter Tryz.func140, Tryz.ntmps140
    go_wp2
    go_ret
    exact ⟨_, rfl, ⟨(fun e => by cases e), (fun e => by cases e)⟩, (by repeat (first | with_reducible exact Ext.refl _ | with_reducible assumption | with_reducible apply Ext.drewN | with_reducible apply Ext.drew | with_reducible apply Ext.alloc | exact Ext.refl _ | assumption | apply Ext.drewN | apply Ext.drew | apply Ext.alloc))⟩
  | some v =>
    obtain ⟨ub, rfl⟩ : ∃ ub : ByteArray, v = bs ub := ⟨⟨v.toArray⟩, (bs_mk v).symm⟩
    rw [hf] at hlook
    simp only [Option.isSome_some, Option.getD_some, S_bs] at hlook
    clear hf
    have HE := Lib.hid (show (ub.toList == new.toList) = true ↔ (some (bs ub) : Option Str) = some (bs new) from by
      rw [beq_iff_eq, str_eq]
      exact ⟨fun e => by rw [e], fun e => bs_inj (Option.some.inj e)⟩)
    cases hB : (ub.toList == new.toList)
    · rw [hB] at HE
      suffices hs : Calls Tryz.prog 140 #[.map (some b), .agg #[.int .i64 7, .string key, .string tt, .string old, .string new]] w fun e w' => e = .returned (.bool false) ∧ Ext w w' from hs.mono fun e w' h => ⟨false, h.1, HE.out, h.2⟩
      go_enter Tryz.func140, Tryz.ntmps140
      go_wp2
      go_ret
      exact ⟨rfl, (by repeat (first | with_reducible exact Ext.refl _ | with_reducible assumption | with_reducible apply Ext.drewN | with_reducible apply Ext.drew | with_reducible apply Ext.alloc | exact Ext.refl _ | assumption | apply Ext.drewN | apply Ext.drew | apply Ext.alloc))⟩
    · rw [hB] at HE
      suffices hs : Calls Tryz.prog 140 #[.map (some b), .agg #[.int .i64 7, .string key, .string tt, .string old, .string new]] w fun e w' => e = .returned (.bool true) ∧ Ext w w' from hs.mono fun e w' h => ⟨true, h.1, HE.out, h.2⟩
      go_enter Tryz.func140, Tryz.ntmps140
      go_wp2
      go_ret
      exact ⟨rfl, (by repeat (first | with_reducible exact Ext.refl _ | with_reducible assumption | with_reducible apply Ext.drewN | with_reducible apply Ext.drew | with_reducible apply Ext.alloc | exact Ext.refl _ | assumption | apply Ext.drewN | apply Ext.drew | apply Ext.alloc))⟩
theorem loses_any (r : RB) (b n : Nat) (f : Tb) (w : World) (h : StrMap w b n f) (hf : Okt f) (hr : ruErr r.l = 0) :
    Calls Tryz.prog 140 #[.map (some b), ruV r] w fun e w' => ∃ v, e = .returned (.bool v) ∧ (v = true ↔ losesT r.l f) ∧ Ext w w' := by
  have hR := right_of hr
  obtain ⟨s1, s2, s3, s4⟩ := right_size hr
  have hkc := kind_cases hR.lo hR.hi
  obtain ⟨k, key, tt, old, new⟩ := r
  dsimp only [RB.l] at hkc s1 s2 s3 s4 ⊢
  have fin : ∀ (p : Prop), (p ↔ losesT ⟨k, bs key, bs tt, bs old, bs new⟩ f) → ∀ e w', (∃ v, e = Ending.returned (.bool v) ∧ (v = true ↔ p) ∧ Ext w w') → ∃ v, e = Ending.returned (.bool v) ∧ (v = true ↔ losesT ⟨k, bs key, bs tt, bs old, bs new⟩ f) ∧ Ext w w' :=
    fun p hp e w' ⟨v, h1, h2, h3⟩ => ⟨v, h1, h2.trans hp, h3⟩
  rcases hkc with rfl | rfl | rfl | rfl | rfl | rfl | rfl | rfl
  · exact (loses1_any b n f key tt old new w h (by omega)).mono (fin _ (by simp [losesT]))
  · exact (loses2_any b n f key tt old new w h hf (by omega)).mono (fin _ (by simp [losesT]))
  · exact (loses3_any b n f key tt old new w h).mono (fin _ (by simp [losesT]))
  · exact (loses4_any b n f key tt old new w h).mono (fin _ (by simp [losesT]))
  · exact (loses5_any b n f key tt old new w h).mono (fin _ (by simp [losesT]))
  · exact (loses6_any b n f key tt old new w h).mono (fin _ (by simp [losesT]))
  · exact (loses7_any b n f key tt old new w h (by omega)).mono (fin _ (by simp [losesT]))
  · exact (loses8_any b n f key tt old new w h).mono (fin _ (by simp [losesT]))
end Go.Proofs.YtghhjlcbcojcnaaGreatDoor
