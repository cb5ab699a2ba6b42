/- Contract of outref2.WithinOf. Contract of outref2.CommonOf. -/
import Derived.Test.YtcmceeihdhcmnaaGreatDoorRm45
import Derived.Test.YtcmceeihdhcmnaaGreatDoorRm37

namespace Go.Proofs.YtcmceeihdhcmnaaGreatDoor
open Go.RowKit

theorem run_eq2 (a b c d : Bool) (w : World) : (binOp .eql 175 (.agg #[.bool a, .bool b]) (.agg #[.bool c, .bool d])).run Tryz.prog w = .ok (.bool (decide (a = c) && decide (b = d))) w := by
  cases a <;> cases b <;> cases c <;> cases d <;> kernel_rfl
set_option maxHeartbeats 4000000 in
theorem IndexB_any (g n c : Nat) (p q : Nat → Bool) (w : World) (hr : RowB w g n p q) (h0 : 0 < n) (hl : n ≤ 1000) :
    Calls Tryz.prog 173 #[.slice (some ⟨g, 0, none⟩) n c, .agg #[.bool true, .bool false]] w fun e w' => ∃ z : Int, e = .returned (.int .i64 z) ∧ (0 ≤ z ↔ ((List.range n).any fun k => p k && !q k) = true) ∧ Ext w w' := by
  have hgl := lt_of_cell (hr.c0 0 h0)
  have bX := Blk.new w 175 #[.bool true, .bool false]
  have hx0 : Ext w (w.alloc (.cells #[.bool true, .bool false] 175)) := (Ext.refl w).alloc _
  go_enter Tryz.func173, Tryz.ntmps173
  go_wp2
  go_loopw [8] (fun i wr => ∃ k : Nat, k ≤ n ∧ i = .int .i64 k ∧ Hid (∀ j, j < k → (p j && !q j) = false) ∧ Ext (w.alloc (.cells #[.bool true, .bool false] 175)) wr) (fun i _ => n - (intOf i).toNat)
  case atStart => exact ⟨0, Nat.zero_le _, rfl, fun j h => absurd h (Nat.not_lt_zero _), Ext.refl _⟩
  case round =>
    obtain ⟨k, hk, rfl, HALL, hxr⟩ := hrel
    have hxw := hx0.trans hxr
    have bXr := bX.ext hxr
    have cX := bXr.cell; have lX := bXr.lt
    by_cases hlt : k < n
    · have x0 := (hr.ext hxw).c0 k hlt; have x1 := (hr.ext hxw).c1 k hlt
      have gl := lt_of_cell x0
      have hlz : (k : Int) < (n : Int) := by omega
      have HNX := Lib.hid (show (p k && !q k) = false → ∀ j, j < k + 1 → (p j && !q j) = false from fun e j h => by
        by_cases hjk : j = k
        · subst hjk; exact e
        · exact HALL.out j (by omega))
      have HYES := Lib.hid (show (p k && !q k) = true → ((List.range n).any fun k => p k && !q k) = true from fun e => List.any_eq_true.2 ⟨k, List.mem_range.2 hlt, e⟩)
      generalize p k = pa at *
      generalize q k = pb at *
      have hq := fun W => run_eq2 true false pa pb W
      by_cases hb : (pa && !pb) = true
      · have HF := Lib.hid (HYES.out hb)
        have e : (decide (true = pa) && decide (false = pb)) = true := by cases pa <;> cases pb <;> simp_all
        rw [e] at hq
        clear hb e
        go_wp2_with fail
        go_quiet (fail)
        go_wp2
        go_ret
        exact ⟨(k : Int), rfl, ⟨fun _ => HF.out, fun _ => by omega⟩, hxw.drewN _⟩
      · have hb2 : (pa && !pb) = false := by simpa using hb
        have HF := Lib.hid (HNX.out hb2)
        have e : (decide (true = pa) && decide (false = pb)) = false := by cases pa <;> cases pb <;> simp_all
        rw [e] at hq
        clear hb hb2 e
        go_wp2_with fail
        go_quiet (fail)
        go_wp2
        go_roundw
        case rel => exact ⟨k + 1, by omega, by go_num, HF.out, hxr.drewN _⟩
        case measure => simp [intOf]; omega
    · obtain rfl : k = n := by omega
      have HF := Lib.hid (show ((List.range k).any fun k => p k && !q k) = false by
        rw [List.any_eq_false]
        intro j hj
        rw [HALL.out j (List.mem_range.1 hj)]
        decide)
      go_wp2
      go_ret
      exact ⟨-1, rfl, ⟨fun h => by omega, fun h => by rw [HF.out] at h; cases h⟩, hxw⟩
set_option maxHeartbeats 4000000 in
theorem ContainsB_any (g n c : Nat) (p q : Nat → Bool) (w : World) (hr : RowB w g n p q) (h0 : 0 < n) (hl : n ≤ 1000) :
    Calls Tryz.prog 120 #[.slice (some ⟨g, 0, none⟩) n c, .agg #[.bool true, .bool false]] w fun e w' => e = .returned (.bool ((List.range n).any fun k => p k && !q k)) ∧ Ext w w' := by
  have hx0 : Ext w (w.alloc (.cells #[.bool true, .bool false] 175)) := (Ext.refl w).alloc _
  have CI := Lib.hid (IndexB_any g n c p q _ (hr.ext hx0) h0 hl)
  generalize ((List.range n).any fun k => p k && !q k) = r at *
  clear hr
  go_enter Tryz.func120, Tryz.ntmps120
  go_wp2_with fail
  refine CI.out.mono ?_
  rintro e w1 ⟨z, rfl, hz, hx1⟩
  have HZ := Lib.hid hz
  clear hz
  go_wp2
  go_ret
  refine ⟨ret_bool ?_, hx0.trans hx1⟩
  have h := HZ.out
  cases r
  · have : ¬ 0 ≤ z := fun e => by have := h.1 e; cases this
    simp; omega
  · have := h.2 rfl
    simp; omega
set_option maxHeartbeats 4000000 in
set_option maxRecDepth 100000 in
theorem WithinOf_any (A B : Option Addr) (n c m d : Nat) (la lb : List Sp) (w : World) (hg : GoodN w) (hn : la.length = n) (ra : RdS w A la) (sa : SmallS la) (hm : lb.length = m) (rb : RdS w B lb) (sb : SmallS lb) (oa : rngErr la = 0) (ob : rngErr lb = 0) :
    Calls Tryz.prog 55 #[.agg #[.slice A n c], .agg #[.slice B m d]] w fun e w' => e = .returned (.bool (withinS la lb)) ∧ Ext w w' := by
  have CS := Lib.hid (fun W (h : Ext w W) => segments_any A B n c m d la lb W (hg.ext h) hn (ra.ext h) sa hm (rb.ext h) sb oa ob)
  have OA := Lib.hid oa; have OB := Lib.hid ob
  clear hn ra sa hm rb sb oa ob
  go_enter Tryz.func55, Tryz.ntmps55
  go_wp2_with fail
  refine (CS.out _ (by repeat (first | with_reducible exact Ext.refl _ | with_reducible assumption | with_reducible apply Ext.drewN | with_reducible apply Ext.drew | with_reducible apply Ext.alloc | exact Ext.refl _ | assumption | apply Ext.drewN | apply Ext.drew | apply Ext.alloc))).mono ?_
  rintro e w1 ⟨A', c', g, d', EN, E, rfl, hEN, hEb, hrE, hrB, hris, hma, hmb, _, hx1⟩
  have hw := within_scan hris OA.out OB.out hma hmb
  rw [hEN] at hw
  have cB := fun W (h : Ext w1 W) => ContainsB_any g (EN + 1) d' _ _ W (hrB.ext h) (by omega) (by omega)
  generalize ((List.range (EN + 1)).any fun k => hasAtL E la k && !hasAtL E lb k) = R at *
  have HW := Lib.hid hw
  have CB := Lib.hid cB
  have hxw : Ext w w1 := Ext.trans (by repeat (first | with_reducible exact Ext.refl _ | with_reducible assumption | with_reducible apply Ext.drewN | with_reducible apply Ext.drew | with_reducible apply Ext.alloc | exact Ext.refl _ | assumption | apply Ext.drewN | apply Ext.drew | apply Ext.alloc)) hx1
  clear hris hma hmb hrE hEN hw hx1 cB hrB
  go_wp2_with fail
  refine (CB.out _ (by repeat (first | with_reducible exact Ext.refl _ | with_reducible assumption | with_reducible apply Ext.drewN | with_reducible apply Ext.drew | with_reducible apply Ext.alloc | exact Ext.refl _ | assumption | apply Ext.drewN | apply Ext.drew | apply Ext.alloc))).mono ?_
  rintro e w2 ⟨rfl, hx2⟩
  go_wp2
  go_ret
  exact ⟨ret_bool HW.out.symm, hxw.trans (Ext.trans (by repeat (first | with_reducible exact Ext.refl _ | with_reducible assumption | with_reducible apply Ext.drewN | with_reducible apply Ext.drew | with_reducible apply Ext.alloc | exact Ext.refl _ | assumption | apply Ext.drewN | apply Ext.drew | apply Ext.alloc)) hx2)⟩
end Go.Proofs.YtcmceeihdhcmnaaGreatDoor

namespace Go.Proofs.YtcmceeihdhcmnaaGreatDoor
open Go.RowKit

/-! ### A cell of a row of the call's own, written in place -/
theorem own_setAt {w : World} {B g n c size : Nat} {e : TypeId} {xs : List Value} (h : w.ownsRow B e size (.slice (some ⟨g, 0, none⟩) n c) n xs) {i : Nat} (_hi : i < xs.length) (u : Value) :
    (w.setCell ⟨g, i, none⟩ u).ownsRow B e size (.slice (some ⟨g, 0, none⟩) n c) n (xs.set i u) := by
  refine ⟨by rw [List.length_set]; exact h.1, ?_⟩
  rcases h.2 with ⟨h1, _⟩ | ⟨g', cap, cur, h1, hb, hg, hnc, hcm, hcs, htake⟩
  · cases h1
  · injection h1 with h1 h2 h3
    injection h1 with h1
    injection h1 with h1 h4
    subst h1 h3
    refine .inr ⟨g, c, cur.setIfInBounds i u, rfl, hb, Blk.set (t := e) hg i u, hnc, hcm, by simpa using hcs, ?_⟩
    rw [Array.toList_setIfInBounds, List.take_set, htake]
theorem own_free {w : World} {B g n c size : Nat} {e : TypeId} {xs : List Value} (h : w.ownsRow B e size (.slice (some ⟨g, 0, none⟩) n c) n xs) (i : Nat) : w.frozen? ⟨g, i, none⟩ = false := by
  rcases h.2 with ⟨h1, _⟩ | ⟨g', cap, cur, h1, _, hg, _⟩
  · cases h1
  · injection h1 with h1 h2 h3
    injection h1 with h1
    injection h1 with h1 h4
    subst h1
    exact Blk.free (t := e) hg i
theorem own_cell {w : World} {B g n c size : Nat} {e : TypeId} {xs : List Value} (h : w.ownsRow B e size (.slice (some ⟨g, 0, none⟩) n c) n xs) {i : Nat} {u : Value} (hi : xs[i]? = some u) : w.cell? ⟨g, i, none⟩ = some u := by
  have := h.cells (g := g) rfl i u hi
  rwa [add_at, Nat.zero_add] at this
/-- the last span of a row closed in place -/
theorem close_last (q0 : List Sp) (s : Sp) (v : V4) :
    ((((((q0 ++ [s]).flatMap spC).set (q0.length * 10 + 1) (.bool true)).set (q0.length * 10 + 6) (.int .i64 v.a1)).set (q0.length * 10 + 7) (.int .i64 v.a2)).set (q0.length * 10 + 8) (.int .i64 v.a3)).set (q0.length * 10 + 9) (.string v.a) =
      (q0 ++ [(⟨s.hf, true, s.f, v⟩ : Sp)]).flatMap spC := by
  have hl := flat_length q0
  rw [List.flatMap_append, List.flatMap_append]
  have hs : ∀ (x : List Value) (j : Nat) (u : Value), (q0.flatMap spC ++ x).set (q0.length * 10 + j) u = q0.flatMap spC ++ x.set j u := fun x j u => by
    rw [List.set_append_right _ _ (by rw [hl]; omega), hl, Nat.add_sub_cancel_left]
  rw [hs, hs, hs, hs, hs]
  rfl
/-! ### The scan -/
abbrev scanS (E : List V4) (la lb : List Sp) (k : Nat) : List Sp × Bool := scanG (opS E) (clS E) (bothAt E la lb) k
theorem scanS_open (E : List V4) (la lb : List Sp) : ∀ k, (scanS E la lb k).2 = true → (scanS E la lb k).1 ≠ [] := by
  intro k
  induction k with
  | zero => intro h; cases h
  | succ k ih =>
    show (scanG _ _ _ (k + 1)).2 = true → (scanG _ _ _ (k + 1)).1 ≠ []
    rw [scanG_succ]
    unfold stepG
    dsimp only
    intro h
    split
    · simp
    · rename_i h1
      rw [h] at h1
      have h2 : (scanS E la lb k).2 = true := by simpa using h1
      rw [if_neg (by rw [h]; simp)]
      exact ih h2
theorem scanS_len (E : List V4) (la lb : List Sp) : ∀ k, (scanS E la lb k).1.length ≤ k := by
  intro k
  induction k with
  | zero => exact Nat.le_refl _
  | succ k ih =>
    have ih2 : (scanG (opS E) (clS E) (bothAt E la lb) k).1.length ≤ k := ih
    show (scanG _ _ _ (k + 1)).1.length ≤ k + 1
    rw [scanG_succ]
    unfold stepG
    dsimp only
    split
    · rw [List.length_append, List.length_singleton]; omega
    · split
      · rename_i h1 h2
        have hne : (scanG (opS E) (clS E) (bothAt E la lb) k).1 ≠ [] := scanS_open E la lb k (by rw [Bool.and_eq_true] at h2; exact h2.2)
        have : 0 < (scanG (opS E) (clS E) (bothAt E la lb) k).1.length := List.length_pos_iff.2 hne
        rw [List.length_append, List.length_dropLast, List.length_singleton]; omega
      · omega
theorem scan_same {E : List V4} {la lb : List Sp} {k : Nat} {q : List Sp} {b : Bool} (h : (q, b) = scanS E la lb k) (e : bothAt E la lb k = b) : (q, b) = scanS E la lb (k + 1) := by
  show _ = scanG _ _ _ (k + 1)
  rw [scanG_succ, show scanG _ _ _ k = (q, b) from h.symm]
  unfold stepG
  rw [e]
  cases b <;> simp
theorem scan_opens {E : List V4} {la lb : List Sp} {k : Nat} {q : List Sp} (h : (q, false) = scanS E la lb k) (e : bothAt E la lb k = true) : (q ++ [opS E k], true) = scanS E la lb (k + 1) := by
  show _ = scanG _ _ _ (k + 1)
  rw [scanG_succ, show scanG _ _ _ k = (q, false) from h.symm]
  unfold stepG
  rw [e]
  simp
theorem scan_closes {E : List V4} {la lb : List Sp} {k : Nat} {q : List Sp} {s : Sp} (h : (q ++ [s], true) = scanS E la lb k) (e : bothAt E la lb k = false) : (q ++ [clS E s k], false) = scanS E la lb (k + 1) := by
  show _ = scanG _ _ _ (k + 1)
  rw [scanG_succ, show scanG _ _ _ k = (q ++ [s], true) from h.symm]
  unfold stepG
  rw [e]
  simp
end Go.Proofs.YtcmceeihdhcmnaaGreatDoor
