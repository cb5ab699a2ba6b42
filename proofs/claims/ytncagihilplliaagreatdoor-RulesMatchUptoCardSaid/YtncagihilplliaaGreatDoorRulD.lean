/- Contracts of migrate.Inverse, PrintRule, and of outref2.InverseOf, Quoted, RuleText. -/
import Derived.Test.YtncagihilplliaaGreatDoorRulC
import Derived.Test.YtncagihilplliaaGreatDoorQuoE
import Derived.Deep.RegionHeld3
namespace Go.Proofs.YtncagihilplliaaGreatDoor
open Go.RowKit

/-- a rule's value -/
abbrev ruX (r : Ru) : Value := .agg #[.int .i64 r.kind, S r.key, S r.tt, S r.old, S r.new]
theorem ruX_l (r : RB) : ruX r.l = ruV r := rfl
set_option maxRecDepth 100000 in
set_option maxHeartbeats 4000000 in
theorem Inverse_any (r : RB) (w : World) (hg : Good w) (hs : SmallR r) :
    Calls Tryz.prog 9 #[ruV r] w fun e w' => e = .returned (.tuple #[ruX (invL r.l).1, .int .i64 (invL r.l).2]) ∧ Ext w w' := by
  have hck := fun W (h : Ext w W) => CheckRule_any r W (hg.ext h) hs
  by_cases h0 : ruErr r.l = 0
  · have hR := right_of h0
    have hi : invL r.l = (if r.l.kind = 1 ∨ r.l.kind = 2 then (⟨r.l.kind, r.l.tt, r.l.key, r.l.old, r.l.new⟩, 0) else if r.l.kind = 7 then (⟨r.l.kind, r.l.key, r.l.tt, r.l.new, r.l.old⟩, 0) else if r.l.kind = 8 then (r.l, 0) else (zeroR, 12)) := by rw [invL, if_neg (by rw [h0]; decide)]
    rw [hi]
    rw [h0] at hck
    have HCK := Lib.hid hck
    have hkc := kind_cases hR.lo hR.hi
    clear hck h0 hR hi
    obtain ⟨k, key, tt, old, new⟩ := r
    dsimp only [RB.l] at hkc
    dsimp only [RB.l]
    rcases hkc with rfl | rfl | rfl | rfl | rfl | rfl | rfl | rfl
    all_goals
      go_enter Tryz.func9, Tryz.ntmps9
      go_wp2_with fail
      refine (HCK.out _ (by repeat (first | with_reducible exact Ext.refl _ | with_reducible assumption | with_reducible apply Ext.drewN | with_reducible apply Ext.drew | with_reducible apply Ext.alloc | exact Ext.refl _ | assumption | apply Ext.drewN | apply Ext.drew | apply Ext.alloc))).mono ?_
      rintro e w1 ⟨rfl, hx1⟩
      have bA := ((Blk.new w 23 _).alloc _).ext hx1
      have bB := (Blk.new (w.alloc _) 23 _).ext hx1
      rw [World.size_alloc] at bB
      have hxw : Ext w w1 := Ext.trans (by repeat (first | with_reducible exact Ext.refl _ | with_reducible assumption | with_reducible apply Ext.drewN | with_reducible apply Ext.drew | with_reducible apply Ext.alloc | exact Ext.refl _ | assumption | apply Ext.drewN | apply Ext.drew | apply Ext.alloc)) hx1
      clear hx1
      have cA := bA.cell; have fA := bA.free; have zA := bA.lt
      have cB := bB.cell; have fB := bB.free; have zB := bB.lt
      go_wp2
      have hnA : ¬ w.heap.size = w.heap.size + 1 := by omega
      have hnB : ¬ w.heap.size + 1 = w.heap.size := by omega
    · exact bodyPost_ret (v := .tuple #[ruX ⟨1, bs tt, bs key, bs old, bs new⟩, .int .i64 0]) (by simp [results, Tryz.results9, go_sem, cB]) rfl ⟨rfl, (by repeat (first | with_reducible exact Ext.refl _ | with_reducible assumption | with_reducible apply Ext.drewN | with_reducible apply Ext.drew | with_reducible apply Ext.alloc | ((with_reducible refine Ext.setCell ?_ ?_ _); rotate_left; (first | (dsimp only; omega) | (simp; omega) | skip)) | exact Ext.refl _ | assumption | apply Ext.drewN | apply Ext.drew | apply Ext.alloc | refine Ext.setCell ?_ (by first | (dsimp only; omega) | (simp; omega)) _))⟩
    · exact bodyPost_ret (v := .tuple #[ruX ⟨2, bs tt, bs key, bs old, bs new⟩, .int .i64 0]) (by simp [results, Tryz.results9, go_sem, cB]) rfl ⟨rfl, (by repeat (first | with_reducible exact Ext.refl _ | with_reducible assumption | with_reducible apply Ext.drewN | with_reducible apply Ext.drew | with_reducible apply Ext.alloc | ((with_reducible refine Ext.setCell ?_ ?_ _); rotate_left; (first | (dsimp only; omega) | (simp; omega) | skip)) | exact Ext.refl _ | assumption | apply Ext.drewN | apply Ext.drew | apply Ext.alloc | refine Ext.setCell ?_ (by first | (dsimp only; omega) | (simp; omega)) _))⟩
    · exact bodyPost_ret (v := .tuple #[ruX zeroR, .int .i64 12]) (by simp [results, Tryz.results9, go_sem, cB, zeroR]) rfl ⟨rfl, (by repeat (first | with_reducible exact Ext.refl _ | with_reducible assumption | with_reducible apply Ext.drewN | with_reducible apply Ext.drew | with_reducible apply Ext.alloc | ((with_reducible refine Ext.setCell ?_ ?_ _); rotate_left; (first | (dsimp only; omega) | (simp; omega) | skip)) | exact Ext.refl _ | assumption | apply Ext.drewN | apply Ext.drew | apply Ext.alloc | refine Ext.setCell ?_ (by first | (dsimp only; omega) | (simp; omega)) _))⟩
    · exact bodyPost_ret (v := .tuple #[ruX zeroR, .int .i64 12]) (by simp [results, Tryz.results9, go_sem, cB, zeroR]) rfl ⟨rfl, (by repeat (first | with_reducible exact Ext.refl _ | with_reducible assumption | with_reducible apply Ext.drewN | with_reducible apply Ext.drew | with_reducible apply Ext.alloc | ((with_reducible refine Ext.setCell ?_ ?_ _); rotate_left; (first | (dsimp only; omega) | (simp; omega) | skip)) | exact Ext.refl _ | assumption | apply Ext.drewN | apply Ext.drew | apply Ext.alloc | refine Ext.setCell ?_ (by first | (dsimp only; omega) | (simp; omega)) _))⟩
    · exact bodyPost_ret (v := .tuple #[ruX zeroR, .int .i64 12]) (by simp [results, Tryz.results9, go_sem, cB, zeroR]) rfl ⟨rfl, (by repeat (first | with_reducible exact Ext.refl _ | with_reducible assumption | with_reducible apply Ext.drewN | with_reducible apply Ext.drew | with_reducible apply Ext.alloc | ((with_reducible refine Ext.setCell ?_ ?_ _); rotate_left; (first | (dsimp only; omega) | (simp; omega) | skip)) | exact Ext.refl _ | assumption | apply Ext.drewN | apply Ext.drew | apply Ext.alloc | refine Ext.setCell ?_ (by first | (dsimp only; omega) | (simp; omega)) _))⟩
    · exact bodyPost_ret (v := .tuple #[ruX zeroR, .int .i64 12]) (by simp [results, Tryz.results9, go_sem, cB, zeroR]) rfl ⟨rfl, (by repeat (first | with_reducible exact Ext.refl _ | with_reducible assumption | with_reducible apply Ext.drewN | with_reducible apply Ext.drew | with_reducible apply Ext.alloc | ((with_reducible refine Ext.setCell ?_ ?_ _); rotate_left; (first | (dsimp only; omega) | (simp; omega) | skip)) | exact Ext.refl _ | assumption | apply Ext.drewN | apply Ext.drew | apply Ext.alloc | refine Ext.setCell ?_ (by first | (dsimp only; omega) | (simp; omega)) _))⟩
    · exact bodyPost_ret (v := .tuple #[ruX ⟨7, bs key, bs tt, bs new, bs old⟩, .int .i64 0]) (by simp [results, Tryz.results9, go_sem, cB]) rfl ⟨rfl, (by repeat (first | with_reducible exact Ext.refl _ | with_reducible assumption | with_reducible apply Ext.drewN | with_reducible apply Ext.drew | with_reducible apply Ext.alloc | ((with_reducible refine Ext.setCell ?_ ?_ _); rotate_left; (first | (dsimp only; omega) | (simp; omega) | skip)) | exact Ext.refl _ | assumption | apply Ext.drewN | apply Ext.drew | apply Ext.alloc | refine Ext.setCell ?_ (by first | (dsimp only; omega) | (simp; omega)) _))⟩
    · exact bodyPost_ret (v := .tuple #[ruX ⟨8, bs key, bs tt, bs old, bs new⟩, .int .i64 0]) (by simp [results, Tryz.results9, go_sem, cB]) rfl ⟨rfl, (by repeat (first | with_reducible exact Ext.refl _ | with_reducible assumption | with_reducible apply Ext.drewN | with_reducible apply Ext.drew | with_reducible apply Ext.alloc | ((with_reducible refine Ext.setCell ?_ ?_ _); rotate_left; (first | (dsimp only; omega) | (simp; omega) | skip)) | exact Ext.refl _ | assumption | apply Ext.drewN | apply Ext.drew | apply Ext.alloc | refine Ext.setCell ?_ (by first | (dsimp only; omega) | (simp; omega)) _))⟩
  · have hi : invL r.l = (zeroR, ruErr r.l) := by rw [invL, if_pos h0]
    have hb : (ruErr r.l != 0) = true := by rw [bne_iff_ne]; exact h0
    rw [hi]
    generalize ruErr r.l = E at *
    have HCK := Lib.hid hck
    clear hck h0 hi
    obtain ⟨k, key, tt, old, new⟩ := r
    go_enter Tryz.func9, Tryz.ntmps9
    go_wp2_with fail
    refine (HCK.out _ (by repeat (first | with_reducible exact Ext.refl _ | with_reducible assumption | with_reducible apply Ext.drewN | with_reducible apply Ext.drew | with_reducible apply Ext.alloc | exact Ext.refl _ | assumption | apply Ext.drewN | apply Ext.drew | apply Ext.alloc))).mono ?_
    rintro e w1 ⟨rfl, hx1⟩
    have bB := (Blk.new (w.alloc (.cells #[.int .i64 k, .string key, .string tt, .string old, .string new] 23)) 23 _).ext hx1
    rw [World.size_alloc] at bB
    have hxw : Ext w w1 := Ext.trans (by repeat (first | with_reducible exact Ext.refl _ | with_reducible assumption | with_reducible apply Ext.drewN | with_reducible apply Ext.drew | with_reducible apply Ext.alloc | exact Ext.refl _ | assumption | apply Ext.drewN | apply Ext.drew | apply Ext.alloc)) hx1
    clear hx1
    have cB := bB.cell; have fB := bB.free; have zB := bB.lt
    go_wp2
    exact bodyPost_ret (v := .tuple #[ruX zeroR, .int .i64 E]) (by simp [results, Tryz.results9, go_sem, cB, zeroR]) rfl ⟨rfl, (by repeat (first | with_reducible exact Ext.refl _ | with_reducible assumption | with_reducible apply Ext.drewN | with_reducible apply Ext.drew | with_reducible apply Ext.alloc | ((with_reducible refine Ext.setCell ?_ ?_ _); rotate_left; (first | (dsimp only; omega) | (simp; omega) | skip)) | exact Ext.refl _ | assumption | apply Ext.drewN | apply Ext.drew | apply Ext.alloc | refine Ext.setCell ?_ (by first | (dsimp only; omega) | (simp; omega)) _))⟩
set_option maxRecDepth 100000 in
set_option maxHeartbeats 4000000 in
theorem InverseOf_any (r : RB) (w : World) (hg : Good w) (hs : SmallR r) :
    Calls Tryz.prog 10 #[ruV r] w fun e w' => e = .returned (.tuple #[ruX (invL r.l).1, .int .i64 (invL r.l).2]) ∧ Ext w w' := by
  rw [← refInv_eq]
  have hck := fun W (h : Ext w W) => RuleError_any r W (hg.ext h) hs
  by_cases h0 : ruErr r.l = 0
  · have hR := right_of h0
    have hi : refInv r.l = (if r.l.kind = 1 ∨ r.l.kind = 2 then (⟨r.l.kind, r.l.tt, r.l.key, [], []⟩, 0) else if r.l.kind = 7 then (⟨r.l.kind, r.l.key, [], r.l.new, r.l.old⟩, 0) else if r.l.kind = 8 then (r.l, 0) else (zeroR, 12)) := by rw [refInv, if_neg (by rw [h0]; decide)]
    rw [hi]
    rw [h0] at hck
    have HCK := Lib.hid hck
    have hkc := kind_cases hR.lo hR.hi
    clear hck h0 hR hi
    obtain ⟨k, key, tt, old, new⟩ := r
    dsimp only [RB.l] at hkc
    dsimp only [RB.l]
    rcases hkc with rfl | rfl | rfl | rfl | rfl | rfl | rfl | rfl
    all_goals
      go_enter Tryz.func10, Tryz.ntmps10
      go_wp2_with fail
      refine (HCK.out _ (by repeat (first | with_reducible exact Ext.refl _ | with_reducible assumption | with_reducible apply Ext.drewN | with_reducible apply Ext.drew | with_reducible apply Ext.alloc | exact Ext.refl _ | assumption | apply Ext.drewN | apply Ext.drew | apply Ext.alloc))).mono ?_
      rintro e w1 ⟨rfl, hx1⟩
      have bA := ((Blk.new w 23 _).alloc _).ext hx1
      have bB := (Blk.new (w.alloc _) 23 _).ext hx1
      rw [World.size_alloc] at bB
      have hxw : Ext w w1 := Ext.trans (by repeat (first | with_reducible exact Ext.refl _ | with_reducible assumption | with_reducible apply Ext.drewN | with_reducible apply Ext.drew | with_reducible apply Ext.alloc | exact Ext.refl _ | assumption | apply Ext.drewN | apply Ext.drew | apply Ext.alloc)) hx1
      clear hx1
      have cA := bA.cell; have fA := bA.free; have zA := bA.lt
      have cB := bB.cell; have fB := bB.free; have zB := bB.lt
      go_wp2
      have hnA : ¬ w.heap.size = w.heap.size + 1 := by omega
      have hnB : ¬ w.heap.size + 1 = w.heap.size := by omega
    · exact bodyPost_ret (v := .tuple #[ruX ⟨1, bs tt, bs key, [], []⟩, .int .i64 0]) (by simp [results, Tryz.results10, go_sem, cB]) rfl ⟨rfl, (by repeat (first | with_reducible exact Ext.refl _ | with_reducible assumption | with_reducible apply Ext.drewN | with_reducible apply Ext.drew | with_reducible apply Ext.alloc | ((with_reducible refine Ext.setCell ?_ ?_ _); rotate_left; (first | (dsimp only; omega) | (simp; omega) | skip)) | exact Ext.refl _ | assumption | apply Ext.drewN | apply Ext.drew | apply Ext.alloc | refine Ext.setCell ?_ (by first | (dsimp only; omega) | (simp; omega)) _))⟩
    · exact bodyPost_ret (v := .tuple #[ruX ⟨2, bs tt, bs key, [], []⟩, .int .i64 0]) (by simp [results, Tryz.results10, go_sem, cB]) rfl ⟨rfl, (by repeat (first | with_reducible exact Ext.refl _ | with_reducible assumption | with_reducible apply Ext.drewN | with_reducible apply Ext.drew | with_reducible apply Ext.alloc | ((with_reducible refine Ext.setCell ?_ ?_ _); rotate_left; (first | (dsimp only; omega) | (simp; omega) | skip)) | exact Ext.refl _ | assumption | apply Ext.drewN | apply Ext.drew | apply Ext.alloc | refine Ext.setCell ?_ (by first | (dsimp only; omega) | (simp; omega)) _))⟩
    · exact bodyPost_ret (v := .tuple #[ruX zeroR, .int .i64 12]) (by simp [results, Tryz.results10, go_sem, cB, zeroR]) rfl ⟨rfl, (by repeat (first | with_reducible exact Ext.refl _ | with_reducible assumption | with_reducible apply Ext.drewN | with_reducible apply Ext.drew | with_reducible apply Ext.alloc | ((with_reducible refine Ext.setCell ?_ ?_ _); rotate_left; (first | (dsimp only; omega) | (simp; omega) | skip)) | exact Ext.refl _ | assumption | apply Ext.drewN | apply Ext.drew | apply Ext.alloc | refine Ext.setCell ?_ (by first | (dsimp only; omega) | (simp; omega)) _))⟩
    · exact bodyPost_ret (v := .tuple #[ruX zeroR, .int .i64 12]) (by simp [results, Tryz.results10, go_sem, cB, zeroR]) rfl ⟨rfl, (by repeat (first | with_reducible exact Ext.refl _ | with_reducible assumption | with_reducible apply Ext.drewN | with_reducible apply Ext.drew | with_reducible apply Ext.alloc | ((with_reducible refine Ext.setCell ?_ ?_ _); rotate_left; (first | (dsimp only; omega) | (simp; omega) | skip)) | exact Ext.refl _ | assumption | apply Ext.drewN | apply Ext.drew | apply Ext.alloc | refine Ext.setCell ?_ (by first | (dsimp only; omega) | (simp; omega)) _))⟩
    · exact bodyPost_ret (v := .tuple #[ruX zeroR, .int .i64 12]) (by simp [results, Tryz.results10, go_sem, cB, zeroR]) rfl ⟨rfl, (by repeat (first | with_reducible exact Ext.refl _ | with_reducible assumption | with_reducible apply Ext.drewN | with_reducible apply Ext.drew | with_reducible apply Ext.alloc | ((with_reducible refine Ext.setCell ?_ ?_ _); rotate_left; (first | (dsimp only; omega) | (simp; omega) | skip)) | exact Ext.refl _ | assumption | apply Ext.drewN | apply Ext.drew | apply Ext.alloc | refine Ext.setCell ?_ (by first | (dsimp only; omega) | (simp; omega)) _))⟩
    · exact bodyPost_ret (v := .tuple #[ruX zeroR, .int .i64 12]) (by simp [results, Tryz.results10, go_sem, cB, zeroR]) rfl ⟨rfl, (by repeat (first | with_reducible exact Ext.refl _ | with_reducible assumption | with_reducible apply Ext.drewN | with_reducible apply Ext.drew | with_reducible apply Ext.alloc | ((with_reducible refine Ext.setCell ?_ ?_ _); rotate_left; (first | (dsimp only; omega) | (simp; omega) | skip)) | exact Ext.refl _ | assumption | apply Ext.drewN | apply Ext.drew | apply Ext.alloc | refine Ext.setCell ?_ (by first | (dsimp only; omega) | (simp; omega)) _))⟩
    · exact bodyPost_ret (v := .tuple #[ruX ⟨7, bs key, [], bs new, bs old⟩, .int .i64 0]) (by simp [results, Tryz.results10, go_sem, cB]) rfl ⟨rfl, (by repeat (first | with_reducible exact Ext.refl _ | with_reducible assumption | with_reducible apply Ext.drewN | with_reducible apply Ext.drew | with_reducible apply Ext.alloc | ((with_reducible refine Ext.setCell ?_ ?_ _); rotate_left; (first | (dsimp only; omega) | (simp; omega) | skip)) | exact Ext.refl _ | assumption | apply Ext.drewN | apply Ext.drew | apply Ext.alloc | refine Ext.setCell ?_ (by first | (dsimp only; omega) | (simp; omega)) _))⟩
    · exact bodyPost_ret (v := .tuple #[ruX ⟨8, bs key, bs tt, bs old, bs new⟩, .int .i64 0]) (by simp [results, Tryz.results10, go_sem, cB]) rfl ⟨rfl, (by repeat (first | with_reducible exact Ext.refl _ | with_reducible assumption | with_reducible apply Ext.drewN | with_reducible apply Ext.drew | with_reducible apply Ext.alloc | ((with_reducible refine Ext.setCell ?_ ?_ _); rotate_left; (first | (dsimp only; omega) | (simp; omega) | skip)) | exact Ext.refl _ | assumption | apply Ext.drewN | apply Ext.drew | apply Ext.alloc | refine Ext.setCell ?_ (by first | (dsimp only; omega) | (simp; omega)) _))⟩
  · have hi : refInv r.l = (zeroR, ruErr r.l) := by rw [refInv, if_pos h0]
    have hb : (ruErr r.l != 0) = true := by rw [bne_iff_ne]; exact h0
    rw [hi]
    generalize ruErr r.l = E at *
    have HCK := Lib.hid hck
    clear hck h0 hi
    obtain ⟨k, key, tt, old, new⟩ := r
    go_enter Tryz.func10, Tryz.ntmps10
    go_wp2_with fail
    refine (HCK.out _ (by repeat (first | with_reducible exact Ext.refl _ | with_reducible assumption | with_reducible apply Ext.drewN | with_reducible apply Ext.drew | with_reducible apply Ext.alloc | exact Ext.refl _ | assumption | apply Ext.drewN | apply Ext.drew | apply Ext.alloc))).mono ?_
    rintro e w1 ⟨rfl, hx1⟩
    have bB := (Blk.new (w.alloc (.cells #[.int .i64 k, .string key, .string tt, .string old, .string new] 23)) 23 _).ext hx1
    rw [World.size_alloc] at bB
    have hxw : Ext w w1 := Ext.trans (by repeat (first | with_reducible exact Ext.refl _ | with_reducible assumption | with_reducible apply Ext.drewN | with_reducible apply Ext.drew | with_reducible apply Ext.alloc | exact Ext.refl _ | assumption | apply Ext.drewN | apply Ext.drew | apply Ext.alloc)) hx1
    clear hx1
    have cB := bB.cell; have fB := bB.free; have zB := bB.lt
    go_wp2
    exact bodyPost_ret (v := .tuple #[ruX zeroR, .int .i64 E]) (by simp [results, Tryz.results10, go_sem, cB, zeroR]) rfl ⟨rfl, (by repeat (first | with_reducible exact Ext.refl _ | with_reducible assumption | with_reducible apply Ext.drewN | with_reducible apply Ext.drew | with_reducible apply Ext.alloc | ((with_reducible refine Ext.setCell ?_ ?_ _); rotate_left; (first | (dsimp only; omega) | (simp; omega) | skip)) | exact Ext.refl _ | assumption | apply Ext.drewN | apply Ext.drew | apply Ext.alloc | refine Ext.setCell ?_ (by first | (dsimp only; omega) | (simp; omega)) _))⟩
theorem RQuoted_any (s : ByteArray) (w : World) (hg : Good w) (hs : s.size ≤ 2097152) :
    Calls Tryz.prog 53 #[.string s] w fun e w' => e = .returned (S (quoteL (bs s))) ∧ Ext w w' := by
  have hr1 : ∀ W, Ext w W → Calls Tryz.prog 100 #[.string s, .string ⟨#[92]⟩, .string ⟨#[92, 92]⟩] W fun e w' => ∃ x : ByteArray, e = .returned (.string x) ∧ bs x = subst1 92 [92, 92] (bs s) ∧ x.size ≤ 4194304 ∧ Ext W w' := fun W hW => by
    obtain ⟨m, hm⟩ := (hg.ext hW).maxLen
    have hc : Lib.countB s ⟨#[92]⟩ ≤ s.size := by
      rw [← bs_length]
      rw [show Lib.countB s ⟨#[92]⟩ = (bs s).count 92 from Lib.count_one 92 (bs s)]
      exact List.count_le_length
    refine (Tryz.strings_ReplaceAll s ⟨#[92]⟩ ⟨#[92, 92]⟩ m W (by omega) hm (by decide) (by show s.size + Lib.countB s ⟨#[92]⟩ * 2 ≤ _; omega)).mono fun e w' ⟨h, hb⟩ => ?_
    have hl := subst1_len 92 [92, 92] (bs s) (by decide)
    rw [bs_length] at hl
    have he : Lib.replaceAll s.data.toList [92] [92, 92] = subst1 92 [92, 92] (bs s) := replaceAll_one 92 [92, 92] _ (by decide)
    exact ⟨_, h, by rw [bs_mk]; exact he, by rw [← bs_length, bs_mk]; show (Lib.replaceAll s.data.toList [92] [92, 92]).length ≤ _; rw [he]; omega, hb⟩
  have hr2 : ∀ W x, Ext w W → x.size ≤ 4194304 → Calls Tryz.prog 100 #[.string x, .string ⟨#[34]⟩, .string ⟨#[92, 34]⟩] W fun e w' => ∃ y : ByteArray, e = .returned (.string y) ∧ bs y = subst1 34 [92, 34] (bs x) ∧ y.size ≤ 8388608 ∧ Ext W w' := fun W x hW hx => by
    obtain ⟨m, hm⟩ := (hg.ext hW).maxLen
    have hc : Lib.countB x ⟨#[34]⟩ ≤ x.size := by
      rw [← bs_length]
      rw [show Lib.countB x ⟨#[34]⟩ = (bs x).count 34 from Lib.count_one 34 (bs x)]
      exact List.count_le_length
    refine (Tryz.strings_ReplaceAll x ⟨#[34]⟩ ⟨#[92, 34]⟩ m W (by omega) hm (by decide) (by show x.size + Lib.countB x ⟨#[34]⟩ * 2 ≤ _; omega)).mono fun e w' ⟨h, hb⟩ => ?_
    have hl := subst1_len 34 [92, 34] (bs x) (by decide)
    rw [bs_length] at hl
    have he : Lib.replaceAll x.data.toList [34] [92, 34] = subst1 34 [92, 34] (bs x) := replaceAll_one 34 [92, 34] _ (by decide)
    exact ⟨_, h, by rw [bs_mk]; exact he, by rw [← bs_length, bs_mk]; show (Lib.replaceAll x.data.toList [34] [92, 34]).length ≤ _; rw [he]; omega, hb⟩
  have HR1 := Lib.hid hr1
  have HR2 := Lib.hid hr2
  have HQ := Lib.hid (quoteL_eq (bs s))
  clear hr1 hr2
  go_enter Tryz.func53, Tryz.ntmps53
  go_wp2_with fail
  refine (HR1.out _ (Ext.refl _)).mono ?_
  rintro e w1 ⟨x, rfl, hb1, hz1, hx1⟩
  have HB1 := Lib.hid hb1
  clear hb1
  go_wp2_with fail
  refine (HR2.out _ _ hx1 hz1).mono ?_
  rintro e w2 ⟨y, rfl, hb2, hz2, hx2⟩
  have HB2 := Lib.hid hb2
  clear hb2
  go_wp2
  go_ret
  refine ⟨ret_strS ?_, hx1.trans hx2⟩
  rw [HQ.out, bs_append, bs_append, HB2.out, HB1.out, esc_two]
end Go.Proofs.YtncagihilplliaaGreatDoor
