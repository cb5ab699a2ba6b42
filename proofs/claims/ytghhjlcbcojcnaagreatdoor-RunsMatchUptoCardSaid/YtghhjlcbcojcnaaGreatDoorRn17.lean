/- Contracts of migrate.Inverse, PrintRule, and of outref2.InverseOf, Quoted, RuleText. Contracts of migrate.PrintRule and of outref2.RuleText. -/
import Derived.Test.YtghhjlcbcojcnaaGreatDoorRn16
import Derived.Test.YtghhjlcbcojcnaaGreatDoorRn15
import Derived.Deep.RegionHeld3

namespace Go.Proofs.YtghhjlcbcojcnaaGreatDoor
open Go.RowKit

/-- a rule's value -/
abbrev ruX (r : Ru) : Value := .agg #[.int .i64 r.kind, S r.key, S r.tt, S r.old, S r.new]
theorem ruX_l (r : RB) : ruX r.l = ruV r := rfl
set_option maxRecDepth 100000 in
set_option maxHeartbeats 4000000 in
theorem Inverse_any (r : RB) (w : World) (hg : Good w) (hs : SmallR r) :
    Calls Tryz.prog 14 #[ruV r] w fun e w' => e = .returned (.tuple #[ruX (invL r.l).1, .int .i64 (invL r.l).2]) ∧ Ext w w' := by
  have hck := fun W (h : Ext w W) => CheckRule_any r W (hg.ext h) hs
  by_cases h0 : ruErr r.l = 0
  · have hR := right_of h0
    have hi : invL r.l = (if r.l.kind = 1 ∨ r.l.kind = 2 then (⟨r.l.kind, r.l.tt, r.l.key, r.l.old, r.l.new⟩, 0) else if r.l.kind = 7 then (⟨r.l.kind, r.l.key, r.l.tt, r.l.new, r.l.old⟩, 0) else if r.l.kind = 8 then (r.l, 0) else (zeroR, 12)) := by rw [invL, if_neg (by rw [h0]; decide)]
    rw [hi]
    rw [h0] at hck
    have HCK := Lib.hid hck
    have hkc := kind_cases hR.lo hR.hi
    clear hck h0 hR hi
    obtain ⟨k, key, tt, old, new⟩ := r
    dsimp only [RB.l] at hkc
    dsimp only [RB.l]
    rcases hkc with rfl | rfl | rfl | rfl | rfl | rfl | rfl | rfl
    all_goals
      go_enter Tryz.func14, Tryz.ntmps14
      go_wp2_with fail
      refine (HCK.out _ (by repeat (first | with_reducible exact Ext.refl _ | with_reducible assumption | with_reducible apply Ext.drewN | with_reducible apply Ext.drew | with_reducible apply Ext.alloc | exact Ext.refl _ | assumption | apply Ext.drewN | apply Ext.drew | apply Ext.alloc))).mono ?_
      rintro e w1 ⟨rfl, hx1⟩
      have bA := ((Blk.new w 23 _).alloc _).ext hx1
      have bB := (Blk.new (w.alloc _) 23 _).ext hx1
      rw [World.size_alloc] at bB
      have hxw : Ext w w1 := Ext.trans (by repeat (first | with_reducible exact Ext.refl _ | with_reducible assumption | with_reducible apply Ext.drewN | with_reducible apply Ext.drew | with_reducible apply Ext.alloc | exact Ext.refl _ | assumption | apply Ext.drewN | apply Ext.drew | apply Ext.alloc)) hx1
      clear hx1
      have cA := bA.cell; have fA := bA.free; have zA := bA.lt
      have cB := bB.cell; have fB := bB.free; have zB := bB.lt
      go_wp2
      have hnA : ¬ w.heap.size = w.heap.size + 1 := by omega
      have hnB : ¬ w.heap.size + 1 = w.heap.size := by omega
    · exact bodyPost_ret (v := .tuple #[ruX ⟨1, bs tt, bs key, bs old, bs new⟩, .int .i64 0]) (by simp [results, Tryz.results14, go_sem, cB]) rfl ⟨rfl, (by repeat (first | with_reducible exact Ext.refl _ | with_reducible assumption | with_reducible apply Ext.drewN | with_reducible apply Ext.drew | with_reducible apply Ext.alloc | ((with_reducible refine Ext.setCell ?_ ?_ _); rotate_left; (first | (dsimp only; omega) | (simp; omega) | skip)) | exact Ext.refl _ | assumption | apply Ext.drewN | apply Ext.drew | apply Ext.alloc | refine Ext.setCell ?_ (by first | (dsimp only; omega) | (simp; omega)) _))⟩
    · exact bodyPost_ret (v := .tuple #[ruX ⟨2, bs tt, bs key, bs old, bs new⟩, .int .i64 0]) (by simp [results, Tryz.results14, go_sem, cB]) rfl ⟨rfl, (by repeat (first | with_reducible exact Ext.refl _ | with_reducible assumption | with_reducible apply Ext.drewN | with_reducible apply Ext.drew | with_reducible apply Ext.alloc | ((with_reducible refine Ext.setCell ?_ ?_ _); rotate_left; (first | (dsimp only; omega) | (simp; omega) | skip)) | exact Ext.refl _ | assumption | apply Ext.drewN | apply Ext.drew | apply Ext.alloc | refine Ext.setCell ?_ (by first | (dsimp only; omega) | (simp; omega)) _))⟩
    · exact bodyPost_ret (v := .tuple #[ruX zeroR, .int .i64 12]) (by simp [results, Tryz.results14, go_sem, cB, zeroR]) rfl ⟨rfl, (by repeat (first | with_reducible exact Ext.refl _ | with_reducible assumption | with_reducible apply Ext.drewN | with_reducible apply Ext.drew | with_reducible apply Ext.alloc | ((with_reducible refine Ext.setCell ?_ ?_ _); rotate_left; (first | (dsimp only; omega) | (simp; omega) | skip)) | exact Ext.refl _ | assumption | apply Ext.drewN | apply Ext.drew | apply Ext.alloc | refine Ext.setCell ?_ (by first | (dsimp only; omega) | (simp; omega)) _))⟩
    · exact bodyPost_ret (v := .tuple #[ruX zeroR, .int .i64 12]) (by simp [results, Tryz.results14, go_sem, cB, zeroR]) rfl ⟨rfl, (by repeat (first | with_reducible exact Ext.refl _ | with_reducible assumption | with_reducible apply Ext.drewN | with_reducible apply Ext.drew | with_reducible apply Ext.alloc | ((with_reducible refine Ext.setCell ?_ ?_ _); rotate_left; (first | (dsimp only; omega) | (simp; omega) | skip)) | exact Ext.refl _ | assumption | apply Ext.drewN | apply Ext.drew | apply Ext.alloc | refine Ext.setCell ?_ (by first | (dsimp only; omega) | (simp; omega)) _))⟩
    · exact bodyPost_ret (v := .tuple #[ruX zeroR, .int .i64 12]) (by simp [results, Tryz.results14, go_sem, cB, zeroR]) rfl ⟨rfl, (by repeat (first | with_reducible exact Ext.refl _ | with_reducible assumption | with_reducible apply Ext.drewN | with_reducible apply Ext.drew | with_reducible apply Ext.alloc | ((with_reducible refine Ext.setCell ?_ ?_ _); rotate_left; (first | (dsimp only; omega) | (simp; omega) | skip)) | exact Ext.refl _ | assumption | apply Ext.drewN | apply Ext.drew | apply Ext.alloc | refine Ext.setCell ?_ (by first | (dsimp only; omega) | (simp; omega)) _))⟩
    · exact bodyPost_ret (v := .tuple #[ruX zeroR, .int .i64 12]) (by simp [results, Tryz.results14, go_sem, cB, zeroR]) rfl ⟨rfl, (by repeat (first | with_reducible exact Ext.refl _ | with_reducible assumption | with_reducible apply Ext.drewN | with_reducible apply Ext.drew | with_reducible apply Ext.alloc | ((with_reducible refine Ext.setCell ?_ ?_ _); rotate_left; (first | (dsimp only; omega) | (simp; omega) | skip)) | exact Ext.refl _ | assumption | apply Ext.drewN | apply Ext.drew | apply Ext.alloc | refine Ext.setCell ?_ (by first | (dsimp only; omega) | (simp; omega)) _))⟩
    · exact bodyPost_ret (v := .tuple #[ruX ⟨7, bs key, bs tt, bs new, bs old⟩, .int .i64 0]) (by simp [results, Tryz.results14, go_sem, cB]) rfl ⟨rfl, (by repeat (first | with_reducible exact Ext.refl _ | with_reducible assumption | with_reducible apply Ext.drewN | with_reducible apply Ext.drew | with_reducible apply Ext.alloc | ((with_reducible refine Ext.setCell ?_ ?_ _); rotate_left; (first | (dsimp only; omega) | (simp; omega) | skip)) | exact Ext.refl _ | assumption | apply Ext.drewN | apply Ext.drew | apply Ext.alloc | refine Ext.setCell ?_ (by first | (dsimp only; omega) | (simp; omega)) _))⟩
    · exact bodyPost_ret (v := .tuple #[ruX ⟨8, bs key, bs tt, bs old, bs new⟩, .int .i64 0]) (by simp [results, Tryz.results14, go_sem, cB]) rfl ⟨rfl, (by repeat (first | with_reducible exact Ext.refl _ | with_reducible assumption | with_reducible apply Ext.drewN | with_reducible apply Ext.drew | with_reducible apply Ext.alloc | ((with_reducible refine Ext.setCell ?_ ?_ _); rotate_left; (first | (dsimp only; omega) | (simp; omega) | skip)) | exact Ext.refl _ | assumption | apply Ext.drewN | apply Ext.drew | apply Ext.alloc | refine Ext.setCell ?_ (by first | (dsimp only; omega) | (simp; omega)) _))⟩
  · have hi : invL r.l = (zeroR, ruErr r.l) := by rw [invL, if_pos h0]
    have hb : (ruErr r.l != 0) = true := by rw [bne_iff_ne]; exact h0
    rw [hi]
    generalize ruErr r.l = E at *
    have HCK := Lib.hid hck
    clear hck h0 hi
    obtain ⟨k, key, tt, old, new⟩ := r
    go_enter Tryz.func14, Tryz.ntmps14
    go_wp2_with fail
    refine (HCK.out _ (by repeat (first | with_reducible exact Ext.refl _ | with_reducible assumption | with_reducible apply Ext.drewN | with_reducible apply Ext.drew | with_reducible apply Ext.alloc | exact Ext.refl _ | assumption | apply Ext.drewN | apply Ext.drew | apply Ext.alloc))).mono ?_
    rintro e w1 ⟨rfl, hx1⟩
    have bB := (Blk.new (w.alloc (.cells #[.int .i64 k, .string key, .string tt, .string old, .string new] 23)) 23 _).ext hx1
    rw [World.size_alloc] at bB
    have hxw : Ext w w1 := Ext.trans (by repeat (first | with_reducible exact Ext.refl _ | with_reducible assumption | with_reducible apply Ext.drewN | with_reducible apply Ext.drew | with_reducible apply Ext.alloc | exact Ext.refl _ | assumption | apply Ext.drewN | apply Ext.drew | apply Ext.alloc)) hx1
    clear hx1
    have cB := bB.cell; have fB := bB.free; have zB := bB.lt
    go_wp2
    exact bodyPost_ret (v := .tuple #[ruX zeroR, .int .i64 E]) (by simp [results, Tryz.results14, go_sem, cB, zeroR]) rfl ⟨rfl, (by repeat (first | with_reducible exact Ext.refl _ | with_reducible assumption | with_reducible apply Ext.drewN | with_reducible apply Ext.drew | with_reducible apply Ext.alloc | ((with_reducible refine Ext.setCell ?_ ?_ _); rotate_left; (first | (dsimp only; omega) | (simp; omega) | skip)) | exact Ext.refl _ | assumption | apply Ext.drewN | apply Ext.drew | apply Ext.alloc | refine Ext.setCell ?_ (by first | (dsimp only; omega) | (simp; omega)) _))⟩
set_option maxRecDepth 100000 in
set_option maxHeartbeats 4000000 in
theorem InverseOf_any (r : RB) (w : World) (hg : Good w) (hs : SmallR r) :
    Calls Tryz.prog 15 #[ruV r] w fun e w' => e = .returned (.tuple #[ruX (invL r.l).1, .int .i64 (invL r.l).2]) ∧ Ext w w' := by
  rw [← refInv_eq]
  have hck := fun W (h : Ext w W) => RuleError_any r W (hg.ext h) hs
  by_cases h0 : ruErr r.l = 0
  · have hR := right_of h0
    have hi : refInv r.l = (if r.l.kind = 1 ∨ r.l.kind = 2 then (⟨r.l.kind, r.l.tt, r.l.key, [], []⟩, 0) else if r.l.kind = 7 then (⟨r.l.kind, r.l.key, [], r.l.new, r.l.old⟩, 0) else if r.l.kind = 8 then (r.l, 0) else (zeroR, 12)) := by rw [refInv, if_neg (by rw [h0]; decide)]
    rw [hi]
    rw [h0] at hck
    have HCK := Lib.hid hck
    have hkc := kind_cases hR.lo hR.hi
    clear hck h0 hR hi
    obtain ⟨k, key, tt, old, new⟩ := r
    dsimp only [RB.l] at hkc
    dsimp only [RB.l]
    rcases hkc with rfl | rfl | rfl | rfl | rfl | rfl | rfl | rfl
    all_goals
      go_enter Tryz.func15, Tryz.ntmps15
      go_wp2_with fail
      refine (HCK.out _ (by repeat (first | with_reducible exact Ext.refl _ | with_reducible assumption | with_reducible apply Ext.drewN | with_reducible apply Ext.drew | with_reducible apply Ext.alloc | exact Ext.refl _ | assumption | apply Ext.drewN | apply Ext.drew | apply Ext.alloc))).mono ?_
      rintro e w1 ⟨rfl, hx1⟩
      have bA := ((Blk.new w 23 _).alloc _).ext hx1
      have bB := (Blk.new (w.alloc _) 23 _).ext hx1
      rw [World.size_alloc] at bB
      have hxw : Ext w w1 := Ext.trans (by repeat (first | with_reducible exact Ext.refl _ | with_reducible assumption | with_reducible apply Ext.drewN | with_reducible apply Ext.drew | with_reducible apply Ext.alloc | exact Ext.refl _ | assumption | apply Ext.drewN | apply Ext.drew | apply Ext.alloc)) hx1
      clear hx1
      have cA := bA.cell; have fA := bA.free; have zA := bA.lt
      have cB := bB.cell; have fB := bB.free; have zB := bB.lt
      go_wp2
      have hnA : ¬ w.heap.size = w.heap.size + 1 := by omega
      have hnB : ¬ w.heap.size + 1 = w.heap.size := by omega
    · exact bodyPost_ret (v := .tuple #[ruX ⟨1, bs tt, bs key, [], []⟩, .int .i64 0]) (by simp [results, Tryz.results15, go_sem, cB]) rfl ⟨rfl, (by repeat (first | with_reducible exact Ext.refl _ | with_reducible assumption | with_reducible apply Ext.drewN | with_reducible apply Ext.drew | with_reducible apply Ext.alloc | ((with_reducible refine Ext.setCell ?_ ?_ _); rotate_left; (first | (dsimp only; omega) | (simp; omega) | skip)) | exact Ext.refl _ | assumption | apply Ext.drewN | apply Ext.drew | apply Ext.alloc | refine Ext.setCell ?_ (by first | (dsimp only; omega) | (simp; omega)) _))⟩
    · exact bodyPost_ret (v := .tuple #[ruX ⟨2, bs tt, bs key, [], []⟩, .int .i64 0]) (by simp [results, Tryz.results15, go_sem, cB]) rfl ⟨rfl, (by repeat (first | with_reducible exact Ext.refl _ | with_reducible assumption | with_reducible apply Ext.drewN | with_reducible apply Ext.drew | with_reducible apply Ext.alloc | ((with_reducible refine Ext.setCell ?_ ?_ _); rotate_left; (first | (dsimp only; omega) | (simp; omega) | skip)) | exact Ext.refl _ | assumption | apply Ext.drewN | apply Ext.drew | apply Ext.alloc | refine Ext.setCell ?_ (by first | (dsimp only; omega) | (simp; omega)) _))⟩
    · exact bodyPost_ret (v := .tuple #[ruX zeroR, .int .i64 12]) (by simp [results, Tryz.results15, go_sem, cB, zeroR]) rfl ⟨rfl, (by repeat (first | with_reducible exact Ext.refl _ | with_reducible assumption | with_reducible apply Ext.drewN | with_reducible apply Ext.drew | with_reducible apply Ext.alloc | ((with_reducible refine Ext.setCell ?_ ?_ _); rotate_left; (first | (dsimp only; omega) | (simp; omega) | skip)) | exact Ext.refl _ | assumption | apply Ext.drewN | apply Ext.drew | apply Ext.alloc | refine Ext.setCell ?_ (by first | (dsimp only; omega) | (simp; omega)) _))⟩
    · exact bodyPost_ret (v := .tuple #[ruX zeroR, .int .i64 12]) (by simp [results, Tryz.results15, go_sem, cB, zeroR]) rfl ⟨rfl, (by repeat (first | with_reducible exact Ext.refl _ | with_reducible assumption | with_reducible apply Ext.drewN | with_reducible apply Ext.drew | with_reducible apply Ext.alloc | ((with_reducible refine Ext.setCell ?_ ?_ _); rotate_left; (first | (dsimp only; omega) | (simp; omega) | skip)) | exact Ext.refl _ | assumption | apply Ext.drewN | apply Ext.drew | apply Ext.alloc | refine Ext.setCell ?_ (by first | (dsimp only; omega) | (simp; omega)) _))⟩
    · exact bodyPost_ret (v := .tuple #[ruX zeroR, .int .i64 12]) (by simp [results, Tryz.results15, go_sem, cB, zeroR]) rfl ⟨rfl, (by repeat (first | with_reducible exact Ext.refl _ | with_reducible assumption | with_reducible apply Ext.drewN | with_reducible apply Ext.drew | with_reducible apply Ext.alloc | ((with_reducible refine Ext.setCell ?_ ?_ _); rotate_left; (first | (dsimp only; omega) | (simp; omega) | skip)) | exact Ext.refl _ | assumption | apply Ext.drewN | apply Ext.drew | apply Ext.alloc | refine Ext.setCell ?_ (by first | (dsimp only; omega) | (simp; omega)) _))⟩
    · exact bodyPost_ret (v := .tuple #[ruX zeroR, .int .i64 12]) (by simp [results, Tryz.results15, go_sem, cB, zeroR]) rfl ⟨rfl, (by repeat (first | with_reducible exact Ext.refl _ | with_reducible assumption | with_reducible apply Ext.drewN | with_reducible apply Ext.drew | with_reducible apply Ext.alloc | ((with_reducible refine Ext.setCell ?_ ?_ _); rotate_left; (first | (dsimp only; omega) | (simp; omega) | skip)) | exact Ext.refl _ | assumption | apply Ext.drewN | apply Ext.drew | apply Ext.alloc | refine Ext.setCell ?_ (by first | (dsimp only; omega) | (simp; omega)) _))⟩
    · exact bodyPost_ret (v := .tuple #[ruX ⟨7, bs key, [], bs new, bs old⟩, .int .i64 0]) (by simp [results, Tryz.results15, go_sem, cB]) rfl ⟨rfl, (by repeat (first | with_reducible exact Ext.refl _ | with_reducible assumption | with_reducible apply Ext.drewN | with_reducible apply Ext.drew | with_reducible apply Ext.alloc | ((with_reducible refine Ext.setCell ?_ ?_ _); rotate_left; (first | (dsimp only; omega) | (simp; omega) | skip)) | exact Ext.refl _ | assumption | apply Ext.drewN | apply Ext.drew | apply Ext.alloc | refine Ext.setCell ?_ (by first | (dsimp only; omega) | (simp; omega)) _))⟩
    · exact bodyPost_ret (v := .tuple #[ruX ⟨8, bs key, bs tt, bs old, bs new⟩, .int .i64 0]) (by simp [results, Tryz.results15, go_sem, cB]) rfl ⟨rfl, (by repeat (first | with_reducible exact Ext.refl _ | with_reducible assumption | with_reducible apply Ext.drewN | with_reducible apply Ext.drew | with_reducible apply Ext.alloc | ((with_reducible refine Ext.setCell ?_ ?_ _); rotate_left; (first | (dsimp only; omega) | (simp; omega) | skip)) | exact Ext.refl _ | assumption | apply Ext.drewN | apply Ext.drew | apply Ext.alloc | refine Ext.setCell ?_ (by first | (dsimp only; omega) | (simp; omega)) _))⟩
  · have hi : refInv r.l = (zeroR, ruErr r.l) := by rw [refInv, if_pos h0]
    have hb : (ruErr r.l != 0) = true := by rw [bne_iff_ne]; exact h0
    rw [hi]
    generalize ruErr r.l = E at *
    have HCK := Lib.hid hck
    clear hck h0 hi
    obtain ⟨k, key, tt, old, new⟩ := r
    go_enter Tryz.func15, Tryz.ntmps15
    go_wp2_with fail
    refine (HCK.out _ (by repeat (first | with_reducible exact Ext.refl _ | with_reducible assumption | with_reducible apply Ext.drewN | with_reducible apply Ext.drew | with_reducible apply Ext.alloc | exact Ext.refl _ | assumption | apply Ext.drewN | apply Ext.drew | apply Ext.alloc))).mono ?_
    rintro e w1 ⟨rfl, hx1⟩
    have bB := (Blk.new (w.alloc (.cells #[.int .i64 k, .string key, .string tt, .string old, .string new] 23)) 23 _).ext hx1
    rw [World.size_alloc] at bB
    have hxw : Ext w w1 := Ext.trans (by repeat (first | with_reducible exact Ext.refl _ | with_reducible assumption | with_reducible apply Ext.drewN | with_reducible apply Ext.drew | with_reducible apply Ext.alloc | exact Ext.refl _ | assumption | apply Ext.drewN | apply Ext.drew | apply Ext.alloc)) hx1
    clear hx1
    have cB := bB.cell; have fB := bB.free; have zB := bB.lt
    go_wp2
    exact bodyPost_ret (v := .tuple #[ruX zeroR, .int .i64 E]) (by simp [results, Tryz.results15, go_sem, cB, zeroR]) rfl ⟨rfl, (by repeat (first | with_reducible exact Ext.refl _ | with_reducible assumption | with_reducible apply Ext.drewN | with_reducible apply Ext.drew | with_reducible apply Ext.alloc | ((with_reducible refine Ext.setCell ?_ ?_ _); rotate_left; (first | (dsimp only; omega) | (simp; omega) | skip)) | exact Ext.refl _ | assumption | apply Ext.drewN | apply Ext.drew | apply Ext.alloc | refine Ext.setCell ?_ (by first | (dsimp only; omega) | (simp; omega)) _))⟩
end Go.Proofs.YtghhjlcbcojcnaaGreatDoor

namespace Go.Proofs.YtghhjlcbcojcnaaGreatDoor
open Go.RowKit

end Go.Proofs.YtghhjlcbcojcnaaGreatDoor
