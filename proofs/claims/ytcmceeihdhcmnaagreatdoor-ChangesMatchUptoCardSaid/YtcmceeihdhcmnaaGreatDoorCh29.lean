/- Contract of outref2.RuleError. (Printed by gen/rulb.py.) Contracts of migrate.Inverse, PrintRule, and of outref2.InverseOf, Quoted, RuleText. -/
import Derived.Test.YtcmceeihdhcmnaaGreatDoorCh28
import Derived.Test.YtcmceeihdhcmnaaGreatDoorCh27
import Derived.Deep.RegionHeld3

namespace Go.Proofs.YtcmceeihdhcmnaaGreatDoor
open Go.RowKit

set_option maxHeartbeats 16000000 in
set_option maxRecDepth 100000 in
theorem RuleError_any (r : RB) (w : World) (hg : Good w) (hs : SmallR r) :
    Calls Tryz.prog 9 #[ruV r] w fun e w' => e = .returned (.int .i64 (ruErr r.l)) ∧ Ext w w' := by
  obtain ⟨k, key, tt, old, new⟩ := r
  obtain ⟨s1, s2, s3, s4⟩ := hs
  dsimp only at s1 s2 s3 s4
  dsimp only [RB.l]
  rw [← refErrR_eq]
  by_cases hk : k < 1 ∨ 8 < k
  · have hE : refErrR ⟨k, bs key, bs tt, bs old, bs new⟩ = 1 := by rw [refErrR_eq]; exact ru_kind (r := ⟨k, bs key, bs tt, bs old, bs new⟩) hk
    have he : ruWord k = [] := emp_iff.1 ((word_empty k).2 hk)
    rw [hE]
    clear hE hk
    have hw := ruleWord_any k
    rw [he] at hw
    have HWD := Lib.hid hw
    clear hw he
    go_enter Tryz.func9, Tryz.ntmps9
    go_wp2_with fail
    refine (HWD.out _).mono ?_
    rintro e w' ⟨rfl, rfl⟩
    go_wp2
    go_ret
    exact ⟨rfl, (by repeat (first | with_reducible exact Ext.refl _ | with_reducible assumption | with_reducible apply Ext.drewN | with_reducible apply Ext.drew | with_reducible apply Ext.alloc | exact Ext.refl _ | assumption | apply Ext.drewN | apply Ext.drew | apply Ext.alloc))⟩
  have h1 : ¬ k < 1 := by omega
  have h8 : ¬ 8 < k := by omega
  have hwd : ∃ x : ByteArray, S (ruWord k) = .string x ∧ x.toList.isEmpty = false := by
    refine ⟨⟨(ruWord k).toArray⟩, rfl, ?_⟩
    have : ¬ (ruWord k).isEmpty = true := fun x => hk ((word_empty k).1 x)
    rw [isE, bs_mk]
    simpa using this
  obtain ⟨wd, hwv, hwe⟩ := hwd
  rw [ref_tests k key tt old new h1 h8]
  have hu := ruleWord_any k
  rw [hwv] at hu
  clear hwv hk
  have HU := Lib.hid hu
  clear hu
  generalize useTo k = T at *
  generalize useOld k = O at *
  generalize useNew k = N at *
  generalize hB1 : (!pathL (bs key) || T && !pathL (bs tt)) = B1
  generalize hB2 : (!T && !tt.toList.isEmpty || !O && !old.toList.isEmpty || !N && !new.toList.isEmpty || !valueL (bs old) || !valueL (bs new)) = B2
  generalize hB3 : (key.toList == tt.toList) = B3
  generalize hB4 : (k == 2 && (belowL (bs key) (bs tt) || belowL (bs tt) (bs key))) = B4
  generalize hB5 : (O && (old.toList == new.toList)) = B5
  have HB1 := Lib.hid hB1
  have HB2 := Lib.hid hB2
  have HB3 := Lib.hid hB3
  have HB4 := Lib.hid hB4
  have HB5 := Lib.hid hB5
  clear hB1 hB2 hB3 hB4 hB5
  generalize hW : w.alloc (.cells #[.int .i64 k, .string key, .string tt, .string old, .string new] 23) = W
  have hxW : Ext w W := by rw [← hW]; exact (by repeat (first | with_reducible exact Ext.refl _ | with_reducible assumption | with_reducible apply Ext.drewN | with_reducible apply Ext.drew | with_reducible apply Ext.alloc | exact Ext.refl _ | assumption | apply Ext.drewN | apply Ext.drew | apply Ext.alloc))
  have bW : Blk W w.heap.size 23 #[.int .i64 k, .string key, .string tt, .string old, .string new] := by rw [← hW]; exact Blk.new _ _ _
  have HW := Lib.hid hW
  clear hW
  go_enter Tryz.func9, Tryz.ntmps9
  go_wp2_with fail
  refine (HU.out _).mono ?_
  rintro e w' ⟨rfl, rfl⟩
  go_upto_region 4 with fail
  rw [HW.out]
  go_cut [18] (fun s wx => s = .bool B1 ∧ Ext W wx)
  case first =>
    have bc := bW.cell
    go_wp2_with fail
    refine (PathOf_any key _ (hg.ext hxW) s1).mono ?_
    rintro e w1 ⟨rfl, hx1⟩
    have bc1 := (bW.ext hx1).cell
    generalize pathL (bs key) = P at *
    cases P
    · go_wp2
      go_meet
      case rel => exact ⟨by rw [← HB1.out]; rfl, hx1⟩
    cases T
    · go_wp2
      go_meet
      case rel => exact ⟨by rw [← HB1.out]; rfl, hx1⟩
    go_wp2_with fail
    refine (PathOf_any tt _ (hg.ext (hxW.trans hx1)) s2).mono ?_
    rintro e w2 ⟨rfl, hx2⟩
    generalize pathL (bs tt) = P2 at *
    cases P2
    all_goals
      go_wp2
      go_meet
      case rel => exact ⟨by rw [← HB1.out]; rfl, hx1.trans hx2⟩
  case rest =>
    obtain ⟨rfl, hx4⟩ := hcut
    have b4 := bW.ext hx4
    have hxw4 := hxW.trans hx4
    clear hx4 bW
    rename_i wA
    generalize hwA : wc = w4 at *
    clear hwA
    cases B1
    rotate_left
    · go_wp2
      go_ret
      exact ⟨rfl, hxw4⟩
    go_upto_region 6 with fail
    go_cut [32] (fun s wx => s = .bool B2 ∧ wx = w4)
    case first =>
      have bc := b4.cell
      rcases tri T tt.toList.isEmpty with ⟨rfl, ht⟩ | rfl | ⟨rfl, ht⟩
      · go_wp2
        go_meet
        case rel => exact ⟨by rw [← HB2.out, ht]; rfl, rfl⟩
      all_goals
        rcases tri O old.toList.isEmpty with ⟨rfl, ho⟩ | rfl | ⟨rfl, ho⟩
        · go_wp2
          go_meet
          case rel => exact ⟨by rw [← HB2.out, ho]; first | (rw [ht]; rfl) | simp, rfl⟩
        all_goals
          rcases tri N new.toList.isEmpty with ⟨rfl, hn⟩ | rfl | ⟨rfl, hn⟩
          · go_wp2
            go_meet
            case rel => exact ⟨by rw [← HB2.out, hn]; simp, rfl⟩
          all_goals
            go_wp2_with fail
            refine (ValueOf_any old _ s3).mono ?_
            rintro e w' ⟨rfl, rfl⟩
            generalize valueL (bs old) = V1 at *
            cases V1
            · go_wp2
              go_meet
              case rel => exact ⟨by rw [← HB2.out]; simp, rfl⟩
            go_wp2_with fail
            refine (ValueOf_any new _ s4).mono ?_
            rintro e w' ⟨rfl, rfl⟩
            generalize valueL (bs new) = V2 at *
            go_wp2
            go_meet
            case rel => exact ⟨by rw [← HB2.out]; first | (rw [ht, ho, hn]; cases V2 <;> rfl) | (rw [ht, ho]; cases V2 <;> rfl) | (rw [ht, hn]; cases V2 <;> rfl) | (rw [ho, hn]; cases V2 <;> rfl) | (rw [ht]; cases V2 <;> simp) | (rw [ho]; cases V2 <;> simp) | (rw [hn]; cases V2 <;> simp) | (cases V2 <;> simp), rfl⟩
    case rest =>
      obtain ⟨rfl, rfl⟩ := hcut
      cases B2
      rotate_left
      · go_wp2
        go_ret
        exact ⟨rfl, hxw4⟩
      go_upto_region 8 with fail
      go_cut [70] (fun s wx => s = .bool B3 ∧ wx = wc)
      case first =>
        have bc := b4.cell
        cases hq : key.toList == tt.toList
        all_goals
          go_wp2
          go_meet
          case rel => exact ⟨by rw [← HB3.out, hq], rfl⟩
      case rest =>
        obtain ⟨rfl, rfl⟩ := hcut
        cases B3
        rotate_left
        · go_wp2
          go_ret
          exact ⟨rfl, hxw4⟩
        go_upto_region 10 with fail
        go_cut [76] (fun s wx => s = .bool B4 ∧ wx = wc)
        case first =>
          have bc := b4.cell
          cases hk2 : k == 2
          · go_wp2
            go_meet
            case rel => exact ⟨by rw [← HB4.out, hk2]; rfl, rfl⟩
          go_wp2_with fail
          refine (prefixOf_any key tt _).mono ?_
          rintro e w' ⟨rfl, rfl⟩
          generalize belowL (bs key) (bs tt) = V1 at *
          cases V1
          rotate_left
          · go_wp2
            go_meet
            case rel => exact ⟨by rw [← HB4.out, hk2]; rfl, rfl⟩
          go_wp2_with fail
          refine (prefixOf_any tt key _).mono ?_
          rintro e w' ⟨rfl, rfl⟩
          generalize belowL (bs tt) (bs key) = V2 at *
          go_wp2
          go_meet
          case rel => exact ⟨by rw [← HB4.out, hk2]; simp, rfl⟩
        case rest =>
          obtain ⟨rfl, rfl⟩ := hcut
          cases B4
          rotate_left
          · go_wp2
            go_ret
            exact ⟨rfl, hxw4⟩
          have bc := b4.cell
          cases O
          · have h5 := HB5.out
            cases B5
            rotate_left
            · cases h5
            clear h5
            go_wp2
            go_ret
            exact ⟨rfl, hxw4⟩
          cases hq : old.toList == new.toList
          all_goals
            have h5 : B5 = (old.toList == new.toList) := by rw [← HB5.out]; rfl
            rw [hq] at h5
            subst h5
            go_wp2
            go_ret
            exact ⟨rfl, hxw4⟩
end Go.Proofs.YtcmceeihdhcmnaaGreatDoor

namespace Go.Proofs.YtcmceeihdhcmnaaGreatDoor
open Go.RowKit

/-- a rule's value -/
abbrev ruX (r : Ru) : Value := .agg #[.int .i64 r.kind, S r.key, S r.tt, S r.old, S r.new]
theorem ruX_l (r : RB) : ruX r.l = ruV r := rfl
set_option maxRecDepth 100000 in
set_option maxHeartbeats 4000000 in
theorem Inverse_any (r : RB) (w : World) (hg : Good w) (hs : SmallR r) :
    Calls Tryz.prog 11 #[ruV r] w fun e w' => e = .returned (.tuple #[ruX (invL r.l).1, .int .i64 (invL r.l).2]) ∧ Ext w w' := by
  have hck := fun W (h : Ext w W) => CheckRule_any r W (hg.ext h) hs
  by_cases h0 : ruErr r.l = 0
  · have hR := right_of h0
    have hi : invL r.l = (if r.l.kind = 1 ∨ r.l.kind = 2 then (⟨r.l.kind, r.l.tt, r.l.key, r.l.old, r.l.new⟩, 0) else if r.l.kind = 7 then (⟨r.l.kind, r.l.key, r.l.tt, r.l.new, r.l.old⟩, 0) else if r.l.kind = 8 then (r.l, 0) else (zeroR, 12)) := by rw [invL, if_neg (by rw [h0]; decide)]
    rw [hi]
    rw [h0] at hck
    have HCK := Lib.hid hck
    have hkc := kind_cases hR.lo hR.hi
    clear hck h0 hR hi
    obtain ⟨k, key, tt, old, new⟩ := r
    dsimp only [RB.l] at hkc
    dsimp only [RB.l]
    rcases hkc with rfl | rfl | rfl | rfl | rfl | rfl | rfl | rfl
    all_goals
      go_enter Tryz.func11, Tryz.ntmps11
      go_wp2_with fail
      refine (HCK.out _ (by repeat (first | with_reducible exact Ext.refl _ | with_reducible assumption | with_reducible apply Ext.drewN | with_reducible apply Ext.drew | with_reducible apply Ext.alloc | exact Ext.refl _ | assumption | apply Ext.drewN | apply Ext.drew | apply Ext.alloc))).mono ?_
      rintro e w1 ⟨rfl, hx1⟩
      have bA := ((Blk.new w 23 _).alloc _).ext hx1
      have bB := (Blk.new (w.alloc _) 23 _).ext hx1
      rw [World.size_alloc] at bB
      have hxw : Ext w w1 := Ext.trans (by repeat (first | with_reducible exact Ext.refl _ | with_reducible assumption | with_reducible apply Ext.drewN | with_reducible apply Ext.drew | with_reducible apply Ext.alloc | exact Ext.refl _ | assumption | apply Ext.drewN | apply Ext.drew | apply Ext.alloc)) hx1
      clear hx1
      have cA := bA.cell; have fA := bA.free; have zA := bA.lt
      have cB := bB.cell; have fB := bB.free; have zB := bB.lt
      go_wp2
      have hnA : ¬ w.heap.size = w.heap.size + 1 := by omega
      have hnB : ¬ w.heap.size + 1 = w.heap.size := by omega
    · exact bodyPost_ret (v := .tuple #[ruX ⟨1, bs tt, bs key, bs old, bs new⟩, .int .i64 0]) (by simp [results, Tryz.results11, go_sem, cB]) rfl ⟨rfl, (by repeat (first | with_reducible exact Ext.refl _ | with_reducible assumption | with_reducible apply Ext.drewN | with_reducible apply Ext.drew | with_reducible apply Ext.alloc | ((with_reducible refine Ext.setCell ?_ ?_ _); rotate_left; (first | (dsimp only; omega) | (simp; omega) | skip)) | exact Ext.refl _ | assumption | apply Ext.drewN | apply Ext.drew | apply Ext.alloc | refine Ext.setCell ?_ (by first | (dsimp only; omega) | (simp; omega)) _))⟩
    · exact bodyPost_ret (v := .tuple #[ruX ⟨2, bs tt, bs key, bs old, bs new⟩, .int .i64 0]) (by simp [results, Tryz.results11, go_sem, cB]) rfl ⟨rfl, (by repeat (first | with_reducible exact Ext.refl _ | with_reducible assumption | with_reducible apply Ext.drewN | with_reducible apply Ext.drew | with_reducible apply Ext.alloc | ((with_reducible refine Ext.setCell ?_ ?_ _); rotate_left; (first | (dsimp only; omega) | (simp; omega) | skip)) | exact Ext.refl _ | assumption | apply Ext.drewN | apply Ext.drew | apply Ext.alloc | refine Ext.setCell ?_ (by first | (dsimp only; omega) | (simp; omega)) _))⟩
    · exact bodyPost_ret (v := .tuple #[ruX zeroR, .int .i64 12]) (by simp [results, Tryz.results11, go_sem, cB, zeroR]) rfl ⟨rfl, (by repeat (first | with_reducible exact Ext.refl _ | with_reducible assumption | with_reducible apply Ext.drewN | with_reducible apply Ext.drew | with_reducible apply Ext.alloc | ((with_reducible refine Ext.setCell ?_ ?_ _); rotate_left; (first | (dsimp only; omega) | (simp; omega) | skip)) | exact Ext.refl _ | assumption | apply Ext.drewN | apply Ext.drew | apply Ext.alloc | refine Ext.setCell ?_ (by first | (dsimp only; omega) | (simp; omega)) _))⟩
    · exact bodyPost_ret (v := .tuple #[ruX zeroR, .int .i64 12]) (by simp [results, Tryz.results11, go_sem, cB, zeroR]) rfl ⟨rfl, (by repeat (first | with_reducible exact Ext.refl _ | with_reducible assumption | with_reducible apply Ext.drewN | with_reducible apply Ext.drew | with_reducible apply Ext.alloc | ((with_reducible refine Ext.setCell ?_ ?_ _); rotate_left; (first | (dsimp only; omega) | (simp; omega) | skip)) | exact Ext.refl _ | assumption | apply Ext.drewN | apply Ext.drew | apply Ext.alloc | refine Ext.setCell ?_ (by first | (dsimp only; omega) | (simp; omega)) _))⟩
    · exact bodyPost_ret (v := .tuple #[ruX zeroR, .int .i64 12]) (by simp [results, Tryz.results11, go_sem, cB, zeroR]) rfl ⟨rfl, (by repeat (first | with_reducible exact Ext.refl _ | with_reducible assumption | with_reducible apply Ext.drewN | with_reducible apply Ext.drew | with_reducible apply Ext.alloc | ((with_reducible refine Ext.setCell ?_ ?_ _); rotate_left; (first | (dsimp only; omega) | (simp; omega) | skip)) | exact Ext.refl _ | assumption | apply Ext.drewN | apply Ext.drew | apply Ext.alloc | refine Ext.setCell ?_ (by first | (dsimp only; omega) | (simp; omega)) _))⟩
    · exact bodyPost_ret (v := .tuple #[ruX zeroR, .int .i64 12]) (by simp [results, Tryz.results11, go_sem, cB, zeroR]) rfl ⟨rfl, (by repeat (first | with_reducible exact Ext.refl _ | with_reducible assumption | with_reducible apply Ext.drewN | with_reducible apply Ext.drew | with_reducible apply Ext.alloc | ((with_reducible refine Ext.setCell ?_ ?_ _); rotate_left; (first | (dsimp only; omega) | (simp; omega) | skip)) | exact Ext.refl _ | assumption | apply Ext.drewN | apply Ext.drew | apply Ext.alloc | refine Ext.setCell ?_ (by first | (dsimp only; omega) | (simp; omega)) _))⟩
    · exact bodyPost_ret (v := .tuple #[ruX ⟨7, bs key, bs tt, bs new, bs old⟩, .int .i64 0]) (by simp [results, Tryz.results11, go_sem, cB]) rfl ⟨rfl, (by repeat (first | with_reducible exact Ext.refl _ | with_reducible assumption | with_reducible apply Ext.drewN | with_reducible apply Ext.drew | with_reducible apply Ext.alloc | ((with_reducible refine Ext.setCell ?_ ?_ _); rotate_left; (first | (dsimp only; omega) | (simp; omega) | skip)) | exact Ext.refl _ | assumption | apply Ext.drewN | apply Ext.drew | apply Ext.alloc | refine Ext.setCell ?_ (by first | (dsimp only; omega) | (simp; omega)) _))⟩
    · exact bodyPost_ret (v := .tuple #[ruX ⟨8, bs key, bs tt, bs old, bs new⟩, .int .i64 0]) (by simp [results, Tryz.results11, go_sem, cB]) rfl ⟨rfl, (by repeat (first | with_reducible exact Ext.refl _ | with_reducible assumption | with_reducible apply Ext.drewN | with_reducible apply Ext.drew | with_reducible apply Ext.alloc | ((with_reducible refine Ext.setCell ?_ ?_ _); rotate_left; (first | (dsimp only; omega) | (simp; omega) | skip)) | exact Ext.refl _ | assumption | apply Ext.drewN | apply Ext.drew | apply Ext.alloc | refine Ext.setCell ?_ (by first | (dsimp only; omega) | (simp; omega)) _))⟩
  · have hi : invL r.l = (zeroR, ruErr r.l) := by rw [invL, if_pos h0]
    have hb : (ruErr r.l != 0) = true := by rw [bne_iff_ne]; exact h0
    rw [hi]
    generalize ruErr r.l = E at *
    have HCK := Lib.hid hck
    clear hck h0 hi
    obtain ⟨k, key, tt, old, new⟩ := r
    go_enter Tryz.func11, Tryz.ntmps11
    go_wp2_with fail
    refine (HCK.out _ (by repeat (first | with_reducible exact Ext.refl _ | with_reducible assumption | with_reducible apply Ext.drewN | with_reducible apply Ext.drew | with_reducible apply Ext.alloc | exact Ext.refl _ | assumption | apply Ext.drewN | apply Ext.drew | apply Ext.alloc))).mono ?_
    rintro e w1 ⟨rfl, hx1⟩
    have bB := (Blk.new (w.alloc (.cells #[.int .i64 k, .string key, .string tt, .string old, .string new] 23)) 23 _).ext hx1
    rw [World.size_alloc] at bB
    have hxw : Ext w w1 := Ext.trans (by repeat (first | with_reducible exact Ext.refl _ | with_reducible assumption | with_reducible apply Ext.drewN | with_reducible apply Ext.drew | with_reducible apply Ext.alloc | exact Ext.refl _ | assumption | apply Ext.drewN | apply Ext.drew | apply Ext.alloc)) hx1
    clear hx1
    have cB := bB.cell; have fB := bB.free; have zB := bB.lt
    go_wp2
    exact bodyPost_ret (v := .tuple #[ruX zeroR, .int .i64 E]) (by simp [results, Tryz.results11, go_sem, cB, zeroR]) rfl ⟨rfl, (by repeat (first | with_reducible exact Ext.refl _ | with_reducible assumption | with_reducible apply Ext.drewN | with_reducible apply Ext.drew | with_reducible apply Ext.alloc | ((with_reducible refine Ext.setCell ?_ ?_ _); rotate_left; (first | (dsimp only; omega) | (simp; omega) | skip)) | exact Ext.refl _ | assumption | apply Ext.drewN | apply Ext.drew | apply Ext.alloc | refine Ext.setCell ?_ (by first | (dsimp only; omega) | (simp; omega)) _))⟩
set_option maxRecDepth 100000 in
set_option maxHeartbeats 4000000 in
theorem InverseOf_any (r : RB) (w : World) (hg : Good w) (hs : SmallR r) :
    Calls Tryz.prog 12 #[ruV r] w fun e w' => e = .returned (.tuple #[ruX (invL r.l).1, .int .i64 (invL r.l).2]) ∧ Ext w w' := by
  rw [← refInv_eq]
  have hck := fun W (h : Ext w W) => RuleError_any r W (hg.ext h) hs
  by_cases h0 : ruErr r.l = 0
  · have hR := right_of h0
    have hi : refInv r.l = (if r.l.kind = 1 ∨ r.l.kind = 2 then (⟨r.l.kind, r.l.tt, r.l.key, [], []⟩, 0) else if r.l.kind = 7 then (⟨r.l.kind, r.l.key, [], r.l.new, r.l.old⟩, 0) else if r.l.kind = 8 then (r.l, 0) else (zeroR, 12)) := by rw [refInv, if_neg (by rw [h0]; decide)]
    rw [hi]
    rw [h0] at hck
    have HCK := Lib.hid hck
    have hkc := kind_cases hR.lo hR.hi
    clear hck h0 hR hi
    obtain ⟨k, key, tt, old, new⟩ := r
    dsimp only [RB.l] at hkc
    dsimp only [RB.l]
    rcases hkc with rfl | rfl | rfl | rfl | rfl | rfl | rfl | rfl
    all_goals
      go_enter Tryz.func12, Tryz.ntmps12
      go_wp2_with fail
      refine (HCK.out _ (by repeat (first | with_reducible exact Ext.refl _ | with_reducible assumption | with_reducible apply Ext.drewN | with_reducible apply Ext.drew | with_reducible apply Ext.alloc | exact Ext.refl _ | assumption | apply Ext.drewN | apply Ext.drew | apply Ext.alloc))).mono ?_
      rintro e w1 ⟨rfl, hx1⟩
      have bA := ((Blk.new w 23 _).alloc _).ext hx1
      have bB := (Blk.new (w.alloc _) 23 _).ext hx1
      rw [World.size_alloc] at bB
      have hxw : Ext w w1 := Ext.trans (by repeat (first | with_reducible exact Ext.refl _ | with_reducible assumption | with_reducible apply Ext.drewN | with_reducible apply Ext.drew | with_reducible apply Ext.alloc | exact Ext.refl _ | assumption | apply Ext.drewN | apply Ext.drew | apply Ext.alloc)) hx1
      clear hx1
      have cA := bA.cell; have fA := bA.free; have zA := bA.lt
      have cB := bB.cell; have fB := bB.free; have zB := bB.lt
      go_wp2
      have hnA : ¬ w.heap.size = w.heap.size + 1 := by omega
      have hnB : ¬ w.heap.size + 1 = w.heap.size := by omega
    · exact bodyPost_ret (v := .tuple #[ruX ⟨1, bs tt, bs key, [], []⟩, .int .i64 0]) (by simp [results, Tryz.results12, go_sem, cB]) rfl ⟨rfl, (by repeat (first | with_reducible exact Ext.refl _ | with_reducible assumption | with_reducible apply Ext.drewN | with_reducible apply Ext.drew | with_reducible apply Ext.alloc | ((with_reducible refine Ext.setCell ?_ ?_ _); rotate_left; (first | (dsimp only; omega) | (simp; omega) | skip)) | exact Ext.refl _ | assumption | apply Ext.drewN | apply Ext.drew | apply Ext.alloc | refine Ext.setCell ?_ (by first | (dsimp only; omega) | (simp; omega)) _))⟩
    · exact bodyPost_ret (v := .tuple #[ruX ⟨2, bs tt, bs key, [], []⟩, .int .i64 0]) (by simp [results, Tryz.results12, go_sem, cB]) rfl ⟨rfl, (by repeat (first | with_reducible exact Ext.refl _ | with_reducible assumption | with_reducible apply Ext.drewN | with_reducible apply Ext.drew | with_reducible apply Ext.alloc | ((with_reducible refine Ext.setCell ?_ ?_ _); rotate_left; (first | (dsimp only; omega) | (simp; omega) | skip)) | exact Ext.refl _ | assumption | apply Ext.drewN | apply Ext.drew | apply Ext.alloc | refine Ext.setCell ?_ (by first | (dsimp only; omega) | (simp; omega)) _))⟩
    · exact bodyPost_ret (v := .tuple #[ruX zeroR, .int .i64 12]) (by simp [results, Tryz.results12, go_sem, cB, zeroR]) rfl ⟨rfl, (by repeat (first | with_reducible exact Ext.refl _ | with_reducible assumption | with_reducible apply Ext.drewN | with_reducible apply Ext.drew | with_reducible apply Ext.alloc | ((with_reducible refine Ext.setCell ?_ ?_ _); rotate_left; (first | (dsimp only; omega) | (simp; omega) | skip)) | exact Ext.refl _ | assumption | apply Ext.drewN | apply Ext.drew | apply Ext.alloc | refine Ext.setCell ?_ (by first | (dsimp only; omega) | (simp; omega)) _))⟩
    · exact bodyPost_ret (v := .tuple #[ruX zeroR, .int .i64 12]) (by simp [results, Tryz.results12, go_sem, cB, zeroR]) rfl ⟨rfl, (by repeat (first | with_reducible exact Ext.refl _ | with_reducible assumption | with_reducible apply Ext.drewN | with_reducible apply Ext.drew | with_reducible apply Ext.alloc | ((with_reducible refine Ext.setCell ?_ ?_ _); rotate_left; (first | (dsimp only; omega) | (simp; omega) | skip)) | exact Ext.refl _ | assumption | apply Ext.drewN | apply Ext.drew | apply Ext.alloc | refine Ext.setCell ?_ (by first | (dsimp only; omega) | (simp; omega)) _))⟩
    · exact bodyPost_ret (v := .tuple #[ruX zeroR, .int .i64 12]) (by simp [results, Tryz.results12, go_sem, cB, zeroR]) rfl ⟨rfl, (by repeat (first | with_reducible exact Ext.refl _ | with_reducible assumption | with_reducible apply Ext.drewN | with_reducible apply Ext.drew | with_reducible apply Ext.alloc | ((with_reducible refine Ext.setCell ?_ ?_ _); rotate_left; (first | (dsimp only; omega) | (simp; omega) | skip)) | exact Ext.refl _ | assumption | apply Ext.drewN | apply Ext.drew | apply Ext.alloc | refine Ext.setCell ?_ (by first | (dsimp only; omega) | (simp; omega)) _))⟩
    · exact bodyPost_ret (v := .tuple #[ruX zeroR, .int .i64 12]) (by simp [results, Tryz.results12, go_sem, cB, zeroR]) rfl ⟨rfl, (by repeat (first | with_reducible exact Ext.refl _ | with_reducible assumption | with_reducible apply Ext.drewN | with_reducible apply Ext.drew | with_reducible apply Ext.alloc | ((with_reducible refine Ext.setCell ?_ ?_ _); rotate_left; (first | (dsimp only; omega) | (simp; omega) | skip)) | exact Ext.refl _ | assumption | apply Ext.drewN | apply Ext.drew | apply Ext.alloc | refine Ext.setCell ?_ (by first | (dsimp only; omega) | (simp; omega)) _))⟩
    · exact bodyPost_ret (v := .tuple #[ruX ⟨7, bs key, [], bs new, bs old⟩, .int .i64 0]) (by simp [results, Tryz.results12, go_sem, cB]) rfl ⟨rfl, (by repeat (first | with_reducible exact Ext.refl _ | with_reducible assumption | with_reducible apply Ext.drewN | with_reducible apply Ext.drew | with_reducible apply Ext.alloc | ((with_reducible refine Ext.setCell ?_ ?_ _); rotate_left; (first | (dsimp only; omega) | (simp; omega) | skip)) | exact Ext.refl _ | assumption | apply Ext.drewN | apply Ext.drew | apply Ext.alloc | refine Ext.setCell ?_ (by first | (dsimp only; omega) | (simp; omega)) _))⟩
    · exact bodyPost_ret (v := .tuple #[ruX ⟨8, bs key, bs tt, bs old, bs new⟩, .int .i64 0]) (by simp [results, Tryz.results12, go_sem, cB]) rfl ⟨rfl, (by repeat (first | with_reducible exact Ext.refl _ | with_reducible assumption | with_reducible apply Ext.drewN | with_reducible apply Ext.drew | with_reducible apply Ext.alloc | ((with_reducible refine Ext.setCell ?_ ?_ _); rotate_left; (first | (dsimp only; omega) | (simp; omega) | skip)) | exact Ext.refl _ | assumption | apply Ext.drewN | apply Ext.drew | apply Ext.alloc | refine Ext.setCell ?_ (by first | (dsimp only; omega) | (simp; omega)) _))⟩
  · have hi : refInv r.l = (zeroR, ruErr r.l) := by rw [refInv, if_pos h0]
    have hb : (ruErr r.l != 0) = true := by rw [bne_iff_ne]; exact h0
    rw [hi]
    generalize ruErr r.l = E at *
    have HCK := Lib.hid hck
    clear hck h0 hi
    obtain ⟨k, key, tt, old, new⟩ := r
    go_enter Tryz.func12, Tryz.ntmps12
    go_wp2_with fail
    refine (HCK.out _ (by repeat (first | with_reducible exact Ext.refl _ | with_reducible assumption | with_reducible apply Ext.drewN | with_reducible apply Ext.drew | with_reducible apply Ext.alloc | exact Ext.refl _ | assumption | apply Ext.drewN | apply Ext.drew | apply Ext.alloc))).mono ?_
    rintro e w1 ⟨rfl, hx1⟩
    have bB := (Blk.new (w.alloc (.cells #[.int .i64 k, .string key, .string tt, .string old, .string new] 23)) 23 _).ext hx1
    rw [World.size_alloc] at bB
    have hxw : Ext w w1 := Ext.trans (by repeat (first | with_reducible exact Ext.refl _ | with_reducible assumption | with_reducible apply Ext.drewN | with_reducible apply Ext.drew | with_reducible apply Ext.alloc | exact Ext.refl _ | assumption | apply Ext.drewN | apply Ext.drew | apply Ext.alloc)) hx1
    clear hx1
    have cB := bB.cell; have fB := bB.free; have zB := bB.lt
    go_wp2
    exact bodyPost_ret (v := .tuple #[ruX zeroR, .int .i64 E]) (by simp [results, Tryz.results12, go_sem, cB, zeroR]) rfl ⟨rfl, (by repeat (first | with_reducible exact Ext.refl _ | with_reducible assumption | with_reducible apply Ext.drewN | with_reducible apply Ext.drew | with_reducible apply Ext.alloc | ((with_reducible refine Ext.setCell ?_ ?_ _); rotate_left; (first | (dsimp only; omega) | (simp; omega) | skip)) | exact Ext.refl _ | assumption | apply Ext.drewN | apply Ext.drew | apply Ext.alloc | refine Ext.setCell ?_ (by first | (dsimp only; omega) | (simp; omega)) _))⟩
theorem RQuoted_any (s : ByteArray) (w : World) (hg : Good w) (hs : s.size ≤ 2097152) :
    Calls Tryz.prog 68 #[.string s] w fun e w' => e = .returned (S (quoteL (bs s))) ∧ Ext w w' := by
  have hr1 : ∀ W, Ext w W → Calls Tryz.prog 126 #[.string s, .string ⟨#[92]⟩, .string ⟨#[92, 92]⟩] W fun e w' => ∃ x : ByteArray, e = .returned (.string x) ∧ bs x = subst1 92 [92, 92] (bs s) ∧ x.size ≤ 4194304 ∧ Ext W w' := fun W hW => by
    obtain ⟨m, hm⟩ := (hg.ext hW).maxLen
    have hc : Lib.countB s ⟨#[92]⟩ ≤ s.size := by
      rw [← bs_length]
      rw [show Lib.countB s ⟨#[92]⟩ = (bs s).count 92 from Lib.count_one 92 (bs s)]
      exact List.count_le_length
    refine (Tryz.strings_ReplaceAll s ⟨#[92]⟩ ⟨#[92, 92]⟩ m W (by omega) hm (by decide) (by show s.size + Lib.countB s ⟨#[92]⟩ * 2 ≤ _; omega)).mono fun e w' ⟨h, hb⟩ => ?_
    have hl := subst1_len 92 [92, 92] (bs s) (by decide)
    rw [bs_length] at hl
    have he : Lib.replaceAll s.data.toList [92] [92, 92] = subst1 92 [92, 92] (bs s) := replaceAll_one 92 [92, 92] _ (by decide)
    exact ⟨_, h, by rw [bs_mk]; exact he, by rw [← bs_length, bs_mk]; show (Lib.replaceAll s.data.toList [92] [92, 92]).length ≤ _; rw [he]; omega, hb⟩
  have hr2 : ∀ W x, Ext w W → x.size ≤ 4194304 → Calls Tryz.prog 126 #[.string x, .string ⟨#[34]⟩, .string ⟨#[92, 34]⟩] W fun e w' => ∃ y : ByteArray, e = .returned (.string y) ∧ bs y = subst1 34 [92, 34] (bs x) ∧ y.size ≤ 8388608 ∧ Ext W w' := fun W x hW hx => by
    obtain ⟨m, hm⟩ := (hg.ext hW).maxLen
    have hc : Lib.countB x ⟨#[34]⟩ ≤ x.size := by
      rw [← bs_length]
      rw [show Lib.countB x ⟨#[34]⟩ = (bs x).count 34 from Lib.count_one 34 (bs x)]
      exact List.count_le_length
    refine (Tryz.strings_ReplaceAll x ⟨#[34]⟩ ⟨#[92, 34]⟩ m W (by omega) hm (by decide) (by show x.size + Lib.countB x ⟨#[34]⟩ * 2 ≤ _; omega)).mono fun e w' ⟨h, hb⟩ => ?_
    have hl := subst1_len 34 [92, 34] (bs x) (by decide)
    rw [bs_length] at hl
    have he : Lib.replaceAll x.data.toList [34] [92, 34] = subst1 34 [92, 34] (bs x) := replaceAll_one 34 [92, 34] _ (by decide)
    exact ⟨_, h, by rw [bs_mk]; exact he, by rw [← bs_length, bs_mk]; show (Lib.replaceAll x.data.toList [34] [92, 34]).length ≤ _; rw [he]; omega, hb⟩
  have HR1 := Lib.hid hr1
  have HR2 := Lib.hid hr2
  have HQ := Lib.hid (quoteL_eq (bs s))
  clear hr1 hr2
  go_enter Tryz.func68, Tryz.ntmps68
  go_wp2_with fail
  refine (HR1.out _ (Ext.refl _)).mono ?_
  rintro e w1 ⟨x, rfl, hb1, hz1, hx1⟩
  have HB1 := Lib.hid hb1
  clear hb1
  go_wp2_with fail
  refine (HR2.out _ _ hx1 hz1).mono ?_
  rintro e w2 ⟨y, rfl, hb2, hz2, hx2⟩
  have HB2 := Lib.hid hb2
  clear hb2
  go_wp2
  go_ret
  refine ⟨ret_strS ?_, hx1.trans hx2⟩
  rw [HQ.out, bs_append, bs_append, HB2.out, HB1.out, esc_two]
end Go.Proofs.YtcmceeihdhcmnaaGreatDoor
