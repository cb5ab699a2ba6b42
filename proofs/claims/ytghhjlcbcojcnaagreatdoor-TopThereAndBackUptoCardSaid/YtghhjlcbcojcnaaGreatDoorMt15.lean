/- Contract of outref2.RuleError. (Printed by gen/rulb.py.) Contracts of migrate.Inverse, PrintRule, and of outref2.InverseOf, Quoted, RuleText. Contracts of migrate.PrintRule and of outref2.RuleText. Contract of migrate.quoted. -/
import Derived.Test.YtghhjlcbcojcnaaGreatDoorMt14
import Derived.Deep.RegionHeld3

namespace Go.Proofs.YtghhjlcbcojcnaaGreatDoor
open Go.RowKit

set_option maxHeartbeats 16000000 in
set_option maxRecDepth 100000 in
theorem RuleError_any (r : RB) (w : World) (hg : Good w) (hs : SmallR r) :
    Calls Tryz.prog 12 #[ruV r] w fun e w' => e = .returned (.int .i64 (ruErr r.l)) ∧ Ext w w' := by
  obtain ⟨k, key, tt, old, new⟩ := r
  obtain ⟨s1, s2, s3, s4⟩ := hs
  dsimp only at s1 s2 s3 s4
  dsimp only [RB.l]
  rw [← refErrR_eq]
  by_cases hk : k < 1 ∨ 8 < k
  · have hE : refErrR ⟨k, bs key, bs tt, bs old, bs new⟩ = 1 := by rw [refErrR_eq]; exact ru_kind (r := ⟨k, bs key, bs tt, bs old, bs new⟩) hk
    have he : ruWord k = [] := emp_iff.1 ((word_empty k).2 hk)
    rw [hE]
    clear hE hk
    have hw := ruleWord_any k
    rw [he] at hw
    have HWD := Lib.hid hw
    clear hw he
    go_enter Tryz.func12, Tryz.ntmps12
    go_wp2_with fail
    refine (HWD.out _).mono ?_
    rintro e w' ⟨rfl, rfl⟩
    go_wp2
    go_ret
    exact ⟨rfl, (by repeat (first | with_reducible exact Ext.refl _ | with_reducible assumption | with_reducible apply Ext.drewN | with_reducible apply Ext.drew | with_reducible apply Ext.alloc | exact Ext.refl _ | assumption | apply Ext.drewN | apply Ext.drew | apply Ext.alloc))⟩
  have h1 : ¬ k < 1 := by omega
  have h8 : ¬ 8 < k := by omega
  have hwd : ∃ x : ByteArray, S (ruWord k) = .string x ∧ x.toList.isEmpty = false := by
    refine ⟨⟨(ruWord k).toArray⟩, rfl, ?_⟩
    have : ¬ (ruWord k).isEmpty = true := fun x => hk ((word_empty k).1 x)
    rw [isE, bs_mk]
    simpa using this
  obtain ⟨wd, hwv, hwe⟩ := hwd
  rw [ref_tests k key tt old new h1 h8]
  have hu := ruleWord_any k
  rw [hwv] at hu
  clear hwv hk
  have HU := Lib.hid hu
  clear hu
  generalize useTo k = T at *
  generalize useOld k = O at *
  generalize useNew k = N at *
  generalize hB1 : (!pathL (bs key) || T && !pathL (bs tt)) = B1
  generalize hB2 : (!T && !tt.toList.isEmpty || !O && !old.toList.isEmpty || !N && !new.toList.isEmpty || !valueL (bs old) || !valueL (bs new)) = B2
  generalize hB3 : (key.toList == tt.toList) = B3
  generalize hB4 : (k == 2 && (belowL (bs key) (bs tt) || belowL (bs tt) (bs key))) = B4
  generalize hB5 : (O && (old.toList == new.toList)) = B5
  have HB1 := Lib.hid hB1
  have HB2 := Lib.hid hB2
  have HB3 := Lib.hid hB3
  have HB4 := Lib.hid hB4
  have HB5 := Lib.hid hB5
  clear hB1 hB2 hB3 hB4 hB5
  generalize hW : w.alloc (.cells #[.int .i64 k, .string key, .string tt, .string old, .string new] 23) = W
  have hxW : Ext w W := by rw [← hW]; exact (by repeat (first | with_reducible exact Ext.refl _ | with_reducible assumption | with_reducible apply Ext.drewN | with_reducible apply Ext.drew | with_reducible apply Ext.alloc | exact Ext.refl _ | assumption | apply Ext.drewN | apply Ext.drew | apply Ext.alloc))
  have bW : Blk W w.heap.size 23 #[.int .i64 k, .string key, .string tt, .string old, .string new] := by rw [← hW]; exact Blk.new _ _ _
  have HW := Lib.hid hW
  clear hW
  go_enter Tryz.func12, Tryz.ntmps12
  go_wp2_with fail
  refine (HU.out _).mono ?_
  rintro e w' ⟨rfl, rfl⟩
  go_upto_region 4 with fail
  rw [HW.out]
  go_cut [18] (fun s wx => s = .bool B1 ∧ Ext W wx)
  case first =>
    have bc := bW.cell
    go_wp2_with fail
    refine (PathOf_any key _ (hg.ext hxW) s1).mono ?_
    rintro e w1 ⟨rfl, hx1⟩
    have bc1 := (bW.ext hx1).cell
    generalize pathL (bs key) = P at *
    cases P
    · go_wp2
      go_meet
      case rel => exact ⟨by rw [← HB1.out]; rfl, hx1⟩
    cases T
    · go_wp2
      go_meet
      case rel => exact ⟨by rw [← HB1.out]; rfl, hx1⟩
    go_wp2_with fail
    refine (PathOf_any tt _ (hg.ext (hxW.trans hx1)) s2).mono ?_
    rintro e w2 ⟨rfl, hx2⟩
    generalize pathL (bs tt) = P2 at *
    cases P2
    all_goals
      go_wp2
      go_meet
      case rel => exact ⟨by rw [← HB1.out]; rfl, hx1.trans hx2⟩
  case rest =>
    obtain ⟨rfl, hx4⟩ := hcut
    have b4 := bW.ext hx4
    have hxw4 := hxW.trans hx4
    clear hx4 bW
    rename_i wA
    generalize hwA : wc = w4 at *
    clear hwA
    cases B1
    rotate_left
    · go_wp2
      go_ret
      exact ⟨rfl, hxw4⟩
    go_upto_region 6 with fail
    go_cut [32] (fun s wx => s = .bool B2 ∧ wx = w4)
    case first =>
      have bc := b4.cell
      rcases tri T tt.toList.isEmpty with ⟨rfl, ht⟩ | rfl | ⟨rfl, ht⟩
      · go_wp2
        go_meet
        case rel => exact ⟨by rw [← HB2.out, ht]; rfl, rfl⟩
      all_goals
        rcases tri O old.toList.isEmpty with ⟨rfl, ho⟩ | rfl | ⟨rfl, ho⟩
        · go_wp2
          go_meet
          case rel => exact ⟨by rw [← HB2.out, ho]; first | (rw [ht]; rfl) | simp, rfl⟩
        all_goals
          rcases tri N new.toList.isEmpty with ⟨rfl, hn⟩ | rfl | ⟨rfl, hn⟩
          · go_wp2
            go_meet
            case rel => exact ⟨by rw [← HB2.out, hn]; simp, rfl⟩
          all_goals
            go_wp2_with fail
            refine (ValueOf_any old _ s3).mono ?_
            rintro e w' ⟨rfl, rfl⟩
            generalize valueL (bs old) = V1 at *
            cases V1
            · go_wp2
              go_meet
              case rel => exact ⟨by rw [← HB2.out]; simp, rfl⟩
            go_wp2_with fail
            refine (ValueOf_any new _ s4).mono ?_
            rintro e w' ⟨rfl, rfl⟩
            generalize valueL (bs new) = V2 at *
            go_wp2
            go_meet
            case rel => exact ⟨by rw [← HB2.out]; first | (rw [ht, ho, hn]; cases V2 <;> rfl) | (rw [ht, ho]; cases V2 <;> rfl) | (rw [ht, hn]; cases V2 <;> rfl) | (rw [ho, hn]; cases V2 <;> rfl) | (rw [ht]; cases V2 <;> simp) | (rw [ho]; cases V2 <;> simp) | (rw [hn]; cases V2 <;> simp) | (cases V2 <;> simp), rfl⟩
    case rest =>
      obtain ⟨rfl, rfl⟩ := hcut
      cases B2
      rotate_left
      · go_wp2
        go_ret
        exact ⟨rfl, hxw4⟩
      go_upto_region 8 with fail
      go_cut [70] (fun s wx => s = .bool B3 ∧ wx = wc)
      case first =>
        have bc := b4.cell
        cases hq : key.toList == tt.toList
        all_goals
          go_wp2
          go_meet
          case rel => exact ⟨by rw [← HB3.out, hq], rfl⟩
      case rest =>
        obtain ⟨rfl, rfl⟩ := hcut
        cases B3
        rotate_left
        · go_wp2
          go_ret
          exact ⟨rfl, hxw4⟩
        go_upto_region 10 with fail
        go_cut [76] (fun s wx => s = .bool B4 ∧ wx = wc)
        case first =>
          have bc := b4.cell
          cases hk2 : k == 2
          · go_wp2
            go_meet
            case rel => exact ⟨by rw [← HB4.out, hk2]; rfl, rfl⟩
          go_wp2_with fail
          refine (prefixOf_any key tt _).mono ?_
          rintro e w' ⟨rfl, rfl⟩
          generalize belowL (bs key) (bs tt) = V1 at *
          cases V1
          rotate_left
          · go_wp2
            go_meet
            case rel => exact ⟨by rw [← HB4.out, hk2]; rfl, rfl⟩
          go_wp2_with fail
          refine (prefixOf_any tt key _).mono ?_
          rintro e w' ⟨rfl, rfl⟩
          generalize belowL (bs tt) (bs key) = V2 at *
          go_wp2
          go_meet
          case rel => exact ⟨by rw [← HB4.out, hk2]; simp, rfl⟩
        case rest =>
          obtain ⟨rfl, rfl⟩ := hcut
          cases B4
          rotate_left
          · go_wp2
            go_ret
            exact ⟨rfl, hxw4⟩
          have bc := b4.cell
          cases O
          · have h5 := HB5.out
            cases B5
            rotate_left
            · cases h5
            clear h5
            go_wp2
            go_ret
            exact ⟨rfl, hxw4⟩
          cases hq : old.toList == new.toList
          all_goals
            have h5 : B5 = (old.toList == new.toList) := by rw [← HB5.out]; rfl
            rw [hq] at h5
            subst h5
            go_wp2
            go_ret
            exact ⟨rfl, hxw4⟩
end Go.Proofs.YtghhjlcbcojcnaaGreatDoor

namespace Go.Proofs.YtghhjlcbcojcnaaGreatDoor
open Go.RowKit

/-- a rule's value -/
abbrev ruX (r : Ru) : Value := .agg #[.int .i64 r.kind, S r.key, S r.tt, S r.old, S r.new]
theorem ruX_l (r : RB) : ruX r.l = ruV r := rfl
set_option maxRecDepth 100000 in
set_option maxHeartbeats 4000000 in
theorem Inverse_any (r : RB) (w : World) (hg : Good w) (hs : SmallR r) :
    Calls Tryz.prog 14 #[ruV r] w fun e w' => e = .returned (.tuple #[ruX (invL r.l).1, .int .i64 (invL r.l).2]) ∧ Ext w w' := by
  have hck := fun W (h : Ext w W) => CheckRule_any r W (hg.ext h) hs
  by_cases h0 : ruErr r.l = 0
  · have hR := right_of h0
    have hi : invL r.l = (if r.l.kind = 1 ∨ r.l.kind = 2 then (⟨r.l.kind, r.l.tt, r.l.key, r.l.old, r.l.new⟩, 0) else if r.l.kind = 7 then (⟨r.l.kind, r.l.key, r.l.tt, r.l.new, r.l.old⟩, 0) else if r.l.kind = 8 then (r.l, 0) else (zeroR, 12)) := by rw [invL, if_neg (by rw [h0]; decide)]
    rw [hi]
    rw [h0] at hck
    have HCK := Lib.hid hck
    have hkc := kind_cases hR.lo hR.hi
    clear hck h0 hR hi
    obtain ⟨k, key, tt, old, new⟩ := r
    dsimp only [RB.l] at hkc
    dsimp only [RB.l]
    rcases hkc with rfl | rfl | rfl | rfl | rfl | rfl | rfl | rfl
    all_goals
      go_enter Tryz.func14, Tryz.ntmps14
      go_wp2_with fail
      refine (HCK.out _ (by repeat (first | with_reducible exact Ext.refl _ | with_reducible assumption | with_reducible apply Ext.drewN | with_reducible apply Ext.drew | with_reducible apply Ext.alloc | exact Ext.refl _ | assumption | apply Ext.drewN | apply Ext.drew | apply Ext.alloc))).mono ?_
      rintro e w1 ⟨rfl, hx1⟩
      have bA := ((Blk.new w 23 _).alloc _).ext hx1
      have bB := (Blk.new (w.alloc _) 23 _).ext hx1
      rw [World.size_alloc] at bB
      have hxw : Ext w w1 := Ext.trans (by repeat (first | with_reducible exact Ext.refl _ | with_reducible assumption | with_reducible apply Ext.drewN | with_reducible apply Ext.drew | with_reducible apply Ext.alloc | exact Ext.refl _ | assumption | apply Ext.drewN | apply Ext.drew | apply Ext.alloc)) hx1
      clear hx1
      have cA := bA.cell; have fA := bA.free; have zA := bA.lt
      have cB := bB.cell; have fB := bB.free; have zB := bB.lt
      go_wp2
      have hnA : ¬ w.heap.size = w.heap.size + 1 := by omega
      have hnB : ¬ w.heap.size + 1 = w.heap.size := by omega
    · exact bodyPost_ret (v := .tuple #[ruX ⟨1, bs tt, bs key, bs old, bs new⟩, .int .i64 0]) (by simp [results, Tryz.results14, go_sem, cB]) rfl ⟨rfl, (by repeat (first | with_reducible exact Ext.refl _ | with_reducible assumption | with_reducible apply Ext.drewN | with_reducible apply Ext.drew | with_reducible apply Ext.alloc | ((with_reducible refine Ext.setCell ?_ ?_ _); rotate_left; (first | (dsimp only; omega) | (simp; omega) | skip)) | exact Ext.refl _ | assumption | apply Ext.drewN | apply Ext.drew | apply Ext.alloc | refine Ext.setCell ?_ (by first | (dsimp only; omega) | (simp; omega)) _))⟩
    · exact bodyPost_ret (v := .tuple #[ruX ⟨2, bs tt, bs key, bs old, bs new⟩, .int .i64 0]) (by simp [results, Tryz.results14, go_sem, cB]) rfl ⟨rfl, (by repeat (first | with_reducible exact Ext.refl _ | with_reducible assumption | with_reducible apply Ext.drewN | with_reducible apply Ext.drew | with_reducible apply Ext.alloc | ((with_reducible refine Ext.setCell ?_ ?_ _); rotate_left; (first | (dsimp only; omega) | (simp; omega) | skip)) | exact Ext.refl _ | assumption | apply Ext.drewN | apply Ext.drew | apply Ext.alloc | refine Ext.setCell ?_ (by first | (dsimp only; omega) | (simp; omega)) _))⟩
    · exact bodyPost_ret (v := .tuple #[ruX zeroR, .int .i64 12]) (by simp [results, Tryz.results14, go_sem, cB, zeroR]) rfl ⟨rfl, (by repeat (first | with_reducible exact Ext.refl _ | with_reducible assumption | with_reducible apply Ext.drewN | with_reducible apply Ext.drew | with_reducible apply Ext.alloc | ((with_reducible refine Ext.setCell ?_ ?_ _); rotate_left; (first | (dsimp only; omega) | (simp; omega) | skip)) | exact Ext.refl _ | assumption | apply Ext.drewN | apply Ext.drew | apply Ext.alloc | refine Ext.setCell ?_ (by first | (dsimp only; omega) | (simp; omega)) _))⟩
    · exact bodyPost_ret (v := .tuple #[ruX zeroR, .int .i64 12]) (by simp [results, Tryz.results14, go_sem, cB, zeroR]) rfl ⟨rfl, (by repeat (first | with_reducible exact Ext.refl _ | with_reducible assumption | with_reducible apply Ext.drewN | with_reducible apply Ext.drew | with_reducible apply Ext.alloc | ((with_reducible refine Ext.setCell ?_ ?_ _); rotate_left; (first | (dsimp only; omega) | (simp; omega) | skip)) | exact Ext.refl _ | assumption | apply Ext.drewN | apply Ext.drew | apply Ext.alloc | refine Ext.setCell ?_ (by first | (dsimp only; omega) | (simp; omega)) _))⟩
    · exact bodyPost_ret (v := .tuple #[ruX zeroR, .int .i64 12]) (by simp [results, Tryz.results14, go_sem, cB, zeroR]) rfl ⟨rfl, (by repeat (first | with_reducible exact Ext.refl _ | with_reducible assumption | with_reducible apply Ext.drewN | with_reducible apply Ext.drew | with_reducible apply Ext.alloc | ((with_reducible refine Ext.setCell ?_ ?_ _); rotate_left; (first | (dsimp only; omega) | (simp; omega) | skip)) | exact Ext.refl _ | assumption | apply Ext.drewN | apply Ext.drew | apply Ext.alloc | refine Ext.setCell ?_ (by first | (dsimp only; omega) | (simp; omega)) _))⟩
    · exact bodyPost_ret (v := .tuple #[ruX zeroR, .int .i64 12]) (by simp [results, Tryz.results14, go_sem, cB, zeroR]) rfl ⟨rfl, (by repeat (first | with_reducible exact Ext.refl _ | with_reducible assumption | with_reducible apply Ext.drewN | with_reducible apply Ext.drew | with_reducible apply Ext.alloc | ((with_reducible refine Ext.setCell ?_ ?_ _); rotate_left; (first | (dsimp only; omega) | (simp; omega) | skip)) | exact Ext.refl _ | assumption | apply Ext.drewN | apply Ext.drew | apply Ext.alloc | refine Ext.setCell ?_ (by first | (dsimp only; omega) | (simp; omega)) _))⟩
    · exact bodyPost_ret (v := .tuple #[ruX ⟨7, bs key, bs tt, bs new, bs old⟩, .int .i64 0]) (by simp [results, Tryz.results14, go_sem, cB]) rfl ⟨rfl, (by repeat (first | with_reducible exact Ext.refl _ | with_reducible assumption | with_reducible apply Ext.drewN | with_reducible apply Ext.drew | with_reducible apply Ext.alloc | ((with_reducible refine Ext.setCell ?_ ?_ _); rotate_left; (first | (dsimp only; omega) | (simp; omega) | skip)) | exact Ext.refl _ | assumption | apply Ext.drewN | apply Ext.drew | apply Ext.alloc | refine Ext.setCell ?_ (by first | (dsimp only; omega) | (simp; omega)) _))⟩
    · exact bodyPost_ret (v := .tuple #[ruX ⟨8, bs key, bs tt, bs old, bs new⟩, .int .i64 0]) (by simp [results, Tryz.results14, go_sem, cB]) rfl ⟨rfl, (by repeat (first | with_reducible exact Ext.refl _ | with_reducible assumption | with_reducible apply Ext.drewN | with_reducible apply Ext.drew | with_reducible apply Ext.alloc | ((with_reducible refine Ext.setCell ?_ ?_ _); rotate_left; (first | (dsimp only; omega) | (simp; omega) | skip)) | exact Ext.refl _ | assumption | apply Ext.drewN | apply Ext.drew | apply Ext.alloc | refine Ext.setCell ?_ (by first | (dsimp only; omega) | (simp; omega)) _))⟩
  · have hi : invL r.l = (zeroR, ruErr r.l) := by rw [invL, if_pos h0]
    have hb : (ruErr r.l != 0) = true := by rw [bne_iff_ne]; exact h0
    rw [hi]
    generalize ruErr r.l = E at *
    have HCK := Lib.hid hck
    clear hck h0 hi
    obtain ⟨k, key, tt, old, new⟩ := r
    go_enter Tryz.func14, Tryz.ntmps14
    go_wp2_with fail
    refine (HCK.out _ (by repeat (first | with_reducible exact Ext.refl _ | with_reducible assumption | with_reducible apply Ext.drewN | with_reducible apply Ext.drew | with_reducible apply Ext.alloc | exact Ext.refl _ | assumption | apply Ext.drewN | apply Ext.drew | apply Ext.alloc))).mono ?_
    rintro e w1 ⟨rfl, hx1⟩
    have bB := (Blk.new (w.alloc (.cells #[.int .i64 k, .string key, .string tt, .string old, .string new] 23)) 23 _).ext hx1
    rw [World.size_alloc] at bB
    have hxw : Ext w w1 := Ext.trans (by repeat (first | with_reducible exact Ext.refl _ | with_reducible assumption | with_reducible apply Ext.drewN | with_reducible apply Ext.drew | with_reducible apply Ext.alloc | exact Ext.refl _ | assumption | apply Ext.drewN | apply Ext.drew | apply Ext.alloc)) hx1
    clear hx1
    have cB := bB.cell; have fB := bB.free; have zB := bB.lt
    go_wp2
    exact bodyPost_ret (v := .tuple #[ruX zeroR, .int .i64 E]) (by simp [results, Tryz.results14, go_sem, cB, zeroR]) rfl ⟨rfl, (by repeat (first | with_reducible exact Ext.refl _ | with_reducible assumption | with_reducible apply Ext.drewN | with_reducible apply Ext.drew | with_reducible apply Ext.alloc | ((with_reducible refine Ext.setCell ?_ ?_ _); rotate_left; (first | (dsimp only; omega) | (simp; omega) | skip)) | exact Ext.refl _ | assumption | apply Ext.drewN | apply Ext.drew | apply Ext.alloc | refine Ext.setCell ?_ (by first | (dsimp only; omega) | (simp; omega)) _))⟩
theorem RQuoted_any (s : ByteArray) (w : World) (hg : Good w) (hs : s.size ≤ 2097152) :
    Calls Tryz.prog 87 #[.string s] w fun e w' => e = .returned (S (quoteL (bs s))) ∧ Ext w w' := by
  have hr1 : ∀ W, Ext w W → Calls Tryz.prog 158 #[.string s, .string ⟨#[92]⟩, .string ⟨#[92, 92]⟩] W fun e w' => ∃ x : ByteArray, e = .returned (.string x) ∧ bs x = subst1 92 [92, 92] (bs s) ∧ x.size ≤ 4194304 ∧ Ext W w' := fun W hW => by
    obtain ⟨m, hm⟩ := (hg.ext hW).maxLen
    have hc : Lib.countB s ⟨#[92]⟩ ≤ s.size := by
      rw [← bs_length]
      rw [show Lib.countB s ⟨#[92]⟩ = (bs s).count 92 from Lib.count_one 92 (bs s)]
      exact List.count_le_length
    refine (Tryz.strings_ReplaceAll s ⟨#[92]⟩ ⟨#[92, 92]⟩ m W (by omega) hm (by decide) (by show s.size + Lib.countB s ⟨#[92]⟩ * 2 ≤ _; omega)).mono fun e w' ⟨h, hb⟩ => ?_
    have hl := subst1_len 92 [92, 92] (bs s) (by decide)
    rw [bs_length] at hl
    have he : Lib.replaceAll s.data.toList [92] [92, 92] = subst1 92 [92, 92] (bs s) := replaceAll_one 92 [92, 92] _ (by decide)
    exact ⟨_, h, by rw [bs_mk]; exact he, by rw [← bs_length, bs_mk]; show (Lib.replaceAll s.data.toList [92] [92, 92]).length ≤ _; rw [he]; omega, hb⟩
  have hr2 : ∀ W x, Ext w W → x.size ≤ 4194304 → Calls Tryz.prog 158 #[.string x, .string ⟨#[34]⟩, .string ⟨#[92, 34]⟩] W fun e w' => ∃ y : ByteArray, e = .returned (.string y) ∧ bs y = subst1 34 [92, 34] (bs x) ∧ y.size ≤ 8388608 ∧ Ext W w' := fun W x hW hx => by
    obtain ⟨m, hm⟩ := (hg.ext hW).maxLen
    have hc : Lib.countB x ⟨#[34]⟩ ≤ x.size := by
      rw [← bs_length]
      rw [show Lib.countB x ⟨#[34]⟩ = (bs x).count 34 from Lib.count_one 34 (bs x)]
      exact List.count_le_length
    refine (Tryz.strings_ReplaceAll x ⟨#[34]⟩ ⟨#[92, 34]⟩ m W (by omega) hm (by decide) (by show x.size + Lib.countB x ⟨#[34]⟩ * 2 ≤ _; omega)).mono fun e w' ⟨h, hb⟩ => ?_
    have hl := subst1_len 34 [92, 34] (bs x) (by decide)
    rw [bs_length] at hl
    have he : Lib.replaceAll x.data.toList [34] [92, 34] = subst1 34 [92, 34] (bs x) := replaceAll_one 34 [92, 34] _ (by decide)
    exact ⟨_, h, by rw [bs_mk]; exact he, by rw [← bs_length, bs_mk]; show (Lib.replaceAll x.data.toList [34] [92, 34]).length ≤ _; rw [he]; omega, hb⟩
  have HR1 := Lib.hid hr1
  have HR2 := Lib.hid hr2
  have HQ := Lib.hid (quoteL_eq (bs s))
  clear hr1 hr2
  go_enter Tryz.func87, Tryz.ntmps87
  go_wp2_with fail
  refine (HR1.out _ (Ext.refl _)).mono ?_
  rintro e w1 ⟨x, rfl, hb1, hz1, hx1⟩
  have HB1 := Lib.hid hb1
  clear hb1
  go_wp2_with fail
  refine (HR2.out _ _ hx1 hz1).mono ?_
  rintro e w2 ⟨y, rfl, hb2, hz2, hx2⟩
  have HB2 := Lib.hid hb2
  clear hb2
  go_wp2
  go_ret
  refine ⟨ret_strS ?_, hx1.trans hx2⟩
  rw [HQ.out, bs_append, bs_append, HB2.out, HB1.out, esc_two]
end Go.Proofs.YtghhjlcbcojcnaaGreatDoor

namespace Go.Proofs.YtghhjlcbcojcnaaGreatDoor
open Go.RowKit

theorem ruText_eq (k : Int) (key tt old new : Str) : ruText ⟨k, key, tt, old, new⟩ = ruWord k ++ [32] ++ key ++ (if useTo k = true then [32] ++ tt else []) ++ (if useOld k = true then [32] ++ quoteL old else []) ++ (if useNew k = true then [32] ++ quoteL new else []) := by
  simp [ruText]
set_option maxRecDepth 100000 in
set_option maxHeartbeats 8000000 in
theorem RuleText_any (r : RB) (w : World) (hg : Good w) (hs : SmallR r) :
    Calls Tryz.prog 19 #[ruV r] w fun e w' => e = .returned (S (ruText r.l)) ∧ Ext w w' := by
  obtain ⟨k, key, tt, old, new⟩ := r
  obtain ⟨s1, s2, s3, s4⟩ := hs
  dsimp only at s1 s2 s3 s4
  dsimp only [RB.l]
  rw [ruText_eq]
  have hq1 := fun W (h : Ext w W) => RQuoted_any old W (hg.ext h) s3
  have hq2 := fun W (h : Ext w W) => RQuoted_any new W (hg.ext h) s4
  have l1 := quote_len (bs old)
  have l2 := quote_len (bs new)
  rw [bs_length] at l1 l2
  obtain ⟨qo, ho, hqo, hlo⟩ : ∃ x : ByteArray, S (quoteL (bs old)) = .string x ∧ bs x = quoteL (bs old) ∧ x.size ≤ 6291456 := ⟨⟨(quoteL (bs old)).toArray⟩, rfl, by rw [bs_mk], by rw [← bs_length, bs_mk]; omega⟩
  obtain ⟨qn, hn, hqn, hln⟩ : ∃ x : ByteArray, S (quoteL (bs new)) = .string x ∧ bs x = quoteL (bs new) ∧ x.size ≤ 6291456 := ⟨⟨(quoteL (bs new)).toArray⟩, rfl, by rw [bs_mk], by rw [← bs_length, bs_mk]; omega⟩
  rw [ho] at hq1
  rw [hn] at hq2
  rw [← hqo, ← hqn]
  have hu := ruleWord_any k
  have hwl : (ruWord k).length ≤ 10 := by
    rcases kind_or k with rfl | rfl | rfl | rfl | rfl | rfl | rfl | rfl | ⟨n1, n2, n3, n4, n5, n6, n7, n8⟩
    all_goals first
      | decide
      | skip
    simp only [beq_eq_false_iff_ne] at n1 n2 n3 n4 n5 n6 n7 n8
    unfold ruWord
    rw [if_neg n1, if_neg n2, if_neg n3, if_neg n4, if_neg n5, if_neg n6, if_neg n7, if_neg n8]
    decide
  obtain ⟨wd, hwd, hbw, hlw⟩ : ∃ x : ByteArray, S (ruWord k) = .string x ∧ bs x = ruWord k ∧ x.size ≤ 10 := ⟨⟨(ruWord k).toArray⟩, rfl, by rw [bs_mk], by rw [← bs_length, bs_mk]; omega⟩
  rw [hwd] at hu
  rw [← hbw]
  have HQ1 := Lib.hid hq1
  have HQ2 := Lib.hid hq2
  have HU := Lib.hid hu
  clear hq1 hq2 hu l1 l2 ho hqo hn hqn hwd hbw hwl
  generalize useTo k = T at *
  generalize useOld k = O at *
  generalize useNew k = N at *
  have fin : ∀ (a : ByteArray) (b : Str), bs a = b → Ending.returned (.string a) = .returned (S b) := fun a b h => by rw [← h, S_bs]
  have FIN := Lib.hid fin
  clear fin
  go_enter Tryz.func19, Tryz.ntmps19
  go_wp2_with fail
  refine (HU.out _).mono ?_
  rintro e w' ⟨rfl, rfl⟩
  have bW := Blk.new w 23 #[.int .i64 k, .string key, .string tt, .string old, .string new]
  cases T <;> cases O <;> cases N
  case false.false.false | true.false.false =>
    go_wp2
    go_ret
    exact ⟨FIN.out _ _ (by simp), (by repeat (first | with_reducible exact Ext.refl _ | with_reducible assumption | with_reducible apply Ext.drewN | with_reducible apply Ext.drew | with_reducible apply Ext.alloc | exact Ext.refl _ | assumption | apply Ext.drewN | apply Ext.drew | apply Ext.alloc))⟩
  case false.true.false | true.true.false =>
    go_wp2_with fail
    refine (HQ1.out _ (by repeat (first | with_reducible exact Ext.refl _ | with_reducible assumption | with_reducible apply Ext.drewN | with_reducible apply Ext.drew | with_reducible apply Ext.alloc | exact Ext.refl _ | assumption | apply Ext.drewN | apply Ext.drew | apply Ext.alloc))).mono ?_
    rintro e w1 ⟨rfl, hx1⟩
    have bc1 := (bW.ext hx1).cell
    go_wp2
    go_ret
    exact ⟨FIN.out _ _ (by simp), Ext.trans (by repeat (first | with_reducible exact Ext.refl _ | with_reducible assumption | with_reducible apply Ext.drewN | with_reducible apply Ext.drew | with_reducible apply Ext.alloc | exact Ext.refl _ | assumption | apply Ext.drewN | apply Ext.drew | apply Ext.alloc)) hx1⟩
  case false.false.true | true.false.true =>
    go_wp2_with fail
    refine (HQ2.out _ (by repeat (first | with_reducible exact Ext.refl _ | with_reducible assumption | with_reducible apply Ext.drewN | with_reducible apply Ext.drew | with_reducible apply Ext.alloc | exact Ext.refl _ | assumption | apply Ext.drewN | apply Ext.drew | apply Ext.alloc))).mono ?_
    rintro e w1 ⟨rfl, hx1⟩
    have bc1 := (bW.ext hx1).cell
    go_wp2
    go_ret
    exact ⟨FIN.out _ _ (by simp), Ext.trans (by repeat (first | with_reducible exact Ext.refl _ | with_reducible assumption | with_reducible apply Ext.drewN | with_reducible apply Ext.drew | with_reducible apply Ext.alloc | exact Ext.refl _ | assumption | apply Ext.drewN | apply Ext.drew | apply Ext.alloc)) hx1⟩
  all_goals
    go_wp2_with fail
    refine (HQ1.out _ (by repeat (first | with_reducible exact Ext.refl _ | with_reducible assumption | with_reducible apply Ext.drewN | with_reducible apply Ext.drew | with_reducible apply Ext.alloc | exact Ext.refl _ | assumption | apply Ext.drewN | apply Ext.drew | apply Ext.alloc))).mono ?_
    rintro e w1 ⟨rfl, hx1⟩
    have b1 := bW.ext hx1
    have bc1 := b1.cell
    have hxw1 : Ext w w1 := Ext.trans (by repeat (first | with_reducible exact Ext.refl _ | with_reducible assumption | with_reducible apply Ext.drewN | with_reducible apply Ext.drew | with_reducible apply Ext.alloc | exact Ext.refl _ | assumption | apply Ext.drewN | apply Ext.drew | apply Ext.alloc)) hx1
    go_wp2_with fail
    refine (HQ2.out _ hxw1).mono ?_
    rintro e w2 ⟨rfl, hx2⟩
    go_wp2
    go_ret
    exact ⟨FIN.out _ _ (by simp), hxw1.trans hx2⟩
end Go.Proofs.YtghhjlcbcojcnaaGreatDoor

namespace Go.Proofs.YtghhjlcbcojcnaaGreatDoor
open Go.RowKit

/-- migrate.quoted -/
def qresR : Option (Str × Str) → Str × Str × Bool
  | none => ([], [], false)
  | some (t, z) => (t, z, true)
set_option maxRecDepth 100000 in
set_option maxHeartbeats 8000000 in
theorem quoted_any (s : ByteArray) (w : World) (hs : s.size ≤ 2097152) :
    Calls Tryz.prog 86 #[.string s] w fun e w' => e = .returned (.tuple #[S (qresR (quotedL (bs s))).1, S (qresR (quotedL (bs s))).2.1, .bool (qresR (quotedL (bs s))).2.2]) ∧ Ext w w' := by
  rcases Nat.eq_zero_or_pos s.size with h0 | h0
  · have he : quotedL (bs s) = none := by rw [bs_nil h0]; rfl
    have hi := emp_bool h0
    rw [he]
    clear he
    go_enter Tryz.func86, Tryz.ntmps86
    go_wp2
    go_ret3
    exact ⟨rfl, Ext.refl _⟩
  have hi := nemp_bool h0
  have hd := drop_cons s 0 h0
  rw [List.drop_zero] at hd
  by_cases hc : s[0] = 34
  rotate_left
  · have he : quotedL (bs s) = none := by
      rw [hd]
      unfold quotedL
      split
      · rename_i e; injection e with e _; exact absurd e hc
      · rfl
    have e1 := byte_ne hc 34 rfl
    rw [he]
    clear he hd hc
    go_enter Tryz.func86, Tryz.ntmps86
    go_wp2
    go_ret3
    exact ⟨rfl, Ext.refl _⟩
  have e0 : ((s[0].toNat : Int) != 34) = false := by rw [hc]; rfl
  obtain ⟨R, hR⟩ : ∃ R, unq ((bs s).drop 1) = R := ⟨_, rfl⟩
  have hq : quotedL (bs s) = R := by rw [hd, hc, ← hR]; rfl
  have hst := invQ_start (bs s) 1
  rw [hR] at hst
  rw [hq]
  have HST := Lib.hid hst
  clear hst hq hR hd hc
  go_enter Tryz.func86, Tryz.ntmps86
  go_wp2
  go_loopw [5, 6] (fun v k' wr => ∃ (k : Nat) (done : Str), k' = .int .i64 k ∧ wr.ownsRow w.heap.size 5 1 v done.length (u8s done) ∧ k ≤ s.size ∧ done.length ≤ k ∧ InvQ (bs s) R k done ∧ Ext w wr) (fun _ k _ => s.size - (intOf k).toNat)
  case atStart => exact ⟨1, [], rfl, World.ownsRow_nil _ _ _ _, by omega, Nat.zero_le _, HST.out, Ext.refl _⟩
  case round =>
    obtain ⟨k, done, rfl, hown, hk1, hk3, hinv, hxr⟩ := hrel
    have HINV := Lib.hid hinv
    clear hinv
    by_cases hlt : k < s.size
    · by_cases h34 : s[k] = 34
      · have e1 : ((s[k].toNat : Int) == 34) = true := by rw [h34]; rfl
        have hres := invQ_end HINV.out hlt h34
        subst hres
        have hcv := conv_own hown wr.drew ((Ext.refl wr).drew)
        have hkk : (k : Int) + 1 ≤ s.size := by omega
        have hkw : IntKind.i64.wrap ((k : Int) + 1) = (k : Int) + 1 := by rw [IntKind.wrap_i64]; omega
        clear h34 hown
        go_wp2
        go_outline
        go_region
        all_goals
          go_wp2
          go_ret3
          have hd2 : Value.string (s.extract (k + 1) s.size) = S ((bs s).drop (k + 1)) := str_S (Lib.extract_to_end s (k + 1))
          refine ⟨?_, hxr.drew⟩
          show Ending.returned (.tuple #[S done, .string (s.extract (k + 1) s.size), .bool true]) = _
          rw [hd2]
          rfl
      have e1 := byte_no h34 34 rfl
      by_cases h92 : s[k] = 92
      · have e2 : ((s[k].toNat : Int) == 92) = true := by rw [h92]; rfl
        by_cases hend : k + 1 = s.size
        · have hres := invQ_last HINV.out hend h92
          subst hres
          have hE : ((k : Int) + 1 == (s.size : Int)) = true := by rw [beq_iff_eq]; omega
          clear h34 h92
          go_wp2
          go_ret3
          exact ⟨rfl, hxr⟩
        have hlt2 : k + 1 < s.size := by omega
        have hE : ((k : Int) + 1 == (s.size : Int)) = false := by rw [beq_eq_false_iff_ne]; omega
        by_cases hok : s[k + 1] = 34 ∨ s[k + 1] = 92
        · have hinv2 := invQ_two HINV.out hlt2 h92 hok
          have HI2 := Lib.hid hinv2
          clear hinv2 h34 h92
          rcases hok with hd | hd
          · have e3 : ((s[k + 1].toNat : Int) != 34) = false := by rw [hd]; rfl
            clear hd
            have HX := Lib.hid hxr
            have hsz := hxr.size
            go_wp2_with (at_builtin; refine wpList_app1 _ _ _ rfl _ _ 214 rfl (.int .u8 0) 1 1 Tryz.underlying214 info_u8 rfl (by decide) (by decide) w.heap.size _ done.length _ rfl hown _ rfl rfl (by simp [Value.oneCell']) (by omega) hsz ?_; intro v' w3 hown3 hx3 _)
            go_roundw
            case rel => exact ⟨k + 1 + 1, done ++ [s[k + 1]], by go_num, by rw [u8s_append, List.length_append]; exact hown3, by omega, by rw [List.length_append]; simp; omega, HI2.out, hx3 _ HX.out (Nat.le_refl _)⟩
            case measure => simp [intOf]; omega
          · have e3 : ((s[k + 1].toNat : Int) != 34) = true := by rw [hd]; rfl
            have e4 : ((s[k + 1].toNat : Int) != 92) = false := by rw [hd]; rfl
            clear hd
            have HX := Lib.hid hxr
            have hsz := hxr.size
            go_wp2_with (at_builtin; refine wpList_app1 _ _ _ rfl _ _ 214 rfl (.int .u8 0) 1 1 Tryz.underlying214 info_u8 rfl (by decide) (by decide) w.heap.size _ done.length _ rfl hown _ rfl rfl (by simp [Value.oneCell']) (by omega) hsz ?_; intro v' w3 hown3 hx3 _)
            go_roundw
            case rel => exact ⟨k + 1 + 1, done ++ [s[k + 1]], by go_num, by rw [u8s_append, List.length_append]; exact hown3, by omega, by rw [List.length_append]; simp; omega, HI2.out, hx3 _ HX.out (Nat.le_refl _)⟩
            case measure => simp [intOf]; omega
        · have hres := invQ_bad HINV.out hlt2 h92 (fun e => hok (.inl e)) (fun e => hok (.inr e))
          have e3 := byte_ne (fun e => hok (.inl e)) 34 rfl
          have e4 := byte_ne (fun e => hok (.inr e)) 92 rfl
          subst hres
          clear h34 h92 hok
          go_wp2
          go_ret3
          exact ⟨rfl, hxr⟩
      · have e2 := byte_no h92 92 rfl
        have hinv2 := invQ_one HINV.out hlt h34 h92
        have HI2 := Lib.hid hinv2
        clear hinv2 h34 h92
        have HX := Lib.hid hxr
        have hsz := hxr.size
        go_wp2_with (at_builtin; refine wpList_app1 _ _ _ rfl _ _ 214 rfl (.int .u8 0) 1 1 Tryz.underlying214 info_u8 rfl (by decide) (by decide) w.heap.size _ done.length _ rfl hown _ rfl rfl (by simp [Value.oneCell']) (by omega) hsz ?_; intro v' w3 hown3 hx3 _)
        go_roundw
        case rel => exact ⟨k + 1, done ++ [s[k]], by go_num, by rw [u8s_append, List.length_append]; exact hown3, by omega, by rw [List.length_append]; simp; omega, HI2.out, hx3 _ HX.out (Nat.le_refl _)⟩
        case measure => simp [intOf]; omega
    · have hres := invQ_out HINV.out (by omega)
      subst hres
      go_wp2
      go_ret3
      exact ⟨rfl, hxr⟩
end Go.Proofs.YtghhjlcbcojcnaaGreatDoor
