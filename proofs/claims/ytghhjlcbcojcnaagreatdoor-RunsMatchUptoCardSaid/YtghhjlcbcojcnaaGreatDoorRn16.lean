/- Contracts of migrate.CheckRule and of outref2.RuleError. (Printed by gen/rulb.py.) Contract of outref2.RuleError. (Printed by gen/rulb.py.) -/
import Derived.Test.YtghhjlcbcojcnaaGreatDoorRn15
import Derived.Deep.DeepCutAuto

namespace Go.Proofs.YtghhjlcbcojcnaaGreatDoor
open Go.RowKit

theorem tri (b e : Bool) : (b = false ∧ e = false) ∨ b = true ∨ (b = false ∧ e = true) := by cases b <;> cases e <;> simp
/-- the tests of a rule, one by one -/
theorem ru_tests (k : Int) (key tt old new : ByteArray) (h1 : ¬ k < 1) (h8 : ¬ 8 < k) : ruErr ⟨k, bs key, bs tt, bs old, bs new⟩ =
    if (!pathL (bs key) || useTo k && !pathL (bs tt)) = true then 5
    else if (!useTo k && !tt.toList.isEmpty || !useOld k && !old.toList.isEmpty || !useNew k && !new.toList.isEmpty || !valueL (bs old) || !valueL (bs new)) = true then 2
    else if (useTo k && (key.toList == tt.toList)) = true then 11
    else if (k == 2 && (belowL (bs key) (bs tt) || belowL (bs tt) (bs key))) = true then 13
    else if (useOld k && (old.toList == new.toList)) = true then 11 else 0 := by
  have e : decide (k = 2) = (k == 2) := by rw [Bool.eq_iff_iff]; simp
  unfold ruErr
  dsimp only
  rw [if_neg (by omega), isE, isE, isE, eqE, eqE, e]
theorem ref_tests (k : Int) (key tt old new : ByteArray) (h1 : ¬ k < 1) (h8 : ¬ 8 < k) : refErrR ⟨k, bs key, bs tt, bs old, bs new⟩ =
    if (!pathL (bs key) || useTo k && !pathL (bs tt)) = true then 5
    else if (!useTo k && !tt.toList.isEmpty || !useOld k && !old.toList.isEmpty || !useNew k && !new.toList.isEmpty || !valueL (bs old) || !valueL (bs new)) = true then 2
    else if (key.toList == tt.toList) = true then 11
    else if (k == 2 && (belowL (bs key) (bs tt) || belowL (bs tt) (bs key))) = true then 13
    else if (useOld k && (old.toList == new.toList)) = true then 11 else 0 := by
  have e : decide (k = 2) = (k == 2) := by rw [Bool.eq_iff_iff]; simp
  unfold refErrR
  dsimp only
  rw [if_neg (fun x => by have := (word_empty k).1 x; omega), isE, isE, isE, eqE, eqE, e]
  simp only [decide_eq_true_eq]
theorem prefix_eq (key head : ByteArray) : (bs (head ++ (⟨#[47]⟩ : ByteArray))).isPrefixOf (bs key) = belowL (bs key) (bs head) := by
  rw [bs_append]
  rfl
theorem prefixOf_any (key head : ByteArray) (w : World) :
    Calls Tryz.prog 78 #[.string key, .string (head ++ (⟨#[47]⟩ : ByteArray))] w fun e w' => e = .returned (.bool (belowL (bs key) (bs head))) ∧ w = w' := by
  have h := hasPrefix_any key (head ++ (⟨#[47]⟩ : ByteArray)) w
  rw [prefix_eq] at h
  exact h
set_option maxHeartbeats 16000000 in
set_option maxRecDepth 100000 in
theorem CheckRule_any (r : RB) (w : World) (hg : Good w) (hs : SmallR r) :
    Calls Tryz.prog 17 #[ruV r] w fun e w' => e = .returned (.int .i64 (ruErr r.l)) ∧ Ext w w' := by
  obtain ⟨k, key, tt, old, new⟩ := r
  obtain ⟨s1, s2, s3, s4⟩ := hs
  dsimp only at s1 s2 s3 s4
  dsimp only [RB.l]
  by_cases h1 : k < 1
  · have hE := ru_kind (r := ⟨k, bs key, bs tt, bs old, bs new⟩) (.inl h1)
    rw [hE]
    clear hE
    go_enter Tryz.func17, Tryz.ntmps17
    go_wp2
    go_ret
    exact ⟨rfl, (by repeat (first | with_reducible exact Ext.refl _ | with_reducible assumption | with_reducible apply Ext.drewN | with_reducible apply Ext.drew | with_reducible apply Ext.alloc | exact Ext.refl _ | assumption | apply Ext.drewN | apply Ext.drew | apply Ext.alloc))⟩
  by_cases h8 : 8 < k
  · have hE := ru_kind (r := ⟨k, bs key, bs tt, bs old, bs new⟩) (.inr h8)
    rw [hE]
    clear hE
    go_enter Tryz.func17, Tryz.ntmps17
    go_wp2
    go_ret
    exact ⟨rfl, (by repeat (first | with_reducible exact Ext.refl _ | with_reducible assumption | with_reducible apply Ext.drewN | with_reducible apply Ext.drew | with_reducible apply Ext.alloc | exact Ext.refl _ | assumption | apply Ext.drewN | apply Ext.drew | apply Ext.alloc))⟩
  rw [ru_tests k key tt old new h1 h8]
  have hu := uses_any k
  have HU := Lib.hid hu
  clear hu
  generalize useTo k = T at *
  generalize useOld k = O at *
  generalize useNew k = N at *
  generalize hB1 : (!pathL (bs key) || T && !pathL (bs tt)) = B1
  generalize hB2 : (!T && !tt.toList.isEmpty || !O && !old.toList.isEmpty || !N && !new.toList.isEmpty || !valueL (bs old) || !valueL (bs new)) = B2
  generalize hB3 : (T && (key.toList == tt.toList)) = B3
  generalize hB4 : (k == 2 && (belowL (bs key) (bs tt) || belowL (bs tt) (bs key))) = B4
  generalize hB5 : (O && (old.toList == new.toList)) = B5
  have HB1 := Lib.hid hB1
  have HB2 := Lib.hid hB2
  have HB3 := Lib.hid hB3
  have HB4 := Lib.hid hB4
  have HB5 := Lib.hid hB5
  clear hB1 hB2 hB3 hB4 hB5
  generalize hW : w.alloc (.cells #[.int .i64 k, .string key, .string tt, .string old, .string new] 23) = W
  have hxW : Ext w W := by rw [← hW]; exact (by repeat (first | with_reducible exact Ext.refl _ | with_reducible assumption | with_reducible apply Ext.drewN | with_reducible apply Ext.drew | with_reducible apply Ext.alloc | exact Ext.refl _ | assumption | apply Ext.drewN | apply Ext.drew | apply Ext.alloc))
  have bW : Blk W w.heap.size 23 #[.int .i64 k, .string key, .string tt, .string old, .string new] := by rw [← hW]; exact Blk.new _ _ _
  have HW := Lib.hid hW
  clear hW
  go_enter Tryz.func17, Tryz.ntmps17
  go_wp2_with fail
  refine (HU.out _).mono ?_
  rintro e w' ⟨rfl, rfl⟩
  go_upto_region 4 with fail
  rw [HW.out]
  go_cut [21] (fun s wx => s = .bool B1 ∧ Ext W wx)
  case first =>
    have bc := bW.cell
    go_wp2_with fail
    refine (IsPath_any key _ (hg.ext hxW) s1).mono ?_
    rintro e w1 ⟨rfl, hx1⟩
    have bc1 := (bW.ext hx1).cell
    generalize pathL (bs key) = P at *
    cases P
    · go_wp2
      go_meet
      case rel => exact ⟨by rw [← HB1.out]; rfl, hx1⟩
    cases T
    · go_wp2
      go_meet
      case rel => exact ⟨by rw [← HB1.out]; rfl, hx1⟩
    go_wp2_with fail
    refine (IsPath_any tt _ (hg.ext (hxW.trans hx1)) s2).mono ?_
    rintro e w2 ⟨rfl, hx2⟩
    generalize pathL (bs tt) = P2 at *
    cases P2
    all_goals
      go_wp2
      go_meet
      case rel => exact ⟨by rw [← HB1.out]; rfl, hx1.trans hx2⟩
  case rest =>
    obtain ⟨rfl, hx4⟩ := hcut
    have b4 := bW.ext hx4
    have hxw4 := hxW.trans hx4
    clear hx4 bW
    rename_i wA
    generalize hwA : wc = w4 at *
    clear hwA
    cases B1
    rotate_left
    · go_wp2
      go_ret
      exact ⟨rfl, hxw4⟩
    go_upto_region 6 with fail
    go_cut [35] (fun s wx => s = .bool B2 ∧ wx = w4)
    case first =>
      have bc := b4.cell
      rcases tri T tt.toList.isEmpty with ⟨rfl, ht⟩ | rfl | ⟨rfl, ht⟩
      · go_wp2
        go_meet
        case rel => exact ⟨by rw [← HB2.out, ht]; rfl, rfl⟩
      all_goals
        rcases tri O old.toList.isEmpty with ⟨rfl, ho⟩ | rfl | ⟨rfl, ho⟩
        · go_wp2
          go_meet
          case rel => exact ⟨by rw [← HB2.out, ho]; first | (rw [ht]; rfl) | simp, rfl⟩
        all_goals
          rcases tri N new.toList.isEmpty with ⟨rfl, hn⟩ | rfl | ⟨rfl, hn⟩
          · go_wp2
            go_meet
            case rel => exact ⟨by rw [← HB2.out, hn]; simp, rfl⟩
          all_goals
            go_wp2_with fail
            refine (IsValue_any old _ s3).mono ?_
            rintro e w' ⟨rfl, rfl⟩
            generalize valueL (bs old) = V1 at *
            cases V1
            · go_wp2
              go_meet
              case rel => exact ⟨by rw [← HB2.out]; simp, rfl⟩
            go_wp2_with fail
            refine (IsValue_any new _ s4).mono ?_
            rintro e w' ⟨rfl, rfl⟩
            generalize valueL (bs new) = V2 at *
            go_wp2
            go_meet
            case rel => exact ⟨by rw [← HB2.out]; first | (rw [ht, ho, hn]; cases V2 <;> rfl) | (rw [ht, ho]; cases V2 <;> rfl) | (rw [ht, hn]; cases V2 <;> rfl) | (rw [ho, hn]; cases V2 <;> rfl) | (rw [ht]; cases V2 <;> simp) | (rw [ho]; cases V2 <;> simp) | (rw [hn]; cases V2 <;> simp) | (cases V2 <;> simp), rfl⟩
    case rest =>
      obtain ⟨rfl, rfl⟩ := hcut
      cases B2
      rotate_left
      · go_wp2
        go_ret
        exact ⟨rfl, hxw4⟩
      go_upto_region 8 with fail
      go_cut [73] (fun s wx => s = .bool B3 ∧ wx = wc)
      case first =>
        have bc := b4.cell
        cases T
        · go_wp2
          go_meet
          case rel => exact ⟨by rw [← HB3.out]; rfl, rfl⟩
        cases hq : key.toList == tt.toList
        all_goals
          go_wp2
          go_meet
          case rel => exact ⟨by rw [← HB3.out, hq]; rfl, rfl⟩
      case rest =>
        obtain ⟨rfl, rfl⟩ := hcut
        cases B3
        rotate_left
        · go_wp2
          go_ret
          exact ⟨rfl, hxw4⟩
        go_upto_region 10 with fail
        go_cut [82] (fun s wx => s = .bool B4 ∧ wx = wc)
        case first =>
          have bc := b4.cell
          cases hk2 : k == 2
          · go_wp2
            go_meet
            case rel => exact ⟨by rw [← HB4.out, hk2]; rfl, rfl⟩
          go_wp2_with fail
          refine (below_any key tt _ s2).mono ?_
          rintro e w' ⟨rfl, rfl⟩
          generalize belowL (bs key) (bs tt) = V1 at *
          cases V1
          rotate_left
          · go_wp2
            go_meet
            case rel => exact ⟨by rw [← HB4.out, hk2]; rfl, rfl⟩
          go_wp2_with fail
          refine (below_any tt key _ s1).mono ?_
          rintro e w' ⟨rfl, rfl⟩
          generalize belowL (bs tt) (bs key) = V2 at *
          go_wp2
          go_meet
          case rel => exact ⟨by rw [← HB4.out, hk2]; simp, rfl⟩
        case rest =>
          obtain ⟨rfl, rfl⟩ := hcut
          cases B4
          rotate_left
          · go_wp2
            go_ret
            exact ⟨rfl, hxw4⟩
          have bc := b4.cell
          cases O
          · have h5 := HB5.out
            cases B5
            rotate_left
            · cases h5
            clear h5
            go_wp2
            go_ret
            exact ⟨rfl, hxw4⟩
          cases hq : old.toList == new.toList
          all_goals
            have h5 : B5 = (old.toList == new.toList) := by rw [← HB5.out]; rfl
            rw [hq] at h5
            subst h5
            go_wp2
            go_ret
            exact ⟨rfl, hxw4⟩
end Go.Proofs.YtghhjlcbcojcnaaGreatDoor

namespace Go.Proofs.YtghhjlcbcojcnaaGreatDoor
open Go.RowKit

set_option maxHeartbeats 16000000 in
set_option maxRecDepth 100000 in
theorem RuleError_any (r : RB) (w : World) (hg : Good w) (hs : SmallR r) :
    Calls Tryz.prog 12 #[ruV r] w fun e w' => e = .returned (.int .i64 (ruErr r.l)) ∧ Ext w w' := by
  obtain ⟨k, key, tt, old, new⟩ := r
  obtain ⟨s1, s2, s3, s4⟩ := hs
  dsimp only at s1 s2 s3 s4
  dsimp only [RB.l]
  rw [← refErrR_eq]
  by_cases hk : k < 1 ∨ 8 < k
  · have hE : refErrR ⟨k, bs key, bs tt, bs old, bs new⟩ = 1 := by rw [refErrR_eq]; exact ru_kind (r := ⟨k, bs key, bs tt, bs old, bs new⟩) hk
    have he : ruWord k = [] := emp_iff.1 ((word_empty k).2 hk)
    rw [hE]
    clear hE hk
    have hw := ruleWord_any k
    rw [he] at hw
    have HWD := Lib.hid hw
    clear hw he
    go_enter Tryz.func12, Tryz.ntmps12
    go_wp2_with fail
    refine (HWD.out _).mono ?_
    rintro e w' ⟨rfl, rfl⟩
    go_wp2
    go_ret
    exact ⟨rfl, (by repeat (first | with_reducible exact Ext.refl _ | with_reducible assumption | with_reducible apply Ext.drewN | with_reducible apply Ext.drew | with_reducible apply Ext.alloc | exact Ext.refl _ | assumption | apply Ext.drewN | apply Ext.drew | apply Ext.alloc))⟩
  have h1 : ¬ k < 1 := by omega
  have h8 : ¬ 8 < k := by omega
  have hwd : ∃ x : ByteArray, S (ruWord k) = .string x ∧ x.toList.isEmpty = false := by
    refine ⟨⟨(ruWord k).toArray⟩, rfl, ?_⟩
    have : ¬ (ruWord k).isEmpty = true := fun x => hk ((word_empty k).1 x)
    rw [isE, bs_mk]
    simpa using this
  obtain ⟨wd, hwv, hwe⟩ := hwd
  rw [ref_tests k key tt old new h1 h8]
  have hu := ruleWord_any k
  rw [hwv] at hu
  clear hwv hk
  have HU := Lib.hid hu
  clear hu
  generalize useTo k = T at *
  generalize useOld k = O at *
  generalize useNew k = N at *
  generalize hB1 : (!pathL (bs key) || T && !pathL (bs tt)) = B1
  generalize hB2 : (!T && !tt.toList.isEmpty || !O && !old.toList.isEmpty || !N && !new.toList.isEmpty || !valueL (bs old) || !valueL (bs new)) = B2
  generalize hB3 : (key.toList == tt.toList) = B3
  generalize hB4 : (k == 2 && (belowL (bs key) (bs tt) || belowL (bs tt) (bs key))) = B4
  generalize hB5 : (O && (old.toList == new.toList)) = B5
  have HB1 := Lib.hid hB1
  have HB2 := Lib.hid hB2
  have HB3 := Lib.hid hB3
  have HB4 := Lib.hid hB4
  have HB5 := Lib.hid hB5
  clear hB1 hB2 hB3 hB4 hB5
  generalize hW : w.alloc (.cells #[.int .i64 k, .string key, .string tt, .string old, .string new] 23) = W
  have hxW : Ext w W := by rw [← hW]; exact (by repeat (first | with_reducible exact Ext.refl _ | with_reducible assumption | with_reducible apply Ext.drewN | with_reducible apply Ext.drew | with_reducible apply Ext.alloc | exact Ext.refl _ | assumption | apply Ext.drewN | apply Ext.drew | apply Ext.alloc))
  have bW : Blk W w.heap.size 23 #[.int .i64 k, .string key, .string tt, .string old, .string new] := by rw [← hW]; exact Blk.new _ _ _
  have HW := Lib.hid hW
  clear hW
  go_enter Tryz.func12, Tryz.ntmps12
  go_wp2_with fail
  refine (HU.out _).mono ?_
  rintro e w' ⟨rfl, rfl⟩
  go_upto_region 4 with fail
  rw [HW.out]
  go_cut [18] (fun s wx => s = .bool B1 ∧ Ext W wx)
  case first =>
    have bc := bW.cell
    go_wp2_with fail
    refine (PathOf_any key _ (hg.ext hxW) s1).mono ?_
    rintro e w1 ⟨rfl, hx1⟩
    have bc1 := (bW.ext hx1).cell
    generalize pathL (bs key) = P at *
    cases P
    · go_wp2
      go_meet
      case rel => exact ⟨by rw [← HB1.out]; rfl, hx1⟩
    cases T
    · go_wp2
      go_meet
      case rel => exact ⟨by rw [← HB1.out]; rfl, hx1⟩
    go_wp2_with fail
    refine (PathOf_any tt _ (hg.ext (hxW.trans hx1)) s2).mono ?_
    rintro e w2 ⟨rfl, hx2⟩
    generalize pathL (bs tt) = P2 at *
    cases P2
    all_goals
      go_wp2
      go_meet
      case rel => exact ⟨by rw [← HB1.out]; rfl, hx1.trans hx2⟩
  case rest =>
    obtain ⟨rfl, hx4⟩ := hcut
    have b4 := bW.ext hx4
    have hxw4 := hxW.trans hx4
    clear hx4 bW
    rename_i wA
    generalize hwA : wc = w4 at *
    clear hwA
    cases B1
    rotate_left
    · go_wp2
      go_ret
      exact ⟨rfl, hxw4⟩
    go_upto_region 6 with fail
    go_cut [32] (fun s wx => s = .bool B2 ∧ wx = w4)
    case first =>
      have bc := b4.cell
      rcases tri T tt.toList.isEmpty with ⟨rfl, ht⟩ | rfl | ⟨rfl, ht⟩
      · go_wp2
        go_meet
        case rel => exact ⟨by rw [← HB2.out, ht]; rfl, rfl⟩
      all_goals
        rcases tri O old.toList.isEmpty with ⟨rfl, ho⟩ | rfl | ⟨rfl, ho⟩
        · go_wp2
          go_meet
          case rel => exact ⟨by rw [← HB2.out, ho]; first | (rw [ht]; rfl) | simp, rfl⟩
        all_goals
          rcases tri N new.toList.isEmpty with ⟨rfl, hn⟩ | rfl | ⟨rfl, hn⟩
          · go_wp2
            go_meet
            case rel => exact ⟨by rw [← HB2.out, hn]; simp, rfl⟩
          all_goals
            go_wp2_with fail
            refine (ValueOf_any old _ s3).mono ?_
            rintro e w' ⟨rfl, rfl⟩
            generalize valueL (bs old) = V1 at *
            cases V1
            · go_wp2
              go_meet
              case rel => exact ⟨by rw [← HB2.out]; simp, rfl⟩
            go_wp2_with fail
            refine (ValueOf_any new _ s4).mono ?_
            rintro e w' ⟨rfl, rfl⟩
            generalize valueL (bs new) = V2 at *
            go_wp2
            go_meet
            case rel => exact ⟨by rw [← HB2.out]; first | (rw [ht, ho, hn]; cases V2 <;> rfl) | (rw [ht, ho]; cases V2 <;> rfl) | (rw [ht, hn]; cases V2 <;> rfl) | (rw [ho, hn]; cases V2 <;> rfl) | (rw [ht]; cases V2 <;> simp) | (rw [ho]; cases V2 <;> simp) | (rw [hn]; cases V2 <;> simp) | (cases V2 <;> simp), rfl⟩
    case rest =>
      obtain ⟨rfl, rfl⟩ := hcut
      cases B2
      rotate_left
      · go_wp2
        go_ret
        exact ⟨rfl, hxw4⟩
      go_upto_region 8 with fail
      go_cut [70] (fun s wx => s = .bool B3 ∧ wx = wc)
      case first =>
        have bc := b4.cell
        cases hq : key.toList == tt.toList
        all_goals
          go_wp2
          go_meet
          case rel => exact ⟨by rw [← HB3.out, hq], rfl⟩
      case rest =>
        obtain ⟨rfl, rfl⟩ := hcut
        cases B3
        rotate_left
        · go_wp2
          go_ret
          exact ⟨rfl, hxw4⟩
        go_upto_region 10 with fail
        go_cut [76] (fun s wx => s = .bool B4 ∧ wx = wc)
        case first =>
          have bc := b4.cell
          cases hk2 : k == 2
          · go_wp2
            go_meet
            case rel => exact ⟨by rw [← HB4.out, hk2]; rfl, rfl⟩
          go_wp2_with fail
          refine (prefixOf_any key tt _).mono ?_
          rintro e w' ⟨rfl, rfl⟩
          generalize belowL (bs key) (bs tt) = V1 at *
          cases V1
          rotate_left
          · go_wp2
            go_meet
            case rel => exact ⟨by rw [← HB4.out, hk2]; rfl, rfl⟩
          go_wp2_with fail
          refine (prefixOf_any tt key _).mono ?_
          rintro e w' ⟨rfl, rfl⟩
          generalize belowL (bs tt) (bs key) = V2 at *
          go_wp2
          go_meet
          case rel => exact ⟨by rw [← HB4.out, hk2]; simp, rfl⟩
        case rest =>
          obtain ⟨rfl, rfl⟩ := hcut
          cases B4
          rotate_left
          · go_wp2
            go_ret
            exact ⟨rfl, hxw4⟩
          have bc := b4.cell
          cases O
          · have h5 := HB5.out
            cases B5
            rotate_left
            · cases h5
            clear h5
            go_wp2
            go_ret
            exact ⟨rfl, hxw4⟩
          cases hq : old.toList == new.toList
          all_goals
            have h5 : B5 = (old.toList == new.toList) := by rw [← HB5.out]; rfl
            rw [hq] at h5
            subst h5
            go_wp2
            go_ret
            exact ⟨rfl, hxw4⟩
end Go.Proofs.YtghhjlcbcojcnaaGreatDoor
