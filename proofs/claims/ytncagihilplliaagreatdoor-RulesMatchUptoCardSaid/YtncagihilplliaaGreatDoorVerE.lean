/- Contracts of ver.Check, Print. -/
import Derived.Test.YtncagihilplliaaGreatDoorVerD
namespace Go.Proofs.YtncagihilplliaaGreatDoor
open Go.RowKit

theorem outside_num (n : Int) (w : World) :
    Calls Tryz.prog 62 #[.int .i64 n, .int .i64 0, .int .i64 999999] w fun e w' => e = .returned (.bool (!inNum n)) ∧ w = w' :=
  (outside_any n 0 999999 w).mono fun _ _ ⟨h, k⟩ => ⟨by
    rw [h]
    refine ret_bool ?_
    unfold inNum
    rw [← decide_not, decide_eq_decide]
    omega, k⟩
/-- The error of a version: 3 ErrRange, 2 ErrForm, 0 none. -/
def checkV (ma mi pa : Int) (e : Str) : Int := if (inNum ma && inNum mi && inNum pa) = false then 3 else if (!e.isEmpty && !earlyL e) = true then 2 else 0
set_option maxHeartbeats 1000000 in
theorem Check_any (ma mi pa : Int) (ea : ByteArray) (w : World) (hg : Good w) (hs : ea.size ≤ 2097152) :
    Calls Tryz.prog 23 #[.agg #[.int .i64 ma, .int .i64 mi, .int .i64 pa, .string ea]] w fun e w' => e = .returned (.int .i64 (checkV ma mi pa (bs ea))) ∧ Ext w w' := by
  have i0 : ∀ w, (Instr.index 88 (.agg #[.int .i64 ma, .int .i64 mi, .int .i64 pa]) (.int .i64 0)).run Tryz.prog w = .ok (.int .i64 ma) w := fun _ => by kernel_rfl
  have i1 : ∀ w, (Instr.index 88 (.agg #[.int .i64 ma, .int .i64 mi, .int .i64 pa]) (.int .i64 1)).run Tryz.prog w = .ok (.int .i64 mi) w := fun _ => by kernel_rfl
  have i2 : ∀ w, (Instr.index 88 (.agg #[.int .i64 ma, .int .i64 mi, .int .i64 pa]) (.int .i64 2)).run Tryz.prog w = .ok (.int .i64 pa) w := fun _ => by kernel_rfl
  go_enter Tryz.func23, Tryz.ntmps23
  go_wp2
  go_loop [12] (fun i => (i = .int .i64 0 ∨ (i = .int .i64 1 ∧ inNum ma = true) ∨ (i = .int .i64 2 ∧ inNum ma = true ∧ inNum mi = true) ∨ (i = .int .i64 3 ∧ inNum ma = true ∧ inNum mi = true ∧ inNum pa = true))) (fun i => 3 - (intOf i).toNat)
  case atStart => exact .inl rfl
  case round =>
    rcases hrel with rfl | ⟨rfl, h1⟩ | ⟨rfl, h1, h2⟩ | ⟨rfl, h1, h2, h3⟩
    · go_wp2_with fail
      refine (outside_num _ _).mono ?_
      rintro e w' ⟨rfl, rfl⟩
      cases h1 : inNum ma
      · go_wp2
        go_ret
        exact ⟨ret_int (by rw [checkV, h1]; rfl), (by repeat (first | with_reducible exact Ext.refl _ | with_reducible assumption | with_reducible apply Ext.drewN | with_reducible apply Ext.drew | with_reducible apply Ext.alloc | exact Ext.refl _ | assumption | apply Ext.drewN | apply Ext.drew | apply Ext.alloc))⟩
      · go_wp2
        go_round
        case rel => exact .inr (.inl ⟨rfl, h1⟩)
        case measure => decide
    · go_wp2_with fail
      refine (outside_num _ _).mono ?_
      rintro e w' ⟨rfl, rfl⟩
      cases h2 : inNum mi
      · go_wp2
        go_ret
        exact ⟨ret_int (by rw [checkV, h1, h2]; rfl), (by repeat (first | with_reducible exact Ext.refl _ | with_reducible assumption | with_reducible apply Ext.drewN | with_reducible apply Ext.drew | with_reducible apply Ext.alloc | exact Ext.refl _ | assumption | apply Ext.drewN | apply Ext.drew | apply Ext.alloc))⟩
      · go_wp2
        go_round
        case rel => exact .inr (.inr (.inl ⟨rfl, h1, h2⟩))
        case measure => decide
    · go_wp2_with fail
      refine (outside_num _ _).mono ?_
      rintro e w' ⟨rfl, rfl⟩
      cases h3 : inNum pa
      · go_wp2
        go_ret
        exact ⟨ret_int (by rw [checkV, h1, h2, h3]; rfl), (by repeat (first | with_reducible exact Ext.refl _ | with_reducible assumption | with_reducible apply Ext.drewN | with_reducible apply Ext.drew | with_reducible apply Ext.alloc | exact Ext.refl _ | assumption | apply Ext.drewN | apply Ext.drew | apply Ext.alloc))⟩
      · go_wp2
        go_round
        case rel => exact .inr (.inr (.inr ⟨rfl, h1, h2, h3⟩))
        case measure => decide
    · have H1 := Lib.hid h1
      have H2 := Lib.hid h2
      have H3 := Lib.hid h3
      clear h1 h2 h3
      rcases Nat.eq_zero_or_pos ea.size with h0 | h0
      · have he := emp_of_size h0
        have hi : ea.toList.isEmpty = true := by rw [he]; rfl
        go_wp2
        go_ret
        exact ⟨ret_int (by rw [checkV, H1.out, H2.out, H3.out, bs_nil h0]; rfl), (by repeat (first | with_reducible exact Ext.refl _ | with_reducible assumption | with_reducible apply Ext.drewN | with_reducible apply Ext.drew | with_reducible apply Ext.alloc | exact Ext.refl _ | assumption | apply Ext.drewN | apply Ext.drew | apply Ext.alloc))⟩
      · have he := nemp_of_size h0
        have hi := nemp_bool h0
        have hb : (bs ea).isEmpty = false := by rw [ByteArray.toList_eq] at hi; exact hi
        have HB := Lib.hid hb
        clear hb
        go_wp2_with fail
        refine (isEarly_any _ _ (hg.ext (by repeat (first | with_reducible exact Ext.refl _ | with_reducible assumption | with_reducible apply Ext.drewN | with_reducible apply Ext.drew | with_reducible apply Ext.alloc | exact Ext.refl _ | assumption | apply Ext.drewN | apply Ext.drew | apply Ext.alloc))) hs).mono ?_
        rintro e w1 ⟨rfl, hx1⟩
        cases h4 : earlyL (bs ea)
        · go_wp2
          go_ret
          exact ⟨ret_int (by rw [checkV, H1.out, H2.out, H3.out, HB.out, h4]; rfl), Ext.trans (by repeat (first | with_reducible exact Ext.refl _ | with_reducible assumption | with_reducible apply Ext.drewN | with_reducible apply Ext.drew | with_reducible apply Ext.alloc | exact Ext.refl _ | assumption | apply Ext.drewN | apply Ext.drew | apply Ext.alloc)) hx1⟩
        · go_wp2
          go_ret
          exact ⟨ret_int (by rw [checkV, H1.out, H2.out, H3.out, HB.out, h4]; rfl), Ext.trans (by repeat (first | with_reducible exact Ext.refl _ | with_reducible assumption | with_reducible apply Ext.drewN | with_reducible apply Ext.drew | with_reducible apply Ext.alloc | exact Ext.refl _ | assumption | apply Ext.drewN | apply Ext.drew | apply Ext.alloc)) hx1⟩
theorem checkV_ok {ma mi pa : Int} {e : Str} (h : checkV ma mi pa e = 0) : (0 ≤ ma ∧ ma ≤ 999999) ∧ (0 ≤ mi ∧ mi ≤ 999999) ∧ (0 ≤ pa ∧ pa ≤ 999999) ∧ (e = [] ∨ earlyL e = true) := by
  unfold checkV at h
  split at h
  · cases h
  · rename_i h1
    split at h
    · cases h
    · rename_i h2
      have h1' : (inNum ma && inNum mi && inNum pa) = true := by cases hX : (inNum ma && inNum mi && inNum pa) with | false => exact absurd hX h1 | true => rfl
      simp only [Bool.and_eq_true, inNum, decide_eq_true_eq] at h1'
      refine ⟨h1'.1.1, h1'.1.2, h1'.2, ?_⟩
      by_cases h3 : e = []
      · exact .inl h3
      · refine .inr ?_
        cases h4 : earlyL e
        · exact absurd (by rw [h4]; simpa using h3) h2
        · rfl
/-- ver.Print's text -/
def printV (ma mi pa : Int) (e : Str) : Str := if checkV ma mi pa e = 0 then textL ma mi pa e else []
set_option maxHeartbeats 1000000 in
theorem Print_any (ma mi pa : Int) (ea : ByteArray) (w : World) (hg : GoodN w) (hs : ea.size ≤ 2097152) :
    Calls Tryz.prog 18 #[.agg #[.int .i64 ma, .int .i64 mi, .int .i64 pa, .string ea]] w fun e w' => e = .returned (.tuple #[S (printV ma mi pa (bs ea)), .int .i64 (checkV ma mi pa (bs ea))]) ∧ Ext w w' := by
  go_enter Tryz.func18, Tryz.ntmps18
  go_wp2_with fail
  refine (Check_any ma mi pa ea _ (hg.toGood.ext (by repeat (first | with_reducible exact Ext.refl _ | with_reducible assumption | with_reducible apply Ext.drewN | with_reducible apply Ext.drew | with_reducible apply Ext.alloc | exact Ext.refl _ | assumption | apply Ext.drewN | apply Ext.drew | apply Ext.alloc))) hs).mono ?_
  rintro e w1 ⟨rfl, hx1⟩
  obtain ⟨hc1, hf1⟩ := hx1.cells
  have hz1 := hx1.size
  by_cases h0 : checkV ma mi pa (bs ea) = 0
  · obtain ⟨a1, a2, a3, a4⟩ := checkV_ok h0
    have H0 := Lib.hid h0
    rw [h0]
    clear h0
    go_wp2_with fail
    refine (text_any ma mi pa ea _ (hg.ext (Ext.trans (by repeat (first | with_reducible exact Ext.refl _ | with_reducible assumption | with_reducible apply Ext.drewN | with_reducible apply Ext.drew | with_reducible apply Ext.alloc | exact Ext.refl _ | assumption | apply Ext.drewN | apply Ext.drew | apply Ext.alloc)) hx1)) hs a1.1 a1.2 a2.1 a2.2 a3.1 a3.2).mono ?_
    rintro e w2 ⟨rfl, hx2⟩
    go_wp2
    go_ret2
    exact ⟨by rw [printV, if_pos H0.out, H0.out]; rfl, Ext.trans (Ext.trans (by repeat (first | with_reducible exact Ext.refl _ | with_reducible assumption | with_reducible apply Ext.drewN | with_reducible apply Ext.drew | with_reducible apply Ext.alloc | exact Ext.refl _ | assumption | apply Ext.drewN | apply Ext.drew | apply Ext.alloc)) hx1) hx2⟩
  · go_wp2
    go_ret2
    exact ⟨by rw [printV, if_neg h0]; rfl, Ext.trans (by repeat (first | with_reducible exact Ext.refl _ | with_reducible assumption | with_reducible apply Ext.drewN | with_reducible apply Ext.drew | with_reducible apply Ext.alloc | exact Ext.refl _ | assumption | apply Ext.drewN | apply Ext.drew | apply Ext.alloc)) hx1⟩
end Go.Proofs.YtncagihilplliaaGreatDoor
