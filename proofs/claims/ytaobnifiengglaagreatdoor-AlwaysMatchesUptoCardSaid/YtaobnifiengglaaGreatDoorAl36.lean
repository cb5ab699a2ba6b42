/- Contract of ver.domainsFault. (Printed by gen/domb.py.) -/
import Derived.Test.YtaobnifiengglaaGreatDoorAl35
import Derived.Test.YtaobnifiengglaaGreatDoorAl02
import Derived.Test.YtaobnifiengglaaGreatDoorAl14

namespace Go.Proofs.YtaobnifiengglaaGreatDoor
open Go.RowKit

theorem enters_dsame : ∀ xs w, Sem.run Tryz.prog (callFunc 207 xs) w = .ok (.enter 207 xs) w := enters_of Tryz.func207 (by kernel_rfl) rfl
set_option maxRecDepth 100000 in
set_option maxHeartbeats 32000000 in
theorem domainsFault_any (A : Option Addr) (n c : Nat) (l : List Dm) (w : World) (hg : Good w) (hn : l.length = n) (hr : RdD w A l) (hs : SmallD l) (hl : n ≤ 2097152) (hc : n ≤ c) :
    Calls Tryz.prog 133 #[.slice A n c] w fun e w' => e = .returned (.tuple #[.int .i64 (domE l), .int .i64 (domW l : Nat)]) ∧ Ext w w' := by
  have HN := Lib.hid hn
  have HS := Lib.hid hs
  by_cases h20 : 20 < n
  · have e1 : domE l = 4 := by rw [domE, hn, if_pos h20]
    have e2 : domW l = 0 := by rw [domW, e1]; rfl
    have HE1 := Lib.hid e1; have HE2 := Lib.hid e2
    clear e1 e2 hn hr hs
    go_enter Tryz.func133, Tryz.ntmps133
    go_wp2
    go_ret2
    exact ⟨by rw [HE1.out, HE2.out]; rfl, Ext.refl _⟩
  have hl20 : ¬ 20 < l.length := by rw [hn]; exact h20
  have HDA := Lib.hid (fun h0 => (show domE l = 0 ∧ domW l = min (many l) 1001 from ⟨dom_all hl20 h0, by rw [domW, if_pos (dom_all hl20 h0)]⟩))
  have HDT := Lib.hid (fun k (hk : k < l.length) (h0 : ∀ x ∈ (dErrs l).take k, x = 0) (x : Int) (hx : x ≠ 0) (h1 : dErr l k = x) => (show domE l = x ∧ domW l = 0 from ⟨dom_at hl20 hk h0 hx h1, by rw [domW, if_neg (by rw [dom_at hl20 hk h0 hx h1]; exact hx)]⟩))
  obtain ⟨E, hE⟩ : ∃ E, domE l = E := ⟨_, rfl⟩
  obtain ⟨WN, hWN⟩ : ∃ WN, domW l = WN := ⟨_, rfl⟩
  rw [hE, hWN] at HDA HDT ⊢
  have HR := Lib.hid hr
  clear hn hr hs hE hWN hl20
  go_enter Tryz.func133, Tryz.ntmps133
  go_wp2
  go_loopw [4, 16] (fun s4 s16 wr => ∃ k : Nat, s16 = .int .i64 k ∧ k ≤ n ∧ s4 = .int .i64 ((min (many (l.take k)) 1001 : Nat) : Int) ∧ Hid (∀ x ∈ (dErrs l).take k, x = 0) ∧ Ext w wr) (fun _ s16 _ => n - (intOf s16).toNat)
  case atStart => exact ⟨0, by go_num, Nat.zero_le _, rfl, (fun x hx => by rw [List.take_zero] at hx; cases hx), Ext.refl _⟩
  case round =>
    obtain ⟨k, rfl, hk, rfl, H0, hxr⟩ := hrel
    by_cases hlt : k < n
    rotate_left
    · obtain rfl : k = n := by omega
      obtain ⟨e1, e2⟩ := HDA.out (by rw [HN.out]; exact H0.out)
      rw [← HN.out, List.take_length] at *
      subst e1 e2
      go_wp2
      go_ret2
      exact ⟨rfl, hxr⟩
    have hk1 : k < l.length := by rw [HN.out]; exact hlt
    obtain ⟨b, o, rfl, hX⟩ := HR.out (fun e => by rw [e] at hk1; exact absurd hk1 (Nat.not_lt_zero _))
    obtain ⟨A', c', x0, x1, x2, x3, hv, hvc⟩ := hX.ext hxr k hk1
    obtain ⟨hsz, hsv, hsx⟩ := HS.out l[k] (List.getElem_mem hk1)
    have hkc : k ≤ c := by omega
    have twc := fun W (h : Ext w W) g A1 c1 (bb : Blk W g 198 #[.string l[k].n, .bool l[k].s, .bool l[k].a, .slice A1 l[k].v.length c1]) => ContainsFuncD_any (some ⟨b, o, none⟩) k c (l.take k) 207 #[.pointer (some ⟨g, 0, none⟩)] (sameD l[k]) W (by rw [List.length_take]; omega) ((HR.out.ext h).take k) (by omega) enters_dsame
      (fun j hj A2 c2 W' h' => dsame_any l[k] (l.take k)[j] A2 A1 c2 c1 g W' (bb.ext h'))
    have HAT := Lib.hid (fun (x : Int) (hx : x ≠ 0) (h1 : dErrOf l[k] ((l.take k).any (sameD l[k])) = x) => HDT.out k hk1 H0.out x hx (by rw [dErr_of hk1]; exact h1))
    have HNX := Lib.hid (fun (h1 : dErrOf l[k] ((l.take k).any (sameD l[k])) = 0) => dom_next hk1 H0.out (by rw [dErr_of hk1]; exact h1))
    have HMS := Lib.hid (fun (h1 : 0 < l[k].size) => (show min (min (many (l.take k)) 1001 * l[k].size) 1001 = min (many (l.take (k + 1))) 1001 by rw [many_next hk1]; exact min_step _ _ _ h1))
    have HVR := Lib.hid hv
    have HSV := Lib.hid hsx
    have lb := lt_of_cell x0
    clear hX hv HDA HDT H0 hsx
    generalize (l.take k).any (sameD l[k]) = TW at *
    generalize l[k] = d at *
    generalize many (l.take k) = M at *
    obtain ⟨dn, ds, da, dv⟩ := d
    dsimp only at x0 x1 x2 x3 hsz hsv twc HVR HSV hvc
    have TWC := Lib.hid twc
    clear twc
    cases ds
    · have hR : rightD ⟨dn, false, da, dv⟩ = nameL (bs dn) := rfl
      have rc : ∀ W, Ext w W → Calls Tryz.prog 28 #[.string dn] W fun e w' => e = .returned (.bool (nameL (bs dn))) ∧ Ext W w' := fun W _ => (IsName_any dn W hsz).mono fun _ _ h => ⟨h.1, h.2 ▸ Ext.refl _⟩
      rw [← hR] at rc
      have RC := Lib.hid rc
      clear rc hR
      have bD := Blk.new wr 198 #[.string dn, .bool false, .bool da, .slice A' dv.length c']
      generalize hRI : rightD ⟨dn, false, da, dv⟩ = R at RC
      cases R
      · obtain ⟨e1, e2⟩ := HAT.out 5 (by decide) (d_name hRI)
        subst e1 e2
        go_wp2_with fail
        refine (RC.out _ (hxr.alloc _)).mono ?_
        rintro e w1 ⟨rfl, hx1⟩
        go_wp2
        go_ret2
        exact ⟨rfl, (hxr.alloc _).trans hx1⟩
      cases TW
      rotate_left
      · obtain ⟨e1, e2⟩ := HAT.out 6 (by decide) (d_twice hRI)
        subst e1 e2
        go_wp2_with fail
        refine (RC.out _ (hxr.alloc _)).mono ?_
        rintro e w1 ⟨rfl, hx1⟩
        go_wp2_with fail
        refine (TWC.out _ ((hxr.alloc _).trans hx1) _ _ _ (bD.ext hx1)).mono ?_
        rintro e w2 ⟨rfl, hx2⟩
        go_wp2
        go_ret2
        exact ⟨rfl, ((hxr.alloc _).trans hx1).trans hx2⟩
      by_cases hz : dv.length = 0
      · have z1 : ((dv.length : Int) == 0) = true := by rw [hz]; rfl
        have HZ0 := Lib.hid hz
        clear hz
        cases da
        · obtain ⟨e1, e2⟩ := HAT.out 9 (by decide) (d_empty hRI ⟨HZ0.out, rfl⟩)
          subst e1 e2
          go_wp2_with fail
          refine (RC.out _ (hxr.alloc _)).mono ?_
          rintro e w1 ⟨rfl, hx1⟩
          go_wp2_with fail
          refine (TWC.out _ ((hxr.alloc _).trans hx1) _ _ _ (bD.ext hx1)).mono ?_
          rintro e w2 ⟨rfl, hx2⟩
          have bD2 := (bD.ext hx1).ext hx2
          have cD := bD2.cell; have lD := bD2.lt
          go_wp2
          go_ret2
          exact ⟨rfl, ((hxr.alloc _).trans hx1).trans hx2⟩
        · have HLG := Lib.hid (show 20 < dv.length → dErrOf ⟨dn, false, true, dv⟩ false = 4 from fun h20 => d_large hRI (fun h => by cases h.2) h20)
          have HVS := Lib.hid (show ¬ 20 < dv.length → dErrOf ⟨dn, false, true, dv⟩ false = firstI (valErrs dv) from fun h20 => d_vals hRI (fun h => by cases h.2) h20)
          go_wp2_with fail
          refine (RC.out _ (hxr.alloc _)).mono ?_
          rintro e w1 ⟨rfl, hx1⟩
          go_wp2_with fail
          refine (TWC.out _ ((hxr.alloc _).trans hx1) _ _ _ (bD.ext hx1)).mono ?_
          rintro e w2 ⟨rfl, hx2⟩
          have bD2 := (bD.ext hx1).ext hx2
          have hxw2 : Ext w w2 := ((hxr.alloc _).trans hx1).trans hx2
          have hx02 : Ext wr w2 := (((Ext.refl wr).alloc _).trans hx1).trans hx2
          clear RC TWC hx1 hx2
          have cD0 := bD2.cell; have lD0 := bD2.lt
          by_cases h20 : 20 < dv.length
          · obtain ⟨e1, e2⟩ := HAT.out 4 (by decide) (HLG.out h20)
            subst e1 e2
            go_wp2
            go_ret2
            exact ⟨rfl, hxw2⟩
          have HV := Lib.hid (show ∀ j (hj : j < dv.length), (∀ x ∈ (valErrs dv).take j, x = 0) → ∀ x : Int, x ≠ 0 → valErr dv j = x → E = x ∧ WN = 0 from fun j hj h0 x hx h1 => HAT.out x hx (by rw [HVS.out h20]; exact (val_at hj h0 (by rw [h1]; exact hx)).trans h1))
          have HV0 := Lib.hid (show (∀ x ∈ (valErrs dv).take dv.length, x = 0) → dErrOf ⟨dn, false, true, dv⟩ false = 0 from fun h0 => by rw [HVS.out h20]; exact val_all h0)
          obtain ⟨wo, hwo⟩ : ∃ wo, wo = wr := ⟨wr, rfl⟩
          subst hwo
          have cD := bD2.cell; have lD := bD2.lt
          clear x0 x1 x2 x3 HAT bD
          go_wp2
          go_loopw [53] (fun t wr => ∃ j : Nat, t = .int .i64 j ∧ j ≤ dv.length ∧ Hid (∀ x ∈ (valErrs dv).take j, x = 0) ∧ Ext w2 wr) (fun t _ => dv.length - (intOf t).toNat)
          case atStart => exact ⟨0, by go_num, Nat.zero_le _, (fun x hx => by rw [List.take_zero] at hx; cases hx), Ext.refl _⟩
          case round =>
            obtain ⟨j, rfl, hj, HZ, hxi⟩ := hrel
            have bI := bD2.ext hxi
            have cI := bI.cell; have lI := bI.lt
            clear cD lD
            by_cases hlj : j < dv.length
            · have hne0 : dv ≠ [] := fun e => by rw [e] at hlj; exact absurd hlj (Nat.not_lt_zero _)
              have hvr := HVR.out.ext (hx02.trans hxi)
              obtain ⟨vb, vo, rfl, hk2⟩ := HVR.out hne0
              have hxj : Ext wo wr := hx02.trans hxi
              have y0 := hxj.cell (hk2 j hlj)
              have hjs := HSV.out dv[j] (List.getElem_mem hlj)
              have CV := Lib.hid (fun W => IsValue_any dv[j] W hjs)
              have CB := Lib.hid (fun W (h : Ext wo W) => ContainsB_any (some ⟨vb, vo, none⟩) c' j dv dv[j] W (HVR.out.ext h) (by omega) hne0 (Nat.le_of_lt hlj))
              have HVJ := Lib.hid (HV.out j hlj HZ.out)
              have HVN := Lib.hid (fun h => val_next hlj HZ.out h)
              have HVE := Lib.hid (valErr_of hlj)
              have yl := lt_of_cell y0
              clear hvr hk2
              generalize dv[j] = x at *
              generalize inB (dv.take j) x = IB at *
              generalize valueL (bs x) = VL at *
              cases VL
              · obtain ⟨e1, e2⟩ := HVJ.out 2 (by decide) (by rw [HVE.out, if_pos rfl])
                subst e1 e2
                go_wp2_with fail
                refine (CV.out _).mono ?_
                rintro e w3 ⟨rfl, rfl⟩
                go_wp2
                go_ret2
                exact ⟨rfl, hxw2.trans hxi⟩
              cases IB
              · have hve : valErr dv j = 0 := by rw [HVE.out, if_neg (by decide), if_neg (by decide)]
                have HV2 := Lib.hid (HVN.out hve)
                clear hve
                go_wp2_with fail
                refine (CV.out _).mono ?_
                rintro e w3 ⟨rfl, rfl⟩
                go_wp2_with fail
                refine (CB.out _ hxj).mono ?_
                rintro e w4 ⟨rfl, hx4⟩
                go_wp2
                go_roundw
                case rel => exact ⟨j + 1, by go_num, hlj, HV2.out, hxi.trans hx4⟩
                case measure => simp [intOf]; omega
              · obtain ⟨e1, e2⟩ := HVJ.out 6 (by decide) (by rw [HVE.out, if_neg (by decide), if_pos rfl])
                subst e1 e2
                go_wp2_with fail
                refine (CV.out _).mono ?_
                rintro e w3 ⟨rfl, rfl⟩
                go_wp2_with fail
                refine (CB.out _ hxj).mono ?_
                rintro e w4 ⟨rfl, hx4⟩
                go_wp2
                go_ret2
                exact ⟨rfl, (hxw2.trans hxi).trans hx4⟩
            · obtain rfl : j = dv.length := by omega
              have hd0 := HV0.out HZ.out
              have HN2 := Lib.hid (HNX.out hd0)
              have hsz := HMS.out (d_size hd0)
              have hmul : IntKind.i64.wrap (((min M 1001 : Nat) : Int) * ((dv.length : Int) + 1)) = ((min M 1001 * (dv.length + 1) : Nat) : Int) := by
                rw [IntKind.wrap_i64]
                have h1 : min M 1001 ≤ 1001 := Nat.min_le_right _ _
                have h2 : min M 1001 * (dv.length + 1) ≤ 1001 * 21 := Nat.mul_le_mul h1 (by omega)
                have h3 : ((min M 1001 : Nat) : Int) * ((dv.length : Int) + 1) = ((min M 1001 * (dv.length + 1) : Nat) : Int) := by simp
                rw [h3]
                omega
              have HSZ := Lib.hid hsz
              clear hsz hd0 HV HV0 HNX HMS
              generalize min M 1001 = m0 at *
              go_wp2
              go_roundw
              case rel => exact ⟨k + 1, by go_num, by omega, by rw [← HSZ.out]; have hq : (m0 : Int) * ((dv.length : Int) + 1) = ((m0 * (dv.length + 1) : Nat) : Int) := (by simp); show Value.int .i64 _ = Value.int .i64 ((min (m0 * (dv.length + 1)) 1001 : Nat) : Int); congr 1; (try rw [hq]); generalize m0 * (dv.length + 1) = q; omega, HN2.out, hxw2.trans hxi⟩
              case measure => simp [intOf]; omega
      have z1 : ((dv.length : Int) == 0) = false := by rw [beq_eq_false_iff_ne]; omega
      have HZ0 := Lib.hid hz
      clear hz
      cases da
      · have HLG := Lib.hid (show 20 < dv.length → dErrOf ⟨dn, false, false, dv⟩ false = 4 from fun h20 => d_large hRI (fun h => HZ0.out h.1) h20)
        have HVS := Lib.hid (show ¬ 20 < dv.length → dErrOf ⟨dn, false, false, dv⟩ false = firstI (valErrs dv) from fun h20 => d_vals hRI (fun h => HZ0.out h.1) h20)
        go_wp2_with fail
        refine (RC.out _ (hxr.alloc _)).mono ?_
        rintro e w1 ⟨rfl, hx1⟩
        go_wp2_with fail
        refine (TWC.out _ ((hxr.alloc _).trans hx1) _ _ _ (bD.ext hx1)).mono ?_
        rintro e w2 ⟨rfl, hx2⟩
        have bD2 := (bD.ext hx1).ext hx2
        have hxw2 : Ext w w2 := ((hxr.alloc _).trans hx1).trans hx2
        have hx02 : Ext wr w2 := (((Ext.refl wr).alloc _).trans hx1).trans hx2
        clear RC TWC hx1 hx2
        have cD0 := bD2.cell; have lD0 := bD2.lt
        by_cases h20 : 20 < dv.length
        · obtain ⟨e1, e2⟩ := HAT.out 4 (by decide) (HLG.out h20)
          subst e1 e2
          go_wp2
          go_ret2
          exact ⟨rfl, hxw2⟩
        have HV := Lib.hid (show ∀ j (hj : j < dv.length), (∀ x ∈ (valErrs dv).take j, x = 0) → ∀ x : Int, x ≠ 0 → valErr dv j = x → E = x ∧ WN = 0 from fun j hj h0 x hx h1 => HAT.out x hx (by rw [HVS.out h20]; exact (val_at hj h0 (by rw [h1]; exact hx)).trans h1))
        have HV0 := Lib.hid (show (∀ x ∈ (valErrs dv).take dv.length, x = 0) → dErrOf ⟨dn, false, false, dv⟩ false = 0 from fun h0 => by rw [HVS.out h20]; exact val_all h0)
        obtain ⟨wo, hwo⟩ : ∃ wo, wo = wr := ⟨wr, rfl⟩
        subst hwo
        have cD := bD2.cell; have lD := bD2.lt
        clear x0 x1 x2 x3 HAT bD
        go_wp2
        go_loopw [53] (fun t wr => ∃ j : Nat, t = .int .i64 j ∧ j ≤ dv.length ∧ Hid (∀ x ∈ (valErrs dv).take j, x = 0) ∧ Ext w2 wr) (fun t _ => dv.length - (intOf t).toNat)
        case atStart => exact ⟨0, by go_num, Nat.zero_le _, (fun x hx => by rw [List.take_zero] at hx; cases hx), Ext.refl _⟩
        case round =>
          obtain ⟨j, rfl, hj, HZ, hxi⟩ := hrel
          have bI := bD2.ext hxi
          have cI := bI.cell; have lI := bI.lt
          clear cD lD
          by_cases hlj : j < dv.length
          · have hne0 : dv ≠ [] := fun e => by rw [e] at hlj; exact absurd hlj (Nat.not_lt_zero _)
            have hvr := HVR.out.ext (hx02.trans hxi)
            obtain ⟨vb, vo, rfl, hk2⟩ := HVR.out hne0
            have hxj : Ext wo wr := hx02.trans hxi
            have y0 := hxj.cell (hk2 j hlj)
            have hjs := HSV.out dv[j] (List.getElem_mem hlj)
            have CV := Lib.hid (fun W => IsValue_any dv[j] W hjs)
            have CB := Lib.hid (fun W (h : Ext wo W) => ContainsB_any (some ⟨vb, vo, none⟩) c' j dv dv[j] W (HVR.out.ext h) (by omega) hne0 (Nat.le_of_lt hlj))
            have HVJ := Lib.hid (HV.out j hlj HZ.out)
            have HVN := Lib.hid (fun h => val_next hlj HZ.out h)
            have HVE := Lib.hid (valErr_of hlj)
            have yl := lt_of_cell y0
            clear hvr hk2
            generalize dv[j] = x at *
            generalize inB (dv.take j) x = IB at *
            generalize valueL (bs x) = VL at *
            cases VL
            · obtain ⟨e1, e2⟩ := HVJ.out 2 (by decide) (by rw [HVE.out, if_pos rfl])
              subst e1 e2
              go_wp2_with fail
              refine (CV.out _).mono ?_
              rintro e w3 ⟨rfl, rfl⟩
              go_wp2
              go_ret2
              exact ⟨rfl, hxw2.trans hxi⟩
            cases IB
            · have hve : valErr dv j = 0 := by rw [HVE.out, if_neg (by decide), if_neg (by decide)]
              have HV2 := Lib.hid (HVN.out hve)
              clear hve
              go_wp2_with fail
              refine (CV.out _).mono ?_
              rintro e w3 ⟨rfl, rfl⟩
              go_wp2_with fail
              refine (CB.out _ hxj).mono ?_
              rintro e w4 ⟨rfl, hx4⟩
              go_wp2
              go_roundw
              case rel => exact ⟨j + 1, by go_num, hlj, HV2.out, hxi.trans hx4⟩
              case measure => simp [intOf]; omega
            · obtain ⟨e1, e2⟩ := HVJ.out 6 (by decide) (by rw [HVE.out, if_neg (by decide), if_pos rfl])
              subst e1 e2
              go_wp2_with fail
              refine (CV.out _).mono ?_
              rintro e w3 ⟨rfl, rfl⟩
              go_wp2_with fail
              refine (CB.out _ hxj).mono ?_
              rintro e w4 ⟨rfl, hx4⟩
              go_wp2
              go_ret2
              exact ⟨rfl, (hxw2.trans hxi).trans hx4⟩
          · obtain rfl : j = dv.length := by omega
            have hd0 := HV0.out HZ.out
            have HN2 := Lib.hid (HNX.out hd0)
            have hsz := HMS.out (d_size hd0)
            have hmul : IntKind.i64.wrap (((min M 1001 : Nat) : Int) * (dv.length : Int)) = ((min M 1001 * dv.length : Nat) : Int) := by
              rw [IntKind.wrap_i64]
              have h1 : min M 1001 ≤ 1001 := Nat.min_le_right _ _
              have h2 : min M 1001 * dv.length ≤ 1001 * 21 := Nat.mul_le_mul h1 (by omega)
              have h3 : ((min M 1001 : Nat) : Int) * (dv.length : Int) = ((min M 1001 * dv.length : Nat) : Int) := by simp
              rw [h3]
              omega
            have HSZ := Lib.hid hsz
            clear hsz hd0 HV HV0 HNX HMS
            generalize min M 1001 = m0 at *
            go_wp2
            go_roundw
            case rel => exact ⟨k + 1, by go_num, by omega, by rw [← HSZ.out]; have hq : (m0 : Int) * (dv.length : Int) = ((m0 * dv.length : Nat) : Int) := (by simp); show Value.int .i64 _ = Value.int .i64 ((min (m0 * dv.length) 1001 : Nat) : Int); congr 1; (try rw [hq]); generalize m0 * dv.length = q; omega, HN2.out, hxw2.trans hxi⟩
            case measure => simp [intOf]; omega
      · have HLG := Lib.hid (show 20 < dv.length → dErrOf ⟨dn, false, true, dv⟩ false = 4 from fun h20 => d_large hRI (fun h => HZ0.out h.1) h20)
        have HVS := Lib.hid (show ¬ 20 < dv.length → dErrOf ⟨dn, false, true, dv⟩ false = firstI (valErrs dv) from fun h20 => d_vals hRI (fun h => HZ0.out h.1) h20)
        go_wp2_with fail
        refine (RC.out _ (hxr.alloc _)).mono ?_
        rintro e w1 ⟨rfl, hx1⟩
        go_wp2_with fail
        refine (TWC.out _ ((hxr.alloc _).trans hx1) _ _ _ (bD.ext hx1)).mono ?_
        rintro e w2 ⟨rfl, hx2⟩
        have bD2 := (bD.ext hx1).ext hx2
        have hxw2 : Ext w w2 := ((hxr.alloc _).trans hx1).trans hx2
        have hx02 : Ext wr w2 := (((Ext.refl wr).alloc _).trans hx1).trans hx2
        clear RC TWC hx1 hx2
        have cD0 := bD2.cell; have lD0 := bD2.lt
        by_cases h20 : 20 < dv.length
        · obtain ⟨e1, e2⟩ := HAT.out 4 (by decide) (HLG.out h20)
          subst e1 e2
          go_wp2
          go_ret2
          exact ⟨rfl, hxw2⟩
        have HV := Lib.hid (show ∀ j (hj : j < dv.length), (∀ x ∈ (valErrs dv).take j, x = 0) → ∀ x : Int, x ≠ 0 → valErr dv j = x → E = x ∧ WN = 0 from fun j hj h0 x hx h1 => HAT.out x hx (by rw [HVS.out h20]; exact (val_at hj h0 (by rw [h1]; exact hx)).trans h1))
        have HV0 := Lib.hid (show (∀ x ∈ (valErrs dv).take dv.length, x = 0) → dErrOf ⟨dn, false, true, dv⟩ false = 0 from fun h0 => by rw [HVS.out h20]; exact val_all h0)
        obtain ⟨wo, hwo⟩ : ∃ wo, wo = wr := ⟨wr, rfl⟩
        subst hwo
        have cD := bD2.cell; have lD := bD2.lt
        clear x0 x1 x2 x3 HAT bD
        go_wp2
        go_loopw [53] (fun t wr => ∃ j : Nat, t = .int .i64 j ∧ j ≤ dv.length ∧ Hid (∀ x ∈ (valErrs dv).take j, x = 0) ∧ Ext w2 wr) (fun t _ => dv.length - (intOf t).toNat)
        case atStart => exact ⟨0, by go_num, Nat.zero_le _, (fun x hx => by rw [List.take_zero] at hx; cases hx), Ext.refl _⟩
        case round =>
          obtain ⟨j, rfl, hj, HZ, hxi⟩ := hrel
          have bI := bD2.ext hxi
          have cI := bI.cell; have lI := bI.lt
          clear cD lD
          by_cases hlj : j < dv.length
          · have hne0 : dv ≠ [] := fun e => by rw [e] at hlj; exact absurd hlj (Nat.not_lt_zero _)
            have hvr := HVR.out.ext (hx02.trans hxi)
            obtain ⟨vb, vo, rfl, hk2⟩ := HVR.out hne0
            have hxj : Ext wo wr := hx02.trans hxi
            have y0 := hxj.cell (hk2 j hlj)
            have hjs := HSV.out dv[j] (List.getElem_mem hlj)
            have CV := Lib.hid (fun W => IsValue_any dv[j] W hjs)
            have CB := Lib.hid (fun W (h : Ext wo W) => ContainsB_any (some ⟨vb, vo, none⟩) c' j dv dv[j] W (HVR.out.ext h) (by omega) hne0 (Nat.le_of_lt hlj))
            have HVJ := Lib.hid (HV.out j hlj HZ.out)
            have HVN := Lib.hid (fun h => val_next hlj HZ.out h)
            have HVE := Lib.hid (valErr_of hlj)
            have yl := lt_of_cell y0
            clear hvr hk2
            generalize dv[j] = x at *
            generalize inB (dv.take j) x = IB at *
            generalize valueL (bs x) = VL at *
            cases VL
            · obtain ⟨e1, e2⟩ := HVJ.out 2 (by decide) (by rw [HVE.out, if_pos rfl])
              subst e1 e2
              go_wp2_with fail
              refine (CV.out _).mono ?_
              rintro e w3 ⟨rfl, rfl⟩
              go_wp2
              go_ret2
              exact ⟨rfl, hxw2.trans hxi⟩
            cases IB
            · have hve : valErr dv j = 0 := by rw [HVE.out, if_neg (by decide), if_neg (by decide)]
              have HV2 := Lib.hid (HVN.out hve)
              clear hve
              go_wp2_with fail
              refine (CV.out _).mono ?_
              rintro e w3 ⟨rfl, rfl⟩
              go_wp2_with fail
              refine (CB.out _ hxj).mono ?_
              rintro e w4 ⟨rfl, hx4⟩
              go_wp2
              go_roundw
              case rel => exact ⟨j + 1, by go_num, hlj, HV2.out, hxi.trans hx4⟩
              case measure => simp [intOf]; omega
            · obtain ⟨e1, e2⟩ := HVJ.out 6 (by decide) (by rw [HVE.out, if_neg (by decide), if_pos rfl])
              subst e1 e2
              go_wp2_with fail
              refine (CV.out _).mono ?_
              rintro e w3 ⟨rfl, rfl⟩
              go_wp2_with fail
              refine (CB.out _ hxj).mono ?_
              rintro e w4 ⟨rfl, hx4⟩
              go_wp2
              go_ret2
              exact ⟨rfl, (hxw2.trans hxi).trans hx4⟩
          · obtain rfl : j = dv.length := by omega
            have hd0 := HV0.out HZ.out
            have HN2 := Lib.hid (HNX.out hd0)
            have hsz := HMS.out (d_size hd0)
            have hmul : IntKind.i64.wrap (((min M 1001 : Nat) : Int) * ((dv.length : Int) + 1)) = ((min M 1001 * (dv.length + 1) : Nat) : Int) := by
              rw [IntKind.wrap_i64]
              have h1 : min M 1001 ≤ 1001 := Nat.min_le_right _ _
              have h2 : min M 1001 * (dv.length + 1) ≤ 1001 * 21 := Nat.mul_le_mul h1 (by omega)
              have h3 : ((min M 1001 : Nat) : Int) * ((dv.length : Int) + 1) = ((min M 1001 * (dv.length + 1) : Nat) : Int) := by simp
              rw [h3]
              omega
            have HSZ := Lib.hid hsz
            clear hsz hd0 HV HV0 HNX HMS
            generalize min M 1001 = m0 at *
            go_wp2
            go_roundw
            case rel => exact ⟨k + 1, by go_num, by omega, by rw [← HSZ.out]; have hq : (m0 : Int) * ((dv.length : Int) + 1) = ((m0 * (dv.length + 1) : Nat) : Int) := (by simp); show Value.int .i64 _ = Value.int .i64 ((min (m0 * (dv.length + 1)) 1001 : Nat) : Int); congr 1; (try rw [hq]); generalize m0 * (dv.length + 1) = q; omega, HN2.out, hxw2.trans hxi⟩
            case measure => simp [intOf]; omega
    · have hR : rightD ⟨dn, true, da, dv⟩ = pathL (bs dn) := rfl
      have rc : ∀ W, Ext w W → Calls Tryz.prog 30 #[.string dn] W fun e w' => e = .returned (.bool (pathL (bs dn))) ∧ Ext W w' := fun W h => IsPath_any dn W (hg.ext h) hsz
      rw [← hR] at rc
      have RC := Lib.hid rc
      clear rc hR
      have bD := Blk.new wr 198 #[.string dn, .bool true, .bool da, .slice A' dv.length c']
      generalize hRI : rightD ⟨dn, true, da, dv⟩ = R at RC
      cases R
      · obtain ⟨e1, e2⟩ := HAT.out 5 (by decide) (d_name hRI)
        subst e1 e2
        go_wp2_with fail
        refine (RC.out _ (hxr.alloc _)).mono ?_
        rintro e w1 ⟨rfl, hx1⟩
        go_wp2
        go_ret2
        exact ⟨rfl, (hxr.alloc _).trans hx1⟩
      cases TW
      rotate_left
      · obtain ⟨e1, e2⟩ := HAT.out 6 (by decide) (d_twice hRI)
        subst e1 e2
        go_wp2_with fail
        refine (RC.out _ (hxr.alloc _)).mono ?_
        rintro e w1 ⟨rfl, hx1⟩
        go_wp2_with fail
        refine (TWC.out _ ((hxr.alloc _).trans hx1) _ _ _ (bD.ext hx1)).mono ?_
        rintro e w2 ⟨rfl, hx2⟩
        go_wp2
        go_ret2
        exact ⟨rfl, ((hxr.alloc _).trans hx1).trans hx2⟩
      by_cases hz : dv.length = 0
      · have z1 : ((dv.length : Int) == 0) = true := by rw [hz]; rfl
        have HZ0 := Lib.hid hz
        clear hz
        cases da
        · obtain ⟨e1, e2⟩ := HAT.out 9 (by decide) (d_empty hRI ⟨HZ0.out, rfl⟩)
          subst e1 e2
          go_wp2_with fail
          refine (RC.out _ (hxr.alloc _)).mono ?_
          rintro e w1 ⟨rfl, hx1⟩
          go_wp2_with fail
          refine (TWC.out _ ((hxr.alloc _).trans hx1) _ _ _ (bD.ext hx1)).mono ?_
          rintro e w2 ⟨rfl, hx2⟩
          have bD2 := (bD.ext hx1).ext hx2
          have cD := bD2.cell; have lD := bD2.lt
          go_wp2
          go_ret2
          exact ⟨rfl, ((hxr.alloc _).trans hx1).trans hx2⟩
        · have HLG := Lib.hid (show 20 < dv.length → dErrOf ⟨dn, true, true, dv⟩ false = 4 from fun h20 => d_large hRI (fun h => by cases h.2) h20)
          have HVS := Lib.hid (show ¬ 20 < dv.length → dErrOf ⟨dn, true, true, dv⟩ false = firstI (valErrs dv) from fun h20 => d_vals hRI (fun h => by cases h.2) h20)
          go_wp2_with fail
          refine (RC.out _ (hxr.alloc _)).mono ?_
          rintro e w1 ⟨rfl, hx1⟩
          go_wp2_with fail
          refine (TWC.out _ ((hxr.alloc _).trans hx1) _ _ _ (bD.ext hx1)).mono ?_
          rintro e w2 ⟨rfl, hx2⟩
          have bD2 := (bD.ext hx1).ext hx2
          have hxw2 : Ext w w2 := ((hxr.alloc _).trans hx1).trans hx2
          have hx02 : Ext wr w2 := (((Ext.refl wr).alloc _).trans hx1).trans hx2
          clear RC TWC hx1 hx2
          have cD0 := bD2.cell; have lD0 := bD2.lt
          by_cases h20 : 20 < dv.length
          · obtain ⟨e1, e2⟩ := HAT.out 4 (by decide) (HLG.out h20)
            subst e1 e2
            go_wp2
            go_ret2
            exact ⟨rfl, hxw2⟩
          have HV := Lib.hid (show ∀ j (hj : j < dv.length), (∀ x ∈ (valErrs dv).take j, x = 0) → ∀ x : Int, x ≠ 0 → valErr dv j = x → E = x ∧ WN = 0 from fun j hj h0 x hx h1 => HAT.out x hx (by rw [HVS.out h20]; exact (val_at hj h0 (by rw [h1]; exact hx)).trans h1))
          have HV0 := Lib.hid (show (∀ x ∈ (valErrs dv).take dv.length, x = 0) → dErrOf ⟨dn, true, true, dv⟩ false = 0 from fun h0 => by rw [HVS.out h20]; exact val_all h0)
          obtain ⟨wo, hwo⟩ : ∃ wo, wo = wr := ⟨wr, rfl⟩
          subst hwo
          have cD := bD2.cell; have lD := bD2.lt
          clear x0 x1 x2 x3 HAT bD
          go_wp2
          go_loopw [53] (fun t wr => ∃ j : Nat, t = .int .i64 j ∧ j ≤ dv.length ∧ Hid (∀ x ∈ (valErrs dv).take j, x = 0) ∧ Ext w2 wr) (fun t _ => dv.length - (intOf t).toNat)
          case atStart => exact ⟨0, by go_num, Nat.zero_le _, (fun x hx => by rw [List.take_zero] at hx; cases hx), Ext.refl _⟩
          case round =>
            obtain ⟨j, rfl, hj, HZ, hxi⟩ := hrel
            have bI := bD2.ext hxi
            have cI := bI.cell; have lI := bI.lt
            clear cD lD
            by_cases hlj : j < dv.length
            · have hne0 : dv ≠ [] := fun e => by rw [e] at hlj; exact absurd hlj (Nat.not_lt_zero _)
              have hvr := HVR.out.ext (hx02.trans hxi)
              obtain ⟨vb, vo, rfl, hk2⟩ := HVR.out hne0
              have hxj : Ext wo wr := hx02.trans hxi
              have y0 := hxj.cell (hk2 j hlj)
              have hjs := HSV.out dv[j] (List.getElem_mem hlj)
              have CV := Lib.hid (fun W => IsValue_any dv[j] W hjs)
              have CB := Lib.hid (fun W (h : Ext wo W) => ContainsB_any (some ⟨vb, vo, none⟩) c' j dv dv[j] W (HVR.out.ext h) (by omega) hne0 (Nat.le_of_lt hlj))
              have HVJ := Lib.hid (HV.out j hlj HZ.out)
              have HVN := Lib.hid (fun h => val_next hlj HZ.out h)
              have HVE := Lib.hid (valErr_of hlj)
              have yl := lt_of_cell y0
              clear hvr hk2
              generalize dv[j] = x at *
              generalize inB (dv.take j) x = IB at *
              generalize valueL (bs x) = VL at *
              cases VL
              · obtain ⟨e1, e2⟩ := HVJ.out 2 (by decide) (by rw [HVE.out, if_pos rfl])
                subst e1 e2
                go_wp2_with fail
                refine (CV.out _).mono ?_
                rintro e w3 ⟨rfl, rfl⟩
                go_wp2
                go_ret2
                exact ⟨rfl, hxw2.trans hxi⟩
              cases IB
              · have hve : valErr dv j = 0 := by rw [HVE.out, if_neg (by decide), if_neg (by decide)]
                have HV2 := Lib.hid (HVN.out hve)
                clear hve
                go_wp2_with fail
                refine (CV.out _).mono ?_
                rintro e w3 ⟨rfl, rfl⟩
                go_wp2_with fail
                refine (CB.out _ hxj).mono ?_
                rintro e w4 ⟨rfl, hx4⟩
                go_wp2
                go_roundw
                case rel => exact ⟨j + 1, by go_num, hlj, HV2.out, hxi.trans hx4⟩
                case measure => simp [intOf]; omega
              · obtain ⟨e1, e2⟩ := HVJ.out 6 (by decide) (by rw [HVE.out, if_neg (by decide), if_pos rfl])
                subst e1 e2
                go_wp2_with fail
                refine (CV.out _).mono ?_
                rintro e w3 ⟨rfl, rfl⟩
                go_wp2_with fail
                refine (CB.out _ hxj).mono ?_
                rintro e w4 ⟨rfl, hx4⟩
                go_wp2
                go_ret2
                exact ⟨rfl, (hxw2.trans hxi).trans hx4⟩
            · obtain rfl : j = dv.length := by omega
              have hd0 := HV0.out HZ.out
              have HN2 := Lib.hid (HNX.out hd0)
              have hsz := HMS.out (d_size hd0)
              have hmul : IntKind.i64.wrap (((min M 1001 : Nat) : Int) * ((dv.length : Int) + 1)) = ((min M 1001 * (dv.length + 1) : Nat) : Int) := by
                rw [IntKind.wrap_i64]
                have h1 : min M 1001 ≤ 1001 := Nat.min_le_right _ _
                have h2 : min M 1001 * (dv.length + 1) ≤ 1001 * 21 := Nat.mul_le_mul h1 (by omega)
                have h3 : ((min M 1001 : Nat) : Int) * ((dv.length : Int) + 1) = ((min M 1001 * (dv.length + 1) : Nat) : Int) := by simp
                rw [h3]
                omega
              have HSZ := Lib.hid hsz
              clear hsz hd0 HV HV0 HNX HMS
              generalize min M 1001 = m0 at *
              go_wp2
              go_roundw
              case rel => exact ⟨k + 1, by go_num, by omega, by rw [← HSZ.out]; have hq : (m0 : Int) * ((dv.length : Int) + 1) = ((m0 * (dv.length + 1) : Nat) : Int) := (by simp); show Value.int .i64 _ = Value.int .i64 ((min (m0 * (dv.length + 1)) 1001 : Nat) : Int); congr 1; (try rw [hq]); generalize m0 * (dv.length + 1) = q; omega, HN2.out, hxw2.trans hxi⟩
              case measure => simp [intOf]; omega
      have z1 : ((dv.length : Int) == 0) = false := by rw [beq_eq_false_iff_ne]; omega
      have HZ0 := Lib.hid hz
      clear hz
      cases da
      · have HLG := Lib.hid (show 20 < dv.length → dErrOf ⟨dn, true, false, dv⟩ false = 4 from fun h20 => d_large hRI (fun h => HZ0.out h.1) h20)
        have HVS := Lib.hid (show ¬ 20 < dv.length → dErrOf ⟨dn, true, false, dv⟩ false = firstI (valErrs dv) from fun h20 => d_vals hRI (fun h => HZ0.out h.1) h20)
        go_wp2_with fail
        refine (RC.out _ (hxr.alloc _)).mono ?_
        rintro e w1 ⟨rfl, hx1⟩
        go_wp2_with fail
        refine (TWC.out _ ((hxr.alloc _).trans hx1) _ _ _ (bD.ext hx1)).mono ?_
        rintro e w2 ⟨rfl, hx2⟩
        have bD2 := (bD.ext hx1).ext hx2
        have hxw2 : Ext w w2 := ((hxr.alloc _).trans hx1).trans hx2
        have hx02 : Ext wr w2 := (((Ext.refl wr).alloc _).trans hx1).trans hx2
        clear RC TWC hx1 hx2
        have cD0 := bD2.cell; have lD0 := bD2.lt
        by_cases h20 : 20 < dv.length
        · obtain ⟨e1, e2⟩ := HAT.out 4 (by decide) (HLG.out h20)
          subst e1 e2
          go_wp2
          go_ret2
          exact ⟨rfl, hxw2⟩
        have HV := Lib.hid (show ∀ j (hj : j < dv.length), (∀ x ∈ (valErrs dv).take j, x = 0) → ∀ x : Int, x ≠ 0 → valErr dv j = x → E = x ∧ WN = 0 from fun j hj h0 x hx h1 => HAT.out x hx (by rw [HVS.out h20]; exact (val_at hj h0 (by rw [h1]; exact hx)).trans h1))
        have HV0 := Lib.hid (show (∀ x ∈ (valErrs dv).take dv.length, x = 0) → dErrOf ⟨dn, true, false, dv⟩ false = 0 from fun h0 => by rw [HVS.out h20]; exact val_all h0)
        obtain ⟨wo, hwo⟩ : ∃ wo, wo = wr := ⟨wr, rfl⟩
        subst hwo
        have cD := bD2.cell; have lD := bD2.lt
        clear x0 x1 x2 x3 HAT bD
        go_wp2
        go_loopw [53] (fun t wr => ∃ j : Nat, t = .int .i64 j ∧ j ≤ dv.length ∧ Hid (∀ x ∈ (valErrs dv).take j, x = 0) ∧ Ext w2 wr) (fun t _ => dv.length - (intOf t).toNat)
        case atStart => exact ⟨0, by go_num, Nat.zero_le _, (fun x hx => by rw [List.take_zero] at hx; cases hx), Ext.refl _⟩
        case round =>
          obtain ⟨j, rfl, hj, HZ, hxi⟩ := hrel
          have bI := bD2.ext hxi
          have cI := bI.cell; have lI := bI.lt
          clear cD lD
          by_cases hlj : j < dv.length
          · have hne0 : dv ≠ [] := fun e => by rw [e] at hlj; exact absurd hlj (Nat.not_lt_zero _)
            have hvr := HVR.out.ext (hx02.trans hxi)
            obtain ⟨vb, vo, rfl, hk2⟩ := HVR.out hne0
            have hxj : Ext wo wr := hx02.trans hxi
            have y0 := hxj.cell (hk2 j hlj)
            have hjs := HSV.out dv[j] (List.getElem_mem hlj)
            have CV := Lib.hid (fun W => IsValue_any dv[j] W hjs)
            have CB := Lib.hid (fun W (h : Ext wo W) => ContainsB_any (some ⟨vb, vo, none⟩) c' j dv dv[j] W (HVR.out.ext h) (by omega) hne0 (Nat.le_of_lt hlj))
            have HVJ := Lib.hid (HV.out j hlj HZ.out)
            have HVN := Lib.hid (fun h => val_next hlj HZ.out h)
            have HVE := Lib.hid (valErr_of hlj)
            have yl := lt_of_cell y0
            clear hvr hk2
            generalize dv[j] = x at *
            generalize inB (dv.take j) x = IB at *
            generalize valueL (bs x) = VL at *
            cases VL
            · obtain ⟨e1, e2⟩ := HVJ.out 2 (by decide) (by rw [HVE.out, if_pos rfl])
              subst e1 e2
              go_wp2_with fail
              refine (CV.out _).mono ?_
              rintro e w3 ⟨rfl, rfl⟩
              go_wp2
              go_ret2
              exact ⟨rfl, hxw2.trans hxi⟩
            cases IB
            · have hve : valErr dv j = 0 := by rw [HVE.out, if_neg (by decide), if_neg (by decide)]
              have HV2 := Lib.hid (HVN.out hve)
              clear hve
              go_wp2_with fail
              refine (CV.out _).mono ?_
              rintro e w3 ⟨rfl, rfl⟩
              go_wp2_with fail
              refine (CB.out _ hxj).mono ?_
              rintro e w4 ⟨rfl, hx4⟩
              go_wp2
              go_roundw
              case rel => exact ⟨j + 1, by go_num, hlj, HV2.out, hxi.trans hx4⟩
              case measure => simp [intOf]; omega
            · obtain ⟨e1, e2⟩ := HVJ.out 6 (by decide) (by rw [HVE.out, if_neg (by decide), if_pos rfl])
              subst e1 e2
              go_wp2_with fail
              refine (CV.out _).mono ?_
              rintro e w3 ⟨rfl, rfl⟩
              go_wp2_with fail
              refine (CB.out _ hxj).mono ?_
              rintro e w4 ⟨rfl, hx4⟩
              go_wp2
              go_ret2
              exact ⟨rfl, (hxw2.trans hxi).trans hx4⟩
          · obtain rfl : j = dv.length := by omega
            have hd0 := HV0.out HZ.out
            have HN2 := Lib.hid (HNX.out hd0)
            have hsz := HMS.out (d_size hd0)
            have hmul : IntKind.i64.wrap (((min M 1001 : Nat) : Int) * (dv.length : Int)) = ((min M 1001 * dv.length : Nat) : Int) := by
              rw [IntKind.wrap_i64]
              have h1 : min M 1001 ≤ 1001 := Nat.min_le_right _ _
              have h2 : min M 1001 * dv.length ≤ 1001 * 21 := Nat.mul_le_mul h1 (by omega)
              have h3 : ((min M 1001 : Nat) : Int) * (dv.length : Int) = ((min M 1001 * dv.length : Nat) : Int) := by simp
              rw [h3]
              omega
            have HSZ := Lib.hid hsz
            clear hsz hd0 HV HV0 HNX HMS
            generalize min M 1001 = m0 at *
            go_wp2
            go_roundw
            case rel => exact ⟨k + 1, by go_num, by omega, by rw [← HSZ.out]; have hq : (m0 : Int) * (dv.length : Int) = ((m0 * dv.length : Nat) : Int) := (by simp); show Value.int .i64 _ = Value.int .i64 ((min (m0 * dv.length) 1001 : Nat) : Int); congr 1; (try rw [hq]); generalize m0 * dv.length = q; omega, HN2.out, hxw2.trans hxi⟩
            case measure => simp [intOf]; omega
      · have HLG := Lib.hid (show 20 < dv.length → dErrOf ⟨dn, true, true, dv⟩ false = 4 from fun h20 => d_large hRI (fun h => HZ0.out h.1) h20)
        have HVS := Lib.hid (show ¬ 20 < dv.length → dErrOf ⟨dn, true, true, dv⟩ false = firstI (valErrs dv) from fun h20 => d_vals hRI (fun h => HZ0.out h.1) h20)
        go_wp2_with fail
        refine (RC.out _ (hxr.alloc _)).mono ?_
        rintro e w1 ⟨rfl, hx1⟩
        go_wp2_with fail
        refine (TWC.out _ ((hxr.alloc _).trans hx1) _ _ _ (bD.ext hx1)).mono ?_
        rintro e w2 ⟨rfl, hx2⟩
        have bD2 := (bD.ext hx1).ext hx2
        have hxw2 : Ext w w2 := ((hxr.alloc _).trans hx1).trans hx2
        have hx02 : Ext wr w2 := (((Ext.refl wr).alloc _).trans hx1).trans hx2
        clear RC TWC hx1 hx2
        have cD0 := bD2.cell; have lD0 := bD2.lt
        by_cases h20 : 20 < dv.length
        · obtain ⟨e1, e2⟩ := HAT.out 4 (by decide) (HLG.out h20)
          subst e1 e2
          go_wp2
          go_ret2
          exact ⟨rfl, hxw2⟩
        have HV := Lib.hid (show ∀ j (hj : j < dv.length), (∀ x ∈ (valErrs dv).take j, x = 0) → ∀ x : Int, x ≠ 0 → valErr dv j = x → E = x ∧ WN = 0 from fun j hj h0 x hx h1 => HAT.out x hx (by rw [HVS.out h20]; exact (val_at hj h0 (by rw [h1]; exact hx)).trans h1))
        have HV0 := Lib.hid (show (∀ x ∈ (valErrs dv).take dv.length, x = 0) → dErrOf ⟨dn, true, true, dv⟩ false = 0 from fun h0 => by rw [HVS.out h20]; exact val_all h0)
        obtain ⟨wo, hwo⟩ : ∃ wo, wo = wr := ⟨wr, rfl⟩
        subst hwo
        have cD := bD2.cell; have lD := bD2.lt
        clear x0 x1 x2 x3 HAT bD
        go_wp2
        go_loopw [53] (fun t wr => ∃ j : Nat, t = .int .i64 j ∧ j ≤ dv.length ∧ Hid (∀ x ∈ (valErrs dv).take j, x = 0) ∧ Ext w2 wr) (fun t _ => dv.length - (intOf t).toNat)
        case atStart => exact ⟨0, by go_num, Nat.zero_le _, (fun x hx => by rw [List.take_zero] at hx; cases hx), Ext.refl _⟩
        case round =>
          obtain ⟨j, rfl, hj, HZ, hxi⟩ := hrel
          have bI := bD2.ext hxi
          have cI := bI.cell; have lI := bI.lt
          clear cD lD
          by_cases hlj : j < dv.length
          · have hne0 : dv ≠ [] := fun e => by rw [e] at hlj; exact absurd hlj (Nat.not_lt_zero _)
            have hvr := HVR.out.ext (hx02.trans hxi)
            obtain ⟨vb, vo, rfl, hk2⟩ := HVR.out hne0
            have hxj : Ext wo wr := hx02.trans hxi
            have y0 := hxj.cell (hk2 j hlj)
            have hjs := HSV.out dv[j] (List.getElem_mem hlj)
            have CV := Lib.hid (fun W => IsValue_any dv[j] W hjs)
            have CB := Lib.hid (fun W (h : Ext wo W) => ContainsB_any (some ⟨vb, vo, none⟩) c' j dv dv[j] W (HVR.out.ext h) (by omega) hne0 (Nat.le_of_lt hlj))
            have HVJ := Lib.hid (HV.out j hlj HZ.out)
            have HVN := Lib.hid (fun h => val_next hlj HZ.out h)
            have HVE := Lib.hid (valErr_of hlj)
            have yl := lt_of_cell y0
            clear hvr hk2
            generalize dv[j] = x at *
            generalize inB (dv.take j) x = IB at *
            generalize valueL (bs x) = VL at *
            cases VL
            · obtain ⟨e1, e2⟩ := HVJ.out 2 (by decide) (by rw [HVE.out, if_pos rfl])
              subst e1 e2
              go_wp2_with fail
              refine (CV.out _).mono ?_
              rintro e w3 ⟨rfl, rfl⟩
              go_wp2
              go_ret2
              exact ⟨rfl, hxw2.trans hxi⟩
            cases IB
            · have hve : valErr dv j = 0 := by rw [HVE.out, if_neg (by decide), if_neg (by decide)]
              have HV2 := Lib.hid (HVN.out hve)
              clear hve
              go_wp2_with fail
              refine (CV.out _).mono ?_
              rintro e w3 ⟨rfl, rfl⟩
              go_wp2_with fail
              refine (CB.out _ hxj).mono ?_
              rintro e w4 ⟨rfl, hx4⟩
              go_wp2
              go_roundw
              case rel => exact ⟨j + 1, by go_num, hlj, HV2.out, hxi.trans hx4⟩
              case measure => simp [intOf]; omega
            · obtain ⟨e1, e2⟩ := HVJ.out 6 (by decide) (by rw [HVE.out, if_neg (by decide), if_pos rfl])
              subst e1 e2
              go_wp2_with fail
              refine (CV.out _).mono ?_
              rintro e w3 ⟨rfl, rfl⟩
              go_wp2_with fail
              refine (CB.out _ hxj).mono ?_
              rintro e w4 ⟨rfl, hx4⟩
              go_wp2
              go_ret2
              exact ⟨rfl, (hxw2.trans hxi).trans hx4⟩
          · obtain rfl : j = dv.length := by omega
            have hd0 := HV0.out HZ.out
            have HN2 := Lib.hid (HNX.out hd0)
            have hsz := HMS.out (d_size hd0)
            have hmul : IntKind.i64.wrap (((min M 1001 : Nat) : Int) * ((dv.length : Int) + 1)) = ((min M 1001 * (dv.length + 1) : Nat) : Int) := by
              rw [IntKind.wrap_i64]
              have h1 : min M 1001 ≤ 1001 := Nat.min_le_right _ _
              have h2 : min M 1001 * (dv.length + 1) ≤ 1001 * 21 := Nat.mul_le_mul h1 (by omega)
              have h3 : ((min M 1001 : Nat) : Int) * ((dv.length : Int) + 1) = ((min M 1001 * (dv.length + 1) : Nat) : Int) := by simp
              rw [h3]
              omega
            have HSZ := Lib.hid hsz
            clear hsz hd0 HV HV0 HNX HMS
            generalize min M 1001 = m0 at *
            go_wp2
            go_roundw
            case rel => exact ⟨k + 1, by go_num, by omega, by rw [← HSZ.out]; have hq : (m0 : Int) * ((dv.length : Int) + 1) = ((m0 * (dv.length + 1) : Nat) : Int) := (by simp); show Value.int .i64 _ = Value.int .i64 ((min (m0 * (dv.length + 1)) 1001 : Nat) : Int); congr 1; (try rw [hq]); generalize m0 * (dv.length + 1) = q; omega, HN2.out, hxw2.trans hxi⟩
            case measure => simp [intOf]; omega
end Go.Proofs.YtaobnifiengglaaGreatDoor
