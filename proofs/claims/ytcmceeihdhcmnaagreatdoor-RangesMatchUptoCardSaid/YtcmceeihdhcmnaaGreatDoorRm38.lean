/- Contract of ver.Greatest. -/
import Derived.Test.YtcmceeihdhcmnaaGreatDoorRm33
import Derived.Test.YtcmceeihdhcmnaaGreatDoorRm34

namespace Go.Proofs.YtcmceeihdhcmnaaGreatDoor
open Go.RowKit

/-- one version looked at -/
def bestStep (la : List Sp) (lv : List V4) (z : Int) (i : Nat) : Int := if (hasL la (lv.getD i zeroV) && (decide (z < 0) || decide (0 < (lv.getD i zeroV).ord (lv.getD z.toNat zeroV)))) = true then (i : Int) else z
def bestK (la : List Sp) (lv : List V4) (k : Nat) : Int := (List.range k).foldl (bestStep la lv) (-1)
theorem bestK_zero (la : List Sp) (lv : List V4) : bestK la lv 0 = -1 := rfl
theorem bestK_succ (la : List Sp) (lv : List V4) (k : Nat) : bestK la lv (k + 1) = bestStep la lv (bestK la lv k) k := by simp [bestK, List.range_succ]
theorem bestK_is (la : List Sp) (lv : List V4) (k : Nat) : bestK la lv k = -1 ∨ ∃ j : Nat, j < k ∧ bestK la lv k = (j : Int) := by
  induction k with
  | zero => exact .inl rfl
  | succ k ih =>
    rw [bestK_succ]
    unfold bestStep
    split
    · exact .inr ⟨k, by omega, rfl⟩
    · rcases ih with h | ⟨j, h1, h2⟩
      · exact .inl h
      · exact .inr ⟨j, by omega, h2⟩
theorem getD_at {lv : List V4} {k : Nat} (h : k < lv.length) : lv.getD k zeroV = lv[k] := by simp [List.getD, List.getElem?_eq_getElem h]
theorem best_no {la : List Sp} {lv : List V4} {k : Nat} {z : Int} (hk : k < lv.length) (hz : z = bestK la lv k) (h : hasL la lv[k] = false) : z = bestK la lv (k + 1) := by
  rw [bestK_succ, bestStep, getD_at hk, h, ← hz]
  simp
theorem best_first {la : List Sp} {lv : List V4} {k : Nat} (hk : k < lv.length) (hz : -1 = bestK la lv k) (h : hasL la lv[k] = true) : (k : Int) = bestK la lv (k + 1) := by
  rw [bestK_succ, bestStep, getD_at hk, h, ← hz]
  simp
theorem best_more {la : List Sp} {lv : List V4} {k j : Nat} (hk : k < lv.length) (hj : j < lv.length) (hz : (j : Int) = bestK la lv k) (h : hasL la lv[k] = true) (ho : 0 < lv[k].ord lv[j]) : (k : Int) = bestK la lv (k + 1) := by
  rw [bestK_succ, bestStep, getD_at hk, h, ← hz, Int.toNat_natCast, getD_at hj, decide_eq_true ho]
  simp
theorem best_less {la : List Sp} {lv : List V4} {k j : Nat} (hk : k < lv.length) (hj : j < lv.length) (hz : (j : Int) = bestK la lv k) (h : hasL la lv[k] = true) (ho : ¬ 0 < lv[k].ord lv[j]) : (j : Int) = bestK la lv (k + 1) := by
  rw [bestK_succ, bestStep, getD_at hk, h, ← hz, Int.toNat_natCast, getD_at hj, decide_eq_false ho, decide_eq_false (by omega : ¬ (j : Int) < 0)]
  simp
/-- ver.Greatest -/
def greatP (la : List Sp) (lv : List V4) : Int × Int :=
  if rngErr la ≠ 0 then (0, rngErr la) else if 1000 < lv.length then (0, 4) else if firstI (lv.map V4.err) ≠ 0 then (0, firstI (lv.map V4.err)) else if bestK la lv lv.length < 0 then (0, 10) else (bestK la lv lv.length, 0)
theorem great_a {la : List Sp} {lv : List V4} (h : ¬ rngErr la = 0) : greatP la lv = (0, rngErr la) := by rw [greatP, if_pos h]
theorem great_b {la : List Sp} {lv : List V4} (h : rngErr la = 0) (h2 : 1000 < lv.length) : greatP la lv = (0, 4) := by rw [greatP, if_neg (by simpa using h), if_pos h2]
theorem great_c {la : List Sp} {lv : List V4} (h : rngErr la = 0) (h2 : ¬ 1000 < lv.length) (h3 : ¬ firstI (lv.map V4.err) = 0) : greatP la lv = (0, firstI (lv.map V4.err)) := by rw [greatP, if_neg (by simpa using h), if_neg h2, if_pos h3]
theorem great_d {la : List Sp} {lv : List V4} (h : rngErr la = 0) (h2 : ¬ 1000 < lv.length) (h3 : firstI (lv.map V4.err) = 0) (h4 : bestK la lv lv.length = -1) : greatP la lv = (0, 10) := by
  rw [greatP, if_neg (by simpa using h), if_neg h2, if_neg (by simpa using h3), if_pos (by rw [h4]; decide)]
theorem great_e {la : List Sp} {lv : List V4} {j : Nat} (h : rngErr la = 0) (h2 : ¬ 1000 < lv.length) (h3 : firstI (lv.map V4.err) = 0) (h4 : bestK la lv lv.length = (j : Int)) : greatP la lv = ((j : Int), 0) := by
  rw [greatP, if_neg (by simpa using h), if_neg h2, if_neg (by simpa using h3), if_neg (by rw [h4]; omega), h4]
theorem ret_ii {b z : Int} {P : Int × Int} (h : P = (b, z)) : Ending.returned (.tuple #[.int .i64 b, .int .i64 z]) = .returned (.tuple #[.int .i64 P.1, .int .i64 P.2]) := by rw [h]
set_option maxHeartbeats 16000000 in
set_option maxRecDepth 100000 in
theorem Greatest_any (A L : Option Addr) (n c p q : Nat) (la : List Sp) (lv : List V4) (w : World) (hg : Good w) (hn : la.length = n) (ra : RdS w A la) (sa : SmallS la) (hl : n ≤ 2097152) (hp : lv.length = p) (rv : RdV w L lv) (hv : ∀ v ∈ lv, v.a.size ≤ 2097152) (hl2 : p ≤ 2097152) :
    Calls Tryz.prog 56 #[.agg #[.slice A n c], .slice L p q] w fun e w' => e = .returned (.tuple #[.int .i64 (greatP la lv).1, .int .i64 (greatP la lv).2]) ∧ Ext w w' := by
  have CR := Lib.hid (fun W (h : Ext w W) => CheckRange_any A n c la W (hg.ext h) hn (ra.ext h) sa hl)
  have CH := Lib.hid (fun v (hv : v.a.size ≤ 2097152) W (h : Ext w W) => has_any A n c la v W (hg.ext h) hn (ra.ext h) sa hl hv)
  have HP := Lib.hid hp
  have GA := Lib.hid (great_a (la := la) (lv := lv)); have GB := Lib.hid (great_b (la := la) (lv := lv)); have GC := Lib.hid (great_c (la := la) (lv := lv)); have GD := Lib.hid (great_d (la := la) (lv := lv)); have GE := Lib.hid (fun j => great_e (la := la) (lv := lv) (j := j))
  clear hn hp
  generalize greatP la lv = G at *
  generalize rngErr la = E1 at *
  have bR := Blk.new w 51 #[.slice A n c]
  go_enter Tryz.func56, Tryz.ntmps56
  go_wp2_with fail
  refine (CR.out _ (by repeat (first | with_reducible exact Ext.refl _ | with_reducible assumption | with_reducible apply Ext.drewN | with_reducible apply Ext.drew | with_reducible apply Ext.alloc | exact Ext.refl _ | assumption | apply Ext.drewN | apply Ext.drew | apply Ext.alloc))).mono ?_
  rintro e w1 ⟨rfl, hx1⟩
  have hxw : Ext w w1 := Ext.trans (by repeat (first | with_reducible exact Ext.refl _ | with_reducible assumption | with_reducible apply Ext.drewN | with_reducible apply Ext.drew | with_reducible apply Ext.alloc | exact Ext.refl _ | assumption | apply Ext.drewN | apply Ext.drew | apply Ext.alloc)) hx1
  have bR1 := bR.ext hx1
  clear bR hx1 CR
  by_cases h1 : E1 = 0
  rotate_left
  · have HF := Lib.hid (GA.out h1)
    have hne : (E1 != 0) = true := by rw [bne_iff_ne]; exact h1
    clear h1
    go_wp2
    go_ret2
    exact ⟨ret_ii HF.out, hxw⟩
  have H1 := Lib.hid h1
  rw [h1]
  clear h1
  by_cases h2 : 1000 < p
  · have HF := Lib.hid (GB.out H1.out (by rw [HP.out]; exact h2))
    go_wp2
    go_ret2
    exact ⟨ret_ii HF.out, hxw⟩
  have H2 := Lib.hid (show ¬ 1000 < lv.length by rw [HP.out]; exact h2)
  go_wp2
  go_loopw [23] (fun i wr => ∃ k : Nat, k ≤ p ∧ i = .int .i64 k ∧ Hid (∀ x ∈ (lv.map V4.err).take k, x = 0) ∧ Ext w1 wr) (fun i _ => p - (intOf i).toNat)
  case atStart => exact ⟨0, Nat.zero_le _, rfl, by intro x hx; simp at hx, Ext.refl _⟩
  case round =>
    obtain ⟨k, hk, rfl, HALL, hxr⟩ := hrel
    have hxwr := hxw.trans hxr
    by_cases hlt : k < p
    · have hk1 : k < lv.length := by rw [HP.out]; exact hlt
      obtain ⟨b, o, rfl, hX⟩ := rv (fun e => by rw [e] at hk1; exact absurd hk1 (Nat.not_lt_zero _))
      have X := hX.ext hxwr
      have x0 := X.c0 k hk1; have x1 := X.c1 k hk1; have x2 := X.c2 k hk1; have x3 := X.c3 k hk1
      have hz := hv lv[k] (List.getElem_mem hk1)
      have HAT := Lib.hid (show ¬ lv[k].err = 0 → firstI (lv.map V4.err) = lv[k].err from fun h => by
        have := firstI_at (l := lv.map V4.err) (k := k) (by simpa using hk1) HALL.out (by simpa using h)
        simpa using this)
      have HNX := Lib.hid (show lv[k].err = 0 → ∀ x ∈ (lv.map V4.err).take (k + 1), x = 0 from fun h => take_zero_succ (by simpa using hk1) HALL.out (by simpa using h))
      clear X
      generalize lv[k] = v at *
      have cC := fun W (h : Ext w W) => Check_any v.a1 v.a2 v.a3 v.a W (hg.ext h) hz
      rw [show checkV v.a1 v.a2 v.a3 (bs v.a) = v.err from rfl] at cC
      generalize v.err = E at *
      obtain ⟨v1, v2, v3, va⟩ := v
      dsimp only at x0 x1 x2 x3 hz cC
      have CC := Lib.hid cC
      clear cC
      go_wp2_with fail
      refine (CC.out _ (hxwr.trans (by repeat (first | with_reducible exact Ext.refl _ | with_reducible assumption | with_reducible apply Ext.drewN | with_reducible apply Ext.drew | with_reducible apply Ext.alloc | exact Ext.refl _ | assumption | apply Ext.drewN | apply Ext.drew | apply Ext.alloc)))).mono ?_
      rintro e w2 ⟨rfl, hx2⟩
      have hxr2 := (hxr.alloc (.cells #[.int .i64 v1, .int .i64 v2, .int .i64 v3, .string va] 35)).trans hx2
      by_cases h3 : E = 0
      · have HF := Lib.hid (HNX.out h3)
        rw [h3]
        clear h3
        go_wp2
        go_roundw
        case rel => exact ⟨k + 1, by omega, by go_num, HF.out, hxr2⟩
        case measure => simp [intOf]; omega
      · have HF := Lib.hid (GC.out H1.out H2.out (by rw [HAT.out h3]; exact h3))
        have HA2 := Lib.hid (HAT.out h3)
        have hne : (E != 0) = true := by rw [bne_iff_ne]; exact h3
        clear h3
        go_wp2
        go_ret2
        exact ⟨ret_ii (by rw [HF.out, HA2.out]), hxw.trans hxr2⟩
    · obtain rfl : k = p := by omega
      have H3 := Lib.hid (show firstI (lv.map V4.err) = 0 from firstI_zero (by have h := HALL.out; rwa [List.take_of_length_le (by simp [HP.out])] at h))
      have bR2 := bR1.ext hxr
      obtain ⟨wo, rfl⟩ : ∃ wo : World, wo = wr := ⟨_, rfl⟩
      clear HALL bR1 hxw hxr GC GA GB
      go_wp2
      go_loopw [10, 35] (fun bv i wr => ∃ (j : Nat) (z : Int), j ≤ k ∧ i = .int .i64 j ∧ bv = .int .i64 z ∧ Hid (z = bestK la lv j) ∧ Ext wo wr) (fun _ i _ => k - (intOf i).toNat)
      case atStart => exact ⟨0, -1, Nat.zero_le _, rfl, rfl, rfl, Ext.refl _⟩
      case round =>
        obtain ⟨j, z, hj, rfl, rfl, HZ, hxr⟩ := hrel
        have hxw2 := hxwr.trans hxr
        have bR3 := bR2.ext hxr
        have hzz : z = -1 ∨ ∃ i : Nat, i < j ∧ z = (i : Int) := by rw [HZ.out]; exact bestK_is la lv j
        by_cases hlt2 : j < k
        · have hk1 : j < lv.length := by rw [HP.out]; exact hlt2
          obtain ⟨b, o, rfl, hX⟩ := rv (fun e => by rw [e] at hk1; exact absurd hk1 (Nat.not_lt_zero _))
          have X := hX.ext hxw2
          have x0 := X.c0 j hk1; have x1 := X.c1 j hk1; have x2 := X.c2 j hk1; have x3 := X.c3 j hk1
          have l0 := lt_of_cell x0
          have hz := hv lv[j] (List.getElem_mem hk1)
          have HB0 := Lib.hid (fun z => best_no (la := la) (z := z) hk1)
          have HB1 := Lib.hid (best_first (la := la) hk1)
          have HB2 := Lib.hid (fun i hi => best_more (la := la) (j := i) hk1 hi)
          have HB3 := Lib.hid (fun i hi => best_less (la := la) (j := i) hk1 hi)
          have cH := CH.out lv[j] hz
          generalize hasL la lv[j] = H at *
          have hEv : ∃ v, lv[j] = v := ⟨_, rfl⟩
          obtain ⟨v, hEv⟩ := hEv
          rw [hEv] at x0 x1 x2 x3 hz cH HB2 HB3
          clear hEv
          have cO := fun i (hi : i < lv.length) W (h : Ext w W) => Order_any v.a1 v.a2 v.a3 lv[i].a1 lv[i].a2 lv[i].a3 v.a lv[i].a W (hg.ext h) hz (hv lv[i] (List.getElem_mem hi))
          have hord : ∀ i (hi : i < lv.length), v.ord lv[i] = orderL v.a1 v.a2 v.a3 (bs v.a) lv[i].a1 lv[i].a2 lv[i].a3 (bs lv[i].a) := fun _ _ => rfl
          obtain ⟨v1, v2, v3, va⟩ := v
          dsimp only [verV] at x0 x1 x2 x3 hz cH cO hord
          have CH2 := Lib.hid cH; have CO := Lib.hid cO; have HORD := Lib.hid hord
          clear cH cO hord
          have hxs : Ext wr (wr.alloc (.cells #[.int .i64 v1, .int .i64 v2, .int .i64 v3, .string va] 35)) := (Ext.refl wr).alloc _
          have bV := Blk.new wr 35 #[.int .i64 v1, .int .i64 v2, .int .i64 v3, .string va]
          have bR4 := bR3.ext hxs
          have cV := bV.cell; have lV := bV.lt; have cR := bR4.cell; have lR := bR4.lt
          have hxw3 := hxw2.trans hxs
          have hxs0 := hxs
          rcases hzz with rfl | ⟨i, hi, rfl⟩
          · cases H
            · have HF := Lib.hid (HB0.out (-1) HZ.out rfl)
              go_wp2_with fail
              generalize (wr.alloc (.cells #[.int .i64 v1, .int .i64 v2, .int .i64 v3, .string va] 35)) = W at *
              refine wp_region_ext (by kernel_rfl) (by kernel_rfl) ?_
              repeat (first | go_big_quiet_skip | (refine wpQuiet_step (fun K hK => ?_); go_simp; first | (refine hK _ ?_; clear hK K) | (apply Exists.intro; refine ⟨fun wq hwq => ?_, hK _ ?_⟩; (obtain ⟨hqc, hqf⟩ := hwq.cells; have hqs := hwq.size; (try go_simp); first | rfl | ((first | rw [if_neg (by omega)] | rw [if_pos (by omega)]); (try go_simp); rfl) | ((go_at_call 111; exact (CH2.out _ (hxw3.trans hwq)).mono (fun e w'' h => ⟨h.1, hwq.trans h.2⟩)))); clear hK K)))
              refine wpQuiet_nil ?_
              intro wN hxN
              obtain ⟨hcN, hfN⟩ := hxN.cells
              have hsN := hxN.size
              go_wp2
              go_roundw
              case rel => exact ⟨j + 1, -1, by omega, by go_num, rfl, HF.out, (hxr.trans hxs).trans hxN⟩
              case measure => simp [intOf]; omega
            · have HF := Lib.hid (HB1.out HZ.out rfl)
              go_wp2_with fail
              generalize (wr.alloc (.cells #[.int .i64 v1, .int .i64 v2, .int .i64 v3, .string va] 35)) = W at *
              refine wp_region_ext (by kernel_rfl) (by kernel_rfl) ?_
              repeat (first | go_big_quiet_skip | (refine wpQuiet_step (fun K hK => ?_); go_simp; first | (refine hK _ ?_; clear hK K) | (apply Exists.intro; refine ⟨fun wq hwq => ?_, hK _ ?_⟩; (obtain ⟨hqc, hqf⟩ := hwq.cells; have hqs := hwq.size; (try go_simp); first | rfl | ((first | rw [if_neg (by omega)] | rw [if_pos (by omega)]); (try go_simp); rfl) | ((go_at_call 111; exact (CH2.out _ (hxw3.trans hwq)).mono (fun e w'' h => ⟨h.1, hwq.trans h.2⟩)))); clear hK K)))
              refine wpQuiet_nil ?_
              intro wN hxN
              obtain ⟨hcN, hfN⟩ := hxN.cells
              have hsN := hxN.size
              go_wp2
              go_roundw
              case rel => exact ⟨j + 1, j, by omega, by go_num, rfl, HF.out, (hxr.trans hxs).trans hxN⟩
              case measure => simp [intOf]; omega
          · have hi1 : i < lv.length := by omega
            have hneg : decide ((i : Int) < 0) = false := decide_eq_false (by omega)
            cases H
            · have HF := Lib.hid (HB0.out i HZ.out rfl)
              go_wp2_with fail
              generalize (wr.alloc (.cells #[.int .i64 v1, .int .i64 v2, .int .i64 v3, .string va] 35)) = W at *
              refine wp_region_ext (by kernel_rfl) (by kernel_rfl) ?_
              repeat (first | go_big_quiet_skip | (refine wpQuiet_step (fun K hK => ?_); go_simp; first | (refine hK _ ?_; clear hK K) | (apply Exists.intro; refine ⟨fun wq hwq => ?_, hK _ ?_⟩; (obtain ⟨hqc, hqf⟩ := hwq.cells; have hqs := hwq.size; (try go_simp); first | rfl | ((first | rw [if_neg (by omega)] | rw [if_pos (by omega)]); (try go_simp); rfl) | ((go_at_call 111; exact (CH2.out _ (hxw3.trans hwq)).mono (fun e w'' h => ⟨h.1, hwq.trans h.2⟩)))); clear hK K)))
              refine wpQuiet_nil ?_
              intro wN hxN
              obtain ⟨hcN, hfN⟩ := hxN.cells
              have hsN := hxN.size
              go_wp2
              go_roundw
              case rel => exact ⟨j + 1, i, by omega, by go_num, rfl, HF.out, (hxr.trans hxs).trans hxN⟩
              case measure => simp [intOf]; omega
            · have y0 := hxs.cell (X.c0 i hi1); have y1 := hxs.cell (X.c1 i hi1); have y2 := hxs.cell (X.c2 i hi1); have y3 := hxs.cell (X.c3 i hi1)
              have m0 := lt_of_cell y0
              have HM := Lib.hid (HB2.out i hi1 HZ.out rfl); have HL := Lib.hid (HB3.out i hi1 HZ.out rfl)
              have cO := CO.out i hi1
              have hO := HORD.out i hi1
              rw [hO] at HM HL
              clear hO
              generalize lv[i] = u at *
              obtain ⟨u1, u2, u3, ua⟩ := u
              dsimp only at y0 y1 y2 y3 cO HM HL
              generalize orderL v1 v2 v3 (bs va) u1 u2 u3 (bs ua) = O at *
              have CO2 := Lib.hid cO
              have i0 : (0 : Int) ≤ (i : Int) := by omega
              have i1 : (i : Int) < (k : Int) := by omega
              clear cO X
              by_cases hO : 0 < O
              · have HF := Lib.hid (HM.out hO)
                go_wp2_with fail
                generalize (wr.alloc (.cells #[.int .i64 v1, .int .i64 v2, .int .i64 v3, .string va] 35)) = W at *
                refine wp_region_ext (by kernel_rfl) (by kernel_rfl) ?_
                repeat (first | go_big_quiet_skip | (refine wpQuiet_step (fun K hK => ?_); go_simp; first | (refine hK _ ?_; clear hK K) | (apply Exists.intro; refine ⟨fun wq hwq => ?_, hK _ ?_⟩; (obtain ⟨hqc, hqf⟩ := hwq.cells; have hqs := hwq.size; (try go_simp); first | rfl | ((first | rw [if_neg (by omega)] | rw [if_pos (by omega)]); (try go_simp); rfl) | ((first | (go_at_call 111; exact (CH2.out _ (hxw3.trans hwq)).mono (fun e w'' h => ⟨h.1, hwq.trans h.2⟩)) | (go_at_call 75; exact (CO2.out _ (hxw3.trans hwq)).mono (fun e w'' h => ⟨h.1, hwq.trans h.2⟩))))); clear hK K)))
                refine wpQuiet_nil ?_
                intro wN hxN
                obtain ⟨hcN, hfN⟩ := hxN.cells
                have hsN := hxN.size
                go_wp2
                go_roundw
                case rel => exact ⟨j + 1, j, by omega, by go_num, rfl, HF.out, (hxr.trans hxs).trans hxN⟩
                case measure => simp [intOf]; omega
              · have HF := Lib.hid (HL.out hO)
                go_wp2_with fail
                generalize (wr.alloc (.cells #[.int .i64 v1, .int .i64 v2, .int .i64 v3, .string va] 35)) = W at *
                refine wp_region_ext (by kernel_rfl) (by kernel_rfl) ?_
                repeat (first | go_big_quiet_skip | (refine wpQuiet_step (fun K hK => ?_); go_simp; first | (refine hK _ ?_; clear hK K) | (apply Exists.intro; refine ⟨fun wq hwq => ?_, hK _ ?_⟩; (obtain ⟨hqc, hqf⟩ := hwq.cells; have hqs := hwq.size; (try go_simp); first | rfl | ((first | rw [if_neg (by omega)] | rw [if_pos (by omega)]); (try go_simp); rfl) | ((first | (go_at_call 111; exact (CH2.out _ (hxw3.trans hwq)).mono (fun e w'' h => ⟨h.1, hwq.trans h.2⟩)) | (go_at_call 75; exact (CO2.out _ (hxw3.trans hwq)).mono (fun e w'' h => ⟨h.1, hwq.trans h.2⟩))))); clear hK K)))
                refine wpQuiet_nil ?_
                intro wN hxN
                obtain ⟨hcN, hfN⟩ := hxN.cells
                have hsN := hxN.size
                go_wp2
                go_roundw
                case rel => exact ⟨j + 1, i, by omega, by go_num, rfl, HF.out, (hxr.trans hxs).trans hxN⟩
                case measure => simp [intOf]; omega
        · obtain rfl : j = k := by omega
          rcases hzz with rfl | ⟨i, hi, rfl⟩
          · have HF := Lib.hid (GD.out H1.out H2.out H3.out (by rw [HP.out]; exact HZ.out.symm))
            go_wp2
            go_ret2
            exact ⟨ret_ii HF.out, hxw2⟩
          · have HF := Lib.hid (GE.out i H1.out H2.out H3.out (by rw [HP.out]; exact HZ.out.symm))
            go_wp2
            go_ret2
            exact ⟨ret_ii HF.out, hxw2⟩
end Go.Proofs.YtcmceeihdhcmnaaGreatDoor
