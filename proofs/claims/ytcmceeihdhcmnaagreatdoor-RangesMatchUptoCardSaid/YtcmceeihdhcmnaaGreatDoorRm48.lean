/- The law outlaw2.RangesMatch: its walk. -/
import Derived.Test.YtcmceeihdhcmnaaGreatDoorRm38
import Derived.Test.YtcmceeihdhcmnaaGreatDoorRm40
import Derived.Test.YtcmceeihdhcmnaaGreatDoorRm46
import Derived.Test.YtcmceeihdhcmnaaGreatDoorRm47
import Derived.Test.YtcmceeihdhcmnaaGreatDoorRm17

namespace Go.Proofs.YtcmceeihdhcmnaaGreatDoor
open Go.RowKit

theorem sameRg_any (A B : Option Addr) (n m c d : Nat) (xs ys : List Sp) (w : World) (hn : xs.length = n) (hm : ys.length = m) (hx : RdS w A xs) (hy : RdS w B ys) (hl : n ≤ 2097152) (hl2 : m ≤ 2097152) :
    Calls Tryz.prog 40 #[.agg #[.slice A n c], .agg #[.slice B m d]] w fun e w' => e = .returned (.bool (decide (xs = ys))) ∧ Ext w w' := by
  go_enter Tryz.func40, Tryz.ntmps40
  go_wp2_with fail
  refine (EqualS_any A B n m c d xs ys _ hn hm (hx.ext (by repeat (first | with_reducible exact Ext.refl _ | with_reducible assumption | with_reducible apply Ext.drewN | with_reducible apply Ext.drew | with_reducible apply Ext.alloc | exact Ext.refl _ | assumption | apply Ext.drewN | apply Ext.drew | apply Ext.alloc))) (hy.ext (by repeat (first | with_reducible exact Ext.refl _ | with_reducible assumption | with_reducible apply Ext.drewN | with_reducible apply Ext.drew | with_reducible apply Ext.alloc | exact Ext.refl _ | assumption | apply Ext.drewN | apply Ext.drew | apply Ext.alloc))) hl hl2).mono ?_
  rintro e w1 ⟨rfl, hx1⟩
  go_wp2
  go_ret
  exact ⟨rfl, Ext.trans (by repeat (first | with_reducible exact Ext.refl _ | with_reducible assumption | with_reducible apply Ext.drewN | with_reducible apply Ext.drew | with_reducible apply Ext.alloc | exact Ext.refl _ | assumption | apply Ext.drewN | apply Ext.drew | apply Ext.alloc)) hx1⟩
theorem first_a {a b : Int} (h : firstI [a, b] = 0) : a = 0 ∧ b = 0 := first_two h
theorem firsts_zero {l : List V4} (h : firstI (l.map V4.err) = 0) : ∀ v ∈ l, v.err = 0 := fun v hv => firstI_ne h _ (List.mem_map.2 ⟨v, hv, rfl⟩)
/-- the law's own error of a list -/
def listE (la : List Sp) (lv : List V4) : Int := firstI [rngErr la, if decide (1000 < lv.length) = true then 4 else 0, firstI (lv.map V4.err)]
theorem list_bad {la : List Sp} {lv : List V4} (h : ¬ listE la lv = 0) : greatP la lv = (0, listE la lv) := by
  unfold listE at *
  by_cases h1 : rngErr la = 0
  · by_cases h2 : 1000 < lv.length
    · rw [great_b h1 h2, firstI, if_pos h1, firstI, decide_eq_true h2]
      rfl
    · rw [firstI, if_pos h1, firstI, decide_eq_false h2] at h ⊢
      simp only [Bool.false_eq_true, if_false, if_true] at h ⊢
      by_cases h3 : firstI (lv.map V4.err) = 0
      · rw [firstI, if_pos h3, firstI] at h; exact absurd rfl h
      · rw [firstI, if_neg h3]
        exact great_c h1 h2 h3
  · rw [great_a h1, firstI, if_neg h1]
theorem list_ok {la : List Sp} {lv : List V4} (h : listE la lv = 0) : rngErr la = 0 ∧ ¬ 1000 < lv.length ∧ firstI (lv.map V4.err) = 0 := by
  unfold listE at h
  by_cases h1 : rngErr la = 0
  · rw [firstI, if_pos h1, firstI] at h
    by_cases h2 : 1000 < lv.length
    · rw [decide_eq_true h2] at h; cases h
    · rw [decide_eq_false h2] at h
      simp only [Bool.false_eq_true, if_false, if_true] at h
      refine ⟨h1, h2, ?_⟩
      by_cases h3 : firstI (lv.map V4.err) = 0
      · exact h3
      · rw [firstI, if_neg h3] at h; exact h
  · rw [firstI, if_neg h1] at h; exact absurd h h1
set_option maxHeartbeats 16000000 in
set_option maxRecDepth 100000 in
theorem RangesMatch_any (A B L : Option Addr) (n c m d p q : Nat) (la lb : List Sp) (lv : List V4) (v1 v2 v3 : Int) (va : ByteArray) (w : World) (hg : GoodN w) (hn : la.length = n) (ra : RdS w A la) (sa : SmallS la) (hl : n ≤ 1048576)
    (hm : lb.length = m) (rb : RdS w B lb) (sb : SmallS lb) (hl2 : m ≤ 1048576) (hp : lv.length = p) (rv : RdV w L lv) (hv : ∀ v ∈ lv, v.a.size ≤ 2097152) (hl3 : p ≤ 1048576) (hva : va.size ≤ 2097152) :
    Calls Tryz.prog 8 #[.agg #[.slice A n c], .agg #[.slice B m d], .agg #[.int .i64 v1, .int .i64 v2, .int .i64 v3, .string va], .slice L p q] w fun e w' => e = .returned (.bool true) ∧ Ext w w' := by
  have CRE := Lib.hid (fun W (h : Ext w W) => RangeError_any A n c la W (hg.ext h) hn (ra.ext h) sa (by omega))
  have CRB := Lib.hid (fun W (h : Ext w W) => RangeError_any B m d lb W (hg.ext h) hm (rb.ext h) sb (by omega))
  have CCR := Lib.hid (fun W (h : Ext w W) => CheckRange_any A n c la W (hg.toGood.ext h) hn (ra.ext h) sa (by omega))
  have cH := fun W (h : Ext w W) => Has_any A n c la ⟨v1, v2, v3, va⟩ W (hg.toGood.ext h) hn (ra.ext h) sa (by omega) hva
  have CHO := Lib.hid (fun (h1 : rngErr la = 0) (v : V4) (h2 : v.err = 0) (h3 : v.a.size ≤ 2097152) W (h : Ext w W) => HasOf_any A n c la v W (hg.ext h) hn (ra.ext h) sa (by omega) h3 h1 h2)
  have cM := fun W (h : Ext w W) => Common_any A B n c m d la lb W (hg.toGood.ext h) hn (ra.ext h) sa (by omega) hm (rb.ext h) sb (by omega)
  have cW := fun W (h : Ext w W) => Within_any A B n c m d la lb W (hg.toGood.ext h) hn (ra.ext h) sa (by omega) hm (rb.ext h) sb (by omega)
  have CCO := Lib.hid (fun (h1 : rngErr la = 0) (h2 : rngErr lb = 0) W (h : Ext w W) => CommonOf_any A B n c m d la lb W (hg.ext h) hn (ra.ext h) sa hm (rb.ext h) sb h1 h2)
  have CWO := Lib.hid (fun (h1 : rngErr la = 0) (h2 : rngErr lb = 0) W (h : Ext w W) => WithinOf_any A B n c m d la lb W (hg.ext h) hn (ra.ext h) sa hm (rb.ext h) sb h1 h2)
  have cG := fun W (h : Ext w W) => Greatest_any A L n c p q la lv W (hg.toGood.ext h) hn (ra.ext h) sa (by omega) hp (rv.ext h) hv (by omega)
  have CVL := Lib.hid (fun W (h : Ext w W) => VersionErrorR_any L p q lv W (hg.toGood.ext h) hp (rv.ext h) hv (by omega))
  have hHE : hasE la ⟨v1, v2, v3, va⟩ = firstI [rngErr la, (⟨v1, v2, v3, va⟩ : V4).err] := rfl
  have HHA := Lib.hid (fun h : hasE la ⟨v1, v2, v3, va⟩ = 0 => first_a h)
  have HHB := Lib.hid (fun h : ¬ hasE la ⟨v1, v2, v3, va⟩ = 0 => show hasR la ⟨v1, v2, v3, va⟩ = false by rw [hasR, decide_eq_false h]; rfl)
  have HHC := Lib.hid (fun h : hasE la ⟨v1, v2, v3, va⟩ = 0 => show hasR la ⟨v1, v2, v3, va⟩ = hasL la ⟨v1, v2, v3, va⟩ by rw [hasR, decide_eq_true h]; rfl)
  have HBA := Lib.hid (fun h : firstI [rngErr la, rngErr lb] = 0 => first_a h)
  have HBB := Lib.hid (fun h : ¬ firstI [rngErr la, rngErr lb] = 0 => (⟨common_bad h, within_bad h⟩ : _ ∧ _))
  have HBC := Lib.hid (fun h : firstI [rngErr la, rngErr lb] = 0 => (⟨fun h2 => common_large h h2, fun h2 => common_ok h h2, within_ok h⟩ : (10 < (commonS la lb).length → _) ∧ (¬ 10 < (commonS la lb).length → _) ∧ _))
  have HLB := Lib.hid (list_bad (la := la) (lv := lv)); have HLO := Lib.hid (list_ok (la := la) (lv := lv))
  have HLE := Lib.hid (show firstI [rngErr la, if decide (1000 < p) = true then 4 else 0, firstI (lv.map V4.err)] = listE la lv by rw [← hp]; rfl)
  have GD := Lib.hid (great_d (la := la) (lv := lv)); have GE := Lib.hid (fun j => great_e (la := la) (lv := lv) (j := j))
  have HPL := Lib.hid hp; have HVL := Lib.hid hv
  have HG := Lib.hid hg; have HRV := Lib.hid rv
  have cV : ∀ b cp W, Ext w W → VerS W b [⟨v1, v2, v3, va⟩] → Calls Tryz.prog 18 #[.slice (some ⟨b, 0, none⟩) 1 cp] W fun e w' => e = .returned (.int .i64 (⟨v1, v2, v3, va⟩ : V4).err) ∧ Ext W w' := fun b cp W h hs =>
    (VersionError_any b cp [⟨v1, v2, v3, va⟩] W (hg.toGood.ext h) hs (fun v hv => by rw [List.mem_singleton] at hv; rw [hv]; exact hva) (by simp)).mono fun e w' h => ⟨by rw [h.1]; simp only [List.map_cons, List.map_nil, firstI]; split <;> simp_all, h.2⟩
  clear hn ra sa hm rb sb hp rv hv hg
  rw [hHE] at cH HHA HHB HHC
  clear hHE
  generalize commonP la lb = CP at *
  generalize withinP la lb = WP at *
  generalize greatP la lv = GP at *
  generalize hasR la ⟨v1, v2, v3, va⟩ = HR at *
  generalize listE la lv = LE at *
  have hbo : ∃ BO, firstI [rngErr la, rngErr lb] = BO := ⟨_, rfl⟩
  obtain ⟨BO, hbo⟩ := hbo
  rw [hbo] at HBA HBB HBC
  have HBO := Lib.hid hbo
  obtain ⟨HE, hhe⟩ : ∃ HE, firstI [rngErr la, (⟨v1, v2, v3, va⟩ : V4).err] = HE := ⟨_, rfl⟩
  rw [hhe] at cH HHA HHB HHC
  have HHE := Lib.hid hhe
  clear hbo hhe
  obtain ⟨EV, hev⟩ : ∃ EV, (⟨v1, v2, v3, va⟩ : V4).err = EV := ⟨_, rfl⟩
  rw [hev] at cV HHA HHE
  have HEV := Lib.hid hev
  clear hev
  obtain ⟨cl, ce⟩ := CP
  obtain ⟨wi, we⟩ := WP
  obtain ⟨gk, ge⟩ := GP
  dsimp only at cW cG
  have CH := Lib.hid cH; have CM := Lib.hid cM; have CW := Lib.hid cW; have CG := Lib.hid cG; have CV := Lib.hid cV
  clear cH cM cW cG cV
  obtain ⟨EA, hea⟩ : ∃ EA, rngErr la = EA := ⟨_, rfl⟩
  obtain ⟨EB, heb⟩ : ∃ EB, rngErr lb = EB := ⟨_, rfl⟩
  rw [hea] at CRE CCR CHO CCO CWO HHA HHE HBA HBO HLE HLO GD GE
  rw [heb] at CRB CCO CWO HBA HBO
  have HEA := Lib.hid hea
  clear hea heb
  dsimp only [verV] at CH
  have bA := ((Blk.new w 51 #[.slice A n c]).alloc (.cells #[.slice B m d] 51)).alloc (.cells #[.int .i64 v1, .int .i64 v2, .int .i64 v3, .string va] 35)
  have bB := (Blk.new (w.alloc (.cells #[.slice A n c] 51)) 51 #[.slice B m d]).alloc (.cells #[.int .i64 v1, .int .i64 v2, .int .i64 v3, .string va] 35)
  have bV := Blk.new ((w.alloc (.cells #[.slice A n c] 51)).alloc (.cells #[.slice B m d] 51)) 35 #[.int .i64 v1, .int .i64 v2, .int .i64 v3, .string va]
  rw [World.size_alloc] at bB
  rw [World.size_alloc, World.size_alloc] at bV
  have hx0 : Ext w (((w.alloc (.cells #[.slice A n c] 51)).alloc (.cells #[.slice B m d] 51)).alloc (.cells #[.int .i64 v1, .int .i64 v2, .int .i64 v3, .string va] 35)) := (((Ext.refl w).alloc _).alloc _).alloc _
  go_enter Tryz.func8, Tryz.ntmps8
  go_wp2_with fail
  refine (CRE.out _ hx0).mono ?_
  rintro e w1 ⟨rfl, hx1⟩
  have hxa := hx0.trans hx1
  have bA1 := bA.ext hx1; have bB1 := bB.ext hx1; have bV1 := bV.ext hx1
  have cA1 := bA1.cell; have lA1 := bA1.lt; have cV1 := bV1.cell; have lV1 := bV1.lt
  clear bA bB bV hx0 hx1
  go_wp2_with fail
  refine (CH.out _ hxa).mono ?_
  rintro e w2 ⟨rfl, hx2⟩
  have hxb := hxa.trans hx2
  have bA2 := bA1.ext hx2; have bB2 := bB1.ext hx2; have bV2 := bV1.ext hx2
  clear cA1 lA1 cV1 lV1 bA1 bB1 bV1
  have cV2 := bV2.cell; have lV2 := bV2.lt
  have bS := Blk.new w2 35 #[.int .i64 v1, .int .i64 v2, .int .i64 v3, .string va]
  have cS := bS.cell
  go_wp2_with fail
  refine (CV.out _ _ _ (hxb.trans (by repeat (first | with_reducible exact Ext.refl _ | with_reducible assumption | with_reducible apply Ext.drewN | with_reducible apply Ext.drew | with_reducible apply Ext.alloc | exact Ext.refl _ | assumption | apply Ext.drewN | apply Ext.drew | apply Ext.alloc))) (VerS.one (by rw [cS]; rfl) (by rw [cS]; rfl) (by rw [cS]; rfl) (by rw [cS]; rfl))).mono ?_
  rintro e w3 ⟨rfl, hx3⟩
  have hx23 : Ext w2 w3 := Ext.trans (by repeat (first | with_reducible exact Ext.refl _ | with_reducible assumption | with_reducible apply Ext.drewN | with_reducible apply Ext.drew | with_reducible apply Ext.alloc | exact Ext.refl _ | assumption | apply Ext.drewN | apply Ext.drew | apply Ext.alloc)) hx3
  have hxc := hxb.trans hx23
  have bA3 := bA2.ext hx23; have bB3 := bB2.ext hx23; have bV3 := bV2.ext hx23
  clear cV2 lV2 bS cS hx3 bA2 bB2 bV2
  go_wp2_with fail
  refine (First_any _ _ [EA, EV] _ ?_ (by simp)).mono ?_
  · intro k hk
    rw [World.cell?_alloc_at _ _ _ _ rfl]
    match k, hk with
    | 0, _ => rfl
    | 1, _ => rfl
  rw [HHE.out]
  rintro e w4 ⟨rfl, rfl⟩
  have hx34 : Ext w3 (w3.alloc (.cells #[.int .i64 EA, .int .i64 EV] 24)) := (Ext.refl w3).alloc _
  have bA4 := bA3.ext hx34; have bB4 := bB3.ext hx34; have bV4 := bV3.ext hx34
  have hxd := hxc.trans hx34
  clear bA3 bB3 bV3 hx23 hx34 hxa hxb hxc hx2
  go_upto_region 4 with fail
  go_cut [67] (fun s wx => s = .bool false ∧ Blk wx w.heap.size 51 #[.slice A n c] ∧ Blk wx (w.heap.size + 1) 51 #[.slice B m d] ∧ Blk wx (w.heap.size + 1 + 1) 35 #[.int .i64 v1, .int .i64 v2, .int .i64 v3, .string va] ∧ Ext w wx)
  case first =>
    go_wp2_with fail
    refine (versions_any _ (HG.out.ext hxd)).mono ?_
    rintro e w5 ⟨rfl, hx5⟩
    have hxe := hxd.trans hx5
    have bA5 := bA4.ext hx5; have bB5 := bB4.ext hx5; have bV5 := bV4.ext hx5
    have cA5 := bA5.cell; have lA5 := bA5.lt
    go_wp2_with fail
    refine (CCR.out _ hxe).mono ?_
    rintro e w6 ⟨rfl, hx6⟩
    have hxf := hxe.trans hx6
    have bA6 := bA5.ext hx6; have bB6 := bB5.ext hx6; have bV6 := bV5.ext hx6
    have cA6 := bA6.cell; have lA6 := bA6.lt; have cV6 := bV6.cell; have lV6 := bV6.lt
    clear cA5 lA5
    by_cases hE : HE = 0
    · have h1 := (HHA.out hE).1; have h2 := (HHA.out hE).2
      have cO := fun W (h : Ext w W) => CHO.out h1 ⟨v1, v2, v3, va⟩ (HEV.out.trans h2) hva W h
      have h3 := HHC.out hE
      generalize hasL la ⟨v1, v2, v3, va⟩ = HL at *
      dsimp only [verV] at cO
      have CO := Lib.hid cO
      subst h3 hE
      clear cO h1 h2
      go_wp2_with fail
      refine (CO.out _ hxf).mono ?_
      rintro e w7 ⟨rfl, hx7⟩
      go_wp2
      go_meet
      case rel => exact ⟨by first | rfl | simp, bA6.ext hx7, bB6.ext hx7, bV6.ext hx7, hxf.trans hx7⟩
    · have h3 := HHB.out hE
      subst h3
      have hne : (HE != 0) = true := by rw [bne_iff_ne]; exact hE
      have heq : (HE == 0) = false := by rw [beq_eq_false_iff_ne]; exact hE
      go_wp2
      go_meet
      case rel => exact ⟨by first | rfl | simp, bA6, bB6, bV6, hxf⟩
  case rest =>
    obtain ⟨rfl, bA5, bB5, bV5, hxe⟩ := hcut
    rename_i wd
    have cA5 := bA5.cell; have lA5 := bA5.lt; have cB5 := bB5.cell; have lB5 := bB5.lt
    clear bA4 bB4 bV4 hxd HHA HHB HHC HHE CH CV CCR
    go_wp2_with fail
    refine (CM.out _ hxe).mono ?_
    rintro e w5 ⟨PA, PC, rfl, hrp, _, hx5⟩
    dsimp only at hrp
    have hxf := hxe.trans hx5
    have bA6 := bA5.ext hx5; have bB6 := bB5.ext hx5
    have cA6 := bA6.cell; have lA6 := bA6.lt; have cB6 := bB6.cell; have lB6 := bB6.lt
    have bP := Blk.new w5 51 #[.slice PA cl.length PC]
    clear cA5 lA5 cB5 lB5
    go_wp2_with fail
    refine (CW.out _ (hxf.trans (by repeat (first | with_reducible exact Ext.refl _ | with_reducible assumption | with_reducible apply Ext.drewN | with_reducible apply Ext.drew | with_reducible apply Ext.alloc | exact Ext.refl _ | assumption | apply Ext.drewN | apply Ext.drew | apply Ext.alloc)))).mono ?_
    rintro e w6 ⟨rfl, hx6⟩
    have hx56 : Ext w5 w6 := Ext.trans (by repeat (first | with_reducible exact Ext.refl _ | with_reducible assumption | with_reducible apply Ext.drewN | with_reducible apply Ext.drew | with_reducible apply Ext.alloc | exact Ext.refl _ | assumption | apply Ext.drewN | apply Ext.drew | apply Ext.alloc)) hx6
    have hxg := hxf.trans hx56
    have hrp6 := hrp.ext hx56
    have bA7 := bA6.ext hx56; have bB7 := bB6.ext hx56; have bP7 := bP.ext hx6
    have cB7 := bB7.cell; have lB7 := bB7.lt
    clear cA6 lA6 cB6 lB6 bP bA6 bB6 bA5 bB5 hx5 hx56
    go_wp2_with fail
    refine (CRB.out _ hxg).mono ?_
    rintro e w7 ⟨rfl, hx7⟩
    have hxh := hxg.trans hx7
    have hrp7 := hrp6.ext hx7
    have bA8 := bA7.ext hx7; have bB8 := bB7.ext hx7; have bP8 := bP7.ext hx7
    clear cB7 lB7 bA7 bB7 bP7 hrp hrp6
    go_wp2_with fail
    refine (First_any _ _ [EA, EB] _ ?_ (by simp)).mono ?_
    · intro k hk
      rw [World.cell?_alloc_at _ _ _ _ rfl]
      match k, hk with
      | 0, _ => rfl
      | 1, _ => rfl
    rw [HBO.out]
    rintro e w8 ⟨rfl, rfl⟩
    have hx78 : Ext w7 (w7.alloc (.cells #[.int .i64 EA, .int .i64 EB] 24)) := (Ext.refl w7).alloc _
    have hxi := hxh.trans hx78
    have hrp9 := hrp7.ext hx78
    have bA9 := bA8.ext hx78; have bB9 := bB8.ext hx78; have bP9 := bP8.ext hx78
    clear bA8 bB8 bP8 hrp7 hx7 hx78 hxf hxg hxh hx6 CM CW CRB
    go_upto_if 86 with fail
    go_cut [] (fun wx => Blk wx w.heap.size 51 #[.slice A n c] ∧ Ext w wx)
    case first =>
      have cA9 := bA9.cell; have lA9 := bA9.lt; have cB9 := bB9.cell; have lB9 := bB9.lt; have cP9 := bP9.cell; have lP9 := bP9.lt
      have hbb : (BO != BO) = false := by simp
      by_cases hE : BO = 0
      rotate_left
      · have hne : (BO != 0) = true := by rw [bne_iff_ne]; exact hE
        obtain ⟨hcp, hwp⟩ := HBB.out hE
        obtain ⟨rfl, rfl⟩ := Prod.mk.inj hcp
        obtain ⟨rfl, rfl⟩ := Prod.mk.inj hwp
        clear hE hcp hwp
        go_wp2
        go_meet
        case rel => exact ⟨bA9, hxi⟩
      · have hAB := HBA.out hE
        have cC := CCO.out hAB.1 hAB.2; have cW := CWO.out hAB.1 hAB.2
        have h3 := HBC.out hE
        have hw := h3.2.2
        have HCL := Lib.hid h3.1; have HCS := Lib.hid h3.2.1
        subst hE
        clear h3 hAB
        generalize withinS la lb = WS at *
        generalize commonS la lb = CS at *
        have CC := Lib.hid cC; have CWW := Lib.hid cW
        clear cC cW
        obtain ⟨rfl, rfl⟩ := Prod.mk.inj hw
        have hws : (wi != wi) = false := by simp
        clear hw CCO CWO HBC HBA HBB CRE
        by_cases hlen : 10 < CS.length
        · obtain ⟨rfl, rfl⟩ := Prod.mk.inj (HCL.out hlen)
          have hl1 : (10 : Int) < (CS.length : Int) := by omega
          have hl0 : decide ((10 : Int) < (CS.length : Int)) = true := decide_eq_true hl1
          clear HCL HCS hlen
          go_wp2_with fail
          refine (CC.out _ hxi).mono ?_
          rintro e w9 ⟨TA, TC, rfl, hrt, hx9⟩
          have hxj := hxi.trans hx9
          have bA10 := bA9.ext hx9; have bB10 := bB9.ext hx9; have bP10 := bP9.ext hx9
          have cA10 := bA10.cell; have lA10 := bA10.lt; have cB10 := bB10.cell; have lB10 := bB10.lt
          have bT := Blk.new w9 51 #[.slice TA CS.length TC]
          clear cA9 lA9 cB9 lB9 cP9 lP9
          go_wp2_with fail
          refine (CWW.out _ (hxj.trans (by repeat (first | with_reducible exact Ext.refl _ | with_reducible assumption | with_reducible apply Ext.drewN | with_reducible apply Ext.drew | with_reducible apply Ext.alloc | exact Ext.refl _ | assumption | apply Ext.drewN | apply Ext.drew | apply Ext.alloc)))).mono ?_
          rintro e w10 ⟨rfl, hx10⟩
          have hx910 : Ext w9 w10 := Ext.trans (by repeat (first | with_reducible exact Ext.refl _ | with_reducible assumption | with_reducible apply Ext.drewN | with_reducible apply Ext.drew | with_reducible apply Ext.alloc | exact Ext.refl _ | assumption | apply Ext.drewN | apply Ext.drew | apply Ext.alloc)) hx10
          have bA11 := bA10.ext hx910; have bP11 := bP10.ext hx910; have bT11 := bT.ext hx10
          have cP11 := bP11.cell; have lP11 := bP11.lt; have cT11 := bT11.cell; have lT11 := bT11.lt
          clear cA10 lA10 cB10 lB10 bT
          go_wp2
          go_meet
          case rel => exact ⟨bA11, hxj.trans hx910⟩
        · obtain ⟨rfl, rfl⟩ := Prod.mk.inj (HCS.out hlen)
          have hl1 : (cl.length : Int) ≤ 10 := by omega
          have hl0 : decide ((10 : Int) < (cl.length : Int)) = false := decide_eq_false (by omega)
          have hl3 : decide ((cl.length : Int) ≤ 10) = true := decide_eq_true hl1
          have hl4 : cl.length ≤ 2097152 := by omega
          have hdd : (!(decide (cl = cl))) = false := by simp
          clear HCL HCS hlen
          go_wp2_with fail
          refine (CC.out _ hxi).mono ?_
          rintro e w9 ⟨TA, TC, rfl, hrt, hx9⟩
          have hxj := hxi.trans hx9
          have bA10 := bA9.ext hx9; have bB10 := bB9.ext hx9; have bP10 := bP9.ext hx9
          have cA10 := bA10.cell; have lA10 := bA10.lt; have cB10 := bB10.cell; have lB10 := bB10.lt
          have bT := Blk.new w9 51 #[.slice TA cl.length TC]
          clear cA9 lA9 cB9 lB9 cP9 lP9
          go_wp2_with fail
          refine (CWW.out _ (hxj.trans (by repeat (first | with_reducible exact Ext.refl _ | with_reducible assumption | with_reducible apply Ext.drewN | with_reducible apply Ext.drew | with_reducible apply Ext.alloc | exact Ext.refl _ | assumption | apply Ext.drewN | apply Ext.drew | apply Ext.alloc)))).mono ?_
          rintro e w10 ⟨rfl, hx10⟩
          have hx910 : Ext w9 w10 := Ext.trans (by repeat (first | with_reducible exact Ext.refl _ | with_reducible assumption | with_reducible apply Ext.drewN | with_reducible apply Ext.drew | with_reducible apply Ext.alloc | exact Ext.refl _ | assumption | apply Ext.drewN | apply Ext.drew | apply Ext.alloc)) hx10
          have bA11 := bA10.ext hx910; have bP11 := bP10.ext hx910; have bT11 := bT.ext hx10
          have cP11 := bP11.cell; have lP11 := bP11.lt; have cT11 := bT11.cell; have lT11 := bT11.lt
          have hrp11 := (hrp9.ext hx9).ext hx910; have hrt11 := hrt.ext hx910
          clear cA10 lA10 cB10 lB10 bT
          go_wp2_with fail
          refine (sameRg_any PA TA cl.length cl.length PC TC cl cl _ rfl rfl hrp11 hrt11 hl4 hl4).mono ?_
          rintro e w11 ⟨rfl, hx11⟩
          go_wp2
          go_meet
          case rel => exact ⟨bA11.ext hx11, (hxj.trans hx910).trans hx11⟩
    case rest =>
      obtain ⟨bA10, hxj⟩ := hcut
      rename_i wy
      have cA10 := bA10.cell; have lA10 := bA10.lt
      clear bA9 bB9 bP9 hxi hrp9 CCO CWO HBC HBA HBB CRE HBO hxe bV5
      go_wp2_with fail
      refine (CG.out _ hxj).mono ?_
      rintro e w9 ⟨rfl, hx9⟩
      have hxk := hxj.trans hx9
      have bA11 := bA10.ext hx9
      clear cA10 lA10
      obtain ⟨DB, hDB⟩ : ∃ DB, decide (1000 < p) = DB := ⟨_, rfl⟩
      have hdi : decide ((1000 : Int) < (p : Int)) = DB := by rw [← hDB]; exact decide_eq_decide.2 (by omega)
      rw [hDB] at HLE
      have HDB := Lib.hid hDB
      clear hDB
      have hwh := fun W => When_any DB 4 W
      generalize (if DB = true then (4 : Int) else 0) = WN at *
      go_wp2_with fail
      refine (hwh _).mono ?_
      rintro e w10 ⟨rfl, rfl⟩
      go_wp2_with fail
      refine (CVL.out _ hxk).mono ?_
      rintro e w10 ⟨rfl, hx10⟩
      have hxl := hxk.trans hx10
      have bA12 := bA11.ext hx10
      go_wp2_with fail
      refine (First_any _ _ [EA, WN, firstI (lv.map V4.err)] _ ?_ (by simp)).mono ?_
      · intro k hk
        rw [World.cell?_alloc_at _ _ _ _ rfl]
        match k, hk with
        | 0, _ => rfl
        | 1, _ => rfl
        | 2, _ => rfl
      rw [HLE.out]
      rintro e w11 ⟨rfl, rfl⟩
      have hxm := hxl.trans ((Ext.refl w10).alloc (.cells #[.int .i64 EA, .int .i64 WN, .int .i64 (firstI (lv.map V4.err))] 24))
      have bA13 := bA12.ext ((Ext.refl w10).alloc (.cells #[.int .i64 EA, .int .i64 WN, .int .i64 (firstI (lv.map V4.err))] 24))
      obtain ⟨wo, hwo⟩ : ∃ wo : World, w10.alloc (.cells #[.int .i64 EA, .int .i64 WN, .int .i64 (firstI (lv.map V4.err))] 24) = wo := ⟨_, rfl⟩
      rw [hwo] at hxm bA13 ⊢
      clear hwo HLE hwh hdi HDB bA12 bA11 bA10 hxl hxk hx10 hx9
      have hll : (LE == LE) = true := by simp
      by_cases hE : LE = 0
      rotate_left
      · have hne : (LE != 0) = true := by rw [bne_iff_ne]; exact hE
        have heq : (LE == 0) = false := by rw [beq_eq_false_iff_ne]; exact hE
        obtain ⟨rfl, rfl⟩ := Prod.mk.inj (HLB.out hE)
        clear hE
        go_wp2
        go_ret
        exact ⟨by first | rfl | simp, hxm⟩
      obtain ⟨hz0, hlen, hz1⟩ := HLO.out hE
      subst hE
      have H1 := Lib.hid hz0; have H2 := Lib.hid hlen; have H3 := Lib.hid hz1
      have HO := Lib.hid (CHO.out hz0)
      have HV0 := Lib.hid (firsts_zero hz1)
      clear hz0 hlen hz1 CHO HLB HLO hll
      go_wp2
      go_loopw [20, 165] (fun bv i wr => ∃ (j : Nat) (z : Int), j ≤ p ∧ i = .int .i64 j ∧ bv = .int .i64 z ∧ Hid (z = bestK la lv j) ∧ Ext wo wr) (fun _ i _ => p - (intOf i).toNat)
      case atStart => exact ⟨0, -1, Nat.zero_le _, rfl, rfl, rfl, Ext.refl _⟩
      case round =>
        obtain ⟨j, z, hj, rfl, rfl, HZ, hxr⟩ := hrel
        have hxw2 := hxm.trans hxr
        have bR3 := bA13.ext hxr
        have hzz : z = -1 ∨ ∃ i : Nat, i < j ∧ z = (i : Int) := by rw [HZ.out]; exact bestK_is la lv j
        by_cases hlt2 : j < p
        · have hk1 : j < lv.length := by rw [HPL.out]; exact hlt2
          obtain ⟨b, o, rfl, hX⟩ := HRV.out (fun e => by rw [e] at hk1; exact absurd hk1 (Nat.not_lt_zero _))
          have X := hX.ext hxw2
          have x0 := X.c0 j hk1; have x1 := X.c1 j hk1; have x2 := X.c2 j hk1; have x3 := X.c3 j hk1
          have l0 := lt_of_cell x0
          have hz := HVL.out lv[j] (List.getElem_mem hk1)
          have he := HV0.out lv[j] (List.getElem_mem hk1)
          have HB0 := Lib.hid (fun z => best_no (la := la) (z := z) hk1)
          have HB1 := Lib.hid (best_first (la := la) hk1)
          have HB2 := Lib.hid (fun i hi => best_more (la := la) (j := i) hk1 hi)
          have HB3 := Lib.hid (fun i hi => best_less (la := la) (j := i) hk1 hi)
          have cH := HO.out lv[j] he hz
          generalize hasL la lv[j] = H at *
          have hEv : ∃ v, lv[j] = v := ⟨_, rfl⟩
          obtain ⟨v, hEv⟩ := hEv
          rw [hEv] at x0 x1 x2 x3 hz he cH HB2 HB3
          clear hEv
          have cO := fun i (hi : i < lv.length) W (h : Ext w W) => CompareOf_any v.a1 v.a2 v.a3 lv[i].a1 lv[i].a2 lv[i].a3 v.a lv[i].a W (HG.out.ext h) hz (HVL.out lv[i] (List.getElem_mem hi)) he (HV0.out lv[i] (List.getElem_mem hi))
          have hord : ∀ i (hi : i < lv.length), v.ord lv[i] = orderL v.a1 v.a2 v.a3 (bs v.a) lv[i].a1 lv[i].a2 lv[i].a3 (bs lv[i].a) := fun _ _ => rfl
          clear he
          obtain ⟨v1', v2', v3', va'⟩ := v
          dsimp only [verV] at x0 x1 x2 x3 hz cH cO hord
          have CH2 := Lib.hid cH; have CO := Lib.hid cO; have HORD := Lib.hid hord
          clear cH cO hord
          have hxs : Ext wr (wr.alloc (.cells #[.int .i64 v1', .int .i64 v2', .int .i64 v3', .string va'] 35)) := (Ext.refl wr).alloc _
          have bV := Blk.new wr 35 #[.int .i64 v1', .int .i64 v2', .int .i64 v3', .string va']
          have bR4 := bR3.ext hxs
          have cV := bV.cell; have lV := bV.lt; have cR := bR4.cell; have lR := bR4.lt
          have hxw3 := hxw2.trans hxs
          have hxs0 := hxs
          rcases hzz with rfl | ⟨i, hi, rfl⟩
          · cases H
            · have HF := Lib.hid (HB0.out (-1) HZ.out rfl)
              go_wp2_with fail
              generalize (wr.alloc (.cells #[.int .i64 v1', .int .i64 v2', .int .i64 v3', .string va'] 35)) = W at *
              refine wp_region_ext (by kernel_rfl) (by kernel_rfl) ?_
              repeat (first | go_big_quiet_skip | (refine wpQuiet_step (fun K hK => ?_); go_simp; first | (refine hK _ ?_; clear hK K) | (apply Exists.intro; refine ⟨fun wq hwq => ?_, hK _ ?_⟩; (obtain ⟨hqc, hqf⟩ := hwq.cells; have hqs := hwq.size; (try go_simp); first | rfl | ((first | rw [if_neg (by omega)] | rw [if_pos (by omega)]); (try go_simp); rfl) | ((go_at_call 51; exact (CH2.out _ (hxw3.trans hwq)).mono (fun e w'' h => ⟨h.1, hwq.trans h.2⟩)))); clear hK K)))
              refine wpQuiet_nil ?_
              intro wN hxN
              obtain ⟨hcN, hfN⟩ := hxN.cells
              have hsN := hxN.size
              go_wp2
              go_roundw
              case rel => exact ⟨j + 1, -1, by omega, by go_num, rfl, HF.out, (hxr.trans hxs).trans hxN⟩
              case measure => simp [intOf]; omega
            · have HF := Lib.hid (HB1.out HZ.out rfl)
              go_wp2_with fail
              generalize (wr.alloc (.cells #[.int .i64 v1', .int .i64 v2', .int .i64 v3', .string va'] 35)) = W at *
              refine wp_region_ext (by kernel_rfl) (by kernel_rfl) ?_
              repeat (first | go_big_quiet_skip | (refine wpQuiet_step (fun K hK => ?_); go_simp; first | (refine hK _ ?_; clear hK K) | (apply Exists.intro; refine ⟨fun wq hwq => ?_, hK _ ?_⟩; (obtain ⟨hqc, hqf⟩ := hwq.cells; have hqs := hwq.size; (try go_simp); first | rfl | ((first | rw [if_neg (by omega)] | rw [if_pos (by omega)]); (try go_simp); rfl) | ((go_at_call 51; exact (CH2.out _ (hxw3.trans hwq)).mono (fun e w'' h => ⟨h.1, hwq.trans h.2⟩)))); clear hK K)))
              refine wpQuiet_nil ?_
              intro wN hxN
              obtain ⟨hcN, hfN⟩ := hxN.cells
              have hsN := hxN.size
              go_wp2
              go_roundw
              case rel => exact ⟨j + 1, j, by omega, by go_num, rfl, HF.out, (hxr.trans hxs).trans hxN⟩
              case measure => simp [intOf]; omega
          · have hi1 : i < lv.length := by omega
            have hneg : decide ((i : Int) < 0) = false := decide_eq_false (by omega)
            cases H
            · have HF := Lib.hid (HB0.out i HZ.out rfl)
              go_wp2_with fail
              generalize (wr.alloc (.cells #[.int .i64 v1', .int .i64 v2', .int .i64 v3', .string va'] 35)) = W at *
              refine wp_region_ext (by kernel_rfl) (by kernel_rfl) ?_
              repeat (first | go_big_quiet_skip | (refine wpQuiet_step (fun K hK => ?_); go_simp; first | (refine hK _ ?_; clear hK K) | (apply Exists.intro; refine ⟨fun wq hwq => ?_, hK _ ?_⟩; (obtain ⟨hqc, hqf⟩ := hwq.cells; have hqs := hwq.size; (try go_simp); first | rfl | ((first | rw [if_neg (by omega)] | rw [if_pos (by omega)]); (try go_simp); rfl) | ((go_at_call 51; exact (CH2.out _ (hxw3.trans hwq)).mono (fun e w'' h => ⟨h.1, hwq.trans h.2⟩)))); clear hK K)))
              refine wpQuiet_nil ?_
              intro wN hxN
              obtain ⟨hcN, hfN⟩ := hxN.cells
              have hsN := hxN.size
              go_wp2
              go_roundw
              case rel => exact ⟨j + 1, i, by omega, by go_num, rfl, HF.out, (hxr.trans hxs).trans hxN⟩
              case measure => simp [intOf]; omega
            · have y0 := hxs.cell (X.c0 i hi1); have y1 := hxs.cell (X.c1 i hi1); have y2 := hxs.cell (X.c2 i hi1); have y3 := hxs.cell (X.c3 i hi1)
              have m0 := lt_of_cell y0
              have HM := Lib.hid (HB2.out i hi1 HZ.out rfl); have HL := Lib.hid (HB3.out i hi1 HZ.out rfl)
              have cO := CO.out i hi1
              have hO := HORD.out i hi1
              rw [hO] at HM HL
              clear hO
              generalize lv[i] = u at *
              obtain ⟨u1', u2', u3', ua'⟩ := u
              dsimp only at y0 y1 y2 y3 cO HM HL
              generalize orderL v1' v2' v3' (bs va') u1' u2' u3' (bs ua') = O at *
              have CO2 := Lib.hid cO
              have i0 : (0 : Int) ≤ (i : Int) := by omega
              have i1 : (i : Int) < (p : Int) := by omega
              clear cO X
              by_cases hO : 0 < O
              · have HF := Lib.hid (HM.out hO)
                go_wp2_with fail
                generalize (wr.alloc (.cells #[.int .i64 v1', .int .i64 v2', .int .i64 v3', .string va'] 35)) = W at *
                refine wp_region_ext (by kernel_rfl) (by kernel_rfl) ?_
                repeat (first | go_big_quiet_skip | (refine wpQuiet_step (fun K hK => ?_); go_simp; first | (refine hK _ ?_; clear hK K) | (apply Exists.intro; refine ⟨fun wq hwq => ?_, hK _ ?_⟩; (obtain ⟨hqc, hqf⟩ := hwq.cells; have hqs := hwq.size; (try go_simp); first | rfl | ((first | rw [if_neg (by omega)] | rw [if_pos (by omega)]); (try go_simp); rfl) | ((first | (go_at_call 51; exact (CH2.out _ (hxw3.trans hwq)).mono (fun e w'' h => ⟨h.1, hwq.trans h.2⟩)) | (go_at_call 33; exact (CO2.out _ (hxw3.trans hwq)).mono (fun e w'' h => ⟨h.1, hwq.trans h.2⟩))))); clear hK K)))
                refine wpQuiet_nil ?_
                intro wN hxN
                obtain ⟨hcN, hfN⟩ := hxN.cells
                have hsN := hxN.size
                go_wp2
                go_roundw
                case rel => exact ⟨j + 1, j, by omega, by go_num, rfl, HF.out, (hxr.trans hxs).trans hxN⟩
                case measure => simp [intOf]; omega
              · have HF := Lib.hid (HL.out hO)
                go_wp2_with fail
                generalize (wr.alloc (.cells #[.int .i64 v1', .int .i64 v2', .int .i64 v3', .string va'] 35)) = W at *
                refine wp_region_ext (by kernel_rfl) (by kernel_rfl) ?_
                repeat (first | go_big_quiet_skip | (refine wpQuiet_step (fun K hK => ?_); go_simp; first | (refine hK _ ?_; clear hK K) | (apply Exists.intro; refine ⟨fun wq hwq => ?_, hK _ ?_⟩; (obtain ⟨hqc, hqf⟩ := hwq.cells; have hqs := hwq.size; (try go_simp); first | rfl | ((first | rw [if_neg (by omega)] | rw [if_pos (by omega)]); (try go_simp); rfl) | ((first | (go_at_call 51; exact (CH2.out _ (hxw3.trans hwq)).mono (fun e w'' h => ⟨h.1, hwq.trans h.2⟩)) | (go_at_call 33; exact (CO2.out _ (hxw3.trans hwq)).mono (fun e w'' h => ⟨h.1, hwq.trans h.2⟩))))); clear hK K)))
                refine wpQuiet_nil ?_
                intro wN hxN
                obtain ⟨hcN, hfN⟩ := hxN.cells
                have hsN := hxN.size
                go_wp2
                go_roundw
                case rel => exact ⟨j + 1, i, by omega, by go_num, rfl, HF.out, (hxr.trans hxs).trans hxN⟩
                case measure => simp [intOf]; omega
        · obtain rfl : j = p := by omega
          rcases hzz with rfl | ⟨i, hi, rfl⟩
          · obtain ⟨rfl, rfl⟩ := Prod.mk.inj (GD.out H1.out H2.out H3.out (by rw [HPL.out]; exact HZ.out.symm))
            have hwh : ∀ W, Calls Tryz.prog 57 #[.bool true, .int .i64 10] W fun e w' => e = .returned (.int .i64 10) ∧ W = w' := fun W => When_any true 10 W
            go_wp2_with fail
            refine (hwh _).mono ?_
            rintro e w10 ⟨rfl, rfl⟩
            go_wp2
            go_ret
            exact ⟨by first | rfl | simp, hxw2⟩
          · obtain ⟨rfl, rfl⟩ := Prod.mk.inj (GE.out i H1.out H2.out H3.out (by rw [HPL.out]; exact HZ.out.symm))
            have hwh : ∀ W, Calls Tryz.prog 57 #[.bool false, .int .i64 10] W fun e w' => e = .returned (.int .i64 0) ∧ W = w' := fun W => When_any false 10 W
            have hneg : decide ((i : Int) < 0) = false := decide_eq_false (by omega)
            have hii : ((i : Int) == (i : Int)) = true := by simp
            go_wp2_with fail
            refine (hwh _).mono ?_
            rintro e w10 ⟨rfl, rfl⟩
            go_wp2
            go_ret
            exact ⟨by first | rfl | simp, hxw2⟩
end Go.Proofs.YtcmceeihdhcmnaaGreatDoor
