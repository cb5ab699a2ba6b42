/- Contracts of ver.Has, ranges. -/
import Derived.Test.YtcmceeihdhcmnaaGreatDoorRm32

namespace Go.Proofs.YtcmceeihdhcmnaaGreatDoor
open Go.RowKit

/-- the error of a range and a version -/
def hasE (l : List Sp) (v : V4) : Int := firstI [rngErr l, v.err]
def hasR (l : List Sp) (v : V4) : Bool := decide (hasE l v = 0) && hasL l v
theorem hasE_a {l : List Sp} {v : V4} (h : ¬ rngErr l = 0) : hasE l v = rngErr l ∧ hasR l v = false := by
  have e : hasE l v = rngErr l := by rw [hasE, firstI, if_neg h]
  exact ⟨e, by rw [hasR, e, decide_eq_false h]; rfl⟩
theorem hasE_b {l : List Sp} {v : V4} (h : rngErr l = 0) (h2 : ¬ v.err = 0) : hasE l v = v.err ∧ hasR l v = false := by
  have e : hasE l v = v.err := by rw [hasE, firstI, if_pos h, firstI, if_neg h2]
  exact ⟨e, by rw [hasR, e, decide_eq_false h2]; rfl⟩
theorem hasE_c {l : List Sp} {v : V4} (h : rngErr l = 0) (h2 : v.err = 0) : hasE l v = 0 ∧ hasR l v = hasL l v := by
  have e : hasE l v = 0 := by rw [hasE, firstI, if_pos h, firstI, if_pos h2, firstI]
  exact ⟨e, by rw [hasR, e]; rfl⟩
set_option maxHeartbeats 4000000 in
theorem Has_any (A : Option Addr) (n c : Nat) (l : List Sp) (v : V4) (w : World) (hg : Good w) (hn : l.length = n) (hr : RdS w A l) (hs : SmallS l) (hl : n ≤ 2097152) (hv : v.a.size ≤ 2097152) :
    Calls Tryz.prog 49 #[.agg #[.slice A n c], verV v] w fun e w' => e = .returned (.tuple #[.bool (hasR l v), .int .i64 (hasE l v)]) ∧ Ext w w' := by
  have cR := fun W (h : Ext w W) => CheckRange_any A n c l W (hg.ext h) hn (hr.ext h) hs hl
  have cH := fun W (h : Ext w W) => has_any A n c l v W (hg.ext h) hn (hr.ext h) hs hl hv
  have cV := fun W (h : Ext w W) => Check_any v.a1 v.a2 v.a3 v.a W (hg.ext h) hv
  rw [show checkV v.a1 v.a2 v.a3 (bs v.a) = v.err from rfl] at cV
  have hA := hasE_a (l := l) (v := v)
  have hB := hasE_b (l := l) (v := v)
  have hC := hasE_c (l := l) (v := v)
  generalize hasR l v = HR at *
  generalize hasE l v = HE at *
  generalize hasL l v = HL at *
  generalize rngErr l = E1 at *
  generalize v.err = E2 at *
  obtain ⟨v1, v2, v3, va⟩ := v
  dsimp only [verV] at cH cV ⊢
  have CR := Lib.hid cR; have CH := Lib.hid cH; have CV := Lib.hid cV
  have HA := Lib.hid hA; have HB := Lib.hid hB; have HC := Lib.hid hC
  clear cR cH cV hA hB hC hn hr hs
  have bR := (Blk.new w 51 #[.slice A n c]).alloc (.cells #[.int .i64 v1, .int .i64 v2, .int .i64 v3, .string va] 35)
  have bV := Blk.new (w.alloc (.cells #[.slice A n c] 51)) 35 #[.int .i64 v1, .int .i64 v2, .int .i64 v3, .string va]
  rw [World.size_alloc] at bV
  go_enter Tryz.func49, Tryz.ntmps49
  go_wp2_with fail
  refine (CR.out _ (by repeat (first | with_reducible exact Ext.refl _ | with_reducible assumption | with_reducible apply Ext.drewN | with_reducible apply Ext.drew | with_reducible apply Ext.alloc | exact Ext.refl _ | assumption | apply Ext.drewN | apply Ext.drew | apply Ext.alloc))).mono ?_
  rintro e w1 ⟨rfl, hx1⟩
  have hxa : Ext w w1 := Ext.trans (by repeat (first | with_reducible exact Ext.refl _ | with_reducible assumption | with_reducible apply Ext.drewN | with_reducible apply Ext.drew | with_reducible apply Ext.alloc | exact Ext.refl _ | assumption | apply Ext.drewN | apply Ext.drew | apply Ext.alloc)) hx1
  have bR1 := bR.ext hx1; have bV1 := bV.ext hx1
  have c1 := bR1.cell; have c2 := bV1.cell; have l1 := bR1.lt; have l2 := bV1.lt
  by_cases h1 : E1 = 0
  rotate_left
  · obtain ⟨e1, e2⟩ := HA.out h1
    have K1 := Lib.hid e1; have K2 := Lib.hid e2
    have hne : (E1 != 0) = true := by rw [bne_iff_ne]; exact h1
    clear e1 e2 h1
    go_wp2
    go_ret2
    exact ⟨by rw [K1.out, K2.out]; first | done | rfl, hxa⟩
  have H1 := Lib.hid h1
  rw [h1]
  clear h1
  go_wp2_with fail
  refine (CV.out _ hxa).mono ?_
  rintro e w2 ⟨rfl, hx2⟩
  have hxb := hxa.trans hx2
  have bR2 := bR1.ext hx2; have bV2 := bV1.ext hx2
  have d1 := bR2.cell; have d2 := bV2.cell; have m1 := bR2.lt; have m2 := bV2.lt
  by_cases h2 : E2 = 0
  rotate_left
  · obtain ⟨e1, e2⟩ := HB.out H1.out h2
    have K1 := Lib.hid e1; have K2 := Lib.hid e2
    have hne : (E2 != 0) = true := by rw [bne_iff_ne]; exact h2
    clear e1 e2 h2
    go_wp2
    go_ret2
    exact ⟨by rw [K1.out, K2.out]; first | done | rfl, hxb⟩
  obtain ⟨e1, e2⟩ := HC.out H1.out h2
  have K1 := Lib.hid e1; have K2 := Lib.hid e2
  rw [h2]
  clear h2 e1 e2
  go_wp2_with fail
  refine (CH.out _ hxb).mono ?_
  rintro e w3 ⟨rfl, hx3⟩
  go_wp2
  go_ret2
  exact ⟨by rw [K1.out, K2.out]; first | done | rfl, hxb.trans hx3⟩
set_option maxHeartbeats 4000000 in
theorem ranges_any (A B : Option Addr) (n c m d : Nat) (xs ys : List Sp) (g cp : Nat) (w : World) (hg : Good w) (hn : xs.length = n) (hr : RdS w A xs) (hs : SmallS xs) (hl : n ≤ 2097152) (hm : ys.length = m) (hr2 : RdS w B ys) (hs2 : SmallS ys) (hl2 : m ≤ 2097152)
    (c0 : w.cell? ⟨g, 0, none⟩ = some (.slice A n c)) (c1 : w.cell? ⟨g, 1, none⟩ = some (.slice B m d)) :
    Calls Tryz.prog 117 #[.slice (some ⟨g, 0, none⟩) 2 cp] w fun e w' => e = .returned (.int .i64 (firstI [rngErr xs, rngErr ys])) ∧ Ext w w' := by
  have cX := fun W (h : Ext w W) => CheckRange_any A n c xs W (hg.ext h) hn (hr.ext h) hs hl
  have cY := fun W (h : Ext w W) => CheckRange_any B m d ys W (hg.ext h) hm (hr2.ext h) hs2 hl2
  generalize rngErr xs = E1 at *
  generalize rngErr ys = E2 at *
  have CX := Lib.hid cX; have CY := Lib.hid cY
  clear cX cY hn hr hs hm hr2 hs2
  go_enter Tryz.func117, Tryz.ntmps117
  go_wp2
  go_loopw [8] (fun i wr => (i = .int .i64 0 ∨ (i = .int .i64 1 ∧ E1 = 0) ∨ (i = .int .i64 2 ∧ E1 = 0 ∧ E2 = 0)) ∧ Ext w wr) (fun i _ => 2 - (intOf i).toNat)
  case atStart => exact ⟨.inl rfl, Ext.refl _⟩
  case round =>
    obtain ⟨hi, hxr⟩ := hrel
    have x0 := hxr.cell c0; have x1 := hxr.cell c1
    rcases hi with rfl | ⟨rfl, h1⟩ | ⟨rfl, h1, h2⟩
    · go_wp2_with fail
      refine (CX.out _ (hxr.trans (by repeat (first | with_reducible exact Ext.refl _ | with_reducible assumption | with_reducible apply Ext.drewN | with_reducible apply Ext.drew | with_reducible apply Ext.alloc | exact Ext.refl _ | assumption | apply Ext.drewN | apply Ext.drew | apply Ext.alloc)))).mono ?_
      rintro e w1 ⟨rfl, hx1⟩
      by_cases h1 : E1 = 0
      · have H1 := Lib.hid h1
        rw [h1]
        clear h1
        go_wp2
        go_roundw
        case rel => exact ⟨.inr (.inl ⟨rfl, H1.out⟩), (hxr.trans (by repeat (first | with_reducible exact Ext.refl _ | with_reducible assumption | with_reducible apply Ext.drewN | with_reducible apply Ext.drew | with_reducible apply Ext.alloc | exact Ext.refl _ | assumption | apply Ext.drewN | apply Ext.drew | apply Ext.alloc))).trans hx1⟩
        case measure => decide
      · have HE := Lib.hid (show firstI [E1, E2] = E1 by rw [firstI, if_neg h1])
        have hne : (E1 != 0) = true := by rw [bne_iff_ne]; exact h1
        go_wp2
        go_ret
        exact ⟨ret_int HE.out.symm, (hxr.trans (by repeat (first | with_reducible exact Ext.refl _ | with_reducible assumption | with_reducible apply Ext.drewN | with_reducible apply Ext.drew | with_reducible apply Ext.alloc | exact Ext.refl _ | assumption | apply Ext.drewN | apply Ext.drew | apply Ext.alloc))).trans hx1⟩
    · have H1 := Lib.hid h1
      clear h1
      go_wp2_with fail
      refine (CY.out _ (hxr.trans (by repeat (first | with_reducible exact Ext.refl _ | with_reducible assumption | with_reducible apply Ext.drewN | with_reducible apply Ext.drew | with_reducible apply Ext.alloc | exact Ext.refl _ | assumption | apply Ext.drewN | apply Ext.drew | apply Ext.alloc)))).mono ?_
      rintro e w1 ⟨rfl, hx1⟩
      by_cases h2 : E2 = 0
      · have H2 := Lib.hid h2
        rw [h2]
        clear h2
        go_wp2
        go_roundw
        case rel => exact ⟨.inr (.inr ⟨rfl, H1.out, H2.out⟩), (hxr.trans (by repeat (first | with_reducible exact Ext.refl _ | with_reducible assumption | with_reducible apply Ext.drewN | with_reducible apply Ext.drew | with_reducible apply Ext.alloc | exact Ext.refl _ | assumption | apply Ext.drewN | apply Ext.drew | apply Ext.alloc))).trans hx1⟩
        case measure => decide
      · have HE := Lib.hid (show firstI [E1, E2] = E2 by rw [firstI, if_pos H1.out, firstI, if_neg h2])
        have hne : (E2 != 0) = true := by rw [bne_iff_ne]; exact h2
        go_wp2
        go_ret
        exact ⟨ret_int HE.out.symm, (hxr.trans (by repeat (first | with_reducible exact Ext.refl _ | with_reducible assumption | with_reducible apply Ext.drewN | with_reducible apply Ext.drew | with_reducible apply Ext.alloc | exact Ext.refl _ | assumption | apply Ext.drewN | apply Ext.drew | apply Ext.alloc))).trans hx1⟩
    · have HE := Lib.hid (show firstI [E1, E2] = 0 by rw [firstI, if_pos h1, firstI, if_pos h2, firstI])
      clear h1 h2
      go_wp2
      go_ret
      exact ⟨ret_int HE.out.symm, hxr⟩
end Go.Proofs.YtcmceeihdhcmnaaGreatDoor
