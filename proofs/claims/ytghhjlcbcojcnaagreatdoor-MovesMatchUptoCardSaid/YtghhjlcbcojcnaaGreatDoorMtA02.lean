/- Contract of outref2.WayOf: length by length. Contract of outref2.WayOf. -/
import Derived.Test.YtghhjlcbcojcnaaGreatDoorMtA01

namespace Go.Proofs.YtghhjlcbcojcnaaGreatDoor
open Go.RowKit

/-- what a map's values point to -/
def MapF (w : World) (f : V4 → Option (List Nat)) (F : V4 → Option Value) : Prop := ∀ v, (f v = none → F v = none) ∧ ∀ p, f v = some p → ∃ u, F v = some u ∧ LstAt w p u
theorem MapF.ext {w w' : World} {f : V4 → Option (List Nat)} {F : V4 → Option Value} (h : MapF w f F) (hx : Ext w w') : MapF w' f F := fun v => ⟨(h v).1, fun p hp => by
  obtain ⟨u, hu, hl⟩ := (h v).2 p hp
  exact ⟨u, hu, hl.ext hx⟩⟩
theorem MapF.kept {w w' : World} {f : V4 → Option (List Nat)} {F : V4 → Option Value} (h : MapF w f F) {b : Nat} (hg : w.grownBy w' (some b)) (hb : ∀ k, w.cell? ⟨b, k, none⟩ = none) : MapF w' f F := fun v => ⟨(h v).1, fun p hp => by
  obtain ⟨u, hu, hl⟩ := (h v).2 p hp
  refine ⟨u, hu, hl.kept hg ?_⟩
  rcases hl with ⟨_, rfl⟩ | ⟨h1, g, c, rfl, h2⟩
  · exact .inr rfl
  · refine .inl fun e => ?_
    have e : g = b := by simpa [Value.ownBlock] using e
    have h3 := h2 0 (List.length_pos_iff.2 h1)
    rw [e, hb] at h3
    cases h3⟩
theorem LstAt.turned {w w' : World} {p : List Nat} {u : Value} (hl : LstAt w p u) {b : Nat} (hg : w.grownBy w' (some b)) (hb : ∀ k, w.cell? ⟨b, k, none⟩ = none) : LstAt w' p u := by
  refine hl.kept hg ?_
  rcases hl with ⟨_, rfl⟩ | ⟨h1, g, c, rfl, h2⟩
  · exact .inr rfl
  · refine .inl fun e => ?_
    have e : g = b := by simpa [Value.ownBlock] using e
    have h3 := h2 0 (List.length_pos_iff.2 h1)
    rw [e, hb] at h3
    cases h3
theorem MapL.turned {w w' : World} {b n : Nat} {f : V4 → Option (List Nat)} (h : MapL w b n f) {b2 : Nat} (hg : w.grownBy w' (some b2)) (hb : ∀ k, w.cell? ⟨b2, k, none⟩ = none) (hne : b ≠ b2) : MapL w' b n f := by
  obtain ⟨F, h1, h2⟩ := h
  exact ⟨F, h1.far hg (by simpa using hne), MapF.kept h2 hg hb⟩
theorem MapL.no_cell {w : World} {b n : Nat} {f : V4 → Option (List Nat)} (h : MapL w b n f) (k : Nat) : w.cell? ⟨b, k, none⟩ = none := by
  obtain ⟨F, h1, _⟩ := h
  exact h1.no_cell k
theorem RangeV.no_cell {w : World} {b r n cnt : Nat} {f : V4 → Option Value} {left : V4 → Bool} (h : RangeV w b r n f left cnt) (k : Nat) : w.cell? ⟨r, k, none⟩ = none := by
  obtain ⟨D, L, ⟨es, clock, since, seen, c0, _, _, _, _, hr, _⟩, _⟩ := h
  unfold World.cell?
  rw [hr]
theorem RangeV.cnt_le {w : World} {b r n cnt : Nat} {f : V4 → Option Value} {left : V4 → Bool} (h : RangeV w b r n f left cnt) : cnt ≤ n := by
  obtain ⟨D, L, ⟨es, clock, since, seen, c0, _, _, hs, _, _, _, hc, _⟩, _⟩ := h
  rw [← hc]
  refine Nat.le_trans ?_ hs
  unfold Go.leftOf
  exact Array.size_filter_le
theorem RangeV.ext {w w' : World} {b r n cnt : Nat} {f : V4 → Option Value} {left : V4 → Bool} (h : RangeV w b r n f left cnt) (hx : Ext w w') : RangeV w' b r n f left cnt := h.grown (hx.by none) (by simp) (by simp)
theorem slice_zero (w : World) : (zeroValue 98).run Tryz.prog w = .ok (.slice none 0 0) w := by go_simp
/-- versions that come up: the first, and those that moves lead to -/
theorem lvl_okv {ms : List Mv} {v0 v : V4} {k : Nat} {f : V4 → Option (List Nat)} {p : List Nat} (hf : Lvl ms.length (hasF ms) (tgtF ms) v0 k f) (hp : f v = some p) (h0 : v0.err = 0) (h0s : v0.a.size ≤ 2097152) (hm : ∀ m ∈ ms, mvErr m = 0) (hs : ∀ m ∈ ms, SmallM m) : v.err = 0 ∧ v.a.size ≤ 2097152 := by
  obtain ⟨o1, o2, _⟩ := hf.got v p hp
  rcases List.eq_nil_or_concat p with rfl | ⟨q, i, rfl⟩
  · have e : v = v0 := o2.symm
    rw [e]; exact ⟨h0, h0s⟩
  · rw [List.concat_eq_append] at o1 o2
    rw [endP_snoc] at o2
    have hi := (okP_snoc.1 o1).2.1
    rw [tgtF_at hi] at o2
    rw [← o2]
    exact ⟨(mvErr_parts (hm _ (List.getElem_mem hi))).2.1, (hs _ (List.getElem_mem hi)).tt⟩
theorem nxt_tgt {ms : List Mv} {f g : V4 → Option (List Nat)} {D : V4 → Nat → Prop} (h : Nxt ms.length (hasF ms) (tgtF ms) f D g) {v : V4} (hv : (g v).isSome = true) : v ∈ (List.range ms.length).map (tgtF ms) := by
  cases hg : g v with
  | none => rw [hg] at hv; cases hv
  | some p =>
    obtain ⟨x, q, i, _, hi, _, ht, _⟩ := h.got v p hg
    exact List.mem_map.2 ⟨i, List.mem_range.2 hi, ht⟩
end Go.Proofs.YtghhjlcbcojcnaaGreatDoor

namespace Go.Proofs.YtghhjlcbcojcnaaGreatDoor
open Go.RowKit

set_option maxHeartbeats 64000000 in
set_option maxRecDepth 100000 in
theorem WayOf_any (ms : List Mv) (A : Option Addr) (n c : Nat) (v0 vt : V4) (w : World) (hg : GoodN w) (hn : ms.length = n) (hr : RdM w A ms) (hs : ∀ m ∈ ms, SmallM m) (h0 : v0.a.size ≤ 2097152) (ht : vt.a.size ≤ 2097152) (hl : n ≤ 2097152) :
    Calls Tryz.prog 74 #[.slice A n c, verV v0, verV vt] w fun e w' => ∃ u, e = .returned (.tuple #[u, .int .i64 (wayR ms v0 vt)]) ∧ LstAt w' (wayL ms v0 vt) u ∧ Ext w w' := by
  have CM := Lib.hid (fun W (h : Ext w W) k (hk : k < ms.length) A1 c1 A2 c2 (hm : MvIn W ms[k] A1 A2) => MoveError_any ms[k] A1 A2 c1 c2 W (hg.ext h) hm (hs _ (List.getElem_mem hk)))
  have CV := Lib.hid (fun b cp W (h : Ext w W) (hv : VerS W b [v0, vt]) => VersionError_any b cp [v0, vt] W (hg.toGood.ext h) hv (by intro v hv; simp at hv; rcases hv with rfl | rfl <;> assumption) (by simp))
  have CC := Lib.hid (fun W (h : Ext w W) (o1 : v0.err = 0) (o2 : vt.err = 0) => (show Calls Tryz.prog 36 #[verV v0, verV vt] W fun e w' => e = .returned (.int .i64 (v0.ord vt)) ∧ Ext W w' from CompareOf_any v0.a1 v0.a2 v0.a3 vt.a1 vt.a2 vt.a3 v0.a vt.a W (hg.ext h) h0 ht o1 o2))
  have HEA := Lib.hid (wayE_a (ms := ms) (v0 := v0) (vt := vt))
  have HEB := Lib.hid (wayE_b (ms := ms) (v0 := v0) (vt := vt))
  have HEC := Lib.hid (show ¬ 200 < ms.length → firstI (ms.map mvErr) = 0 → wayE ms v0 vt = firstI ([v0, vt].map V4.err) from fun h h2 => by
    by_cases h3 : v0.err = 0
    · rw [wayE_d h h2 h3]
      by_cases h4 : vt.err = 0 <;> simp [firstI, h3, h4]
    · rw [wayE_c h h2 h3]; simp [firstI, h3])
  have HBAD := Lib.hid (way_bad (ms := ms) (v0 := v0) (vt := vt))
  have HFND := Lib.hid (fun p => way_found (ms := ms) (v0 := v0) (vt := vt) (p := p))
  have HNON := Lib.hid (way_none (ms := ms) (v0 := v0) (vt := vt))
  have HPRT := Lib.hid (wayE_parts (ms := ms) (v0 := v0) (vt := vt))
  rw [hn] at HEA HEB HEC
  rw [show ms.map mvErr = mvErrs ms from rfl] at HEB HEC
  have HLG := Lib.hid (mvErrs_get ms)
  have HLL := Lib.hid (mvErrs_length ms)
  have CH := Lib.hid (fun W (h : Ext w W) k (hk : k < ms.length) A1 c1 (hr : RdS W A1 ms[k].fr) (v : V4) (hv : v.a.size ≤ 2097152) (ho : rngErr ms[k].fr = 0) (hov : v.err = 0) => HasOf_any A1 ms[k].fr.length c1 ms[k].fr v W (hg.ext h) rfl hr (hs _ (List.getElem_mem hk)).fr (hs _ (List.getElem_mem hk)).len hv ho hov)
  obtain ⟨ev, hev⟩ : ∃ ev, firstI ([v0, vt].map V4.err) = ev := ⟨_, rfl⟩
  rw [hev] at CV HEC
  clear hev
  have HSM := Lib.hid hs
  have HR := Lib.hid hr
  have HN := Lib.hid hn
  have HV0 := Lib.hid h0
  have HVT := Lib.hid ht
  generalize mvErrs ms = L at *
  generalize wayR ms v0 vt = R at *
  generalize wayL ms v0 vt = P at *
  generalize wayE ms v0 vt = E at *
  clear hn hr hs hg h0 ht
  obtain ⟨p1, p2, p3, pa⟩ := v0
  obtain ⟨q1, q2, q3, qa⟩ := vt
  have bF := (Blk.new w 35 #[.int .i64 p1, .int .i64 p2, .int .i64 p3, .string pa]).alloc (.cells #[.int .i64 q1, .int .i64 q2, .int .i64 q3, .string qa] 35)
  have bT := Blk.new (w.alloc (.cells #[.int .i64 p1, .int .i64 p2, .int .i64 p3, .string pa] 35)) 35 #[.int .i64 q1, .int .i64 q2, .int .i64 q3, .string qa]
  rw [World.size_alloc] at bT
  have hx0 : Ext w ((w.alloc (.cells #[.int .i64 p1, .int .i64 p2, .int .i64 p3, .string pa] 35)).alloc (.cells #[.int .i64 q1, .int .i64 q2, .int .i64 q3, .string qa] 35)) := ((Ext.refl w).alloc _).alloc _
  generalize hW : (w.alloc (.cells #[.int .i64 p1, .int .i64 p2, .int .i64 p3, .string pa] 35)).alloc (.cells #[.int .i64 q1, .int .i64 q2, .int .i64 q3, .string qa] 35) = W0 at *
  have HW := Lib.hid hW
  have hW0s : W0.heap.size = w.heap.size + 1 + 1 := by rw [← hW]; simp
  clear hW
  dsimp only [verV] at *
  by_cases h200 : 200 < n
  · have HE := Lib.hid (HEA.out h200)
    have HB := Lib.hid (HBAD.out (by rw [HE.out]; decide))
    go_enter Tryz.func74, Tryz.ntmps74
    go_wp2_with fail
    rw [HW.out]
    go_wp2
    go_ret2
    exact ⟨.slice none 0 0, by rw [HB.out.1, HE.out] <;> rfl, by rw [HB.out.2]; exact LstAt.nil _, hx0⟩
  go_enter Tryz.func74, Tryz.ntmps74
  go_wp2
  rw [HW.out]
  go_loopw [28] (fun i wr => ∃ k : Nat, k ≤ n ∧ i = .int .i64 k ∧ (∀ x ∈ L.take k, x = 0) ∧ Ext W0 wr) (fun i _ => n - (intOf i).toNat)
  case atStart => exact ⟨0, Nat.zero_le _, rfl, by simp, Ext.refl _⟩
  case round =>
    obtain ⟨k, hk, rfl, hall, hxr⟩ := hrel
    have HALL := Lib.hid hall
    clear hall
    have hxwr := hx0.trans hxr
    by_cases hlt : k < n
    · have hk1 : k < ms.length := by rw [HN.out]; exact hlt
      obtain ⟨b, o, rfl, hX⟩ := (HR.out.ext hxwr) (fun e => by rw [e] at hk1; exact absurd hk1 (Nat.not_lt_zero _))
      obtain ⟨A1, c1, A2, c2, hrow⟩ := hX k hk1
      have x0 := hrow.r0; have x1 := hrow.r1; have x2 := hrow.r2; have x3 := hrow.r3; have x4 := hrow.r4; have x5 := hrow.r5
      have hin := hrow.has
      have CR := Lib.hid (fun W (h : Ext wr W) => CM.out W (hxwr.trans h) k hk1 A1 c1 A2 c2 (hin.ext h))
      obtain ⟨HKL, hgk⟩ := List.getElem?_eq_some_iff.1 (HLG.out k hk1)
      have HGK := Lib.hid hgk
      clear hgk hX hrow hin
      generalize mvErr ms[k] = ek at *
      generalize ms[k] = m at *
      obtain ⟨fr, ⟨t1, t2, t3, ta⟩, rules⟩ := m
      dsimp only [mvV] at x0 x1 x2 x3 x4 x5 CR
      generalize fr.length = fl at *
      generalize rules.length = rl at *
      have b1 := Blk.new wr 104 #[.slice A1 fl c1, .int .i64 t1, .int .i64 t2, .int .i64 t3, .string ta, .slice A2 rl c2]
      have hc1 := b1.cell
      clear b1
      by_cases he : ek = 0
      · subst he
        go_wp2_with fail
        refine (CR.out _ ((Ext.refl wr).alloc _)).mono ?_
        rintro e w2 ⟨rfl, hx2⟩
        go_wp2
        go_roundw
        case rel => exact ⟨k + 1, by omega, by go_num, take_zero_succ HKL HALL.out HGK.out, (hxr.alloc _).trans hx2⟩
        case measure => simp [intOf]; omega
      · have hne : (ek != 0) = true := by rw [bne_iff_ne]; exact he
        have HF := Lib.hid (firstI_at HKL HALL.out (by rw [HGK.out]; exact he))
        have HE := Lib.hid (show E = ek from by rw [HEB.out h200 (by rw [HF.out, HGK.out]; exact he), HF.out, HGK.out])
        have HB := Lib.hid (HBAD.out (by rw [HE.out]; exact he))
        clear he
        go_wp2_with fail
        refine (CR.out _ ((Ext.refl wr).alloc _)).mono ?_
        rintro e w2 ⟨rfl, hx2⟩
        go_wp2
        go_ret2
        exact ⟨.slice none 0 0, by rw [HB.out.1, HE.out] <;> rfl, by rw [HB.out.2]; exact LstAt.nil _, (hxwr.alloc _).trans hx2⟩
    obtain rfl : k = n := by omega
    have HF0 := Lib.hid (show firstI L = 0 from firstI_zero fun x hx => HALL.out x (by
      rw [List.take_of_length_le (by rw [HLL.out, HN.out]; exact Nat.le_refl _)]
      exact hx))
    obtain ⟨wa, rfl⟩ : ∃ wa : World, wa = wr := ⟨_, rfl⟩
    have bF1 := bF.ext hxr
    have bT1 := bT.ext hxr
    have f0 := bF1.cell; have f1 := bT1.cell
    have hsza := hxr.size
    go_wp2_with fail
    refine (CV.out _ _ _ (hxwr.alloc _) ?_).mono ?_
    · refine ⟨?_, ?_, ?_, ?_⟩ <;> intro j hj <;> rw [World.cell?_alloc_at _ _ _ _ (by simp)] <;> (match j, hj with | 0, _ => rfl | 1, _ => rfl)
    rintro e w2 ⟨rfl, hx2⟩
    have hxa2 : Ext wa w2 := (Ext.alloc (Ext.refl wa) (.cells #[.int .i64 p1, .int .i64 p2, .int .i64 p3, .string pa, .int .i64 q1, .int .i64 q2, .int .i64 q3, .string qa] 35)).trans hx2
    have hx02 := hxr.trans hxa2
    have bF2 := bF1.ext hxa2
    have bT2 := bT1.ext hxa2
    clear f0 f1 CM HLG HLL
    by_cases hev : ev = 0
    rotate_left
    · have hne : (ev != 0) = true := by rw [bne_iff_ne]; exact hev
      have HE := Lib.hid (HEC.out h200 HF0.out)
      have HB := Lib.hid (HBAD.out (by rw [HE.out]; exact hev))
      clear hev
      go_wp2
      go_ret2
      exact ⟨.slice none 0 0, by rw [HB.out.1, HE.out] <;> rfl, by rw [HB.out.2]; exact LstAt.nil _, hx0.trans hx02⟩
    have HE := Lib.hid (show E = 0 from by rw [HEC.out h200 HF0.out]; exact hev)
    have HP := Lib.hid (HPRT.out HE.out)
    subst hev
    have f2 := bF2.cell; have g2 := bT2.cell
    obtain ⟨z, hz⟩ : ∃ z, (⟨p1, p2, p3, pa⟩ : V4).ord ⟨q1, q2, q3, qa⟩ = z := ⟨_, rfl⟩
    have CC2 := Lib.hid (fun W (h : Ext w W) => CC.out W h HP.out.2.2.1 HP.out.2.2.2)
    rw [hz] at CC2
    by_cases hz0 : z = 0
    · have HW1 := Lib.hid (HFND.out [] HE.out (by have e := ord_eq (hz.trans hz0); rw [← e]; exact best_nil _))
      subst hz0
      clear hz
      go_wp2_with fail
      refine (CC2.out _ (hx0.trans hx02)).mono ?_
      rintro e w3 ⟨rfl, hx3⟩
      go_wp2
      go_ret2
      exact ⟨.slice none 0 0, by rw [HW1.out.1] <;> rfl, by rw [HW1.out.2]; exact LstAt.nil _, (hx0.trans hx02).trans hx3⟩
    have hze : (z == 0) = false := by rw [beq_eq_false_iff_ne]; exact hz0
    have HZN := Lib.hid (show (⟨p1, p2, p3, pa⟩ : V4) ≠ ⟨q1, q2, q3, qa⟩ from fun e => hz0 (by rw [← hz, e]; exact pre_ord.self _))
    clear hz hz0
    go_wp2_with fail
    refine (CC2.out _ (hx0.trans hx02)).mono ?_
    rintro e w3 ⟨rfl, hx3⟩
    have hx03 := hx02.trans hx3
    have bF3 := (bF2.ext hx3).alloc (.map #[] 0)
    have f3 := bF3.cell
    have hov : OkV ⟨p1, p2, p3, pa⟩ := okv_of HP.out.2.2.1 HV0.out
    have HOT := Lib.hid (show OkV ⟨q1, q2, q3, qa⟩ from okv_of HP.out.2.2.2 HVT.out)
    obtain ⟨w4, hr4, hm4, hg4⟩ := (MapL.made w3).upd (t := 208) Tryz.underlying208 hov (LstAt.nil _) (by omega)
    dsimp only [verV] at hr4
    have hsz3 := hx03.size
    have hx04 : Ext W0 w4 := (hx03.alloc (.map #[] 0)).row hg4 (by omega)
    have HM4 := Lib.hid hm4
    have hmm := @run_makeMap Tryz.prog
    clear hm4 f2 g2
    go_wp2
    clear hr4 f3 hmm
    go_loopw [54, 12] (fun i mv wr => ∃ (j bm : Nat) (f : V4 → Option (List Nat)), j ≤ k ∧ i = .int .i64 j ∧ mv = .map (some bm) ∧ MapL wr bm (k + 1) f ∧ Hid (Lvl ms.length (hasF ms) (tgtF ms) ⟨p1, p2, p3, pa⟩ j f) ∧ Hid (∀ q, okP ms.length (hasF ms) (tgtF ms) ⟨p1, p2, p3, pa⟩ q → endP (tgtF ms) ⟨p1, p2, p3, pa⟩ q = ⟨q1, q2, q3, qa⟩ → j + 1 ≤ q.length) ∧ Ext W0 wr) (fun i _ _ => k - (intOf i).toNat)
    case atStart =>
      refine ⟨0, w3.heap.size, _, Nat.zero_le _, rfl, rfl, HM4.out.mono (by omega), Lvl.init _, ?_, hx04⟩
      intro q _ he
      cases q with
      | nil => exact absurd he HZN.out
      | cons a q => simp
    case round =>
      obtain ⟨j, bm, f, hj, rfl, rfl, HML, HLV, HNO, hxr2⟩ := hrel
      obtain ⟨wo, rfl⟩ : ∃ wo : World, wo = wr := ⟨_, rfl⟩
      have hxwo := hx0.trans hxr2
      by_cases hlt2 : j < k
      · have hbm := HML.lt
        obtain ⟨F, hF1, hF2⟩ := HML
        have hxa := (Ext.refl wo).alloc (.map #[] 0)
        have hF3 := hF1.ext hxa
        have hMF : MapF (wo.alloc (.map #[] 0)) f F := MapF.ext hF2 hxa
        have hN0 := MapL.made wo
        have HOKF := Lib.hid (fun v p (hp : f v = some p) => lvl_okv HLV.out hp HP.out.2.2.1 HV0.out HP.out.2.1 HSM.out)
        have hmm := @run_makeMap Tryz.prog
        have hso := hxr2.size
        go_wp2_with (first
          | (at_range; refine wp_range_v _ rfl _ 208 98 rfl Tryz.underlying208 bm (k + 1) F rfl hF3 ?_; intro w5 cnt0 hrg0 hg0 hs0; simp only [World.size_alloc] at hrg0 ⊢)
          | go_in)
        go_frame
        have hx5 := grown_none hg0
        have hN5 := hN0.ext hx5
        have hMF5 := hMF.ext hx5
        have hx05 := (hxr2.alloc (.map #[] 0)).trans hx5
        have hc0 := hrg0.cnt_le
        clear hmm hF3 hN0 hMF hF1 hF2 hg0 hs0
        go_loopw [15] (fun _ wq => ∃ (left : V4 → Bool) (cnt : Nat) (g : V4 → Option (List Nat)), RangeV wq bm (wo.heap.size + 1) (k + 1) F left cnt ∧ cnt ≤ cnt0 ∧ MapL wq wo.heap.size ((cnt0 - cnt) * k) g ∧ Hid (Nxt ms.length (hasF ms) (tgtF ms) f (fun v _ => (f v).isSome = true ∧ left v = false) g) ∧ MapF wq f F ∧ Ext W0 wq) (fun _ wq => wq.rangeLeft bm (wo.heap.size + 1))
        case atStart =>
          refine ⟨_, cnt0, _, hrg0, Nat.le_refl _, by rw [Nat.sub_self, Nat.zero_mul]; exact hN5, ?_, hMF5, hx05⟩
          refine (Nxt.init f).congr fun v i hd _ hs _ => ?_
          cases hfv : f v with
          | none => rw [hfv] at hs; cases hs
          | some p =>
            obtain ⟨u, hu, _⟩ := (hMF5 v).2 p hfv
            have h2 : (F v).isSome = false := hd.2
            rw [hu] at h2
            cases h2
        case round =>
          clear hrg0 hN5 hMF5 hx05 hx5
          obtain ⟨left, cnt, g, hrg, hcc, hNx, HNX, hMF, hxq⟩ := hrel
          obtain ⟨wq, rfl⟩ : ∃ wq : World, wq = wr := ⟨_, rfl⟩
          have hxwq := hx0.trans hxq
          have hzq := hxq.size
          go_wp2_with (first
            | (at_next; refine wp_next_v _ rfl _ rfl bm (wo.heap.size + 1) (k + 1) F left cnt rfl hrg ?_ ?_)
            | go_in)
          · intro hl0
            have HLV2 := Lib.hid (Nxt.lvl HLV.out (HNX.out.congr fun v i hd _ hs _ => ⟨hs, (by
              cases hfv : f v with
              | none => rw [hfv] at hs; cases hs
              | some p =>
                obtain ⟨k1, k2⟩ := HOKF.out v p hfv
                exact hl0 v (okv_of k1 k2))⟩))
            have hT := (hNx.tight ((List.range ms.length).map (tgtF ms)) (fun v _ hv => nxt_tgt HNX.out hv))
            rw [List.length_map, List.length_range, HN.out] at hT
            obtain ⟨u, hlook, hlu⟩ := hNx.look (t := 208) Tryz.underlying208 (slice_zero _) HOT.out
            have bTq := bT.ext hxq
            have gq := bTq.cell
            dsimp only [verV] at hlook
            have HLU := Lib.hid hlu
            have HT := Lib.hid (hT.mono (Nat.le_succ k))
            clear hrg hMF hNx hT hlu hl0
            cases hgv : g ⟨q1, q2, q3, qa⟩ with
            | some p =>
              have HW1 := Lib.hid (HFND.out p HE.out (Lvl.best HLV2.out hgv HNO.out))
              have HLP := Lib.hid (show LstAt wq p u from by have := HLU.out; rw [hgv] at this; exact this)
              rw [hgv] at hlook
              simp only [Option.isSome_some] at hlook
              clear hgv
              go_wp2
              go_ret2
              exact ⟨u, by rw [HW1.out.1] <;> rfl, by rw [HW1.out.2]; exact HLP.out, hxwq⟩
            | none =>
              have HNO2 := Lib.hid (Lvl.no HLV2.out hgv HNO.out)
              rw [hgv] at hlook
              simp only [Option.isSome_none] at hlook
              clear hgv
              go_wp2
              go_roundw
              case rel => exact ⟨j + 1, wo.heap.size, g, by omega, by go_num, rfl, HT.out, HLV2, HNO2, hxq⟩
              case measure => simp [intOf]; omega
          · intro x cc w6 cnt1 hox hlx hfx hrg1 hcl hg1 hs1 hen
            obtain ⟨p, hfp⟩ : ∃ p, f x = some p := by
              cases hfp : f x with
              | some p => exact ⟨p, rfl⟩
              | none => rw [(hMF x).1 hfp] at hfx; cases hfx
            have hLc : LstAt wq p cc := by
              obtain ⟨u, hu, hl⟩ := (hMF x).2 p hfp
              rw [hfx] at hu; cases hu; exact hl
            have hit := RangeV.no_cell hrg
            have hLc6 := hLc.turned hg1 hit
            have hMF6 := hMF.kept hg1 hit
            have hNx6 := hNx.turned hg1 hit (by omega)
            have hx6 : Ext W0 w6 := hxq.row hg1 (by omega)
            obtain ⟨hxe, hxs⟩ := HOKF.out x p hfp
            have HLE := Lib.hid hrg.left_eq
            have HXE := Lib.hid hxe
            have HFP := Lib.hid hfp
            have HLJ := Lib.hid (HLV.out.got x p hfp).2.2
            have hpl : p.length ≤ 200 := by rw [HLJ.out]; have := HP.out.1; rw [HN.out] at this; omega
            obtain ⟨uA, uc, rfl, _⟩ := hLc.form
            have HRG1 := Lib.hid hrg1
            have hk200 : k ≤ 200 := by have := HP.out.1; rw [HN.out] at this; exact this
            have hbnd : (cnt0 - cnt) * k ≤ 201 * 200 := Nat.mul_le_mul (by omega) hk200
            have hbnd2 : (cnt0 - cnt) * k + k ≤ (cnt0 - cnt1) * k := by
              rw [← Nat.succ_mul]
              exact Nat.mul_le_mul_right _ (by omega)
            generalize hC : (cnt0 - cnt) * k = C at *
            have HBN := Lib.hid hbnd2
            clear hrg hMF hNx hfx hrg1 hg1 hit hLc hlx hxe hfp hC hbnd2 hox hs1
            have HX := Lib.hid (rfl : x = x)
            obtain ⟨x1, x2, x3, xa⟩ := x
            dsimp only [verV] at hen
            have bX := Blk.new w6 35 #[.int .i64 x1, .int .i64 x2, .int .i64 x3, .string xa]
            have hx6a := (Ext.refl w6).alloc (.cells #[.int .i64 x1, .int .i64 x2, .int .i64 x3, .string xa] 35)
            have hw6 := hx6.size
            have hlw6 := hNx6.lt
            go_wp2
            clear hen
            go_loopw [66] (fun t wz => ∃ (i : Nat) (g2 : V4 → Option (List Nat)), i ≤ k ∧ t = .int .i64 i ∧ RangeV wz bm (wo.heap.size + 1) (k + 1) F (fun z => left z && !decide (z = ⟨x1, x2, x3, xa⟩)) cnt1 ∧ MapL wz wo.heap.size (C + i) g2 ∧ Hid (Nxt ms.length (hasF ms) (tgtF ms) f (fun v m => ((f v).isSome = true ∧ left v = false) ∨ (v = ⟨x1, x2, x3, xa⟩ ∧ m < i)) g2) ∧ MapF wz f F ∧ LstAt wz p (.slice uA p.length uc) ∧ Blk wz w6.heap.size 35 #[.int .i64 x1, .int .i64 x2, .int .i64 x3, .string xa] ∧ Ext W0 wz) (fun t _ => k - (intOf t).toNat)
            case atStart =>
              exact ⟨0, g, Nat.zero_le _, rfl, HRG1.out.ext hx6a, hNx6.ext hx6a, HNX.out.congr (fun v m hd _ _ _ => by
                rcases hd with hd | ⟨_, hd⟩
                · exact hd
                · exact absurd hd (Nat.not_lt_zero _)), hMF6.ext hx6a, hLc6.ext hx6a, bX, hx6.alloc _⟩
            case round =>
              clear bX hNx6 hMF6 hLc6 hx6a
              obtain ⟨i, g2, hik, rfl, hrgz, hNz, HNXz, hMFz, hLz, bXz, hxz⟩ := hrel
              obtain ⟨wz, rfl⟩ : ∃ wz : World, wz = wr := ⟨_, rfl⟩
              have hxwz := hx0.trans hxz
              by_cases hlt3 : i < k
              · have hk1 : i < ms.length := by rw [HN.out]; exact hlt3
                obtain ⟨b, o, rfl, hX⟩ := (HR.out.ext hxwz) (fun e => by rw [e] at hk1; exact absurd hk1 (Nat.not_lt_zero _))
                obtain ⟨A1, c1, A2, c2, hrow⟩ := hX i hk1
                have x0 := hrow.r0; have x1' := hrow.r1; have x2' := hrow.r2; have x3' := hrow.r3; have x4 := hrow.r4; have x5 := hrow.r5
                have hin := hrow.has
                have hmp := mvErr_parts (HP.out.2.1 _ (List.getElem_mem hk1))
                obtain ⟨hb, hhb⟩ : ∃ hb, hasF ms i ⟨x1, x2, x3, xa⟩ = hb := ⟨_, rfl⟩
                have CR := Lib.hid (fun W (h : Ext wz W) => CH.out W (hxwz.trans h) i hk1 A1 c1 (hin.1.ext h) ⟨x1, x2, x3, xa⟩ hxs hmp.1 HXE.out)
                rw [← hasF_at hk1, hhb] at CR
                have HHB := Lib.hid hhb
                have HTG := Lib.hid (tgtF_at hk1)
                have HOKT := Lib.hid (okv_of hmp.2.1 (HSM.out _ (List.getElem_mem hk1)).tt)
                clear hX hrow hin hmp hhb
                generalize ms[i] = m at *
                obtain ⟨fr, ⟨t1, t2, t3, ta⟩, rules⟩ := m
                dsimp only at x0 x1' x2' x3' x4 x5 HTG HOKT CR
                generalize fr.length = fl at *
                generalize rules.length = rl at *
                have bM := Blk.new wz 104 #[.slice A1 fl c1, .int .i64 t1, .int .i64 t2, .int .i64 t3, .string ta, .slice A2 rl c2]
                have cM := bM.cell; have lM := bM.lt
                have hxza := (Ext.refl wz).alloc (.cells #[.slice A1 fl c1, .int .i64 t1, .int .i64 t2, .int .i64 t3, .string ta, .slice A2 rl c2] 104)
                have cX := (bXz.ext hxza).cell; have lX := bXz.lt
                go_wp2_with fail
                refine (CR.out _ hxza).mono ?_
                rintro e w7 ⟨rfl, hx7⟩
                have hxz7 := hxza.trans hx7
                have hwz := hxz.size
                have hz7 := hxz7.size
                clear cM cX x0 x1' x2' x3' x4 x5
                cases hb with
                | false =>
                  have SK := Lib.hid (show RangeV w7 bm (wo.heap.size + 1) (k + 1) F (fun z => left z && !decide (z = ⟨x1, x2, x3, xa⟩)) cnt1 ∧ MapL w7 wo.heap.size (C + (i + 1)) g2 ∧ Hid (Nxt ms.length (hasF ms) (tgtF ms) f (fun v m => ((f v).isSome = true ∧ left v = false) ∨ (v = ⟨x1, x2, x3, xa⟩ ∧ m < i + 1)) g2) ∧ MapF w7 f F ∧ LstAt w7 p (.slice uA p.length uc) ∧ Blk w7 w6.heap.size 35 #[.int .i64 x1, .int .i64 x2, .int .i64 x3, .string xa] ∧ Ext W0 w7 from
                    ⟨hrgz.ext hxz7, (hNz.ext hxz7).mono (by omega), (show Nxt _ _ _ _ _ _ from HNXz.out.congr (fun v m hd _ _ hh => by
                      rcases hd with hd | ⟨e, hd⟩
                      · exact .inl hd
                      · rcases Nat.lt_or_eq_of_le (Nat.le_of_lt_succ hd) with h | h
                        · exact .inr ⟨e, h⟩
                        · rw [e, h, HHB.out] at hh; cases hh)), hMFz.ext hxz7, hLz.ext hxz7, bXz.ext hxz7, hxz.trans hxz7⟩)
                  clear hrgz hNz hMFz hLz bXz
                  go_wp2
                  go_roundw
                  case rel => exact ⟨i + 1, g2, by omega, by go_num, SK.out⟩
                  case measure => simp [intOf]; omega
                | true =>
                  have CLN := Lib.hid (Clone_any p _ w7 (hLz.ext hxz7) (by omega))
                  have hlp : (p ++ [i]).length = p.length + 1 := by simp
                  have hip : intsN (p ++ [i]) = intsN p ++ [.int .i64 (i : Int)] := by simp [intsN]
                  have HLP := Lib.hid hlp
                  have HIP := Lib.hid hip
                  have PUT := Lib.hid (fun (wx wy : World) (hx : Ext wz wx) (hm : MapL wy wo.heap.size (C + i + 1) (fun u => if u = ⟨t1, t2, t3, ta⟩ then some (p ++ [i]) else g2 u)) (hgx : wx.grownBy wy (some wo.heap.size)) (hle : ∀ q, g2 ⟨t1, t2, t3, ta⟩ = some q → lexle (p ++ [i]) q) =>
                    (show RangeV wy bm (wo.heap.size + 1) (k + 1) F (fun z => left z && !decide (z = ⟨x1, x2, x3, xa⟩)) cnt1 ∧ MapL wy wo.heap.size (C + (i + 1)) (fun u => if u = ⟨t1, t2, t3, ta⟩ then some (p ++ [i]) else g2 u) ∧ Hid (Nxt ms.length (hasF ms) (tgtF ms) f (fun v m => ((f v).isSome = true ∧ left v = false) ∨ (v = ⟨x1, x2, x3, xa⟩ ∧ m < i + 1)) (fun u => if u = ⟨t1, t2, t3, ta⟩ then some (p ++ [i]) else g2 u)) ∧ MapF wy f F ∧ LstAt wy p (.slice uA p.length uc) ∧ Blk wy w6.heap.size 35 #[.int .i64 x1, .int .i64 x2, .int .i64 x3, .string xa] ∧ Ext W0 wy from
                      ⟨(hrgz.ext hx).grown hgx (by simp; omega) (by simp), hm.mono (by omega), (show Nxt _ _ _ _ _ _ from by
                        have := HNXz.out.put (D' := fun v m => ((f v).isSome = true ∧ left v = false) ∨ (v = ⟨x1, x2, x3, xa⟩ ∧ m < i + 1)) HFP.out hk1 HHB.out (fun u m hd => by
                          rcases hd with hd | ⟨e, hd⟩
                          · exact .inl (.inl hd)
                          · rcases Nat.lt_or_eq_of_le (Nat.le_of_lt_succ hd) with h | h
                            · exact .inl (.inr ⟨e, h⟩)
                            · exact .inr ⟨e, h⟩) (by rw [HTG.out]; exact hle)
                        rw [HTG.out] at this
                        exact this), (hMFz.ext hx).kept hgx (MapL.no_cell (hNz.ext hx)), (hLz.ext hx).turned hgx (MapL.no_cell (hNz.ext hx)), (bXz.ext hx).turned hgx (by simp; omega), (hxz.trans hx).row hgx hso⟩))
                  have KEEP := Lib.hid (fun (wx : World) (q : List Nat) (hx : Ext wz wx) (hq : g2 ⟨t1, t2, t3, ta⟩ = some q) (hle : lexle q (p ++ [i])) =>
                    (show RangeV wx bm (wo.heap.size + 1) (k + 1) F (fun z => left z && !decide (z = ⟨x1, x2, x3, xa⟩)) cnt1 ∧ MapL wx wo.heap.size (C + (i + 1)) g2 ∧ Hid (Nxt ms.length (hasF ms) (tgtF ms) f (fun v m => ((f v).isSome = true ∧ left v = false) ∨ (v = ⟨x1, x2, x3, xa⟩ ∧ m < i + 1)) g2) ∧ MapF wx f F ∧ LstAt wx p (.slice uA p.length uc) ∧ Blk wx w6.heap.size 35 #[.int .i64 x1, .int .i64 x2, .int .i64 x3, .string xa] ∧ Ext W0 wx from
                      ⟨hrgz.ext hx, (hNz.ext hx).mono (by omega), (show Nxt _ _ _ _ _ _ from HNXz.out.keep (i := i) HFP.out (fun u m hd => by
                          rcases hd with hd | ⟨e, hd⟩
                          · exact .inl (.inl hd)
                          · rcases Nat.lt_or_eq_of_le (Nat.le_of_lt_succ hd) with h | h
                            · exact .inl (.inr ⟨e, h⟩)
                            · exact .inr ⟨e, h⟩) (by rw [HTG.out]; exact hq) hle), hMFz.ext hx, hLz.ext hx, bXz.ext hx, hxz.trans hx⟩))
                  go_wp2_with fail
                  refine CLN.out.mono ?_
                  rintro e w8 ⟨v8, rfl, hown8, hx8⟩
                  have hxz8 := hxz7.trans hx8
                  have hz8 := hx8.size
                  cases hgt : g2 ⟨t1, t2, t3, ta⟩ with
                  | none =>
                    go_wp2_with (at_builtin; refine wpList_app1g _ _ _ rfl _ _ 98 rfl (.int .i64 0) 1 8 Tryz.underlying98 info_int rfl (by decide) (by decide) w7.heap.size _ p.length _ rfl hown8 _ _ rfl rfl rfl (by simp [Value.oneCell']) (by omega) hz8 ?_; intro v9 w9 hown9 hx9 _; (have hz9x : Ext wz w9 := hx9 _ hxz8 hz7); (have hz79 : Ext w7 w9 := hx9 _ hx8 (Nat.le_refl _)); (have hL9 : LstAt w9 (p ++ [i]) v9 := LstAt.own (by simp) (by rw [HLP.out, HIP.out]; exact hown9)); (obtain ⟨uo, hlook, hlo⟩ := (hNz.ext hz9x).look (t := 208) Tryz.underlying208 (slice_zero _) HOKT.out); (obtain ⟨w10, hr10, hm10, hg10⟩ := (hNz.ext hz9x).upd (t := 208) Tryz.underlying208 HOKT.out hL9 (by omega)); rw [hgt] at hlook hlo; simp only [Option.isSome_none, Option.getD_none] at hlook hlo; dsimp only [verV] at hlook hr10; (have cM9 := ((bM.ext hx7).ext hz79).cell); (have lM9 := ((bM.ext hx7).ext hz79).lt); have HM10 := Lib.hid hm10; have HL9 := Lib.hid hL9; have HLO := Lib.hid hlo; clear hm10 hL9 hlo hown9)
                    have PT := Lib.hid (PUT.out w9 w10 hz9x HM10.out hg10 (fun q hq => by rw [hgt] at hq; cases hq))
                    clear hgt hrgz hMFz hLz bXz
                    go_wp2
                    go_roundw
                    case rel => exact ⟨i + 1, _, by omega, by go_num, PT.out⟩
                    case measure => simp [intOf]; omega
                  | some p0 =>
                    have HQL := Lib.hid (show p0.length = p.length + 1 from by
                      obtain ⟨y, q, m, e1, _, _, _, e2⟩ := HNXz.out.got _ _ hgt
                      rw [e2, List.length_append, List.length_singleton, (HLV.out.got y q e1).2.2, HLJ.out])
                    go_wp2_with (at_builtin; refine wpList_app1g _ _ _ rfl _ _ 98 rfl (.int .i64 0) 1 8 Tryz.underlying98 info_int rfl (by decide) (by decide) w7.heap.size _ p.length _ rfl hown8 _ _ rfl rfl rfl (by simp [Value.oneCell']) (by omega) hz8 ?_; intro v9 w9 hown9 hx9 _; (have hz9x : Ext wz w9 := hx9 _ hxz8 hz7); (have hz79 : Ext w7 w9 := hx9 _ hx8 (Nat.le_refl _)); (have hL9 : LstAt w9 (p ++ [i]) v9 := LstAt.own (by simp) (by rw [HLP.out, HIP.out]; exact hown9)); (obtain ⟨uo, hlook, hlo⟩ := (hNz.ext hz9x).look (t := 208) Tryz.underlying208 (slice_zero _) HOKT.out); (obtain ⟨w10, hr10, hm10, hg10⟩ := (hNz.ext hz9x).upd (t := 208) Tryz.underlying208 HOKT.out hL9 (by omega)); rw [hgt] at hlook hlo; simp only [Option.isSome_some, Option.getD_some] at hlook hlo; dsimp only [verV] at hlook hr10; (have cM9 := ((bM.ext hx7).ext hz79).cell); (have lM9 := ((bM.ext hx7).ext hz79).lt); have HM10 := Lib.hid hm10; have HL9 := Lib.hid hL9; have HLO := Lib.hid hlo; clear hm10 hL9 hlo hown9)
                    have CMP := Lib.hid (CompareI_any (p ++ [i]) p0 v9 uo w9 HL9.out HLO.out (by rw [HLP.out, HQL.out]) (by rw [HLP.out]; omega))
                    go_wp2_with fail
                    refine CMP.out.mono ?_
                    rintro e w' ⟨z, rfl, hz, rfl⟩
                    have HZ := Lib.hid hz
                    clear hz
                    by_cases hz0 : z < 0
                    · have PT := Lib.hid (PUT.out w9 w10 hz9x HM10.out hg10 (fun q hq => by
                        rw [hgt] at hq
                        cases hq
                        rcases lexle_total (p ++ [i]) p0 with h | h
                        · exact h
                        · exact absurd h (HZ.out.1 hz0)))
                      clear hgt hrgz hMFz hLz bXz
                      go_wp2
                      go_roundw
                      case rel => exact ⟨i + 1, _, by omega, by go_num, PT.out⟩
                      case measure => simp [intOf]; omega
                    · have KP := Lib.hid (KEEP.out w9 p0 hz9x hgt (Classical.not_not.1 (fun h => hz0 (HZ.out.2 h))))
                      clear hgt hrgz hMFz hLz bXz
                      go_wp2
                      go_roundw
                      case rel => exact ⟨i + 1, g2, by omega, by go_num, KP.out⟩
                      case measure => simp [intOf]; omega
              · obtain rfl : i = k := by omega
                have HNX3 := Lib.hid (show Nxt ms.length (hasF ms) (tgtF ms) f (fun v _ => (f v).isSome = true ∧ (left v && !decide (v = ⟨x1, x2, x3, xa⟩)) = false) g2 from HNXz.out.congr (fun v m hd hm _ _ => by
                  rw [Bool.and_eq_false_iff] at hd
                  rcases hd.2 with h | h
                  · exact .inl ⟨hd.1, h⟩
                  · simp at h
                    exact .inr ⟨h, by rw [← HN.out]; exact hm⟩))
                have HRZ := Lib.hid hrgz
                have HNZ := Lib.hid (hNz.mono HBN.out)
                clear hrgz hNz
                go_wp2
                go_roundw
                case rel => exact ⟨_, cnt1, g2, HRZ.out, by omega, HNZ.out, HNX3, hMFz, hxz⟩
                case measure => rw [HRZ.out.left_eq, HLE.out]; exact hcl
      · obtain rfl : j = k := by omega
        have HN0 := Lib.hid (HNON.out HE.out (fun q hq he => by
          obtain ⟨p, o1, o2, o3⟩ := shorter q hq
          have := HNO.out p o1 (o2.trans he)
          rw [HN.out] at o3
          omega))
        clear HML
        go_wp2
        go_ret2
        exact ⟨.slice none 0 0, by rw [HN0.out.1] <;> rfl, by rw [HN0.out.2]; exact LstAt.nil _, hxwo⟩
end Go.Proofs.YtghhjlcbcojcnaaGreatDoor
