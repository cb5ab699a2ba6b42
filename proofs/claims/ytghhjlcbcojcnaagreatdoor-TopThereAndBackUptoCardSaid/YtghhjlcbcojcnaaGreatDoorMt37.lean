/- Contract of migrate.Way: breadth first. -/
import Derived.Test.YtghhjlcbcojcnaaGreatDoorMt36

namespace Go.Proofs.YtghhjlcbcojcnaaGreatDoor
open Go.RowKit

set_option maxHeartbeats 64000000 in
set_option maxRecDepth 100000 in
theorem Way_any (ms : List Mv) (A : Option Addr) (n c : Nat) (v0 vt : V4) (w : World) (hg : GoodN w) (hn : ms.length = n) (hr : RdM w A ms) (hs : ∀ m ∈ ms, SmallM m) (h0 : v0.a.size ≤ 2097152) (ht : vt.a.size ≤ 2097152) (hl : n ≤ 2097152) :
    Calls Tryz.prog 66 #[.slice A n c, verV v0, verV vt] w fun e w' => ∃ u, e = .returned (.tuple #[u, .int .i64 (wayR ms v0 vt)]) ∧ LstAt w' (wayL ms v0 vt) u ∧ Ext w w' := by
  have CM := Lib.hid (fun W (h : Ext w W) k (hk : k < ms.length) A1 c1 A2 c2 (hm : MvIn W ms[k] A1 A2) => CheckMove_any ms[k] A1 A2 c1 c2 W (hg.toGood.ext h) hm (hs _ (List.getElem_mem hk)))
  have CV0 := Lib.hid (show ∀ W, Ext w W → Calls Tryz.prog 28 #[verV v0] W fun e w' => e = .returned (.int .i64 v0.err) ∧ Ext W w' from fun W h => Check_any v0.a1 v0.a2 v0.a3 v0.a W (hg.toGood.ext h) h0)
  have CVt := Lib.hid (show ∀ W, Ext w W → Calls Tryz.prog 28 #[verV vt] W fun e w' => e = .returned (.int .i64 vt.err) ∧ Ext W w' from fun W h => Check_any vt.a1 vt.a2 vt.a3 vt.a W (hg.toGood.ext h) ht)
  have HEA := Lib.hid (wayE_a (ms := ms) (v0 := v0) (vt := vt))
  have HEB := Lib.hid (wayE_b (ms := ms) (v0 := v0) (vt := vt))
  have HEC := Lib.hid (wayE_c (ms := ms) (v0 := v0) (vt := vt))
  have HED := Lib.hid (wayE_d (ms := ms) (v0 := v0) (vt := vt))
  have HBAD := Lib.hid (way_bad (ms := ms) (v0 := v0) (vt := vt))
  have HFND := Lib.hid (fun p => way_found (ms := ms) (v0 := v0) (vt := vt) (p := p))
  have HNON := Lib.hid (way_none (ms := ms) (v0 := v0) (vt := vt))
  have HPRT := Lib.hid (wayE_parts (ms := ms) (v0 := v0) (vt := vt))
  rw [hn] at HEA HEB HEC HED
  rw [show ms.map mvErr = mvErrs ms from rfl] at HEB HEC HED
  have HLG := Lib.hid (mvErrs_get ms)
  have HLL := Lib.hid (mvErrs_length ms)
  have CO := Lib.hid (fun W (h : Ext w W) (v : V4) (hv : v.a.size ≤ 2097152) => (show Calls Tryz.prog 94 #[verV v, verV vt] W fun e w' => e = .returned (.int .i64 (v.ord vt)) ∧ Ext W w' from Order_any v.a1 v.a2 v.a3 vt.a1 vt.a2 vt.a3 v.a vt.a W (hg.toGood.ext h) hv ht))
  have CH := Lib.hid (fun W (h : Ext w W) k (hk : k < ms.length) A1 c1 (hr : RdS W A1 ms[k].fr) (v : V4) (hv : v.a.size ≤ 2097152) => Has_any A1 ms[k].fr.length c1 ms[k].fr v W (hg.toGood.ext h) rfl hr (hs _ (List.getElem_mem hk)).fr (hs _ (List.getElem_mem hk)).len hv)
  obtain ⟨e0, he0⟩ : ∃ e0, v0.err = e0 := ⟨_, rfl⟩
  obtain ⟨et, het⟩ : ∃ et, vt.err = et := ⟨_, rfl⟩
  rw [he0] at CV0 HEC HED
  rw [het] at CVt HED
  clear he0 het
  have HSM := Lib.hid hs
  have HR := Lib.hid hr
  have HN := Lib.hid hn
  have HV0 := Lib.hid h0
  generalize mvErrs ms = L at *
  generalize wayR ms v0 vt = R at *
  generalize wayL ms v0 vt = P at *
  generalize wayE ms v0 vt = E at *
  clear hn hr hs hg h0 ht
  have HV := Lib.hid (rfl : v0 = v0)
  obtain ⟨p1, p2, p3, pa⟩ := v0
  obtain ⟨q1, q2, q3, qa⟩ := vt
  have bF := (Blk.new w 35 #[.int .i64 p1, .int .i64 p2, .int .i64 p3, .string pa]).alloc (.cells #[.int .i64 q1, .int .i64 q2, .int .i64 q3, .string qa] 35)
  have bT := Blk.new (w.alloc (.cells #[.int .i64 p1, .int .i64 p2, .int .i64 p3, .string pa] 35)) 35 #[.int .i64 q1, .int .i64 q2, .int .i64 q3, .string qa]
  rw [World.size_alloc] at bT
  have hx0 : Ext w ((w.alloc (.cells #[.int .i64 p1, .int .i64 p2, .int .i64 p3, .string pa] 35)).alloc (.cells #[.int .i64 q1, .int .i64 q2, .int .i64 q3, .string qa] 35)) := ((Ext.refl w).alloc _).alloc _
  generalize hW : (w.alloc (.cells #[.int .i64 p1, .int .i64 p2, .int .i64 p3, .string pa] 35)).alloc (.cells #[.int .i64 q1, .int .i64 q2, .int .i64 q3, .string qa] 35) = W0 at *
  have HW := Lib.hid hW
  have hW0s : W0.heap.size = w.heap.size + 1 + 1 := by rw [← hW]; simp
  clear hW
  dsimp only [verV] at *
  by_cases h200 : 200 < n
  · have HE := Lib.hid (HEA.out h200)
    have HB := Lib.hid (HBAD.out (by rw [HE.out]; decide))
    go_enter Tryz.func66, Tryz.ntmps66
    go_wp2_with fail
    rw [HW.out]
    go_wp2
    go_ret2
    exact ⟨.slice none 0 0, by rw [HB.out.1, HE.out] <;> rfl, by rw [HB.out.2]; exact LstAt.nil _, hx0⟩
  go_enter Tryz.func66, Tryz.ntmps66
  go_wp2
  rw [HW.out]
  go_loopw [26] (fun i wr => ∃ k : Nat, k ≤ n ∧ i = .int .i64 k ∧ (∀ x ∈ L.take k, x = 0) ∧ Ext W0 wr) (fun i _ => n - (intOf i).toNat)
  case atStart => exact ⟨0, Nat.zero_le _, rfl, by simp, Ext.refl _⟩
  case round =>
    obtain ⟨k, hk, rfl, hall, hxr⟩ := hrel
    have HALL := Lib.hid hall
    clear hall
    have hxwr := hx0.trans hxr
    by_cases hlt : k < n
    · have hk1 : k < ms.length := by rw [HN.out]; exact hlt
      obtain ⟨b, o, rfl, hX⟩ := (HR.out.ext hxwr) (fun e => by rw [e] at hk1; exact absurd hk1 (Nat.not_lt_zero _))
      obtain ⟨A1, c1, A2, c2, hrow⟩ := hX k hk1
      have x0 := hrow.r0; have x1 := hrow.r1; have x2 := hrow.r2; have x3 := hrow.r3; have x4 := hrow.r4; have x5 := hrow.r5
      have hin := hrow.has
      have CR := Lib.hid (fun W (h : Ext wr W) => CM.out W (hxwr.trans h) k hk1 A1 c1 A2 c2 (hin.ext h))
      obtain ⟨HKL, hgk⟩ := List.getElem?_eq_some_iff.1 (HLG.out k hk1)
      have HGK := Lib.hid hgk
      clear hgk hX hrow hin
      generalize mvErr ms[k] = ek at *
      generalize ms[k] = m at *
      obtain ⟨fr, ⟨t1, t2, t3, ta⟩, rules⟩ := m
      dsimp only [mvV] at x0 x1 x2 x3 x4 x5 CR
      generalize fr.length = fl at *
      generalize rules.length = rl at *
      have b1 := Blk.new wr 104 #[.slice A1 fl c1, .int .i64 t1, .int .i64 t2, .int .i64 t3, .string ta, .slice A2 rl c2]
      have hc1 := b1.cell
      clear b1
      by_cases he : ek = 0
      · subst he
        go_wp2_with fail
        refine (CR.out _ ((Ext.refl wr).alloc _)).mono ?_
        rintro e w2 ⟨rfl, hx2⟩
        go_wp2
        go_roundw
        case rel => exact ⟨k + 1, by omega, by go_num, take_zero_succ HKL HALL.out HGK.out, (hxr.alloc _).trans hx2⟩
        case measure => simp [intOf]; omega
      · have hne : (ek != 0) = true := by rw [bne_iff_ne]; exact he
        have HF := Lib.hid (firstI_at HKL HALL.out (by rw [HGK.out]; exact he))
        have HE := Lib.hid (show E = ek from by rw [HEB.out h200 (by rw [HF.out, HGK.out]; exact he), HF.out, HGK.out])
        have HB := Lib.hid (HBAD.out (by rw [HE.out]; exact he))
        clear he
        go_wp2_with fail
        refine (CR.out _ ((Ext.refl wr).alloc _)).mono ?_
        rintro e w2 ⟨rfl, hx2⟩
        go_wp2
        go_ret2
        exact ⟨.slice none 0 0, by rw [HB.out.1, HE.out] <;> rfl, by rw [HB.out.2]; exact LstAt.nil _, (hxwr.alloc _).trans hx2⟩
    obtain rfl : k = n := by omega
    have HF0 := Lib.hid (show firstI L = 0 from firstI_zero fun x hx => HALL.out x (by
      rw [List.take_of_length_le (by rw [HLL.out, HN.out]; exact Nat.le_refl _)]
      exact hx))
    obtain ⟨wa, rfl⟩ : ∃ wa : World, wa = wr := ⟨_, rfl⟩
    have bF1 := bF.ext hxr
    have bT1 := bT.ext hxr
    have f0 := bF1.cell; have f1 := bT1.cell
    have i0 : ∀ w, (Instr.index 129 (.agg #[.int .i64 p1, .int .i64 p2, .int .i64 p3, .string pa, .int .i64 q1, .int .i64 q2, .int .i64 q3, .string qa]) (.int .i64 0)).run Tryz.prog w = .ok (.agg #[.int .i64 p1, .int .i64 p2, .int .i64 p3, .string pa]) w := fun _ => by kernel_rfl
    have i1 : ∀ w, (Instr.index 129 (.agg #[.int .i64 p1, .int .i64 p2, .int .i64 p3, .string pa, .int .i64 q1, .int .i64 q2, .int .i64 q3, .string qa]) (.int .i64 1)).run Tryz.prog w = .ok (.agg #[.int .i64 q1, .int .i64 q2, .int .i64 q3, .string qa]) w := fun _ => by kernel_rfl
    go_wp2
    clear f0 f1
    go_loopw [39] (fun i wr => (i = .int .i64 0 ∨ (i = .int .i64 1 ∧ Hid (e0 = 0)) ∨ (i = .int .i64 2 ∧ Hid (e0 = 0) ∧ Hid (et = 0))) ∧ Ext W0 wr) (fun i _ => 2 - (intOf i).toNat)
    case atStart => exact ⟨.inl rfl, hxr⟩
    case round =>
      clear hxr hxwr bF1 bT1
      obtain ⟨hi, hxr⟩ := hrel
      have hxwr := hx0.trans hxr
      rcases hi with rfl | ⟨rfl, H1⟩ | ⟨rfl, H1, H2⟩
      · have b1 := Blk.new wr 35 #[.int .i64 p1, .int .i64 p2, .int .i64 p3, .string pa]
        have hc1 := b1.cell
        clear b1
        by_cases he : e0 = 0
        · have H1 := Lib.hid he
          subst he
          go_wp2_with fail
          refine (CV0.out _ (hxwr.alloc _)).mono ?_
          rintro e w2 ⟨rfl, hx2⟩
          go_wp2
          go_roundw
          case rel => exact ⟨.inr (.inl ⟨rfl, H1⟩), (hxr.alloc _).trans hx2⟩
          case measure => decide
        · have hne : (e0 != 0) = true := by rw [bne_iff_ne]; exact he
          have HE := Lib.hid (HEC.out h200 HF0.out he)
          have HB := Lib.hid (HBAD.out (by rw [HE.out]; exact he))
          clear he
          go_wp2_with fail
          refine (CV0.out _ (hxwr.alloc _)).mono ?_
          rintro e w2 ⟨rfl, hx2⟩
          go_wp2
          go_ret2
          exact ⟨.slice none 0 0, by rw [HB.out.1, HE.out] <;> rfl, by rw [HB.out.2]; exact LstAt.nil _, (hxwr.alloc _).trans hx2⟩
      · have b1 := Blk.new wr 35 #[.int .i64 q1, .int .i64 q2, .int .i64 q3, .string qa]
        have hc1 := b1.cell
        clear b1
        by_cases he : et = 0
        · have H2 := Lib.hid he
          subst he
          go_wp2_with fail
          refine (CVt.out _ (hxwr.alloc _)).mono ?_
          rintro e w2 ⟨rfl, hx2⟩
          go_wp2
          go_roundw
          case rel => exact ⟨.inr (.inr ⟨rfl, H1, H2⟩), (hxr.alloc _).trans hx2⟩
          case measure => decide
        · have hne : (et != 0) = true := by rw [bne_iff_ne]; exact he
          have HE := Lib.hid (HED.out h200 HF0.out H1.out)
          have HB := Lib.hid (HBAD.out (by rw [HE.out]; exact he))
          clear he
          go_wp2_with fail
          refine (CVt.out _ (hxwr.alloc _)).mono ?_
          rintro e w2 ⟨rfl, hx2⟩
          go_wp2
          go_ret2
          exact ⟨.slice none 0 0, by rw [HB.out.1, HE.out] <;> rfl, by rw [HB.out.2]; exact LstAt.nil _, (hxwr.alloc _).trans hx2⟩
      -- all is right: breadth first
      obtain ⟨wz, rfl⟩ : ∃ wz : World, wz = wr := ⟨_, rfl⟩
      have HE := Lib.hid (show E = 0 from by rw [HED.out h200 HF0.out H1.out]; exact H2.out)
      have HP := Lib.hid (HPRT.out HE.out)
      have hov : OkV ⟨p1, p2, p3, pa⟩ := okv_of HP.out.2.2.1 HV0.out
      obtain ⟨wb, hrb, hmb, hgb⟩ := (VMap.made wz).upd (t := 200) Tryz.underlying200 hov (.bool true) (by omega)
      rw [seenF_one] at hmb
      dsimp only [verV] at hrb
      have bF2 := (((bF.ext hxr).alloc (.map #[] 0)).turned hgb (by simp; have := hxr.size; omega))
      have hxb : Ext W0 wb := (hxr.alloc (.map #[] 0)).row hgb (by have := hxr.size; omega)
      have f0 := bF2.cell
      have fz := ((bF.ext hxr).alloc (.map #[] 0)).cell
      have hsz1 := hxr.size
      have hsz2 := hxb.size
      have hbl := hmb.lt
      have hmm := @run_makeMap Tryz.prog
      have HQ0 := Lib.hid (QOwn.one (B := wb.heap.size) wb 202 #[.int .i64 p1, .int .i64 p2, .int .i64 p3, .string pa, .slice none 0 0] (Nat.le_refl _))
      have HM0 := Lib.hid hmb
      clear i0 i1 hgb hmb bF2 HEA HEB HEC HED HBAD HLG HLL CM CV0 CVt HALL HF0
      go_wp2
      clear hrb hmm f0 fz
      go_loopg [15] (k + 2) (fun g sv wr => ∃ (Pr : List V4) (T : List Stp) (S : V4 → Bool), k + 2 ≤ Pr.length + g ∧ Hid (Bfs ms.length (hasF ms) (tgtF ms) ⟨p1, p2, p3, pa⟩ Pr (T.map Stp.vp) S) ∧ Hid (∀ v ∈ Pr, v ≠ ⟨q1, q2, q3, qa⟩) ∧ QAt wr wb.heap.size wz.heap.size sv T S (Pr.length + T.length) ∧ Ext W0 wr ∧ wb.heap.size < wr.heap.size)
      case atStart =>
        refine ⟨[], [⟨⟨p1, p2, p3, pa⟩, [], .slice none 0 0⟩], fun u => decide (u = ⟨p1, p2, p3, pa⟩), by simp, Bfs.init _, (fun _ h => by cases h), ⟨HQ0.out, (fun t ht => ?_), (HM0.out.ext ((Ext.refl wb).alloc _)).mono (by simp)⟩, hxb.alloc _, by simp⟩
        rw [List.mem_singleton] at ht
        subst ht
        exact ⟨LstAt.nil _, .inr rfl⟩
      case round =>
        obtain ⟨Pr, T, S, hgh, HB, HNT, hQ, hxr2, hlw⟩ := hrel
        obtain ⟨wo, rfl⟩ : ∃ wo : World, wo = wr := ⟨_, rfl⟩
        have hxwo := hx0.trans hxr2
        have hcnt := HB.out.count
        rw [List.length_map] at hcnt
        cases T with
        | nil =>
          have HN0 := Lib.hid (HNON.out HE.out (fun q hq he => HNT.out _ (HB.out.all hq) he))
          obtain ⟨_, g, off, cap, rfl, _⟩ := hQ.own
          clear hQ
          go_wp2
          go_ret2
          exact ⟨.slice none 0 0, by rw [HN0.out.1] <;> rfl, by rw [HN0.out.2]; exact LstAt.nil _, hxwo⟩
        | cons t T =>
          obtain ⟨⟨a1, a2, a3, aa⟩, p, u⟩ := t
          have HB1 := Lib.hid (HB.out.best (⟨a1, a2, a3, aa⟩, p) (by simp [Stp.vp]))
          have has : aa.size ≤ 2097152 := by
            rcases HB1.out.mem with h | ⟨i, hi, h⟩
            · rw [V4.mk.injEq] at h
              rw [h.2.2.2]; exact HV0.out
            · rw [tgtF_at hi] at h
              have := (HSM.out _ (List.getElem_mem hi)).tt
              rw [h] at this
              exact this
          have HAE := Lib.hid (show (⟨a1, a2, a3, aa⟩ : V4).err = 0 from by
            rcases HB1.out.mem with h | ⟨i, hi, h⟩
            · have h : (⟨a1, a2, a3, aa⟩ : V4) = _ := h
              rw [h]; exact HP.out.2.2.1
            · rw [tgtF_at hi] at h
              have h : _ = (⟨a1, a2, a3, aa⟩ : V4) := h
              rw [← h]
              exact (mvErr_parts (HP.out.2.1 _ (List.getElem_mem hi))).2.1)
          obtain ⟨hl1, hl2⟩ := hQ.lst _ (List.mem_cons_self)
          dsimp only at hl1 hl2
          obtain ⟨ua, uc, rfl, _⟩ := hl1.form
          obtain ⟨hql, g, off, cap, hsv, hgB, hgl, hnc, hcm, hcc, hcx⟩ := hQ.own
          have x0 := hcx 0 (.int .i64 a1) rfl; have x1 := hcx 1 (.int .i64 a2) rfl; have x2 := hcx 2 (.int .i64 a3) rfl; have x3 := hcx 3 (.string aa) rfl; have x4 := hcx 4 (.slice ua p.length uc) rfl
          rw [Nat.add_zero] at x0
          have HQA := Lib.hid hQ
          have HSV := Lib.hid hsv
          subst hsv
          have hll : (⟨⟨a1, a2, a3, aa⟩, p, .slice ua p.length uc⟩ :: T : List Stp).length = T.length + 1 := rfl
          rw [hll] at *
          have HO := Lib.hid (fun W (h : Ext w W) => CO.out W h ⟨a1, a2, a3, aa⟩ has)
          have HLU := Lib.hid hl1
          have HLB := Lib.hid hl2
          clear hQ hcx hcc hql hl1 hl2
          have bA := Blk.new wo 202 #[.int .i64 a1, .int .i64 a2, .int .i64 a3, .string aa, .slice ua p.length uc]
          have cA := bA.cell; have lA := bA.lt
          have bT2 := ((bT.ext hxr2).alloc (.cells #[.int .i64 a1, .int .i64 a2, .int .i64 a3, .string aa, .slice ua p.length uc] 202)).cell
          obtain ⟨z, hz⟩ : ∃ z, (⟨a1, a2, a3, aa⟩ : V4).ord ⟨q1, q2, q3, qa⟩ = z := ⟨_, rfl⟩
          rw [hz] at HO
          by_cases hz0 : z = 0
          · have HW1 := Lib.hid (HFND.out p HE.out (by have e := ord_eq (hz.trans hz0); rw [← e]; exact HB1.out))
            subst hz0
            clear hz
            go_wp2_with fail
            refine (HO.out _ (hxwo.alloc _)).mono ?_
            rintro e w2 ⟨rfl, hx2⟩
            have cA2 := (bA.ext hx2).cell
            have HLU2 := Lib.hid (HLU.out.ext ((Ext.alloc (Ext.refl wo) (.cells #[.int .i64 a1, .int .i64 a2, .int .i64 a3, .string aa, .slice ua p.length uc] 202)).trans hx2))
            clear cA
            go_wp2
            go_ret2
            exact ⟨.slice ua p.length uc, by rw [HW1.out.1] <;> rfl, by rw [HW1.out.2]; exact HLU2.out, (hxwo.alloc _).trans hx2⟩
          have hze : (z == 0) = false := by rw [beq_eq_false_iff_ne]; exact hz0
          have HZN := Lib.hid (show (⟨a1, a2, a3, aa⟩ : V4) ≠ ⟨q1, q2, q3, qa⟩ from fun e => hz0 (by rw [← hz, e]; exact pre_ord.self _))
          clear hz hz0
          go_wp2_with fail
          refine (HO.out _ (hxwo.alloc _)).mono ?_
          rintro e w2 ⟨rfl, hx2⟩
          have hxo2 : Ext wo w2 := (Ext.alloc (Ext.refl wo) (.cells #[.int .i64 a1, .int .i64 a2, .int .i64 a3, .string aa, .slice ua p.length uc] 202)).trans hx2
          have bA2 := bA.ext hx2
          have HQ2 := Lib.hid (HQA.out.ext hxo2)
          have hne : g ≠ wo.heap.size := by omega
          have hzs := hxo2.size
          clear x0 x1 x2 x3 x4 cA bT2 bA
          go_wp2
          go_loopg [71, 15] k (fun gg i sx wq => ∃ (j : Nat) (T2 : List Stp) (S2 : V4 → Bool) (sv : Value), sv = sx ∧ j ≤ k ∧ k - j ≤ gg ∧ i = .int .i64 j ∧ Hid (Scan ms.length (hasF ms) (tgtF ms) ⟨p1, p2, p3, pa⟩ ⟨a1, a2, a3, aa⟩ p Pr (T2.map Stp.vp) S2 j) ∧ QAt wq wb.heap.size wz.heap.size sv (⟨⟨a1, a2, a3, aa⟩, p, .slice ua p.length uc⟩ :: T2) S2 (Pr.length + (T2.length + 1)) ∧ Hid (sv.ownBlock ≠ some wo.heap.size) ∧ Blk wq wo.heap.size 202 #[.int .i64 a1, .int .i64 a2, .int .i64 a3, .string aa, .slice ua p.length uc] ∧ Ext W0 wq)
          case atStart => exact ⟨0, T, S, _, rfl, Nat.zero_le _, by omega, rfl, HB.out.scan, HQ2.out, (by simp [Value.ownBlock]; exact hne), bA2, hxr2.trans hxo2⟩
          case round =>
            obtain ⟨j, T2, S2, sv, rfl, hj, hgj, rfl, HSC, hQ3, HNB, bA3, hxq⟩ := hrel
            obtain ⟨wq, rfl⟩ : ∃ wq : World, wq = wr := ⟨_, rfl⟩
            have hxwq := hx0.trans hxq
            by_cases hlt2 : j < k
            · have hk1 : j < ms.length := by rw [HN.out]; exact hlt2
              obtain ⟨b, o, rfl, hX⟩ := (HR.out.ext hxwq) (fun e => by rw [e] at hk1; exact absurd hk1 (Nat.not_lt_zero _))
              obtain ⟨A1, c1, A2, c2, hrow⟩ := hX j hk1
              have x0 := hrow.r0; have x1 := hrow.r1; have x2 := hrow.r2; have x3 := hrow.r3; have x4 := hrow.r4; have x5 := hrow.r5
              have hin := hrow.has
              have hmp := mvErr_parts (HP.out.2.1 _ (List.getElem_mem hk1))
              obtain ⟨hb, hhb⟩ : ∃ hb, hasF ms j ⟨a1, a2, a3, aa⟩ = hb := ⟨_, rfl⟩
              have CHj := Lib.hid (fun W (h : Ext wq W) => (CH.out W (hxwq.trans h) j hk1 A1 c1 (hin.1.ext h) ⟨a1, a2, a3, aa⟩ has).mono (fun e w' (hh : _ ∧ _) => (show e = .returned (.tuple #[.bool hb, .int .i64 0]) ∧ Ext W w' from by
                rw [(hasE_c hmp.1 HAE.out).1, (hasE_c hmp.1 HAE.out).2, ← hasF_at hk1, hhb] at hh
                exact hh)))
              have HHB := Lib.hid hhb
              have HTG := Lib.hid (tgtF_at hk1)
              have hok := okv_of hmp.2.1 (HSM.out _ (List.getElem_mem hk1)).tt
              have HOK := Lib.hid hok
              clear hX hrow hin hmp hhb hok
              generalize ms[j] = m at *
              obtain ⟨fr, ⟨t1, t2, t3, ta⟩, rules⟩ := m
              dsimp only at x0 x1 x2 x3 x4 x5 HTG HOK CHj
              generalize fr.length = fl at *
              generalize rules.length = rl at *
              have bM := Blk.new wq 104 #[.slice A1 fl c1, .int .i64 t1, .int .i64 t2, .int .i64 t3, .string ta, .slice A2 rl c2]
              have cM := bM.cell; have lM := bM.lt
              have cA3 := (bA3.alloc (.cells #[.slice A1 fl c1, .int .i64 t1, .int .i64 t2, .int .i64 t3, .string ta, .slice A2 rl c2] 104)).cell; have lA3 := bA3.lt
              have HQ3 := Lib.hid hQ3
              clear hQ3
              go_wp2_with fail
              refine (CHj.out _ ((Ext.refl wq).alloc _)).mono ?_
              rintro e w3 ⟨rfl, hx3⟩
              have hxq3 : Ext wq w3 := ((Ext.refl wq).alloc _).trans hx3
              have bM3 := bM.ext hx3
              have bA4 := bA3.ext hxq3
              clear cM cA3 x0 x1 x2 x3 x4 x5
              have cM3 := bM3.cell; have cA4 := bA4.cell; have lM3 := bM3.lt; have lA4 := bA4.lt
              have SKIP := Lib.hid (fun (wx : World) (hx : Ext wq wx) (hs : hb = true → S2 ⟨t1, t2, t3, ta⟩ = true) => (show Hid (Scan ms.length (hasF ms) (tgtF ms) ⟨p1, p2, p3, pa⟩ ⟨a1, a2, a3, aa⟩ p Pr (T2.map Stp.vp) S2 (j + 1)) ∧ QAt wx wb.heap.size wz.heap.size sv (⟨⟨a1, a2, a3, aa⟩, p, .slice ua p.length uc⟩ :: T2) S2 (Pr.length + (T2.length + 1)) ∧ Hid (sv.ownBlock ≠ some wo.heap.size) ∧ Blk wx wo.heap.size 202 #[.int .i64 a1, .int .i64 a2, .int .i64 a3, .string aa, .slice ua p.length uc] ∧ Ext W0 wx from
                ⟨HSC.out.skip (fun h => by rw [HTG.out]; exact hs (by rw [← HHB.out]; exact h)), HQ3.out.ext hx, HNB, bA3.ext hx, hxq.trans hx⟩))
              cases hb with
              | false =>
                have SK := Lib.hid (SKIP.out w3 hxq3 (fun h => by cases h))
                go_wp2
                go_roundg (k - (j + 1))
                case rel => exact ⟨j + 1, T2, S2, sv, rfl, by omega, Nat.le_refl _, by go_num, SK.out⟩
                case measure => omega
              | true =>
                have hlook := ((HQ3.out.map.ext hxq3).look (t := 200) Tryz.underlying200 (bool_zero _) HOK.out).2
                rw [seenF_get] at hlook
                dsimp only [verV] at hlook
                cases hsn : S2 ⟨t1, t2, t3, ta⟩ with
                | true =>
                  rw [hsn] at hlook
                  have SK := Lib.hid (SKIP.out w3 hxq3 (fun _ => hsn))
                  clear hsn
                  go_wp2
                  go_roundg (k - (j + 1))
                  case rel => exact ⟨j + 1, T2, S2, sv, rfl, by omega, Nat.le_refl _, by go_num, SK.out⟩
                  case measure => omega
                | false =>
                  rw [hsn] at hlook
                  have HSA := Lib.hid (HSC.out.add (by rw [HN.out]; exact hlt2) HHB.out (by rw [HTG.out]; exact hsn))
                  rw [HTG.out] at HSA
                  obtain ⟨w4, hr4, hm4, hg4⟩ := (HQ3.out.map.ext hxq3).upd (t := 200) Tryz.underlying200 HOK.out (.bool true) (by have := HSC.out.count; rw [List.length_map, HN.out] at this; omega)
                  rw [seenF_set] at hm4
                  dsimp only [verV] at hr4
                  have hx4 : Ext W0 w4 := (hxq.trans hxq3).row hg4 hsz1
                  have HQ4 := Lib.hid ((HQ3.out.ext hxq3).turned hbl hg4 hm4)
                  have bM4 := bM3.turned hg4 (by simp; have := hxq.size; omega)
                  have bA5 := bA4.turned hg4 (by simp; omega)
                  have hw4 := hg4.size
                  have hqs := hxq3.size
                  clear hsn bM3 bA4 hm4 hg4
                  have l4A := bA5.lt; have l4M := bM4.lt
                  have m1 : w4.cell? ⟨wq.heap.size, 1, none⟩ = some (.int .i64 t1) := bM4.cell 1
                  have m2 : w4.cell? ⟨wq.heap.size, 2, none⟩ = some (.int .i64 t2) := bM4.cell 2
                  have m3 : w4.cell? ⟨wq.heap.size, 3, none⟩ = some (.int .i64 t3) := bM4.cell 3
                  have m4 : w4.cell? ⟨wq.heap.size, 4, none⟩ = some (.string ta) := bM4.cell 4
                  have m5 : w4.cell? ⟨wo.heap.size, 4, none⟩ = some (.slice ua p.length uc) := bA5.cell 4
                  obtain ⟨i0, hi0, hz0, hz1, hz2⟩ := info_parts info_int
                  have xO : Ext w4 w4.drew := (Ext.refl w4).drew
                  have HLU4 := Lib.hid (HQ4.out.lst _ (List.mem_cons_self))
                  have hpl : p.length ≤ k := by have := HB1.out.len; rw [HN.out] at this; exact this
                  have hT2l : T2.length ≤ k := by have := HSC.out.count; rw [List.length_map, HN.out] at this; omega
                  have hwbw : wb.heap.size ≤ w4.heap.size := by obtain ⟨gq, _, e2, e3⟩ := HQ4.out.own.block; omega
                  go_wp2
                  clear cM3 cA4 hr4 hlook
                  go_region_law ((first
                    | (go_simp; go_at_call 145; refine (Clone_any p _ _ (HLU4.out.1.ext (by repeat (first | with_reducible exact Ext.refl _ | with_reducible assumption | with_reducible apply Ext.drewN | with_reducible apply Ext.drew | with_reducible apply Ext.alloc | exact Ext.refl _ | assumption | apply Ext.drewN | apply Ext.drew | apply Ext.alloc))) (by omega)).mono ?_; rintro e wA ⟨vA, rfl, hownA, hxA⟩; (have hxA4 : Ext w4 wA := Ext.trans (by repeat (first | with_reducible exact Ext.refl _ | with_reducible assumption | with_reducible apply Ext.drewN | with_reducible apply Ext.drew | with_reducible apply Ext.alloc | exact Ext.refl _ | assumption | apply Ext.drewN | apply Ext.drew | apply Ext.alloc)) hxA); have mA1 := hxA4.cell m1; have mA2 := hxA4.cell m2; have mA3 := hxA4.cell m3; have mA4 := hxA4.cell m4; have mA5 := hxA4.cell m5; (have zA1 := Nat.lt_of_lt_of_le l4A hxA4.size); (have zA2 := Nat.lt_of_lt_of_le l4M hxA4.size); (have hownB := tab_base (B' := w4.heap.size) hownA (by first | exact Nat.le_refl _ | exact (show w4.heap.size ≤ (w4.alloc (.cells #[.int .i64 (j : Int)] 3)).heap.size from by rw [World.size_alloc]; exact Nat.le_succ _))))
                    | (refine step_append_lies _ (by rfl) _ _ _ (by rfl) w4.heap.size 3 i0 _ 1 8 Tryz.underlying98 hi0 hz0 hz1 hz2 rfl (by omega) vA p.length (intsN p) (by rfl) (hownB.alloc _) ⟨wA.heap.size, 0, none⟩ 1 1 [.int .i64 (j : Int)] (by rfl) (by rfl) (World.news_of_block (cs := #[.int .i64 (j : Int)]) (t := 3) (fr := (0, 0)) (heap_alloc_new wA _)) (by simp [Value.oneCell']) (by omega) (by simp only [maxLen]; omega) (by omega) (by rw [World.size_alloc]; have := hxA4.size; omega) (wA.heap.size + 1) (by simp) ?_; intro gN cN w6 hown6 hgrow hat hlt6; (have hx6 : Ext w4 w6 := Ext.grown (hxA4.alloc _) (hownB.alloc _) (Nat.le_refl _) hgrow); have mB1 := hx6.cell m1; have mB2 := hx6.cell m2; have mB3 := hx6.cell m3; have mB4 := hx6.cell m4; have mB5 := hx6.cell m5; (have zB1 := Nat.lt_of_lt_of_le l4A hx6.size); (have zB2 := Nat.lt_of_lt_of_le l4M hx6.size))
                    | (refine step_append_lies _ (by rfl) _ _ _ (by rfl) w4.heap.size 3 i0 _ 1 8 Tryz.underlying98 hi0 hz0 hz1 hz2 rfl (by omega) vA p.length (intsN p) (by rfl) hownB ⟨w4.heap.size, 0, none⟩ 1 1 [.int .i64 (j : Int)] (by rfl) (by rfl) (World.news_of_block (cs := #[.int .i64 (j : Int)]) (t := 3) (fr := (0, 0)) ((Blk.new w4 3 #[.int .i64 (j : Int)]).ext (Ext.trans ((Ext.refl _).drew) hxA))) (by simp [Value.oneCell']) (by omega) (by simp only [maxLen]; omega) (by omega) (by have := hxA4.size; omega) wA.heap.size (by rfl) ?_; intro gN cN w6 hown6 hgrow hat hlt6; (have hx6 : Ext w4 w6 := Ext.grown hxA4 hownB (Nat.le_refl _) hgrow); have mB1 := hx6.cell m1; have mB2 := hx6.cell m2; have mB3 := hx6.cell m3; have mB4 := hx6.cell m4; have mB5 := hx6.cell m5; (have zB1 := Nat.lt_of_lt_of_le l4A hx6.size); (have zB2 := Nat.lt_of_lt_of_le l4M hx6.size))
                    | (refine step_append_q (by rfl) _ _ _ (by rfl) 202 (.agg #[.int .i64 0, .int .i64 0, .int .i64 0, .string ⟨#[]⟩, .slice none 0 0]) 5 64 Tryz.underlying203 info_stop rfl (by omega) (by omega) wb.heap.size sv (T2.length + 1) (rowsQ (⟨⟨a1, a2, a3, aa⟩, p, .slice ua p.length uc⟩ :: T2)) (by rfl) (HQ4.out.own.ext (hx6.alloc _)) ⟨w6.heap.size, 0, none⟩ 1 [.int .i64 t1, .int .i64 t2, .int .i64 t3, .string ta, .slice (some ⟨gN, 0, none⟩) (p.length + 1) cN] (by rfl) (by rfl) (World.news_of_block (cs := #[.int .i64 t1, .int .i64 t2, .int .i64 t3, .string ta, .slice (some ⟨gN, 0, none⟩) (p.length + 1) cN]) (t := 202) (fr := (0, 0)) (heap_alloc_new w6 _)) (by simp [Value.oneCell']) (by omega) (by rw [World.size_alloc]; have := hx6.size; omega) ?_; intro v8 w8 hown8 hgrow8 hor8)))
                  all_goals
                    have hbase := (hown6.lt gN rfl).1
                    have hn6 : p ++ [j] ≠ [] := by simp
                    have hL6 : LstAt w6 (p ++ [j]) (.slice (some ⟨gN, 0, none⟩) (p ++ [j]).length cN) := LstAt.own hn6 (by
                      have e1 : (p ++ [j]).length = p.length + 1 := by simp
                      have e2 : intsN (p ++ [j]) = intsN p ++ [.int .i64 (j : Int)] := by simp [intsN]
                      rw [e1, e2]
                      exact hown6)
                    have hlp : (p ++ [j]).length = p.length + 1 := by simp
                    rw [hlp] at hL6
                    have hx7 : Ext w4 (w6.alloc (.cells #[.int .i64 t1, .int .i64 t2, .int .i64 t3, .string ta, .slice (some ⟨gN, 0, none⟩) (p.length + 1) cN] 202)) := hx6.alloc _
                    obtain ⟨gq, e1, e2, e3⟩ := HQ4.out.own.block
                    have HQ8 := Lib.hid (QAt.snoc (t := ⟨⟨t1, t2, t3, ta⟩, p ++ [j], .slice (some ⟨gN, 0, none⟩) (p.length + 1) cN⟩) (HQ4.out.ext hx7) hbl (hL6.ext ((Ext.refl w6).alloc _)) (.inl (by rw [e1]; show some gN ≠ some gq; simp; omega)) hown8 hgrow8 hor8)
                    have bA8 := (bA5.ext hx7).turned (row := sv.ownBlock) hgrow8 (fun e => HNB.out e.symm)
                    have hx8 : Ext W0 w8 := (hx4.trans hx7).row (by rw [← e1]; exact hgrow8) (by omega)
                    have HNB8 := Lib.hid (show v8.ownBlock ≠ some wo.heap.size from by
                      rcases hor8 with ho | ⟨g9, ho, hge⟩
                      · rw [ho]; exact HNB.out
                      · rw [ho]
                        have h7 := hx7.size
                        simp only [ne_eq, Option.some.injEq]
                        omega)
                    clear hown8 hgrow8 hor8 hown6 hgrow hat mA1 mA2 mA3 mA4 mA5 mB1 mB2 mB3 mB4 mB5 m1 m2 m3 m4 m5 hL6
                    go_wp2
                    go_roundg (k - (j + 1))
                    case rel => exact ⟨j + 1, T2 ++ [⟨⟨t1, t2, t3, ta⟩, p ++ [j], .slice (some ⟨gN, 0, none⟩) (p.length + 1) cN⟩], _, v8, rfl, by omega, Nat.le_refl _, by go_num, (by rw [List.map_append]; exact HSA.out), (by rw [List.length_append, List.length_singleton]; exact HQ8.out), HNB8, bA8, hx8⟩
                    case measure => omega
            · obtain rfl : j = k := by omega
              have HPP := Lib.hid (show Bfs ms.length (hasF ms) (tgtF ms) ⟨p1, p2, p3, pa⟩ (Pr ++ [⟨a1, a2, a3, aa⟩]) (T2.map Stp.vp) S2 from by
                have := HSC.out
                rw [← HN.out] at this
                exact this.pop)
              obtain ⟨g2, off2, cap2, rfl, hc1, hc2, hq1, hq2⟩ := hQ3.pop
              have HQ1 := Lib.hid hq1
              have HQ2 := Lib.hid hq2
              have HNT2 := Lib.hid (show ∀ v ∈ Pr ++ [⟨a1, a2, a3, aa⟩], v ≠ ⟨q1, q2, q3, qa⟩ from fun v hv => by
                rcases List.mem_append.1 hv with hv | hv
                · exact HNT.out v hv
                · rw [List.mem_singleton] at hv
                  rw [hv]; exact HZN.out)
              have hzq := hxq.size
              have hlA := bA3.lt
              have hcnt2 : Pr.length ≤ j := by have := HSC.out.count; rw [List.length_map, HN.out] at this; omega
              clear hQ3 hq1 hq2
              by_cases hc : cap2 = 1
              · have hT0 : T2.length = 0 := by omega
                have HT := Lib.hid (List.eq_nil_of_length_eq_zero hT0)
                have HQ3 := Lib.hid (HQ2.out hc)
                subst hc
                rw [hT0]
                go_wp2
                go_roundg (j + 1 - Pr.length)
                case rel => exact ⟨Pr ++ [⟨a1, a2, a3, aa⟩], T2, S2, by rw [List.length_append, List.length_singleton]; omega, HPP, HNT2, by rw [List.length_append, List.length_singleton, show Pr.length + 1 + T2.length = Pr.length + (T2.length + 1) from by omega]; exact HQ3.out, hxq, by omega⟩
                case measure => omega
              · go_wp2
                go_roundg (j + 1 - Pr.length)
                case rel => exact ⟨Pr ++ [⟨a1, a2, a3, aa⟩], T2, S2, by rw [List.length_append, List.length_singleton]; omega, HPP, HNT2, by rw [List.length_append, List.length_singleton, show Pr.length + 1 + T2.length = Pr.length + (T2.length + 1) from by omega]; exact HQ1.out, hxq, by omega⟩
                case measure => omega
end Go.Proofs.YtghhjlcbcojcnaaGreatDoor
