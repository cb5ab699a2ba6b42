/- The law outtop.TopThereAndBack: its walk. (Printed by gen/lawtb.py.) -/
import Derived.Test.YtghhjlcbcojcnaaGreatDoorMt38
import Derived.Test.YtghhjlcbcojcnaaGreatDoorMtB01
import Derived.Test.YtghhjlcbcojcnaaGreatDoorMt33
import Derived.Test.YtghhjlcbcojcnaaGreatDoorMt02

namespace Go.Proofs.YtghhjlcbcojcnaaGreatDoor
open Go.RowKit

theorem landed_any (w : World) : Calls Tryz.prog 61 #[] w fun e w' => e = .returned (.bool true) ∧ w = w' := by
  have hp := fun W => IsName_any ⟨#[97]⟩ W (by decide)
  rw [show nameL (bs (⟨#[97]⟩ : ByteArray)) = true from by decide] at hp
  go_enter Tryz.func61, Tryz.ntmps61
  go_wp2_with fail
  refine (hp _).mono ?_
  rintro e w' ⟨rfl, rfl⟩
  go_wp2
  go_ret
  exact ⟨rfl, rfl⟩
theorem SeOwn.rd4 {B : Nat} {l : List Se} {A : Option Addr} {n c g : Nat} {w : World} (h : SeOwn B l (.slice A n c) w) (hg : g < B) (u0 u1 u2 u3 : Value) : RdE ((((w.setCell ⟨g, 0, none⟩ u0).setCell ⟨g, 1, none⟩ u1).setCell ⟨g, 2, none⟩ u2).setCell ⟨g, 3, none⟩ u3) A l := by
  have h4 : SeOwn B l (.slice A n c) ((((w.setCell ⟨g, 0, none⟩ u0).setCell ⟨g, 1, none⟩ u1).setCell ⟨g, 2, none⟩ u2).setCell ⟨g, 3, none⟩ u3) :=
    ownsRow_setCell_below (ownsRow_setCell_below (ownsRow_setCell_below (ownsRow_setCell_below h (a := ⟨g, 0, none⟩) hg u0) (a := ⟨g, 1, none⟩) hg u1) (a := ⟨g, 2, none⟩) hg u2) (a := ⟨g, 3, none⟩) hg u3
  obtain ⟨A', c', e, _, hr⟩ := h4.rd
  injection e with e
  rw [e]
  exact hr
theorem clean_parts {es : List Se} {rs : List Ru} (h : cleanV es rs = true) : cleanE es rs = 0 ∧ runR es rs = 0 ∧ invE rs = 0 ∧ runR (runS es rs) (invS rs) = 0 ∧ runS (runS es rs) (invS rs) = es := by
  have h0 : cleanE es rs = 0 := by
    by_cases h0 : cleanE es rs = 0
    · exact h0
    · rw [cleanV, if_neg h0] at h; cases h
  have h1 : runR es rs = 0 := by
    by_cases h1 : runR es rs = 0
    · exact h1
    · rw [cleanE, if_neg h1] at h0; exact absurd h0 h1
  have h2 : invE rs = 0 := by rw [cleanE, if_pos h1] at h0; exact h0
  rw [cleanV, if_pos h0] at h
  obtain ⟨a, b⟩ := clean_back h1 h2 h
  exact ⟨h0, h1, h2, a, b⟩
theorem back_small {S : List Se} {I : List Ru} (h : runR S I = 0) : (∀ r ∈ I, ruErr r = 0) ∧ I.length ≤ 100 := by
  obtain ⟨_, _, z3, z4⟩ := runErr_zero (runR_parts h).1
  exact ⟨z4, z3⟩
theorem map_back (I : List Ru) : (I.map Ru.b).map RB.l = I := by
  rw [List.map_map]
  have : (RB.l ∘ Ru.b) = id := funext fun r => Ru.b_l r
  rw [this, List.map_id]
theorem smallU_of {I : List Ru} (h : ∀ r ∈ I, ruErr r = 0) : SmallU (I.map Ru.b) := fun q hq => by
  obtain ⟨r, hr, rfl⟩ := List.mem_map.1 hq
  obtain ⟨a, b, c, d⟩ := right_size (r := r.b) (by rw [Ru.b_l]; exact h r hr)
  exact ⟨by omega, by omega, by omega, by omega⟩
theorem RdM.part {w : World} {b o : Nat} {ms : List Mv} {k : Nat} (hk : k < ms.length) (h : ∀ k (h : k < ms.length), ∃ A1 c1 A2 c2, MvRow w b (o + k * 6) ms[k] A1 c1 A2 c2) : RdM w (some ⟨b, o + k * 6, none⟩) [ms[k]] := fun _ => by
  obtain ⟨A1, c1, A2, c2, hr⟩ := h k hk
  refine ⟨b, o + k * 6, rfl, fun i hi => ?_⟩
  have : i = 0 := by simpa using hi
  subst this
  exact ⟨A1, c1, A2, c2, by simpa using hr⟩

set_option maxHeartbeats 32000000 in
set_option maxRecDepth 100000 in
theorem TopThereAndBack_any (es : List Se) (rs : List RB) (ms : List Mv) (A A1 A2 : Option Addr) (n p m c c1 c2 : Nat) (v0 vt : V4) (w : World) (hg : GoodN w) (hn : es.length = n) (hp : rs.length = p) (hm : ms.length = m) (hcap : m ≤ c2) (hr : RdE w A es) (hr1 : RdU w A1 rs) (hr2 : RdM w A2 ms) (hs : SmallE es) (hs1 : SmallU rs) (hs2 : ∀ x ∈ ms, SmallM x) (h0 : v0.a.size ≤ 2097152) (ht : vt.a.size ≤ 2097152) (hl : n ≤ 2097152) (hl1 : p ≤ 2097152) (hl2 : m ≤ 2097152) :
    Calls Tryz.prog 9 #[.slice A n c, .slice A1 p c1, .slice A2 m c2, verV v0, verV vt] w fun e w' => e = .returned (.bool true) ∧ Ext w w' := by
  have CLA := Lib.hid (fun W => landed_any W)
  have CC := Lib.hid (fun W (h : Ext w W) => Clean_any A A1 n p c c1 es rs W (hg.ext h) hn hp (hr.ext h) (hr1.ext h) hs hs1 hl hl1)
  have CR1 := Lib.hid (fun W (h : Ext w W) => Run_any A A1 n p c c1 es rs W (hg.ext h) hn hp (hr.ext h) (hr1.ext h) hs hs1 hl hl1)
  have CI := Lib.hid (fun W (h : Ext w W) => InverseAll_any A1 p c1 rs W (hg.toGood.ext h) hp (hr1.ext h) hs1 hl1)
  have CR2 := Lib.hid (fun W (h : Ext w W) (A6 : Option Addr) (c6 : Nat) (A7 : Option Addr) (c7 : Nat) (hq : runR (runS es (rs.map RB.l)) (invS (rs.map RB.l)) = 0) (ha : RdE W A6 (runS es (rs.map RB.l))) (hb : RdU W A7 ((invS (rs.map RB.l)).map Ru.b)) => Run_any A6 A7 (runS es (rs.map RB.l)).length (invS (rs.map RB.l)).length c6 c7 (runS es (rs.map RB.l)) ((invS (rs.map RB.l)).map Ru.b) W (hg.ext h) rfl (by simp) ha hb (run_out es (rs.map RB.l)).2.1 (smallU_of (back_small hq).1) (by have := (run_out es (rs.map RB.l)).1; omega) (by have := (back_small hq).2; omega))
  rw [map_back] at CR2
  have CQ := Lib.hid (fun W (h : Ext w W) (A6 : Option Addr) (c6 : Nat) (ha : RdE W A6 es) => EqualSe_any A6 A c6 c n es W hn ha (hr.ext h) hl)
  have HCP := Lib.hid (clean_parts (es := es) (rs := rs.map RB.l))
  have C1 := Lib.hid (fun W (h : Ext w W) => Way_any ms A2 m c2 v0 vt W (hg.ext h) hm (hr2.ext h) hs2 h0 ht hl2)
  have C3 := Lib.hid (fun W (h : Ext w W) => Carry_any es ms A A2 n m c c2 v0 vt W (hg.ext h) hn hm (hr.ext h) (hr2.ext h) hs hs2 h0 ht hl hl2)
  have CO := Lib.hid (fun (hE : carE ms es v0 vt = 0) W (h : Ext w W) k (hk : k < (wayL ms v0 vt).length) (hi : (wayL ms v0 vt)[k] < ms.length) (A6 : Option Addr) (c6 : Nat) (A7 : Option Addr) (c7 : Nat) (ha : RdE W A6 (carT ms es (wayL ms v0 vt) k)) (hb : RdM W A7 [ms[(wayL ms v0 vt)[k]]]) (hsm : SmallE (carT ms es (wayL ms v0 vt) k)) (hlen : (carT ms es (wayL ms v0 vt) k).length ≤ 2097152) => by
    have := Carry_any (carT ms es (wayL ms v0 vt) k) [ms[(wayL ms v0 vt)[k]]] A6 A7 (carT ms es (wayL ms v0 vt) k).length 1 c6 c7 (atV ms v0 (wayL ms v0 vt) k) (ms[(wayL ms v0 vt)[k]]).tt W (hg.ext h) rfl rfl ha hb hsm (by intro x hx; rw [List.mem_singleton] at hx; subst hx; exact hs2 _ (List.getElem_mem hi)) (atV_right (carE_all hE).1 hs2 h0 (Nat.le_of_lt hk)).2 (hs2 _ (List.getElem_mem hi)).tt hlen (by omega)
    rw [(car_one hE hs2 h0 hk hi).1, (car_one hE hs2 h0 hk hi).2] at this
    exact this)
  have HSM := Lib.hid (show carE ms es v0 vt = 0 → ∀ k, k ≤ (wayL ms v0 vt).length → SmallE (carT ms es (wayL ms v0 vt) k) ∧ (carT ms es (wayL ms v0 vt) k).length ≤ 2000 from fun hE k hk => by
    rw [carT_eq hE]
    obtain ⟨q1, q2, _⟩ := carK_out ms es (wayL ms v0 vt) k hk (way_lt (ms := ms) (v0 := v0) (vt := vt))
    exact ⟨q2, q1⟩)
  have HT0 := Lib.hid (show carT ms es (wayL ms v0 vt) 0 = es from rfl)
  have HTN := Lib.hid (show carE ms es v0 vt = 0 → carT ms es (wayL ms v0 vt) (wayL ms v0 vt).length = carS ms es v0 vt from fun hE => by rw [carT_eq hE, carS_ok hE])
  have HV0 := Lib.hid (show atV ms v0 (wayL ms v0 vt) 0 = v0 from rfl)
  have HVS := Lib.hid (fun k (hk : k < (wayL ms v0 vt).length) (hi : (wayL ms v0 vt)[k] < ms.length) => (atV_succ (ms := ms) (v0 := v0) hk).trans (tgtF_at hi))
  have HVN := Lib.hid (show carE ms es v0 vt = 0 → atV ms v0 (wayL ms v0 vt) (wayL ms v0 vt).length = vt from fun hE => atV_all (carE_all hE).1)
  have CMP := Lib.hid (fun (hE : carE ms es v0 vt = 0) W (h : Ext w W) => by
    have hz := V4.cmp_self vt (wayE_parts (wayR_ok (carE_all hE).1)).2.2.2
    have := Compare_any vt.a1 vt.a2 vt.a3 vt.a1 vt.a2 vt.a3 vt.a vt.a W (hg.toGood.ext h) ht ht
    rw [hz.1, hz.2] at this
    exact this)
  have HPL := Lib.hid (way_lt (ms := ms) (v0 := v0) (vt := vt))
  have HPN := Lib.hid (show wayR ms v0 vt = 0 → (wayL ms v0 vt).length ≤ 1000000 from fun h => by
    have h1 := (wayE_parts (wayR_ok h)).1
    have h2 := way_len (ms := ms) (v0 := v0) (vt := vt)
    omega)
  have HR := Lib.hid hr2
  have HM := Lib.hid hm
  have HRS := Lib.hid hr
  have HN := Lib.hid hn
  clear hg hn hm hp hr hr1 hr2 hs hs1 hs2 h0 ht
  generalize cleanV es (rs.map RB.l) = CV at *
  generalize cleanE es (rs.map RB.l) = CE at *
  generalize runR (runS es (rs.map RB.l)) (invS (rs.map RB.l)) = R2 at *
  generalize runS (runS es (rs.map RB.l)) (invS (rs.map RB.l)) = S2 at *
  generalize runR es (rs.map RB.l) = R1 at *
  generalize runS es (rs.map RB.l) = S1 at *
  generalize invE (rs.map RB.l) = IE at *
  generalize invS (rs.map RB.l) = I at *
  generalize carE ms es v0 vt = E at *
  generalize carS ms es v0 vt = S' at *
  generalize wayR ms v0 vt = R at *
  generalize carT ms es (wayL ms v0 vt) = K at *
  generalize atV ms v0 (wayL ms v0 vt) = V at *
  generalize wayL ms v0 vt = P at *
  obtain ⟨p1, p2, p3, pa⟩ := v0
  obtain ⟨q1, q2, q3, qa⟩ := vt
  dsimp only [verV] at *
  have bF := (Blk.new w 35 #[.int .i64 p1, .int .i64 p2, .int .i64 p3, .string pa]).alloc (.cells #[.int .i64 q1, .int .i64 q2, .int .i64 q3, .string qa] 35)
  have bT := Blk.new (w.alloc (.cells #[.int .i64 p1, .int .i64 p2, .int .i64 p3, .string pa] 35)) 35 #[.int .i64 q1, .int .i64 q2, .int .i64 q3, .string qa]
  rw [World.size_alloc] at bT
  have hx0 : Ext w ((w.alloc (.cells #[.int .i64 p1, .int .i64 p2, .int .i64 p3, .string pa] 35)).alloc (.cells #[.int .i64 q1, .int .i64 q2, .int .i64 q3, .string qa] 35)) := ((Ext.refl w).alloc _).alloc _
  generalize hW : (w.alloc (.cells #[.int .i64 p1, .int .i64 p2, .int .i64 p3, .string pa] 35)).alloc (.cells #[.int .i64 q1, .int .i64 q2, .int .i64 q3, .string qa] 35) = W0 at *
  have HW := Lib.hid hW
  clear hW
  cases CV with
  | true =>
    obtain ⟨rfl, rfl, rfl, rfl, rfl⟩ := HCP.out rfl
    go_enter Tryz.func9, Tryz.ntmps9
    go_wp2_with fail
    rw [HW.out]
    refine (CLA.out _).mono ?_
    rintro e w' ⟨rfl, rfl⟩
    go_wp2_with fail
    refine (CC.out _ hx0).mono ?_
    rintro e w1 ⟨rfl, hx1⟩
    have hxa := hx0.trans hx1
    go_wp2_with fail
    refine (CR1.out _ hxa).mono ?_
    rintro e w2 ⟨v2, rfl, hown2, hx2⟩
    have hxb := hxa.trans hx2
    go_wp2_with fail
    refine (CI.out _ hxb).mono ?_
    rintro e w3 ⟨A3, c3, rfl, hr3, hx3⟩
    have hxc := hxb.trans hx3
    have hown3 := hown2.ext hx3
    obtain ⟨A6, c6, rfl, hcap6, hr6⟩ := hown3.rd
    have CR3 := Lib.hid (CR2.out _ hxc A6 c6 A3 c3 (by trivial) hr6 hr3)
    clear hown2 hown3 hcap6 hr6 hr3
    generalize S1.length = s1l at *
    generalize I.length = il at *
    go_wp2_with fail
    refine CR3.out.mono ?_
    rintro e w4 ⟨v4, rfl, hown4, hx4⟩
    have hxd := hxc.trans hx4
    obtain ⟨A8, c8, rfl, hcap8, hr8⟩ := hown4.rd
    have CQ1 := Lib.hid (CQ.out _ hxd A8 c8 hr8)
    clear hown4 hcap8 hr8
    rw [HN.out]
    go_wp2_with fail
    refine CQ1.out.mono ?_
    rintro e w5 ⟨rfl, hx5⟩
    have hxq := hxd.trans hx5
    have hx05 : Ext W0 w5 := (((hx1.trans hx2).trans hx3).trans hx4).trans hx5
    have bF5 := bF.ext hx05
    have bT5 := bT.ext hx05
    have f0 := bF5.cell; have f1 := bT5.cell
    go_wp2_with fail
    refine (C1.out _ hxq).mono ?_
    rintro e w6 ⟨u, rfl, hu, hx6⟩
    have hx06 := hx05.trans hx6
    have hxr := hxq.trans hx6
    obtain ⟨A3, c3, rfl, hcu⟩ := hu.form
    clear hu f0 f1
    by_cases hR : R = 0
    rotate_left
    · have hne : (R != 0) = true := by rw [bne_iff_ne]; exact hR
      clear hR hcu
      go_wp2
      go_ret
      exact ⟨rfl, hxr⟩
    have HP1 := Lib.hid (HPN.out hR)
    subst hR
    have bF6 := bF5.ext hx6
    have bT6 := bT5.ext hx6
    have f0 := bF6.cell; have f1 := bT6.cell
    obtain ⟨N, hN⟩ : ∃ N, P.length = N := ⟨_, rfl⟩
    rw [hN]
    rw [hN] at HP1 HTN HVN HSM
    have HNN := Lib.hid hN
    have HCU := Lib.hid hcu
    clear hN hcu
    go_wp2_with fail
    refine (C3.out _ hxr).mono ?_
    rintro e w7 ⟨v7, rfl, hown7, hx7⟩
    have hx07 := hx06.trans hx7
    have hxs := hxr.trans hx7
    by_cases hE : E = 0
    rotate_left
    · have hne : (E != 0) = true := by rw [bne_iff_ne]; exact hE
      clear hE hown7
      go_wp2
      go_ret
      exact ⟨rfl, hxs⟩
    have CO1 := Lib.hid (CO.out hE)
    have HS1 := Lib.hid (HSM.out hE)
    have HT1 := Lib.hid (HTN.out hE)
    have HV1 := Lib.hid (HVN.out hE)
    have CM1 := Lib.hid (CMP.out hE)
    clear CO HSM HTN HVN CMP C1 C3
    subst hE
    have bF7 := bF6.ext hx7
    have bT7 := bT6.ext hx7
    have f2 := bF7.cell; have l2 := bF7.lt; have g2 := bF7.free
    clear f0 f1
    obtain ⟨A9, c9, rfl, hcap9, hr9⟩ := hown7.rd
    have HR9 := Lib.hid hr9
    clear hown7 hcap9 hr9
    obtain ⟨s9, hs9⟩ : ∃ s9, S'.length = s9 := ⟨_, rfl⟩
    rw [hs9]
    have HS9 := Lib.hid hs9
    clear hs9
    have hs7 := hx07.size
    have hgv : w.heap.size + 1 < w7.heap.size := bT7.lt
    have HLK := Lib.hid (show (K 0).length = n from by rw [HT0.out]; exact HN.out)
    have HRK := Lib.hid (show RdE w7 A (K 0) from by rw [HT0.out]; exact HRS.out.ext hxs)
    go_wp2
    go_region
    all_goals
      have bV : Blk (w7.alloc (.cells #[.int .i64 p1, .int .i64 p2, .int .i64 p3, .string pa] 35)).drew w7.heap.size 35 #[.int .i64 p1, .int .i64 p2, .int .i64 p3, .string pa] := Blk.new w7 _ _
      have hxv : Ext w7 (w7.alloc (.cells #[.int .i64 p1, .int .i64 p2, .int .i64 p3, .string pa] 35)).drew := ((Ext.refl w7).alloc _).drew
      generalize (w7.alloc (.cells #[.int .i64 p1, .int .i64 p2, .int .i64 p3, .string pa] 35)).drew = w8 at *
      go_wp2
      go_loopw [93, 21, 19] (fun i s e wr => ∃ (k m6 c6 : Nat) (A6 : Option Addr) (ee : Int), k ≤ N ∧ i = .int .i64 k ∧ s = .slice A6 m6 c6 ∧ e = .int .i64 ee ∧ (K k).length = m6 ∧ RdE wr A6 (K k) ∧ Blk wr w7.heap.size 35 #[.int .i64 (V k).a1, .int .i64 (V k).a2, .int .i64 (V k).a3, .string (V k).a] ∧ Ext w7 wr) (fun i _ _ _ => N - (intOf i).toNat)
      case atStart => exact ⟨0, n, c, A, 0, Nat.zero_le _, rfl, rfl, rfl, HLK.out, HRK.out.ext hxv, by rw [HV0.out]; exact bV, hxv⟩
      case round =>
        clear bV hxv
        obtain ⟨k, m6, c6, A6, ee, hk, rfl, rfl, rfl, hlk, hrk, bV, hxr⟩ := hrel
        obtain ⟨wo, rfl⟩ : ∃ wo : World, wo = wr := ⟨_, rfl⟩
        have hxwr := hxs.trans hxr
        have hNb : N ≤ 1000000 := HP1.out
        have v0 := bV.cell; have vf := bV.free; have vl := bV.lt
        by_cases hlt : k < N
        · have hk1 : k < P.length := by rw [HNN.out]; exact hlt
          have HPL2 := HPL.out _ (List.getElem_mem hk1)
          obtain ⟨g, rfl, hcell⟩ := HCU.out (fun e => by rw [e] at hk1; exact absurd hk1 (Nat.not_lt_zero _))
          have y0 := (hx7.trans hxr).cell (hcell k hk1)
          have HVK := Lib.hid (HVS.out k hk1 HPL2)
          obtain ⟨b, o, rfl, hX⟩ := (HR.out.ext hxwr) (fun e => by rw [e] at HPL2; exact absurd HPL2 (Nat.not_lt_zero _))
          obtain ⟨A4, c4, A5, c5, hrow⟩ := hX _ HPL2
          have x1 := hrow.r1; have x2 := hrow.r2; have x3 := hrow.r3; have x4 := hrow.r4
          obtain ⟨hs1, hs2⟩ := HS1.out k (Nat.le_of_lt hlt)
          have CC1 := Lib.hid (fun W (h : Ext wo W) => CO1.out W (hxwr.trans h) k hk1 HPL2 A6 c6 (some ⟨b, o + P[k] * 6, none⟩) (c2 - P[k]) (hrk.ext h) ((RdM.part HPL2 hX).ext h) hs1 (by omega))
          rw [hlk] at CC1
          have hpm : P[k] < m := by rw [← HM.out]; exact HPL2
          have HKK := Lib.hid (show k + 1 ≤ N from hlt)
          generalize hpk : P[k] = pk at *
          generalize hmt : ms[pk].tt = tt at *
          obtain ⟨t1, t2, t3, ta⟩ := tt
          generalize hvk : V k = vk at *
          obtain ⟨u1, u2, u3, ua⟩ := vk
          dsimp only at x1 x2 x3 x4 v0 CC1
          clear hX hrow hcell hs1 hs2 hrk hlk hvk hmt hpk
          have jw : IntKind.i64.wrap ((pk : Int) + 1) = (pk : Int) + 1 := IntWalk.i64_in _ (by omega)
          have j0 : (0 : Int) ≤ (pk : Int) := by omega
          have j1 : (0 : Int) ≤ (pk : Int) + 1 := by omega
          have j2 : (pk : Int) + 1 ≤ (c2 : Int) := by omega
          have j4 : ¬ c2 = pk := by omega
          have j3 : (pk : Int) ≤ (pk : Int) + 1 := by omega
          go_wp2_with fail
          go_region_with (go_at_call 67; with_reducible refine (CC1.out _ (by first | with_reducible exact Ext.refl _ | with_reducible exact (Ext.refl _).drew)).mono ?_; rintro e w9 ⟨v9, rfl, hown9, hx9⟩)
          all_goals
            have hxo9 : Ext wo w9 := (Ext.refl wo).drew.trans hx9
            have hx79 := hxr.trans hxo9
            have bV9 := bV.ext hxo9
            have z1 := hxo9.cell x1; have z2 := hxo9.cell x2; have z3 := hxo9.cell x3; have z4 := hxo9.cell x4
            obtain ⟨A10, c10, rfl, hcap10, hr10⟩ := hown9.rd
            have HRD4 := Lib.hid (fun u0 u1 u2 u3 => SeOwn.rd4 hown9 (g := w7.heap.size) vl u0 u1 u2 u3)
            have HX4 := Lib.hid (fun a b c d => (((hx79.setCell (p := ⟨w7.heap.size, 0, none⟩) (Nat.le_refl _) a).setCell (p := ⟨w7.heap.size, 1, none⟩) (Nat.le_refl _) b).setCell (p := ⟨w7.heap.size, 2, none⟩) (Nat.le_refl _) c).setCell (p := ⟨w7.heap.size, 3, none⟩) (Nat.le_refl _) d)
            clear hown9 hcap10 hr10 v0 vf vl x1 x2 x3 x4 y0 hxr hxo9 hx79
            have v0 := bV9.cell; have vf := bV9.free; have vl := bV9.lt
            have hb9 := lt_of_cell z1
            go_wp2
            go_roundw
            case rel => exact ⟨k + 1, _, c10, A10, 0, HKK.out, by go_num, rfl, rfl, rfl, HRD4.out _ _ _ _, by rw [HVK.out]; exact (((bV9.set 0 _).set 1 _).set 2 _).set 3 _, HX4.out _ _ _ _⟩
            case measure => simp [intOf]; omega
        · obtain rfl : k = N := by omega
          have bT8 := bT7.ext hxr
          have hsN := (HS1.out k (Nat.le_refl _)).2
          rw [HV1.out] at bV
          rw [HT1.out] at hlk hrk hsN
          have HEQ := Lib.hid (fun W (h : Ext wo W) => EqualSe_any A6 A9 c6 c9 s9 S' W HS9.out (hrk.ext h) ((HR9.out.ext hxr).ext h) (by have := HS9.out; omega))
          obtain rfl : s9 = m6 := HS9.out.symm.trans hlk
          clear v0 vf vl hrk hlk hsN
          have v0 := bV.cell; have v1 := bT8.cell
          go_wp2_with fail
          refine (CM1.out _ hxwr).mono ?_
          rintro e w9 ⟨rfl, hx9⟩
          go_wp2_with fail
          refine (HEQ.out _ hx9).mono ?_
          rintro e w10 ⟨rfl, hx10⟩
          go_wp2
          go_ret
          exact ⟨rfl, (hxwr.trans hx9).trans hx10⟩
  | false =>
    go_enter Tryz.func9, Tryz.ntmps9
    go_wp2_with fail
    rw [HW.out]
    refine (CLA.out _).mono ?_
    rintro e w' ⟨rfl, rfl⟩
    go_wp2_with fail
    refine (CC.out _ hx0).mono ?_
    rintro e w1 ⟨rfl, hx1⟩
    have hxa := hx0.trans hx1
    obtain ⟨w5, rfl⟩ : ∃ w5 : World, w5 = w1 := ⟨_, rfl⟩
    have hxq := hxa
    have hx05 := hx1
    have bF5 := bF.ext hx05
    have bT5 := bT.ext hx05
    have f0 := bF5.cell; have f1 := bT5.cell
    go_wp2_with fail
    refine (C1.out _ hxq).mono ?_
    rintro e w6 ⟨u, rfl, hu, hx6⟩
    have hx06 := hx05.trans hx6
    have hxr := hxq.trans hx6
    obtain ⟨A3, c3, rfl, hcu⟩ := hu.form
    clear hu f0 f1
    by_cases hR : R = 0
    rotate_left
    · have hne : (R != 0) = true := by rw [bne_iff_ne]; exact hR
      clear hR hcu
      go_wp2
      go_ret
      exact ⟨rfl, hxr⟩
    have HP1 := Lib.hid (HPN.out hR)
    subst hR
    have bF6 := bF5.ext hx6
    have bT6 := bT5.ext hx6
    have f0 := bF6.cell; have f1 := bT6.cell
    obtain ⟨N, hN⟩ : ∃ N, P.length = N := ⟨_, rfl⟩
    rw [hN]
    rw [hN] at HP1 HTN HVN HSM
    have HNN := Lib.hid hN
    have HCU := Lib.hid hcu
    clear hN hcu
    go_wp2_with fail
    refine (C3.out _ hxr).mono ?_
    rintro e w7 ⟨v7, rfl, hown7, hx7⟩
    have hx07 := hx06.trans hx7
    have hxs := hxr.trans hx7
    by_cases hE : E = 0
    rotate_left
    · have hne : (E != 0) = true := by rw [bne_iff_ne]; exact hE
      clear hE hown7
      go_wp2
      go_ret
      exact ⟨rfl, hxs⟩
    have CO1 := Lib.hid (CO.out hE)
    have HS1 := Lib.hid (HSM.out hE)
    have HT1 := Lib.hid (HTN.out hE)
    have HV1 := Lib.hid (HVN.out hE)
    have CM1 := Lib.hid (CMP.out hE)
    clear CO HSM HTN HVN CMP C1 C3
    subst hE
    have bF7 := bF6.ext hx7
    have bT7 := bT6.ext hx7
    have f2 := bF7.cell; have l2 := bF7.lt; have g2 := bF7.free
    clear f0 f1
    obtain ⟨A9, c9, rfl, hcap9, hr9⟩ := hown7.rd
    have HR9 := Lib.hid hr9
    clear hown7 hcap9 hr9
    obtain ⟨s9, hs9⟩ : ∃ s9, S'.length = s9 := ⟨_, rfl⟩
    rw [hs9]
    have HS9 := Lib.hid hs9
    clear hs9
    have hs7 := hx07.size
    have hgv : w.heap.size + 1 < w7.heap.size := bT7.lt
    have HLK := Lib.hid (show (K 0).length = n from by rw [HT0.out]; exact HN.out)
    have HRK := Lib.hid (show RdE w7 A (K 0) from by rw [HT0.out]; exact HRS.out.ext hxs)
    go_wp2
    go_region
    all_goals
      have bV : Blk (w7.alloc (.cells #[.int .i64 p1, .int .i64 p2, .int .i64 p3, .string pa] 35)).drew w7.heap.size 35 #[.int .i64 p1, .int .i64 p2, .int .i64 p3, .string pa] := Blk.new w7 _ _
      have hxv : Ext w7 (w7.alloc (.cells #[.int .i64 p1, .int .i64 p2, .int .i64 p3, .string pa] 35)).drew := ((Ext.refl w7).alloc _).drew
      generalize (w7.alloc (.cells #[.int .i64 p1, .int .i64 p2, .int .i64 p3, .string pa] 35)).drew = w8 at *
      go_wp2
      go_loopw [93, 21, 19] (fun i s e wr => ∃ (k m6 c6 : Nat) (A6 : Option Addr) (ee : Int), k ≤ N ∧ i = .int .i64 k ∧ s = .slice A6 m6 c6 ∧ e = .int .i64 ee ∧ (K k).length = m6 ∧ RdE wr A6 (K k) ∧ Blk wr w7.heap.size 35 #[.int .i64 (V k).a1, .int .i64 (V k).a2, .int .i64 (V k).a3, .string (V k).a] ∧ Ext w7 wr) (fun i _ _ _ => N - (intOf i).toNat)
      case atStart => exact ⟨0, n, c, A, 0, Nat.zero_le _, rfl, rfl, rfl, HLK.out, HRK.out.ext hxv, by rw [HV0.out]; exact bV, hxv⟩
      case round =>
        clear bV hxv
        obtain ⟨k, m6, c6, A6, ee, hk, rfl, rfl, rfl, hlk, hrk, bV, hxr⟩ := hrel
        obtain ⟨wo, rfl⟩ : ∃ wo : World, wo = wr := ⟨_, rfl⟩
        have hxwr := hxs.trans hxr
        have hNb : N ≤ 1000000 := HP1.out
        have v0 := bV.cell; have vf := bV.free; have vl := bV.lt
        by_cases hlt : k < N
        · have hk1 : k < P.length := by rw [HNN.out]; exact hlt
          have HPL2 := HPL.out _ (List.getElem_mem hk1)
          obtain ⟨g, rfl, hcell⟩ := HCU.out (fun e => by rw [e] at hk1; exact absurd hk1 (Nat.not_lt_zero _))
          have y0 := (hx7.trans hxr).cell (hcell k hk1)
          have HVK := Lib.hid (HVS.out k hk1 HPL2)
          obtain ⟨b, o, rfl, hX⟩ := (HR.out.ext hxwr) (fun e => by rw [e] at HPL2; exact absurd HPL2 (Nat.not_lt_zero _))
          obtain ⟨A4, c4, A5, c5, hrow⟩ := hX _ HPL2
          have x1 := hrow.r1; have x2 := hrow.r2; have x3 := hrow.r3; have x4 := hrow.r4
          obtain ⟨hs1, hs2⟩ := HS1.out k (Nat.le_of_lt hlt)
          have CC1 := Lib.hid (fun W (h : Ext wo W) => CO1.out W (hxwr.trans h) k hk1 HPL2 A6 c6 (some ⟨b, o + P[k] * 6, none⟩) (c2 - P[k]) (hrk.ext h) ((RdM.part HPL2 hX).ext h) hs1 (by omega))
          rw [hlk] at CC1
          have hpm : P[k] < m := by rw [← HM.out]; exact HPL2
          have HKK := Lib.hid (show k + 1 ≤ N from hlt)
          generalize hpk : P[k] = pk at *
          generalize hmt : ms[pk].tt = tt at *
          obtain ⟨t1, t2, t3, ta⟩ := tt
          generalize hvk : V k = vk at *
          obtain ⟨u1, u2, u3, ua⟩ := vk
          dsimp only at x1 x2 x3 x4 v0 CC1
          clear hX hrow hcell hs1 hs2 hrk hlk hvk hmt hpk
          have jw : IntKind.i64.wrap ((pk : Int) + 1) = (pk : Int) + 1 := IntWalk.i64_in _ (by omega)
          have j0 : (0 : Int) ≤ (pk : Int) := by omega
          have j1 : (0 : Int) ≤ (pk : Int) + 1 := by omega
          have j2 : (pk : Int) + 1 ≤ (c2 : Int) := by omega
          have j4 : ¬ c2 = pk := by omega
          have j3 : (pk : Int) ≤ (pk : Int) + 1 := by omega
          go_wp2_with fail
          go_region_with (go_at_call 67; with_reducible refine (CC1.out _ (by first | with_reducible exact Ext.refl _ | with_reducible exact (Ext.refl _).drew)).mono ?_; rintro e w9 ⟨v9, rfl, hown9, hx9⟩)
          all_goals
            have hxo9 : Ext wo w9 := (Ext.refl wo).drew.trans hx9
            have hx79 := hxr.trans hxo9
            have bV9 := bV.ext hxo9
            have z1 := hxo9.cell x1; have z2 := hxo9.cell x2; have z3 := hxo9.cell x3; have z4 := hxo9.cell x4
            obtain ⟨A10, c10, rfl, hcap10, hr10⟩ := hown9.rd
            have HRD4 := Lib.hid (fun u0 u1 u2 u3 => SeOwn.rd4 hown9 (g := w7.heap.size) vl u0 u1 u2 u3)
            have HX4 := Lib.hid (fun a b c d => (((hx79.setCell (p := ⟨w7.heap.size, 0, none⟩) (Nat.le_refl _) a).setCell (p := ⟨w7.heap.size, 1, none⟩) (Nat.le_refl _) b).setCell (p := ⟨w7.heap.size, 2, none⟩) (Nat.le_refl _) c).setCell (p := ⟨w7.heap.size, 3, none⟩) (Nat.le_refl _) d)
            clear hown9 hcap10 hr10 v0 vf vl x1 x2 x3 x4 y0 hxr hxo9 hx79
            have v0 := bV9.cell; have vf := bV9.free; have vl := bV9.lt
            have hb9 := lt_of_cell z1
            go_wp2
            go_roundw
            case rel => exact ⟨k + 1, _, c10, A10, 0, HKK.out, by go_num, rfl, rfl, rfl, HRD4.out _ _ _ _, by rw [HVK.out]; exact (((bV9.set 0 _).set 1 _).set 2 _).set 3 _, HX4.out _ _ _ _⟩
            case measure => simp [intOf]; omega
        · obtain rfl : k = N := by omega
          have bT8 := bT7.ext hxr
          have hsN := (HS1.out k (Nat.le_refl _)).2
          rw [HV1.out] at bV
          rw [HT1.out] at hlk hrk hsN
          have HEQ := Lib.hid (fun W (h : Ext wo W) => EqualSe_any A6 A9 c6 c9 s9 S' W HS9.out (hrk.ext h) ((HR9.out.ext hxr).ext h) (by have := HS9.out; omega))
          obtain rfl : s9 = m6 := HS9.out.symm.trans hlk
          clear v0 vf vl hrk hlk hsN
          have v0 := bV.cell; have v1 := bT8.cell
          go_wp2_with fail
          refine (CM1.out _ hxwr).mono ?_
          rintro e w9 ⟨rfl, hx9⟩
          go_wp2_with fail
          refine (HEQ.out _ hx9).mono ?_
          rintro e w10 ⟨rfl, hx10⟩
          go_wp2
          go_ret
          exact ⟨rfl, (hxwr.trans hx9).trans hx10⟩
end Go.Proofs.YtghhjlcbcojcnaaGreatDoor
