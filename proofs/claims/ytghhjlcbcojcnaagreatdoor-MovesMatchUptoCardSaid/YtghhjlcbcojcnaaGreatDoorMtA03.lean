/- Contract of outref2.CarryOf. The law outlaw2.MovesMatch: its walk. -/
import Derived.Test.YtghhjlcbcojcnaaGreatDoorMt38
import Derived.Test.YtghhjlcbcojcnaaGreatDoorMtA02
import Derived.Test.YtghhjlcbcojcnaaGreatDoorMt32
import Derived.Test.YtghhjlcbcojcnaaGreatDoorMt33

namespace Go.Proofs.YtghhjlcbcojcnaaGreatDoor
open Go.RowKit

set_option maxHeartbeats 16000000 in
set_option maxRecDepth 100000 in
theorem CarryOf_any (es : List Se) (ms : List Mv) (A A2 : Option Addr) (n m c c2 : Nat) (v0 vt : V4) (w : World) (hg : GoodN w) (hn : es.length = n) (hm : ms.length = m) (hr : RdE w A es) (hr2 : RdM w A2 ms) (hs : SmallE es) (hs2 : ∀ x ∈ ms, SmallM x) (h0 : v0.a.size ≤ 2097152) (ht : vt.a.size ≤ 2097152) (hl : n ≤ 2097152) (hl2 : m ≤ 2097152) :
    Calls Tryz.prog 75 #[.slice A n c, .slice A2 m c2, verV v0, verV vt] w fun e w' => ∃ v, e = .returned (.tuple #[v, .int .i64 (carE ms es v0 vt)]) ∧ SeOwn w.heap.size (carS ms es v0 vt) v w' ∧ Ext w w' := by
  have CW := Lib.hid (fun W (h : Ext w W) => WayOf_any ms A2 m c2 v0 vt W (hg.ext h) hm (hr2.ext h) hs2 h0 ht hl2)
  have CL := Lib.hid (fun W (h : Ext w W) => ListErrorS_any A n c es W (hg.toGood.ext h) hn (hr.ext h) hs hl)
  have CWH := Lib.hid (fun W => When_any (decide ((2000 : Int) < (n : Int))) 4 W)
  have CT := Lib.hid (fun W (h : Ext w W) => Facts_any A n c es W hn (hr.ext h) hs hl)
  have HF := Lib.hid (show firstI [seErr pathL es, (if decide ((2000 : Int) < (n : Int)) = true then 4 else 0)] = runR es [] from by
    rw [run_none, hn, show decide ((2000 : Int) < (n : Int)) = decide (2000 < n) from by rw [decide_eq_decide]; omega]
    by_cases h : 2000 < n <;> simp [h])
  have HK00 := Lib.hid (show (carK ms es (wayL ms v0 vt) 0).1 = 0 → n ≤ 2000 ∧ Okt (tbl es) ∧ (carK ms es (wayL ms v0 vt) 0).2 = seL (tbl es) from fun h => by
    rw [carK_zero] at h ⊢
    obtain ⟨z1, z2, _, _⟩ := runErr_zero (runR_parts h).1
    exact ⟨by rw [← hn]; exact z2, okt_tbl z1, runS_ok h⟩)
  rw [show runR es [] = (carK ms es (wayL ms v0 vt) 0).1 from rfl] at HF
  have bF := (Blk.new w 35 #[.int .i64 v0.a1, .int .i64 v0.a2, .int .i64 v0.a3, .string v0.a]).alloc (.cells #[.int .i64 vt.a1, .int .i64 vt.a2, .int .i64 vt.a3, .string vt.a] 35)
  have bT := Blk.new (w.alloc (.cells #[.int .i64 v0.a1, .int .i64 v0.a2, .int .i64 v0.a3, .string v0.a] 35)) 35 #[.int .i64 vt.a1, .int .i64 vt.a2, .int .i64 vt.a3, .string vt.a]
  rw [World.size_alloc] at bT
  have hx0 : Ext w ((w.alloc (.cells #[.int .i64 v0.a1, .int .i64 v0.a2, .int .i64 v0.a3, .string v0.a] 35)).alloc (.cells #[.int .i64 vt.a1, .int .i64 vt.a2, .int .i64 vt.a3, .string vt.a] 35)) := ((Ext.refl w).alloc _).alloc _
  have HBAD := Lib.hid (carE_bad (ms := ms) (es := es) (v0 := v0) (vt := vt))
  have HWAY := Lib.hid (carE_way (ms := ms) (es := es) (v0 := v0) (vt := vt))
  have HSB := Lib.hid (carS_bad (ms := ms) (es := es) (v0 := v0) (vt := vt))
  have HSO := Lib.hid (carS_ok (ms := ms) (es := es) (v0 := v0) (vt := vt))
  have HPL := Lib.hid (way_lt (ms := ms) (v0 := v0) (vt := vt))
  have HPN := Lib.hid (way_len (ms := ms) (v0 := v0) (vt := vt))
  have HWE := Lib.hid (fun h => (wayE_parts (wayR_ok (ms := ms) (v0 := v0) (vt := vt) h)))
  generalize carE ms es v0 vt = E at *
  generalize carS ms es v0 vt = S' at *
  generalize wayR ms v0 vt = R at *
  generalize wayL ms v0 vt = P at *
  have HR := Lib.hid hr2
  have HM := Lib.hid hm
  have HGD := Lib.hid hg
  have HSM := Lib.hid hs2
  have HKS := Lib.hid (fun k i (h : P[k]? = some i) => carK_succ (ms := ms) (es := es) h)
  have HKO := Lib.hid (fun k (h : k ≤ P.length) => carK_out ms es P k h HPL.out)
  have HKB := Lib.hid (fun k (h : ¬ (carK ms es P k).1 = 0) d => carK_stay h d)
  generalize carK ms es P = K at *
  generalize seErr pathL es = E1 at *
  obtain ⟨E2, hE2⟩ : ∃ E2, (if decide ((2000 : Int) < (n : Int)) = true then (4 : Int) else 0) = E2 := ⟨_, rfl⟩
  rw [hE2] at CWH HF
  generalize tbl es = T0 at *
  clear hE2
  obtain ⟨p1, p2, p3, pa⟩ := v0
  obtain ⟨q1, q2, q3, qa⟩ := vt
  dsimp only [verV] at *
  generalize hW : (w.alloc (.cells #[.int .i64 p1, .int .i64 p2, .int .i64 p3, .string pa] 35)).alloc (.cells #[.int .i64 q1, .int .i64 q2, .int .i64 q3, .string qa] 35) = W0 at *
  have HW := Lib.hid hW
  clear hn hm hr hr2 hs hs2 hg hW
  have cF := bF.cell; have cT := bT.cell
  go_enter Tryz.func75, Tryz.ntmps75
  go_wp2_with fail
  rw [HW.out]
  refine (CW.out _ hx0).mono ?_
  rintro e w1 ⟨u, rfl, hu, hx1⟩
  have hx01 := hx0.trans hx1
  obtain ⟨A3, c3, rfl, hcu⟩ := hu.form
  clear hu cF cT
  by_cases hR : R = 0
  rotate_left
  · obtain ⟨e1, e2⟩ := HBAD.out hR
    have hne : (R != 0) = true := by rw [bne_iff_ne]; exact hR
    subst e1
    have HE2 := Lib.hid e2
    clear hR hcu e2
    go_wp2
    go_ret2
    exact ⟨.slice none 0 0, rfl, by rw [HE2.out]; exact World.ownsRow_nil _ _ _ _, hx01⟩
  have HWR := Lib.hid (HWE.out hR)
  have HW2 := Lib.hid (HWAY.out hR)
  subst hR
  obtain ⟨N, hN⟩ : ∃ N, P.length = N := ⟨_, rfl⟩
  rw [hN]
  rw [hN] at HW2 HSO HKO HPN HKB
  have HN := Lib.hid hN
  have HCU := Lib.hid hcu
  clear hN hcu HBAD HWAY HWE
  have hNb : N ≤ 200 := by have h1 := HPN.out; have h2 := HWR.out.1; omega
  by_cases h00 : (K 0).1 = 0
  rotate_left
  · have hk0 := HKB.out 0 h00 N (by omega)
    rw [Nat.zero_add] at hk0
    have HEE := Lib.hid (show E = (K 0).1 from by rw [HW2.out, hk0])
    have HS2 := Lib.hid (HSB.out (by rw [HEE.out]; exact h00))
    generalize (K 0).1 = F at *
    have hne : (F != 0) = true := by rw [bne_iff_ne]; exact h00
    clear hk0 h00
    go_wp2_with fail
    refine (CL.out _ hx01).mono ?_
    rintro e w2 ⟨rfl, hx2⟩
    have hx02 := hx01.trans hx2
    go_wp2_with fail
    refine (CWH.out _).mono ?_
    rintro e w' ⟨rfl, rfl⟩
    go_wp2_with fail
    refine (First_any _ _ [E1, E2] _ ?_ (by simp)).mono ?_
    · intro k hk
      rw [World.cell?_alloc_at _ _ _ _ rfl]
      match k, hk with
      | 0, _ => rfl
      | 1, _ => rfl
    rw [HF.out]
    rintro e w' ⟨rfl, rfl⟩
    go_wp2
    go_ret2
    exact ⟨.slice none 0 0, by rw [HEE.out] <;> rfl, by rw [HS2.out]; exact World.ownsRow_nil _ _ _ _, hx02.alloc _⟩
  obtain ⟨hz1, hz2, hz3⟩ := HK00.out h00
  have HZ3 := Lib.hid hz3
  clear hz3
  rw [h00] at HF
  go_wp2_with fail
  refine (CL.out _ hx01).mono ?_
  rintro e w2 ⟨rfl, hx2⟩
  have hx02 := hx01.trans hx2
  go_wp2_with fail
  refine (CWH.out _).mono ?_
  rintro e w' ⟨rfl, rfl⟩
  go_wp2_with fail
  refine (First_any _ _ [E1, E2] _ ?_ (by simp)).mono ?_
  · intro k hk
    rw [World.cell?_alloc_at _ _ _ _ rfl]
    match k, hk with
    | 0, _ => rfl
    | 1, _ => rfl
  rw [HF.out]
  rintro e w' ⟨rfl, rfl⟩
  have hx03 := hx02.alloc (.cells #[.int .i64 E1, .int .i64 E2] 24)
  have hx13 := hx2.alloc (.cells #[.int .i64 E1, .int .i64 E2] 24)
  go_wp2_with fail
  refine (CT.out _ hx03).mono ?_
  rintro e w4 ⟨rfl, hm4, hx4⟩
  rw [World.size_alloc] at hm4
  have hx04 := hx03.trans hx4
  have hx14 := hx13.trans hx4
  have CLI := Lib.hid (Listed_any _ _ _ w4 hm4 (by omega) hz2)
  clear hm4
  go_wp2_with fail
  refine CLI.out.mono ?_
  rintro e w5 ⟨v5, rfl, hown5, hx5⟩
  rw [← HZ3.out] at hown5
  have hs4 := hx04.size
  have hown5 : SeOwn w.heap.size (K 0).2 v5 w5 := tab_base hown5 hs4
  have hx15 := hx14.trans hx5
  clear CLI hz2 hs4 hx03 hx13 hx04 hx14 hx4 hx2 hx02 hx5
  go_wp2
  go_loopw [41, 0, 11] (fun i s0 s11 wr => ∃ (k : Nat) (v s : Value), k ≤ N ∧ i = .int .i64 k ∧ v = s0 ∧ s = s11 ∧ (K k).1 = 0 ∧ SeOwn w.heap.size (K k).2 v wr ∧ Ext w1 wr) (fun i _ _ _ => N - (intOf i).toNat)
  case atStart => exact ⟨0, _, _, Nat.zero_le _, rfl, rfl, rfl, h00, hown5, hx15⟩
  case round =>
    clear hown5 hx15
    obtain ⟨k, v, s11, hk, rfl, rfl, rfl, hE1, hown, hxr⟩ := hrel
    obtain ⟨wo, rfl⟩ : ∃ wo : World, wo = wr := ⟨_, rfl⟩
    have hxwr := hx01.trans hxr
    have HE1 := Lib.hid hE1
    clear hE1
    by_cases hlt : k < N
    · have hk1 : k < P.length := by rw [HN.out]; exact hlt
      have hPk := List.getElem?_eq_getElem hk1
      have HPL2 := HPL.out _ (List.getElem_mem hk1)
      obtain ⟨g, rfl, hcell⟩ := HCU.out (fun e => by rw [e] at hk1; exact absurd hk1 (Nat.not_lt_zero _))
      have y0 := hxr.cell (hcell k hk1)
      have hks := HKS.out k _ hPk
      have HK1 := Lib.hid (hks.trans (carStep_ok HPL2 HE1.out))
      have HKX := Lib.hid (fun (h0 : ¬ (K (k + 1)).1 = 0) => HKB.out (k + 1) h0 (N - (k + 1)) (by omega))
      obtain ⟨hko1, hko2, hko3⟩ := HKO.out k hk
      have hmp := mvErr_parts (HWR.out.2.1 _ (List.getElem_mem HPL2))
      have hrt := mvR_right hmp.2.2.2
      obtain ⟨b, o, rfl, hX⟩ := (HR.out.ext hxwr) (fun e => by rw [e] at HPL2; exact absurd HPL2 (Nat.not_lt_zero _))
      obtain ⟨A4, c4, A5, c5, hrow⟩ := hX _ HPL2
      have x0 := hrow.r0; have x1 := hrow.r1; have x2 := hrow.r2; have x3 := hrow.r3; have x4 := hrow.r4; have x5 := hrow.r5
      have hin := hrow.has
      have CU := Lib.hid (fun W (h : Ext wo W) => RulesOf_any ms[P[k]] A4 A5 c4 c5 W (HGD.out.toGood.ext (hxwr.trans h)) (hin.ext h) (HSM.out _ (List.getElem_mem HPL2)))
      have CR := Lib.hid (fun W (h : Ext wo W) A6 c6 A7 c7 (hA : RdE W A6 (K k).2) (hB : RdU W A7 ((mvR ms[P[k]]).map Ru.b)) => RunOf_any A6 A7 (K k).2.length (mvR ms[P[k]]).length c6 c7 (K k).2 ((mvR ms[P[k]]).map Ru.b) W (HGD.out.ext (hxwr.trans h)) rfl (by simp) hA hB hko2 (mvR_small hrt.2) (by omega) (by rw [mvR_length]; omega))
      rw [mvR_back] at CR
      have hpk200 : P[k] < m := by rw [← HM.out]; exact HPL2
      generalize P[k] = pk at *
      generalize mvR ms[pk] = X at *
      generalize ms[pk] = mm at *
      obtain ⟨fr, ⟨t1, t2, t3, ta⟩, rules⟩ := mm
      dsimp only [mvV] at x0 x1 x2 x3 x4 x5 CU
      generalize fr.length = fl at *
      generalize rules.length = rl at *
      generalize (K k).2 = Es at *
      clear hX hrow hin hks hPk hko1 hko2 hko3 hrt hmp hcell
      rw [show runR Es X = (K (k + 1)).1 from by rw [HK1.out], show runS Es X = (K (k + 1)).2 from by rw [HK1.out]] at CR
      obtain ⟨A6, c6, rfl, hcap6, hr6⟩ := hown.rd
      have HR6 := Lib.hid hr6
      generalize Es.length = el at *
      clear hown hcap6 hr6
      obtain ⟨F, hF⟩ : ∃ F, (K (k + 1)).1 = F := ⟨_, rfl⟩
      rw [hF] at CR HKX
      have HF1 := Lib.hid hF
      clear hF HK1
      by_cases h0 : F = 0
      · subst h0
        go_wp2_with fail
        refine (CU.out _ (Ext.refl _)).mono ?_
        rintro e w3 ⟨A7, c7, rfl, hr7, hx3⟩
        go_wp2_with fail
        refine (CR.out _ hx3 A6 c6 A7 c7 (HR6.out.ext hx3) hr7).mono ?_
        rintro e w4 ⟨v4, rfl, hown4, hx4⟩
        have hs3 := (hxwr.trans hx3).size
        have hown4 : SeOwn w.heap.size (K (k + 1)).2 v4 w4 := tab_base hown4 hs3
        have hxr4 := hxr.trans (hx3.trans hx4)
        clear hs3
        go_wp2
        go_roundw
        case rel => exact ⟨k + 1, v4, _, by omega, by go_num, rfl, rfl, HF1.out, hown4, hxr4⟩
        case measure => simp [intOf]; omega
      · have hkn := HKX.out h0
        rw [show k + 1 + (N - (k + 1)) = N from by omega] at hkn
        have HEE := Lib.hid (show E = F from by rw [HW2.out, hkn, HF1.out])
        have HS2 := Lib.hid (HSB.out (by rw [HEE.out]; exact h0))
        have hne : (F != 0) = true := by rw [bne_iff_ne]; exact h0
        clear hkn h0
        go_wp2_with fail
        refine (CU.out _ (Ext.refl _)).mono ?_
        rintro e w3 ⟨A7, c7, rfl, hr7, hx3⟩
        go_wp2_with fail
        refine (CR.out _ hx3 A6 c6 A7 c7 (HR6.out.ext hx3) hr7).mono ?_
        rintro e w4 ⟨v4, rfl, hown4, hx4⟩
        have hxr4 := hxwr.trans (hx3.trans hx4)
        clear hown4
        go_wp2
        go_ret2
        exact ⟨.slice none 0 0, by rw [HEE.out] <;> rfl, by rw [HS2.out]; exact World.ownsRow_nil _ _ _ _, hxr4⟩
    · obtain rfl : k = N := by omega
      have HEE := Lib.hid (show E = 0 from HW2.out.trans HE1.out)
      have HS2 := Lib.hid (HSO.out HEE.out)
      have HOW := Lib.hid hown
      clear hown
      go_wp2
      go_ret2
      exact ⟨v, by rw [HEE.out] <;> rfl, by rw [HS2.out]; exact HOW.out, hxwr⟩
end Go.Proofs.YtghhjlcbcojcnaaGreatDoor

namespace Go.Proofs.YtghhjlcbcojcnaaGreatDoor
open Go.RowKit

set_option maxHeartbeats 16000000 in
set_option maxRecDepth 100000 in
theorem MovesMatch_any (es : List Se) (ms : List Mv) (A A2 : Option Addr) (n m c c2 : Nat) (v0 vt : V4) (w : World) (hg : GoodN w) (hn : es.length = n) (hm : ms.length = m) (hr : RdE w A es) (hr2 : RdM w A2 ms) (hs : SmallE es) (hs2 : ∀ x ∈ ms, SmallM x) (h0 : v0.a.size ≤ 2097152) (ht : vt.a.size ≤ 2097152) (hl : n ≤ 2097152) (hl2 : m ≤ 2097152) :
    Calls Tryz.prog 11 #[.slice A n c, .slice A2 m c2, verV v0, verV vt] w fun e w' => e = .returned (.bool true) ∧ Ext w w' := by
  have C1 := Lib.hid (fun W (h : Ext w W) => Way_any ms A2 m c2 v0 vt W (hg.ext h) hm (hr2.ext h) hs2 h0 ht hl2)
  have C2 := Lib.hid (fun W (h : Ext w W) => WayOf_any ms A2 m c2 v0 vt W (hg.ext h) hm (hr2.ext h) hs2 h0 ht hl2)
  have C3 := Lib.hid (fun W (h : Ext w W) => Carry_any es ms A A2 n m c c2 v0 vt W (hg.ext h) hn hm (hr.ext h) (hr2.ext h) hs hs2 h0 ht hl hl2)
  have C4 := Lib.hid (fun W (h : Ext w W) => CarryOf_any es ms A A2 n m c c2 v0 vt W (hg.ext h) hn hm (hr.ext h) (hr2.ext h) hs hs2 h0 ht hl hl2)
  have CK := Lib.hid (fun W (h : Ext w W) k (hk : k < ms.length) A1 c1 A2 c2 (hm : MvIn W ms[k] A1 A2) => CheckMove_any ms[k] A1 A2 c1 c2 W (hg.toGood.ext h) hm (hs2 _ (List.getElem_mem hk)))
  have CE := Lib.hid (fun W (h : Ext w W) k (hk : k < ms.length) A1 c1 A2 c2 (hm : MvIn W ms[k] A1 A2) => MoveError_any ms[k] A1 A2 c1 c2 W (hg.ext h) hm (hs2 _ (List.getElem_mem hk)))
  have CM := Lib.hid (fun W (h : Ext w W) => migrates_any W (hg.toGood.ext h))
  have HPL := Lib.hid (show (wayL ms v0 vt).length ≤ 1000000 from by
    by_cases h : wayR ms v0 vt = 0
    · have h1 := (wayE_parts (wayR_ok h)).1
      have h2 := way_len (ms := ms) (v0 := v0) (vt := vt)
      omega
    · rw [wayL, if_neg h]; exact Nat.zero_le _)
  have HSL := Lib.hid (show (carS ms es v0 vt).length ≤ 2097152 from by
    by_cases h : carE ms es v0 vt = 0
    · rw [carS_ok h]
      have := (carK_out ms es (wayL ms v0 vt) _ (Nat.le_refl _) (way_lt (ms := ms) (v0 := v0) (vt := vt))).1
      omega
    · rw [carS_bad h]; exact Nat.zero_le _)
  have HR := Lib.hid hr2
  have HM := Lib.hid hm
  clear hg hn hm hr hr2 hs hs2 h0 ht
  generalize wayR ms v0 vt = R at *
  generalize wayL ms v0 vt = P at *
  generalize carE ms es v0 vt = E at *
  generalize carS ms es v0 vt = S' at *
  have hRR : (R == R) = true := by simp
  have hEE : (E == E) = true := by simp
  obtain ⟨p1, p2, p3, pa⟩ := v0
  obtain ⟨q1, q2, q3, qa⟩ := vt
  dsimp only [verV] at *
  have bF := (Blk.new w 35 #[.int .i64 p1, .int .i64 p2, .int .i64 p3, .string pa]).alloc (.cells #[.int .i64 q1, .int .i64 q2, .int .i64 q3, .string qa] 35)
  have bT := Blk.new (w.alloc (.cells #[.int .i64 p1, .int .i64 p2, .int .i64 p3, .string pa] 35)) 35 #[.int .i64 q1, .int .i64 q2, .int .i64 q3, .string qa]
  rw [World.size_alloc] at bT
  have hx0 : Ext w ((w.alloc (.cells #[.int .i64 p1, .int .i64 p2, .int .i64 p3, .string pa] 35)).alloc (.cells #[.int .i64 q1, .int .i64 q2, .int .i64 q3, .string qa] 35)) := ((Ext.refl w).alloc _).alloc _
  generalize hW : (w.alloc (.cells #[.int .i64 p1, .int .i64 p2, .int .i64 p3, .string pa] 35)).alloc (.cells #[.int .i64 q1, .int .i64 q2, .int .i64 q3, .string qa] 35) = W0 at *
  have HW := Lib.hid hW
  clear hW
  go_enter Tryz.func11, Tryz.ntmps11
  go_wp2
  rw [HW.out]
  go_loopw [21] (fun i wr => ∃ k : Nat, k ≤ m ∧ i = .int .i64 k ∧ Ext W0 wr) (fun i _ => m - (intOf i).toNat)
  case atStart => exact ⟨0, Nat.zero_le _, rfl, Ext.refl _⟩
  case round =>
    obtain ⟨k, hk, rfl, hxr⟩ := hrel
    obtain ⟨wo, rfl⟩ : ∃ wo : World, wo = wr := ⟨_, rfl⟩
    have hxwr := hx0.trans hxr
    by_cases hlt : k < m
    · have hk1 : k < ms.length := by rw [HM.out]; exact hlt
      obtain ⟨b, o, rfl, hX⟩ := (HR.out.ext hxwr) (fun e => by rw [e] at hk1; exact absurd hk1 (Nat.not_lt_zero _))
      obtain ⟨A4, c4, A5, c5, hrow⟩ := hX k hk1
      have x0 := hrow.r0; have x1 := hrow.r1; have x2 := hrow.r2; have x3 := hrow.r3; have x4 := hrow.r4; have x5 := hrow.r5
      have hin := hrow.has
      have CK1 := Lib.hid (fun W (h : Ext wo W) => CK.out W (hxwr.trans h) k hk1 A4 c4 A5 c5 (hin.ext h))
      have CE1 := Lib.hid (fun W (h : Ext wo W) => CE.out W (hxwr.trans h) k hk1 A4 c4 A5 c5 (hin.ext h))
      clear hX hrow hin
      generalize mvErr ms[k] = ek at *
      generalize ms[k] = mm at *
      obtain ⟨fr, ⟨t1, t2, t3, ta⟩, rules⟩ := mm
      dsimp only [mvV] at x0 x1 x2 x3 x4 x5 CK1 CE1
      generalize fr.length = fl at *
      generalize rules.length = rl at *
      have hkk : (ek != ek) = false := by simp
      have b1 := Blk.new wo 104 #[.slice A4 fl c4, .int .i64 t1, .int .i64 t2, .int .i64 t3, .string ta, .slice A5 rl c5]
      have hxa := (Ext.refl wo).alloc (.cells #[.slice A4 fl c4, .int .i64 t1, .int .i64 t2, .int .i64 t3, .string ta, .slice A5 rl c5] 104)
      have e0 := b1.cell; have f0 := b1.lt
      go_wp2_with fail
      refine wp_region_ext (by kernel_rfl) (by kernel_rfl) ?_
      repeat (first | go_big_quiet_skip | (refine wpQuiet_step (fun K hK => ?_); go_simp; first | (refine hK _ ?_; clear hK K) | (apply Exists.intro; refine ⟨fun wq hwq => ?_, hK _ ?_⟩; (obtain ⟨hqc, hqf⟩ := hwq.cells; have hqs := hwq.size; (try go_simp); first | rfl | ((first | rw [if_neg (by omega)] | rw [if_pos (by omega)]); (try go_simp); rfl) | ((first | (go_at_call 72; exact (CK1.out _ (hxa.trans hwq)).mono (fun e w'' h => ⟨h.1, hwq.trans h.2⟩)) | (go_at_call 73; exact (CE1.out _ (hxa.trans hwq)).mono (fun e w'' h => ⟨h.1, hwq.trans h.2⟩))))); clear hK K)))
      refine wpQuiet_nil ?_
      intro wN hxN
      obtain ⟨hcN, hfN⟩ := hxN.cells
      have hsN := hxN.size
      have hx2 : Ext W0 wN := (hxr.trans hxa).trans hxN
      clear e0 f0 b1 hxa
      generalize wN = w2 at *
      go_wp2
      go_roundw
      case rel => exact ⟨k + 1, by omega, by go_num, hx2⟩
      case measure => simp [intOf]; omega
    · obtain rfl : k = m := by omega
      have bF1 := bF.ext hxr
      have bT1 := bT.ext hxr
      have f0 := bF1.cell; have f1 := bT1.cell
      go_wp2_with fail
      refine (C1.out _ hxwr).mono ?_
      rintro e w1 ⟨u1, rfl, hu1, hx1⟩
      have hxa := hxwr.trans hx1
      have bF2 := bF1.ext hx1
      have bT2 := bT1.ext hx1
      have f2 := bF2.cell; have f3 := bT2.cell
      clear f0 f1
      go_wp2_with fail
      refine (C2.out _ hxa).mono ?_
      rintro e w2 ⟨u2, rfl, hu2, hx2⟩
      have hxb := hxa.trans hx2
      have bF3 := bF2.ext hx2
      have bT3 := bT2.ext hx2
      have f4 := bF3.cell; have f5 := bT3.cell
      clear f2 f3
      go_wp2_with fail
      refine (C3.out _ hxb).mono ?_
      rintro e w3 ⟨v3, rfl, hv3, hx3⟩
      have hxc := hxb.trans hx3
      have bF4 := bF3.ext hx3
      have bT4 := bT3.ext hx3
      have f6 := bF4.cell; have f7 := bT4.cell
      clear f4 f5
      go_wp2_with fail
      refine (C4.out _ hxc).mono ?_
      rintro e w4 ⟨v4, rfl, hv4, hx4⟩
      have hxd := hxc.trans hx4
      clear f6 f7
      go_wp2_with fail
      refine (CM.out _ hxd).mono ?_
      rintro e w5 ⟨rfl, hx5⟩
      have hxe := hxd.trans hx5
      have HQ1 := Lib.hid (EqualI_any P u1 u2 w5 (hu1.ext (((hx2.trans hx3).trans hx4).trans hx5)) (hu2.ext ((hx3.trans hx4).trans hx5)) HPL.out)
      have HQ2 := Lib.hid (fun W (h : Ext w5 W) => SeOwn.eq (hv3.ext ((hx4.trans hx5).trans h)) (hv4.ext (hx5.trans h)) HSL.out)
      clear hu1 hu2 hv3 hv4
      go_wp2_with fail
      refine HQ1.out.mono ?_
      rintro e w6 ⟨rfl, hx6⟩
      go_wp2_with fail
      refine (HQ2.out _ hx6).mono ?_
      rintro e w7 ⟨rfl, hx7⟩
      go_wp2
      go_ret
      exact ⟨rfl, (hxe.trans hx6).trans hx7⟩
end Go.Proofs.YtghhjlcbcojcnaaGreatDoor
