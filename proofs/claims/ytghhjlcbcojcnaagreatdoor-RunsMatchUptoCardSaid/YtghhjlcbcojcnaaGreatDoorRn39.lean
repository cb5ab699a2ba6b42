/- Contracts of migrate.Clean and of outref2.CleanOf. -/
import Derived.Test.YtghhjlcbcojcnaaGreatDoorRn37
import Derived.Test.YtghhjlcbcojcnaaGreatDoorRn38
import Derived.Test.YtghhjlcbcojcnaaGreatDoorRn34

namespace Go.Proofs.YtghhjlcbcojcnaaGreatDoor
open Go.RowKit

/-- whether the rules from the k-th on can be gone back -/
noncomputable def clnT (rs : List RB) (f : Tb) (k : Nat) : Bool := cleanB ((rs.map RB.l).drop k) (runG rs f k)
theorem clnT_succ {rs : List RB} {f : Tb} {k : Nat} (h : k < rs.length) : clnT rs f k = true ↔ ¬ losesT rs[k].l (runG rs f k) ∧ clnT rs f (k + 1) = true := by
  unfold clnT
  rw [List.drop_eq_getElem_cons (by rw [List.length_map]; exact h), List.getElem_map, cleanB, runG_succ h]
  by_cases hl : losesT rs[k].l (runG rs f k)
  · rw [if_pos hl]; simp [hl]
  · rw [if_neg hl]; simp [hl]
theorem clnT_all {rs : List RB} {f : Tb} : clnT rs f rs.length = true := by
  unfold clnT
  rw [List.drop_of_length_le (by rw [List.length_map]; exact Nat.le_refl _), cleanB]
noncomputable def cleanV (es : List Se) (rs : List Ru) : Bool := if cleanE es rs = 0 then cleanB rs (tbl es) else false
theorem cleanE_run {es : List Se} {rs : List Ru} (h : ¬ runR es rs = 0) : cleanE es rs = runR es rs ∧ cleanV es rs = false := by
  have e : cleanE es rs = runR es rs := by rw [cleanE, if_neg h]
  exact ⟨e, by rw [cleanV, e, if_neg h]⟩
theorem cleanE_inv {es : List Se} {rs : List Ru} (h : runR es rs = 0) : cleanE es rs = invE rs := by rw [cleanE, if_pos h]
theorem cleanV_ok {es : List Se} {rs : List RB} (h : runR es (rs.map RB.l) = 0) (h2 : invE (rs.map RB.l) = 0) : cleanV es (rs.map RB.l) = clnT rs (tbl es) 0 := by
  rw [cleanV, cleanE_inv h, if_pos h2]; rfl
theorem runT_ok {rs : List RB} {f : Tb} {k : Nat} (h : k < rs.length) (h0 : runT rs f k = 0) : doE rs[k].l (runG rs f k) = 0 ∧ runT rs f (k + 1) = 0 := by
  rw [runT_succ h] at h0
  by_cases h1 : doE rs[k].l (runG rs f k) = 0
  · rw [if_pos h1] at h0; exact ⟨h1, h0⟩
  · rw [if_neg h1] at h0; exact absurd h0 h1
theorem runR_zero {es : List Se} {rs : List Ru} (h : runR es rs = 0) : runErr es rs = 0 := by
  rcases Classical.em (runErr es rs = 0) with h1 | h1
  · exact h1
  · rw [(runR_bad h1).1] at h; exact h

set_option maxHeartbeats 16000000 in
set_option maxRecDepth 100000 in
theorem Clean_any (A A2 : Option Addr) (n m c c2 : Nat) (es : List Se) (rs : List RB) (w : World) (hg : GoodN w) (hn : es.length = n) (hm : rs.length = m) (hr : RdE w A es) (hr2 : RdU w A2 rs) (hs : SmallE es) (hs2 : SmallU rs) (hl : n ≤ 2097152) (hl2 : m ≤ 2097152) :
    Calls Tryz.prog 62 #[.slice A n c, .slice A2 m c2] w fun e w' => e = .returned (.tuple #[.bool (cleanV es (rs.map RB.l)), .int .i64 (cleanE es (rs.map RB.l))]) ∧ Ext w w' := by
  have CR := Lib.hid (Run_any A A2 n m c c2 es rs w hg hn hm hr hr2 hs hs2 hl hl2)
  have CV := Lib.hid (fun W (h : Ext w W) => InverseAll_any A2 m c2 rs W (hg.toGood.ext h) hm (hr2.ext h) hs2 hl2)
  have CT := Lib.hid (fun W (h : Ext w W) => tableOf_any A n c es W hn (hr.ext h) hs hl)
  by_cases h0 : runR es (rs.map RB.l) = 0
  rotate_left
  · obtain ⟨e1, e2⟩ := cleanE_run h0
    rw [e1, e2]
    clear e1 e2
    generalize runR es (rs.map RB.l) = R at *
    have hne : (R != 0) = true := by rw [bne_iff_ne]; exact h0
    clear h0 CT hn hm hr hr2 hs hs2 hg
    go_enter Tryz.func62, Tryz.ntmps62
    go_wp2_with fail
    refine CR.out.mono ?_
    rintro e w1 ⟨v, rfl, hown, hx1⟩
    go_wp2
    go_ret2
    exact ⟨rfl, hx1⟩
  rw [cleanE_inv h0]
  by_cases h1 : invE (rs.map RB.l) = 0
  rotate_left
  · have e2 : cleanV es (rs.map RB.l) = false := by rw [cleanV, cleanE_inv h0, if_neg h1]
    rw [e2]
    clear e2
    rw [h0] at CR
    generalize invE (rs.map RB.l) = R at *
    have hne : (R != 0) = true := by rw [bne_iff_ne]; exact h1
    clear h0 h1 CT hn hm hr hr2 hs hs2 hg
    go_enter Tryz.func62, Tryz.ntmps62
    go_wp2_with fail
    refine CR.out.mono ?_
    rintro e w1 ⟨v, rfl, hown, hx1⟩
    go_wp2_with fail
    refine (CV.out _ hx1).mono ?_
    rintro e w2 ⟨A3, c3, rfl, hrd, hx2⟩
    go_wp2
    go_ret2
    exact ⟨rfl, hx1.trans hx2⟩
  rw [cleanV_ok h0 h1, h1]
  obtain ⟨z1, z2, z3, z4⟩ := runErr_zero (runR_zero h0)
  rw [List.length_map] at z3
  rw [hn] at z2
  rw [hm] at z3
  have HRR := Lib.hid (fun k (h : k < rs.length) => z4 rs[k].l (List.mem_map.2 ⟨_, List.getElem_mem h, rfl⟩))
  have HOK := Lib.hid (okt_tbl z1)
  have HT0 := Lib.hid (show runT rs (tbl es) 0 = 0 from by rw [runT_zero, ← runR_good (runR_zero h0), h0])
  have HG0 := Lib.hid (runG_zero rs (tbl es))
  have HGS := Lib.hid (fun k (h : k < rs.length) => runG_succ (f := tbl es) h)
  have HTS := Lib.hid (fun k (h : k < rs.length) => runT_ok (f := tbl es) h)
  have HCS := Lib.hid (fun k (h : k < rs.length) => clnT_succ (f := tbl es) h)
  have HCA := Lib.hid (clnT_all (rs := rs) (f := tbl es))
  rw [hm] at HCA
  have HR := Lib.hid hr2
  have HM := Lib.hid hm
  have HGD := Lib.hid hg
  rw [h0] at CR
  rw [h1] at CV
  generalize runT rs (tbl es) = T at *
  generalize clnT rs (tbl es) = CB at *
  generalize runG rs (tbl es) = G at *
  generalize tbl es = F0 at *
  obtain ⟨V, hV⟩ : ∃ V, CB 0 = V := ⟨_, rfl⟩
  rw [hV]
  have HV := Lib.hid hV
  clear z1 z4 h0 h1 hn hm hr hr2 hs hs2 hg hV
  go_enter Tryz.func62, Tryz.ntmps62
  go_wp2_with fail
  refine CR.out.mono ?_
  rintro e w1 ⟨v, rfl, hown, hx1⟩
  clear hown
  go_wp2_with fail
  refine (CV.out _ hx1).mono ?_
  rintro e w2 ⟨A3, c3, rfl, hrd, hx2⟩
  clear hrd
  have hx12 := hx1.trans hx2
  go_wp2_with fail
  refine (CT.out _ hx12).mono ?_
  rintro e w3 ⟨rfl, hm3, hx3⟩
  have hsz := hx12.size
  go_wp2
  go_loopw [34] (fun i wr => ∃ k : Nat, k ≤ m ∧ i = .int .i64 k ∧ StrMap wr w2.heap.size 2000 (G k) ∧ Okt (G k) ∧ Hid (T k = 0) ∧ Hid (V = CB k) ∧ Ext w wr) (fun i _ => m - (intOf i).toNat)
  case atStart => exact ⟨0, Nat.zero_le _, rfl, by rw [HG0.out]; exact hm3.mono z2, by rw [HG0.out]; exact HOK.out, HT0.out, HV.out.symm, hx12.trans hx3⟩
  case round =>
    clear hm3 hx3
    obtain ⟨k, hk, rfl, hmk, hok, HTK, HVK, hxr⟩ := hrel
    by_cases hlt : k < m
    · have hk1 : k < rs.length := by rw [HM.out]; exact hlt
      obtain ⟨b, o, rfl, hX⟩ := (HR.out.ext hxr) (fun e => by rw [e] at hk1; exact absurd hk1 (Nat.not_lt_zero _))
      have x0 := hX.c0 k hk1; have x1 := hX.c1 k hk1; have x2 := hX.c2 k hk1; have x3 := hX.c3 k hk1; have x4 := hX.c4 k hk1
      have hrr := HRR.out k hk1
      have hgs := HGS.out k hk1
      obtain ⟨hd0, ht1⟩ := HTS.out k hk1 HTK.out
      have CL := Lib.hid (fun W (h : Ext wr W) => loses_any rs[k] w2.heap.size 2000 (G k) W (hmk.ext h) hok hrr)
      have CD := Lib.hid (fun W (h : Ext wr W) => do_any rs[k] w2.heap.size 2000 (G k) W (HGD.out.toGood.ext (hxr.trans h)) (hmk.ext h) hok (by omega) hrr)
      have HO := Lib.hid (okt_next hok hrr hd0)
      have HLS := Lib.hid (HCS.out k hk1)
      rw [← HVK.out] at HLS
      rw [← hgs, hd0] at CD
      rw [← hgs] at HO
      have HT1 := Lib.hid ht1
      clear hrr hgs hd0 ht1
      generalize losesT rs[k].l (G k) = P at *
      generalize rs[k] = r at *
      obtain ⟨r0, r1, r2, r3, r4⟩ := r
      dsimp only at x0 x1 x2 x3 x4
      clear hX
      have b1 := Blk.new wr 23 #[.int .i64 r0, .string r1, .string r2, .string r3, .string r4]
      have hbx : ∀ w', Ext (wr.alloc (.cells #[.int .i64 r0, .string r1, .string r2, .string r3, .string r4] 23)) w' → Blk w' wr.heap.size 23 #[.int .i64 r0, .string r1, .string r2, .string r3, .string r4] := fun w' h => b1.ext h
      have HBX := Lib.hid hbx
      have hc1 := b1.cell
      clear b1 hbx
      go_wp2_with fail
      refine (CL.out _ ((Ext.refl wr).alloc _)).mono ?_
      rintro e w4 ⟨v, rfl, hvP, hx4⟩
      have hxw4 := (hxr.alloc _).trans hx4
      have HVP := Lib.hid hvP
      have b2 := HBX.out _ hx4
      have hc2 := b2.cell
      clear b2 hc1 hvP
      cases v with
      | true =>
        have HE := Lib.hid (show V = false from by
          cases V with
          | false => rfl
          | true => exact absurd (HVP.out.1 rfl) (HLS.out.1 rfl).1)
        go_wp2
        go_ret2
        exact ⟨by rw [HE.out] <;> rfl, hxw4⟩
      | false =>
        have HE := Lib.hid (show V = CB (k + 1) from by
          have hnp : ¬ P := fun h => by cases HVP.out.2 h
          rw [Bool.eq_iff_iff, HLS.out]
          exact ⟨fun h => h.2, fun h => ⟨hnp, h⟩⟩)
        go_wp2_with fail
        refine (CD.out _ (Ext.trans ((Ext.refl wr).alloc _) hx4)).mono ?_
        rintro e w5 ⟨rfl, hm5, hg5⟩
        have hx5 : Ext w w5 := hxw4.row hg5 hsz
        have HM5 := Lib.hid (hm5 (by trivial))
        clear hm5
        go_wp2
        go_roundw
        case rel => exact ⟨k + 1, by omega, by go_num, HM5.out, HO.out, HT1.out, HE.out, hx5⟩
        case measure => simp [intOf]; omega
    · obtain rfl : k = m := by omega
      have HE := Lib.hid (show V = true from by rw [HVK.out, HCA.out])
      go_wp2
      go_ret2
      exact ⟨by rw [HE.out] <;> rfl, hxr⟩
end Go.Proofs.YtghhjlcbcojcnaaGreatDoor
