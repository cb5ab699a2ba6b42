/- Contracts of migrate.Run and of outref2.RunOf. Contracts of migrate.InverseAll and of outref2.InverseAllOf. (Printed by gen/runc.py.) -/
import Derived.Test.YtghhjlcbcojcnaaGreatDoorMt31
import Derived.Test.YtghhjlcbcojcnaaGreatDoorMt22
import Derived.Test.YtghhjlcbcojcnaaGreatDoorMt29
import Derived.Test.YtghhjlcbcojcnaaGreatDoorMt30
import Derived.Test.YtghhjlcbcojcnaaGreatDoorMt26
import Derived.Test.YtghhjlcbcojcnaaGreatDoorMt15

namespace Go.Proofs.YtghhjlcbcojcnaaGreatDoor
open Go.RowKit

theorem runR_bad {es : List Se} {rs : List Ru} (h : ¬ runErr es rs = 0) : runR es rs = runErr es rs ∧ runS es rs = [] := by
  have e : runR es rs = runErr es rs := by rw [runR, if_neg h]
  exact ⟨e, by rw [runS, e, if_neg h]⟩
theorem runR_good {es : List Se} {rs : List Ru} (h : runErr es rs = 0) : runR es rs = runE rs (tbl es) := by rw [runR, if_pos h]
theorem runS_err {es : List Se} {rs : List Ru} (h : ¬ runR es rs = 0) : runS es rs = [] := by rw [runS, if_neg h]
theorem runS_ok {es : List Se} {rs : List Ru} (h : runR es rs = 0) : runS es rs = seL (runF rs (tbl es)) := by rw [runS, if_pos h]
/-- the table behind k rules, and the error that is still to come -/
def runG (rs : List RB) (f : Tb) (k : Nat) : Tb := runF ((rs.map RB.l).take k) f
noncomputable def runT (rs : List RB) (f : Tb) (k : Nat) : Int := runE ((rs.map RB.l).drop k) (runG rs f k)
theorem runG_zero (rs : List RB) (f : Tb) : runG rs f 0 = f := rfl
theorem runG_succ {rs : List RB} {f : Tb} {k : Nat} (h : k < rs.length) : runG rs f (k + 1) = doF rs[k].l (runG rs f k) := by
  unfold runG runF
  rw [List.take_succ_eq_append_getElem (by rw [List.length_map]; exact h), List.foldl_append, List.getElem_map]
  rfl
theorem runG_all {rs : List RB} {f : Tb} : runG rs f rs.length = runF (rs.map RB.l) f := by rw [runG, List.take_of_length_le (by rw [List.length_map]; exact Nat.le_refl _)]
theorem runT_succ {rs : List RB} {f : Tb} {k : Nat} (h : k < rs.length) : runT rs f k = if doE rs[k].l (runG rs f k) = 0 then runT rs f (k + 1) else doE rs[k].l (runG rs f k) := by
  unfold runT
  rw [List.drop_eq_getElem_cons (by rw [List.length_map]; exact h), List.getElem_map, runE, runG_succ h]
theorem runT_zero (rs : List RB) (f : Tb) : runT rs f 0 = runE (rs.map RB.l) f := rfl
theorem runT_all {rs : List RB} {f : Tb} : runT rs f rs.length = 0 := by
  unfold runT
  rw [List.drop_of_length_le (by rw [List.length_map]; exact Nat.le_refl _), runE]

theorem path_len0 {l : Str} (h : pathL l = true) : l.length ≤ 200 := by
  unfold pathL at h
  simp only [Bool.and_eq_true, decide_eq_true_eq] at h
  exact h.2
theorem do_key_len {r : Ru} {f : Tb} (h : Okt f) (hr : ruErr r = 0) {x v : Str} (hx : doF r f x = some v) : x.length ≤ 400 := by
  by_cases h2 : r.kind = 2
  · have hR := right_of hr
    have ht := path_len0 (hR.to1 (by rw [h2]; rfl))
    rw [doF, if_neg (by omega), if_pos h2, moveT] at hx
    cases hm : movedT f r.key r.tt (fun _ => false) x with
    | some u =>
      obtain ⟨y, _, y2, rfl⟩ := moved_some hm
      have h3 := path_len0 (h y _ y2).1
      have h4 := newKey_len (key := r.key) (tt := r.tt) (y := y)
      omega
    | none =>
      rw [hm] at hx
      simp only [Option.none_or, cutT] at hx
      split at hx
      · cases hx
      · have := path_len0 (h x v hx).1
        omega
  · have := path_len0 (okt_do h hr (fun e => h2 e.1) x v hx).1
    omega

set_option maxHeartbeats 8000000 in
set_option maxRecDepth 100000 in
theorem Run_any (A A2 : Option Addr) (n m c c2 : Nat) (es : List Se) (rs : List RB) (w : World) (hg : GoodN w) (hn : es.length = n) (hm : rs.length = m) (hr : RdE w A es) (hr2 : RdU w A2 rs) (hs : SmallE es) (hs2 : SmallU rs) (hl : n ≤ 2097152) (hl2 : m ≤ 2097152) :
    Calls Tryz.prog 63 #[.slice A n c, .slice A2 m c2] w fun e w' => ∃ v, e = .returned (.tuple #[v, .int .i64 (runR es (rs.map RB.l))]) ∧ SeOwn w.heap.size (runS es (rs.map RB.l)) v w' ∧ Ext w w' := by
  have CF := Lib.hid (runFault_any A A2 n m c c2 es rs w hg hn hm hr hr2 hs hs2 hl hl2)
  have CT := Lib.hid (fun W (h : Ext w W) => tableOf_any A n c es W hn (hr.ext h) hs hl)
  by_cases h0 : runErr es (rs.map RB.l) = 0
  rotate_left
  · obtain ⟨e1, e2⟩ := runR_bad h0
    rw [e1, e2]
    clear e1 e2
    generalize runErr es (rs.map RB.l) = E at *
    have hne : (E != 0) = true := by rw [bne_iff_ne]; exact h0
    clear h0 CT hn hm hr hr2 hs hs2 hg
    go_enter Tryz.func63, Tryz.ntmps63
    go_wp2_with fail
    refine CF.out.mono ?_
    rintro e w1 ⟨rfl, hx1⟩
    go_wp2
    go_ret2
    exact ⟨_, rfl, World.ownsRow_nil _ _ _ _, hx1⟩
  obtain ⟨z1, z2, z3, z4⟩ := runErr_zero h0
  rw [List.length_map] at z3
  rw [hn] at z2
  rw [hm] at z3
  have HRR := Lib.hid (fun k (h : k < rs.length) => z4 rs[k].l (List.mem_map.2 ⟨_, List.getElem_mem h, rfl⟩))
  have HOK := Lib.hid (okt_tbl z1)
  have HT0 := Lib.hid ((runR_good h0).trans (runT_zero rs (tbl es)).symm)
  have HSE := Lib.hid (runS_err (es := es) (rs := rs.map RB.l))
  have HSO := Lib.hid ((fun h => by rw [runS_ok h, runG_all]) : runR es (rs.map RB.l) = 0 → runS es (rs.map RB.l) = seL (runG rs (tbl es) rs.length))
  have HG0 := Lib.hid (runG_zero rs (tbl es))
  have HGS := Lib.hid (fun k (h : k < rs.length) => runG_succ (f := tbl es) h)
  have HTS := Lib.hid (fun k (h : k < rs.length) => runT_succ (f := tbl es) h)
  have HTA := Lib.hid (runT_all (rs := rs) (f := tbl es))
  rw [hm] at HSO HTA
  have HR := Lib.hid hr2
  have HM := Lib.hid hm
  have HGD := Lib.hid hg
  rw [h0] at CF
  generalize runR es (rs.map RB.l) = R at *
  generalize runS es (rs.map RB.l) = S' at *
  generalize runT rs (tbl es) = T at *
  generalize runG rs (tbl es) = G at *
  generalize tbl es = F0 at *
  clear z1 z4 h0 hn hm hr hr2 hs hs2 hg
  go_enter Tryz.func63, Tryz.ntmps63
  go_wp2_with fail
  refine CF.out.mono ?_
  rintro e w1 ⟨rfl, hx1⟩
  go_wp2_with fail
  refine (CT.out _ hx1).mono ?_
  rintro e w2 ⟨rfl, hm2, hx2⟩
  have hsz := hx1.size
  go_wp2
  go_loopw [21] (fun i wr => ∃ k : Nat, k ≤ m ∧ i = .int .i64 k ∧ StrMap wr w1.heap.size 2000 (G k) ∧ Okt (G k) ∧ Hid (R = T k) ∧ Ext w wr) (fun i _ => m - (intOf i).toNat)
  case atStart => exact ⟨0, Nat.zero_le _, rfl, by rw [HG0.out]; exact hm2.mono z2, by rw [HG0.out]; exact HOK.out, HT0.out, hx1.trans hx2⟩
  case round =>
    clear hm2 hx2
    obtain ⟨k, hk, rfl, hmk, hok, HRT, hxr⟩ := hrel
    by_cases hlt : k < m
    · have hk1 : k < rs.length := by rw [HM.out]; exact hlt
      obtain ⟨b, o, rfl, hX⟩ := (HR.out.ext hxr) (fun e => by rw [e] at hk1; exact absurd hk1 (Nat.not_lt_zero _))
      have x0 := hX.c0 k hk1; have x1 := hX.c1 k hk1; have x2 := hX.c2 k hk1; have x3 := hX.c3 k hk1; have x4 := hX.c4 k hk1
      have hrr := HRR.out k hk1
      have hgs := HGS.out k hk1
      have hts := HTS.out k hk1
      rw [← HRT.out] at hts
      have CD := Lib.hid (fun W (h : Ext wr W) => do_any rs[k] w1.heap.size 2000 (G k) W (HGD.out.toGood.ext (hxr.trans h)) (hmk.ext h) hok (by omega) hrr)
      have HOKN := Lib.hid (fun h => okt_next hok hrr h)
      rw [← hgs] at CD HOKN
      generalize doE rs[k].l (G k) = ek at *
      clear hrr hgs
      generalize rs[k] = r at *
      obtain ⟨r0, r1, r2, r3, r4⟩ := r
      dsimp only at x0 x1 x2 x3 x4
      clear hX
      have b1 := Blk.new wr 23 #[.int .i64 r0, .string r1, .string r2, .string r3, .string r4]
      have hc1 := b1.cell
      clear b1
      by_cases he : ek = 0
      · subst he
        have HT := Lib.hid (show R = T (k + 1) from by rw [hts, if_pos rfl])
        have HO := Lib.hid (HOKN.out rfl)
        clear hts
        go_wp2_with fail
        refine (CD.out _ ((Ext.refl wr).alloc _)).mono ?_
        rintro e w3 ⟨rfl, hm3, hg3⟩
        have hx3 : Ext w w3 := (hxr.alloc _).row hg3 hsz
        have HM3 := Lib.hid (hm3 (by trivial))
        clear hm3
        go_wp2
        go_roundw
        case rel => exact ⟨k + 1, by omega, by go_num, HM3.out, HO.out, HT.out, hx3⟩
        case measure => simp [intOf]; omega
      · have HT := Lib.hid (show R = ek from by rw [hts, if_neg he])
        have HS0 := Lib.hid (HSE.out (by rw [HT.out]; exact he))
        have hne : (ek != 0) = true := by rw [bne_iff_ne]; exact he
        clear hts he
        go_wp2_with fail
        refine (CD.out _ ((Ext.refl wr).alloc _)).mono ?_
        rintro e w3 ⟨rfl, hm3, hg3⟩
        have hx3 : Ext w w3 := (hxr.alloc _).row hg3 hsz
        clear hm3
        go_wp2
        go_ret2
        exact ⟨.slice none 0 0, by rw [HT.out] <;> rfl, by rw [HS0.out]; exact World.ownsRow_nil _ _ _ _, hx3⟩
    · obtain rfl : k = m := by omega
      have HE := Lib.hid (show R = 0 from by rw [HRT.out, HTA.out])
      have HS0 := Lib.hid (HSO.out HE.out)
      have CS := settings_any w1.heap.size 2000 (G k) wr hmk (by omega) hok
      go_wp2_with fail
      refine CS.mono ?_
      rintro e w4 ⟨v, rfl, hown, hx4⟩
      go_wp2
      go_ret2
      exact ⟨v, by rw [HE.out] <;> rfl, by rw [HS0.out]; exact tab_base hown hxr.size, hxr.trans hx4⟩

open Classical in
set_option maxHeartbeats 16000000 in
set_option maxRecDepth 100000 in
theorem RunOf_any (A A2 : Option Addr) (n m c c2 : Nat) (es : List Se) (rs : List RB) (w : World) (hg : GoodN w) (hn : es.length = n) (hm : rs.length = m) (hr : RdE w A es) (hr2 : RdU w A2 rs) (hs : SmallE es) (hs2 : SmallU rs) (hl : n ≤ 2097152) (hl2 : m ≤ 2097152) :
    Calls Tryz.prog 68 #[.slice A n c, .slice A2 m c2] w fun e w' => ∃ v, e = .returned (.tuple #[v, .int .i64 (runR es (rs.map RB.l))]) ∧ SeOwn w.heap.size (runS es (rs.map RB.l)) v w' ∧ Ext w w' := by
  have CF := Lib.hid (RunError_any A A2 n m c c2 es rs w hg.toGood hn hm hr hr2 hs hs2 hl hl2)
  have CT := Lib.hid (fun W (h : Ext w W) => Facts_any A n c es W hn (hr.ext h) hs hl)
  by_cases h0 : runErr es (rs.map RB.l) = 0
  rotate_left
  · obtain ⟨e1, e2⟩ := runR_bad h0
    rw [e1, e2]
    clear e1 e2
    generalize runErr es (rs.map RB.l) = E at *
    have hne : (E != 0) = true := by rw [bne_iff_ne]; exact h0
    clear h0 CT hn hm hr hr2 hs hs2 hg
    go_enter Tryz.func68, Tryz.ntmps68
    go_wp2_with fail
    refine CF.out.mono ?_
    rintro e w1 ⟨rfl, hx1⟩
    go_wp2
    go_ret2
    exact ⟨_, rfl, World.ownsRow_nil _ _ _ _, hx1⟩
  obtain ⟨z1, z2, z3, z4⟩ := runErr_zero h0
  rw [List.length_map] at z3
  rw [hn] at z2
  rw [hm] at z3
  have HRR := Lib.hid (fun k (h : k < rs.length) => z4 rs[k].l (List.mem_map.2 ⟨_, List.getElem_mem h, rfl⟩))
  have HOK := Lib.hid (okt_tbl z1)
  have HT0 := Lib.hid ((runR_good h0).trans (runT_zero rs (tbl es)).symm)
  have HSE := Lib.hid (runS_err (es := es) (rs := rs.map RB.l))
  have HSO := Lib.hid ((fun h => by rw [runS_ok h, runG_all]) : runR es (rs.map RB.l) = 0 → runS es (rs.map RB.l) = seL (runG rs (tbl es) rs.length))
  have HG0 := Lib.hid (runG_zero rs (tbl es))
  have HGS := Lib.hid (fun k (h : k < rs.length) => runG_succ (f := tbl es) h)
  have HTS := Lib.hid (fun k (h : k < rs.length) => runT_succ (f := tbl es) h)
  have HTA := Lib.hid (runT_all (rs := rs) (f := tbl es))
  rw [hm] at HSO HTA
  have HR := Lib.hid hr2
  have HM := Lib.hid hm
  have HGD := Lib.hid hg
  rw [h0] at CF
  generalize runR es (rs.map RB.l) = R at *
  generalize runS es (rs.map RB.l) = S' at *
  generalize runT rs (tbl es) = T at *
  generalize runG rs (tbl es) = G at *
  generalize tbl es = F0 at *
  clear z1 z4 h0 hn hm hr hr2 hs hs2 hg
  go_enter Tryz.func68, Tryz.ntmps68
  go_wp2_with fail
  refine CF.out.mono ?_
  rintro e w1 ⟨rfl, hx1⟩
  go_wp2_with fail
  refine (CT.out _ hx1).mono ?_
  rintro e w2 ⟨rfl, hm2, hx2⟩
  have hsz := hx1.size
  go_wp2
  go_loopw [21] (fun i wr => ∃ k : Nat, k ≤ m ∧ i = .int .i64 k ∧ StrMap wr w1.heap.size 2000 (G k) ∧ Okt (G k) ∧ Hid (R = T k) ∧ Ext w wr) (fun i _ => m - (intOf i).toNat)
  case atStart => exact ⟨0, Nat.zero_le _, rfl, by rw [HG0.out]; exact hm2.mono z2, by rw [HG0.out]; exact HOK.out, HT0.out, hx1.trans hx2⟩
  case round =>
    clear hm2 hx2
    obtain ⟨k, hk, rfl, hmk, hok, HRT, hxr⟩ := hrel
    obtain ⟨wo, rfl⟩ : ∃ wo : World, wo = wr := ⟨_, rfl⟩
    by_cases hlt : k < m
    · have hk1 : k < rs.length := by rw [HM.out]; exact hlt
      obtain ⟨b, o, rfl, hX⟩ := (HR.out.ext hxr) (fun e => by rw [e] at hk1; exact absurd hk1 (Nat.not_lt_zero _))
      have x0 := hX.c0 k hk1; have x1 := hX.c1 k hk1; have x2 := hX.c2 k hk1; have x3 := hX.c3 k hk1; have x4 := hX.c4 k hk1
      have hrr := HRR.out k hk1
      have hgs := HGS.out k hk1
      have hts := HTS.out k hk1
      rw [← HRT.out] at hts
      have CO := Lib.hid (fun W (h : Ext wo W) => one_any rs[k] w1.heap.size 2000 (G k) W (hmk.ext h) hok (by omega) hrr)
      have HOKN := Lib.hid (fun h => okt_next hok hrr h)
      have HKL := Lib.hid (fun (x v : Str) (hx : doF rs[k].l (G k) x = some v) => do_key_len hok hrr hx)
      have hre := refE_eq hok hrr
      have HRE := Lib.hid (show refE rs[k].l (G k) = if offT (G (k + 1)) then 5 else if 2000 < (keysOf (G (k + 1))).length then 4 else 0 from by rw [hgs]; rfl)
      rw [hre] at HRE
      rw [← hgs] at CO HOKN HKL
      generalize doE rs[k].l (G k) = ek at *
      have HTS1 := Lib.hid hts
      clear hrr hgs hre hts
      generalize rs[k] = r at *
      obtain ⟨r0, r1, r2, r3, r4⟩ := r
      dsimp only at x0 x1 x2 x3 x4
      clear hX
      have b1 := Blk.new wo 23 #[.int .i64 r0, .string r1, .string r2, .string r3, .string r4]
      have hc1 := b1.cell
      clear b1
      go_wp2_with fail
      refine (CO.out _ ((Ext.refl wo).alloc _)).mono ?_
      rintro e w3 ⟨rfl, hm3, hg3⟩
      have hx3 : Ext w w3 := (hxr.alloc _).row hg3 hsz
      have hsz3 := hx3.size
      have hlt3 := hm3.lt
      clear hc1 x0 x1 x2 x3 x4
      go_wp2_with (first
        | (at_range; refine wp_range_t _ rfl _ 178 rfl Tryz.underlying178 w1.heap.size (2000 + 2000 + 2) (G (k + 1)) rfl hm3 ?_; intro w4 cnt0 hrg0 hg0 hs0)
        | go_in)
      go_frame
      have hx4 : Ext w w4 := hx3.trans (grown_none hg0)
      clear hg0 hs0
      go_loopw [10] (fun _ wr => ∃ (left : Str → Bool) (cnt : Nat), RangeT wr w1.heap.size w3.heap.size (2000 + 2000 + 2) (G (k + 1)) left cnt ∧ Hid (∀ y, (G (k + 1) y).isSome = true → left y = false → pathL y = true) ∧ Ext w wr) (fun _ wr => wr.rangeLeft w1.heap.size w3.heap.size)
      case atStart => exact ⟨_, cnt0, hrg0, (fun y h1 h2 => by rw [h1] at h2; cases h2), hx4⟩
      case round =>
        clear hrg0 hx4
        obtain ⟨left, cnt, hrg, HP, hxq⟩ := hrel
        go_wp2_with (first
          | (at_next; refine wp_next_t _ rfl _ rfl w1.heap.size w3.heap.size (2000 + 2000 + 2) (G (k + 1)) left cnt rfl hrg ?_ ?_)
          | go_in)
        · intro hl0
          have HNO := Lib.hid (show ¬ offT (G (k + 1)) from by
            rintro ⟨y, hy, hp⟩
            rw [HP.out y hy (hl0 y)] at hp; cases hp)
          have hmq := hrg.owns
          have hlen := hmq.len (t := 178) Tryz.underlying178 3
          have HE0 := Lib.hid (show ek = if 2000 < (keysOf (G (k + 1))).length then 4 else 0 from by rw [HRE.out, if_neg HNO.out])
          have HMQ := Lib.hid hmq.tight
          clear hrg hl0 hmq
          generalize (keysOf (G (k + 1))).length = N at *
          by_cases hN : 2000 < N
          · have HT := Lib.hid (show R = 4 from by rw [HTS1.out, HE0.out, if_pos hN, if_neg (by decide)])
            have HS0 := Lib.hid (HSE.out (by rw [HT.out]; decide))
            go_wp2
            go_ret2
            exact ⟨.slice none 0 0, by rw [HT.out] <;> rfl, by rw [HS0.out]; exact World.ownsRow_nil _ _ _ _, hxq⟩
          · have HE1 := Lib.hid (show ek = 0 from by rw [HE0.out, if_neg hN])
            have HT := Lib.hid (show R = T (k + 1) from by rw [HTS1.out, if_pos HE1.out])
            have HO := Lib.hid (HOKN.out HE1.out)
            go_wp2
            go_roundw
            case rel => exact ⟨k + 1, by omega, by go_num, HMQ.out.mono (by omega), HO.out, HT.out, hxq⟩
            case measure => simp [intOf]; omega
        · intro x c w5 cnt1 hlx hfx hrg1 hcl hg1 hs1 hen
          have hx5 : Ext w w5 := hxq.row hg1 (by omega)
          have HFX := Lib.hid hfx
          have HRG := Lib.hid hrg1
          have HLE := Lib.hid hrg.left_eq
          have HXS := Lib.hid (show x.size ≤ 400 from by have := HKL.out _ _ hfx; rwa [bs_length] at this)
          clear hrg hlx hfx hrg1 hg1 hs1
          have CP := Lib.hid (PathOf_any x w5 (HGD.out.toGood.ext hx5) (by have := HXS.out; omega))
          cases hp : pathL (bs x)
          · rw [hp] at CP
            have HE1 := Lib.hid (show ek = 5 from by rw [HRE.out, if_pos ⟨bs x, by rw [HFX.out]; rfl, hp⟩])
            have HT := Lib.hid (show R = 5 from by rw [HTS1.out, HE1.out, if_neg (by decide)])
            have HS0 := Lib.hid (HSE.out (by rw [HT.out]; decide))
            clear hp
            go_wp2_with fail
            refine CP.out.mono ?_
            rintro e w6 ⟨rfl, hx6⟩
            go_wp2
            go_ret2
            exact ⟨.slice none 0 0, by rw [HT.out] <;> rfl, by rw [HS0.out]; exact World.ownsRow_nil _ _ _ _, hx5.trans hx6⟩
          · rw [hp] at CP
            have HPP := Lib.hid hp
            clear hp
            go_wp2_with fail
            refine CP.out.mono ?_
            rintro e w6 ⟨rfl, hx6⟩
            have HL6 := Lib.hid (HRG.out.grown (hx6.by none) (by simp) (by simp))
            go_wp2
            go_roundw
            case rel => exact ⟨_, cnt1, HL6.out, (fun y h1 h2 => by
              by_cases e : y = bs x
              · rw [e]; exact HPP.out
              · have e2 : (y == bs x) = false := by simpa using e
                exact HP.out y h1 (by simpa [e2] using h2)), hx5.trans hx6⟩
            case measure => rw [HL6.out.left_eq, HLE.out]; exact hcl
    · obtain rfl : k = m := by omega
      have HE := Lib.hid (show R = 0 from by rw [HRT.out, HTA.out])
      have HS0 := Lib.hid (HSO.out HE.out)
      have CS := Listed_any w1.heap.size 2000 (G k) wo hmk (by omega) hok
      go_wp2_with fail
      refine CS.mono ?_
      rintro e w4 ⟨v, rfl, hown, hx4⟩
      go_wp2
      go_ret2
      exact ⟨v, by rw [HE.out] <;> rfl, by rw [HS0.out]; exact tab_base hown hxr.size, hxr.trans hx4⟩
end Go.Proofs.YtghhjlcbcojcnaaGreatDoor

namespace Go.Proofs.YtghhjlcbcojcnaaGreatDoor
open Go.RowKit

/-! ### Rules that a call makes -/
def row5 (r : Ru) : List Value := ru5 r.b
def rowsU (l : List Ru) : List Value := l.flatMap row5
theorem row5_length (r : Ru) : (row5 r).length = 5 := rfl
theorem rowsU_snoc (l : List Ru) (r : Ru) : rowsU (l ++ [r]) = rowsU l ++ row5 r := by simp [rowsU]
theorem rowsU_get : ∀ (l : List Ru) (k j : Nat) (h : k < l.length) (_ : j < 5), (rowsU l)[k * 5 + j]? = (row5 l[k])[j]?
  | c :: l, 0, j, _, hj => by
    simp only [rowsU, List.flatMap_cons, Nat.zero_mul, Nat.zero_add, List.getElem_cons_zero]
    rw [List.getElem?_append_left (by rw [row5_length]; exact hj)]
  | c :: l, k + 1, j, h, hj => by
    have ih := rowsU_get l k j (by simpa using h) hj
    simp only [rowsU, List.flatMap_cons, List.getElem_cons_succ] at ih ⊢
    rw [List.getElem?_append_right (by rw [row5_length]; omega), row5_length, show (k + 1) * 5 + j - 5 = k * 5 + j by omega]
    exact ih
theorem info_rule : (Tryz.prog.info? 23).map (fun i => (i.zero, i.size, i.bytes)) = some (some (.agg #[.int .i64 0, .string ⟨#[]⟩, .string ⟨#[]⟩, .string ⟨#[]⟩, .string ⟨#[]⟩]), 5, 72) := by kernel_rfl
theorem own_snocU {w : World} {B K : Nat} {l : List Ru} {r : Ru} {v : Value} {xs : List Value} (h : w.ownsRow B 23 5 v (K + 1) (rowsU l ++ xs)) (hx : xs = row5 r) : w.ownsRow B 23 5 v (K + 1) (rowsU (l ++ [r])) := by
  rw [rowsU_snoc, ← hx]; exact h
/-- the inverses of rules, and their errors -/
def invsL (rs : List RB) : List Ru := rs.map fun r => (invL r.l).1
def invsE (rs : List RB) : List Int := rs.map fun r => (invL r.l).2
theorem invE_map (rs : List RB) : invE (rs.map RB.l) = if 100 < rs.length then 4 else firstI (invsE rs) := by simp [invE, invsE]; rfl
theorem invS_map {rs : List RB} (h : invE (rs.map RB.l) = 0) : invS (rs.map RB.l) = (invsL rs).reverse := by rw [invS, if_pos h]; simp [invsL]
theorem invS_bad {rs : List Ru} (h : ¬ invE rs = 0) : invS rs = [] := by rw [invS, if_neg h]
/-- turned round: what is read -/
theorem turned_rd {w : World} {g : Nat} {cs : Array Value} {X : List Ru} (h : Blk w g 23 cs) (hc : HoldU cs X.length (fun k => (X.getD (X.length - 1 - k) zeroR).b)) : RdU w (some ⟨g, 0, none⟩) (X.reverse.map Ru.b) := by
  intro _
  have key : ∀ k (hk : k < (X.reverse.map Ru.b).length) j, j < 5 → w.cell? ⟨g, 0 + k * 5 + j, none⟩ = (ru5 (X.reverse.map Ru.b)[k])[j]? := fun k hk j hj => by
    have hk2 : k < X.length := by simpa using hk
    rw [Nat.zero_add, h.cell, hc k hk2 j hj, List.getElem_map, List.getElem_reverse]
    simp [List.getD, List.getElem?_eq_getElem (show X.length - 1 - k < X.length by omega)]
  exact ⟨g, 0, rfl, fun k hk => key k hk 0 (by decide), fun k hk => key k hk 1 (by decide), fun k hk => key k hk 2 (by decide), fun k hk => key k hk 3 (by decide), fun k hk => key k hk 4 (by decide)⟩
theorem hold_of {w : World} {B : Nat} {X : List Ru} {v : Value} (h : w.ownsRow B 23 5 v X.length (rowsU X)) :
    (v = .slice none 0 0 ∧ X.length = 0) ∨ ∃ g c cs, v = .slice (some ⟨g, 0, none⟩) X.length c ∧ B ≤ g ∧ Blk w g 23 cs ∧ HoldU cs X.length (fun k => (X.getD k zeroR).b) := by
  rcases h.2 with h1 | ⟨g, cap, cur, e1, e2, e3, e4, e5, e6, e7⟩
  · exact .inl h1
  · refine .inr ⟨g, cap, cur, e1, e2, e3, fun k hk j hj => ?_⟩
    have := rowsU_get X k j hk hj
    rw [← e7, List.getElem?_take, if_pos (by omega), Array.getElem?_toList] at this
    rw [this]
    simp [List.getD, List.getElem?_eq_getElem hk, row5]
set_option maxHeartbeats 400000 in
theorem Reverse_nil (w : World) : Calls Tryz.prog 144 #[.slice none 0 0] w fun e w' => e = .returned (.tuple #[]) ∧ w = w' := by
  go_enter Tryz.func144, Tryz.ntmps144
  go_wp2
  go_loop [2, 3] (fun s2 s3 => s2 = .int .i64 0 ∧ s3 = .int .i64 (-1)) (fun _ _ => 0)
  case atStart => exact ⟨rfl, rfl⟩
  case round =>
    obtain ⟨rfl, rfl⟩ := hrel
    go_wp2
    go_end0
    exact ⟨rfl, rfl⟩

set_option maxHeartbeats 16000000 in
set_option maxRecDepth 100000 in
theorem InverseAll_any (A2 : Option Addr) (m c2 : Nat) (rs : List RB) (w : World) (hg : Good w) (hm : rs.length = m) (hr2 : RdU w A2 rs) (hs2 : SmallU rs) (hl2 : m ≤ 2097152) :
    Calls Tryz.prog 64 #[.slice A2 m c2] w fun e w' => ∃ A c, e = .returned (.tuple #[.slice A (invS (rs.map RB.l)).length c, .int .i64 (invE (rs.map RB.l))]) ∧ RdU w' A ((invS (rs.map RB.l)).map Ru.b) ∧ Ext w w' := by
  have HN0 := Lib.hid (fun W => (fun h => absurd rfl h : RdU W none (([] : List Ru).map Ru.b)))
  have HSB := Lib.hid (invS_bad (rs := rs.map RB.l))
  have HSO := Lib.hid (invS_map (rs := rs))
  have HE0 := Lib.hid (invE_map rs)
  rw [hm] at HE0
  have CI := Lib.hid (fun W (h : Ext w W) k (hk : k < rs.length) => Inverse_any rs[k] W (hg.ext h) (hs2 _ (List.getElem_mem hk)))
  have HXG := Lib.hid (fun k (hk : k < rs.length) => (show (invsL rs)[k]? = some (invL rs[k].l).1 by simp [invsL, List.getElem?_eq_getElem hk]))
  have HEG := Lib.hid (fun k (hk : k < rs.length) => (show (invsE rs)[k]? = some (invL rs[k].l).2 by simp [invsE, List.getElem?_eq_getElem hk]))
  have HXL := Lib.hid (show (invsL rs).length = rs.length by simp [invsL])
  have HEL := Lib.hid (show (invsE rs).length = rs.length by simp [invsE])
  have HR := Lib.hid hr2
  have HM := Lib.hid hm
  generalize invS (rs.map RB.l) = S' at *
  generalize invE (rs.map RB.l) = E at *
  generalize invsL rs = X at *
  generalize invsE rs = L at *
  clear hm hr2 hs2 hg
  by_cases h1 : 100 < m
  · have HE := Lib.hid (show E = 4 from by rw [HE0.out, if_pos h1])
    have HS0 := Lib.hid (HSB.out (by rw [HE.out]; decide))
    go_enter Tryz.func64, Tryz.ntmps64
    go_wp2
    go_ret2
    exact ⟨none, 0, by rw [HE.out, HS0.out] <;> rfl, by rw [HS0.out]; exact HN0.out _, Ext.refl _⟩
  have HE1 := Lib.hid (show E = firstI L from by rw [HE0.out, if_neg h1])
  go_enter Tryz.func64, Tryz.ntmps64
  go_wp2
  go_loopw [14, 4] (fun i v wr => ∃ k : Nat, k ≤ m ∧ i = .int .i64 k ∧ (∀ x ∈ L.take k, x = 0) ∧ wr.ownsRow w.heap.size 23 5 v k (rowsU (X.take k)) ∧ Ext w wr) (fun i _ _ => m - (intOf i).toNat)
  case atStart => exact ⟨0, Nat.zero_le _, rfl, by simp, World.ownsRow_nil _ _ _ _, Ext.refl _⟩
  case round =>
    obtain ⟨k, hk, rfl, hall, hown, hxr⟩ := hrel
    have HALL := Lib.hid hall
    clear hall
    by_cases hlt : k < m
    · have hk1 : k < rs.length := by rw [HM.out]; exact hlt
      obtain ⟨b, o, rfl, hX⟩ := (HR.out.ext hxr) (fun e => by rw [e] at hk1; exact absurd hk1 (Nat.not_lt_zero _))
      have x0 := hX.c0 k hk1; have x1 := hX.c1 k hk1; have x2 := hX.c2 k hk1; have x3 := hX.c3 k hk1; have x4 := hX.c4 k hk1
      have CR := Lib.hid (fun W (h : Ext w W) => CI.out W h k hk1)
      obtain ⟨HKL, hge⟩ := List.getElem?_eq_some_iff.1 (HEG.out k hk1)
      have HGE := Lib.hid hge
      clear hge
      have HXT := Lib.hid (show X.take (k + 1) = X.take k ++ [(invL rs[k].l).1] from take_next (HXG.out k hk1))
      generalize (invL rs[k].l).2 = ek at *
      obtain ⟨q, hq⟩ : ∃ q : RB, (invL rs[k].l).1 = q.l := ⟨(invL rs[k].l).1.b, (Ru.b_l _).symm⟩
      rw [hq, ruX_l] at CR
      rw [hq] at HXT
      clear hq
      generalize rs[k] = r at *
      obtain ⟨r0, r1, r2, r3, r4⟩ := r
      obtain ⟨q0, q1, q2, q3, q4⟩ := q
      dsimp only at x0 x1 x2 x3 x4 CR
      have HROW := Lib.hid (show [.int .i64 q0, .string q1, .string q2, .string q3, .string q4] = row5 (RB.l ⟨q0, q1, q2, q3, q4⟩) from by simp [row5, ru5, Ru.b, RB.l])
      clear hX
      have b1 := Blk.new wr 23 #[.int .i64 r0, .string r1, .string r2, .string r3, .string r4]
      have hc1 := b1.cell
      clear b1
      have hsz := hxr.size
      by_cases he : ek = 0
      · subst he
        go_wp2_with fail
        refine (CR.out _ (hxr.alloc _)).mono ?_
        rintro e w2 ⟨rfl, hx2⟩
        have hxw2 := (hxr.alloc _).trans hx2
        have hsz2 := hxw2.size
        have hown2 := (own_ext hown (((Ext.refl wr).alloc (.cells #[.int .i64 r0, .string r1, .string r2, .string r3, .string r4] 23)).trans hx2)).alloc (.cells #[.int .i64 q0, .string q1, .string q2, .string q3, .string q4] 23)
        have b2 := Blk.new w2 23 #[.int .i64 q0, .string q1, .string q2, .string q3, .string q4]
        have hc2 := b2.cell
        clear b2 hc1
        go_wp2_with (at_builtin; refine wpList_app1g _ _ _ rfl _ _ 91 rfl (.agg #[.int .i64 0, .string ⟨#[]⟩, .string ⟨#[]⟩, .string ⟨#[]⟩, .string ⟨#[]⟩]) 5 72 Tryz.underlying91 info_rule rfl (by decide) (by decide) w.heap.size _ k _ rfl hown2 _ _ rfl (World.size_alloc _ _) rfl (by simp [Value.oneCell']) (by omega) (by simp; omega) ?_; intro v' w5 hown5 hx5 _)
        go_wp2
        go_roundw
        case rel => exact ⟨k + 1, by omega, by go_num, take_zero_succ HKL HALL.out HGE.out, by rw [HXT.out]; exact own_snocU hown5 HROW.out, hx5 _ (hxw2.alloc _) (Nat.le_refl _)⟩
        case measure => simp [intOf]; omega
      · have HE := Lib.hid (show E = ek from by
          rw [HE1.out, firstI_at HKL HALL.out (by rw [HGE.out]; exact he)]
          exact HGE.out)
        have HS0 := Lib.hid (HSB.out (by rw [HE.out]; exact he))
        have hne : (ek != 0) = true := by rw [bne_iff_ne]; exact he
        clear he
        go_wp2_with fail
        refine (CR.out _ (hxr.alloc _)).mono ?_
        rintro e w2 ⟨rfl, hx2⟩
        go_wp2
        go_ret2
        exact ⟨none, 0, by rw [HE.out, HS0.out] <;> rfl, by rw [HS0.out]; exact HN0.out _, ((hxr.alloc _).trans hx2).alloc _⟩
    · obtain rfl : k = m := by omega
      have HE := Lib.hid (show E = 0 from by
        rw [HE1.out]
        refine firstI_zero fun x hx => HALL.out x ?_
        rw [List.take_of_length_le (by rw [HEL.out, HM.out]; exact Nat.le_refl _)]
        exact hx)
      have HS0 := Lib.hid (HSO.out HE.out)
      have HXM := Lib.hid (show X.length = k from by rw [HXL.out, HM.out])
      have hxt : X.take k = X := List.take_of_length_le (by rw [HXM.out]; exact Nat.le_refl _)
      rw [hxt] at hown
      clear hxt
      rw [← HXM.out] at hown
      rcases hold_of hown with ⟨rfl, h0⟩ | ⟨g, cp, cs, rfl, hgB, hb, hH⟩
      · have HX0 := Lib.hid (List.eq_nil_of_length_eq_zero h0)
        clear hown h0
        go_wp2_with fail
        refine (Reverse_nil _).mono ?_
        rintro e w' ⟨rfl, rfl⟩
        go_wp2
        go_ret2
        exact ⟨none, 0, by rw [HE.out, HS0.out, HX0.out]; rfl, by rw [HS0.out, HX0.out]; exact HN0.out _, hxr⟩
      · have CV := Reverse_any g X.length cp cs _ wr hb hH (by rw [HXM.out]; omega)
        have HLR := Lib.hid (show S'.length = X.length from by rw [HS0.out, List.length_reverse])
        clear hown hH
        go_wp2_with fail
        refine CV.mono ?_
        rintro e w3 ⟨rfl, cs2, hb2, hH2, hg3⟩
        have HB2 := Lib.hid hb2
        have HH2 := Lib.hid hH2
        clear hb2 hH2
        go_wp2
        go_ret2
        exact ⟨some ⟨g, 0, none⟩, cp, by rw [HE.out, HLR.out] <;> rfl, by rw [HS0.out]; exact turned_rd HB2.out HH2.out, hxr.row hg3 hgB⟩

end Go.Proofs.YtghhjlcbcojcnaaGreatDoor
