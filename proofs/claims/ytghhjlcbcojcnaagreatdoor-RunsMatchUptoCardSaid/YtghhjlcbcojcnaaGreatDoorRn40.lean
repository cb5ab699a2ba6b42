/- Contract of outref2.CleanOf. (Printed by gen/rune.py.) -/
import Derived.Test.YtghhjlcbcojcnaaGreatDoorRn39

namespace Go.Proofs.YtghhjlcbcojcnaaGreatDoor
open Go.RowKit

set_option maxHeartbeats 32000000 in
set_option maxRecDepth 100000 in
theorem CleanOf_any (A A2 : Option Addr) (n m c c2 : Nat) (es : List Se) (rs : List RB) (w : World) (hg : Good w) (hn : es.length = n) (hm : rs.length = m) (hr : RdE w A es) (hr2 : RdU w A2 rs) (hs : SmallE es) (hl : n ≤ 2097152) (h0 : runR es (rs.map RB.l) = 0) :
    Calls Tryz.prog 71 #[.slice A n c, .slice A2 m c2] w fun e w' => e = .returned (.bool (clnT rs (tbl es) 0)) ∧ Ext w w' := by
  have CT := Lib.hid (Facts_any A n c es w hn hr hs hl)
  obtain ⟨z1, z2, z3, z4⟩ := runErr_zero (runR_zero h0)
  rw [List.length_map] at z3
  rw [hn] at z2
  rw [hm] at z3
  have HRR := Lib.hid (fun k (h : k < rs.length) => z4 rs[k].l (List.mem_map.2 ⟨_, List.getElem_mem h, rfl⟩))
  have HOK := Lib.hid (okt_tbl z1)
  have HT0 := Lib.hid (show runT rs (tbl es) 0 = 0 from by rw [runT_zero, ← runR_good (runR_zero h0), h0])
  have HG0 := Lib.hid (runG_zero rs (tbl es))
  have HGS := Lib.hid (fun k (h : k < rs.length) => runG_succ (f := tbl es) h)
  have HTS := Lib.hid (fun k (h : k < rs.length) => runT_ok (f := tbl es) h)
  have HCS := Lib.hid (fun k (h : k < rs.length) => clnT_succ (f := tbl es) h)
  have HCA := Lib.hid (clnT_all (rs := rs) (f := tbl es))
  rw [hm] at HCA
  have HR := Lib.hid hr2
  have HM := Lib.hid hm
  have HGD := Lib.hid hg
  generalize runT rs (tbl es) = T at *
  generalize clnT rs (tbl es) = CB at *
  generalize runG rs (tbl es) = G at *
  generalize tbl es = F0 at *
  obtain ⟨V, hV⟩ : ∃ V, CB 0 = V := ⟨_, rfl⟩
  rw [hV]
  have HV := Lib.hid hV
  clear z1 z4 h0 hn hm hr hr2 hs hg hV
  go_enter Tryz.func71, Tryz.ntmps71
  go_wp2_with fail
  refine CT.out.mono ?_
  rintro e w3 ⟨rfl, hm3, hx3⟩
  go_wp2
  go_loopw [19] (fun i wr => ∃ k : Nat, k ≤ m ∧ i = .int .i64 k ∧ StrMap wr w.heap.size 2000 (G k) ∧ Okt (G k) ∧ Hid (T k = 0) ∧ Hid (V = CB k) ∧ Ext w wr) (fun i _ => m - (intOf i).toNat)
  case atStart => exact ⟨0, Nat.zero_le _, rfl, by rw [HG0.out]; exact hm3.mono z2, by rw [HG0.out]; exact HOK.out, HT0.out, HV.out.symm, hx3⟩
  case round =>
    clear hm3 hx3
    obtain ⟨k, hk, rfl, hmk, hok, HTK, HVK, hxr⟩ := hrel
    obtain ⟨wo, rfl⟩ : ∃ wo : World, wo = wr := ⟨_, rfl⟩
    by_cases hlt : k < m
    · have hk1 : k < rs.length := by rw [HM.out]; exact hlt
      obtain ⟨b, o, rfl, hX⟩ := (HR.out.ext hxr) (fun e => by rw [e] at hk1; exact absurd hk1 (Nat.not_lt_zero _))
      have x0 := hX.c0 k hk1; have x1 := hX.c1 k hk1; have x2 := hX.c2 k hk1; have x3 := hX.c3 k hk1; have x4 := hX.c4 k hk1
      have hrr := HRR.out k hk1
      have hgs := HGS.out k hk1
      obtain ⟨hd0, ht1⟩ := HTS.out k hk1 HTK.out
      have hR := right_of hrr
      have hkc := kind_cases hR.lo hR.hi
      obtain ⟨s1, s2, s3, s4⟩ := right_size hrr
      have hlen := (doE_ok hd0).2
      have HO := Lib.hid (okt_next hok hrr hd0)
      rw [← hgs] at hlen HO
      have HN := Lib.hid hlen
      have HOC := Lib.hid hok
      have HLS := Lib.hid (HCS.out k hk1)
      rw [← HVK.out] at HLS
      have HT1 := Lib.hid ht1
      have CO := Lib.hid (fun W N (h : StrMap W w.heap.size N (G k)) (hN : N ≤ 2000) => one_any rs[k] w.heap.size N (G k) W h hok (by omega) hrr)
      rw [← hgs] at CO
      clear hrr hgs hd0 ht1 hlen hR hok
      generalize rs[k] = r at *
      obtain ⟨r0, r1, r2, r3, r4⟩ := r
      dsimp only at x0 x1 x2 x3 x4 s1 s2 s3 s4
      dsimp only [RB.l] at hkc HLS
      clear hX
      -- the rest of a round
      have NEXT := Lib.hid (fun (w4 w5 : World) (N : Nat) (hP : ¬ losesT ⟨r0, bs r1, bs r2, bs r3, bs r4⟩ (G k)) (hx4 : Ext w w4) (hm5 : StrMap w5 w.heap.size N (G (k + 1))) (hg5 : w4.grownBy w5 (some w.heap.size)) =>
        (show StrMap w5 w.heap.size 2000 (G (k + 1)) ∧ Okt (G (k + 1)) ∧ Hid (T (k + 1) = 0) ∧ Hid (V = CB (k + 1)) ∧ Ext w w5 from
          ⟨hm5.tight.mono HN.out, HO.out, HT1.out, (by rw [Bool.eq_iff_iff, HLS.out]; exact ⟨fun h => h.2, fun h => ⟨hP, h⟩⟩), hx4.row hg5 (Nat.le_refl _)⟩))
      have STOP := Lib.hid (fun (hP : losesT ⟨r0, bs r1, bs r2, bs r3, bs r4⟩ (G k)) => (show V = false from by
          cases V with
          | false => rfl
          | true => exact absurd hP (HLS.out.1 rfl).1))
      have hsz := hxr.size
      have hmlt := hmk.lt
      clear HO HN HT1 HLS
      rcases hkc with rfl | rfl | rfl | rfl | rfl | rfl | rfl | rfl
      · have b1 := Blk.new wo 23 #[.int .i64 1, .string r1, .string r2, .string r3, .string r4]
        have hc1 := b1.cell; have hf1 := b1.free; have hz1 := b1.lt
        have hm1 := hmk.ext ((Ext.refl wo).alloc (.cells #[.int .i64 1, .string r1, .string r2, .string r3, .string r4] 23))
        have hx1 := hxr.alloc (.cells #[.int .i64 1, .string r1, .string r2, .string r3, .string r4] 23)
        have hlook := hm1.look (t := 178) Tryz.underlying178 r2 (by omega)
        have HI := Lib.hid (show losesT ⟨1, bs r1, bs r2, bs r3, bs r4⟩ (G k) ↔ (G k (bs r2)).isSome = true from by simp [losesT])
        generalize (G k (bs r2)).isSome = I at *
        generalize (G k (bs r2)).getD [] = U at *
        cases I with
        | true =>
          have HE := Lib.hid (STOP.out (HI.out.2 rfl))
          go_wp2
          go_ret
          exact ⟨by rw [HE.out] <;> rfl, hx1⟩
        | false =>
          have HNP := Lib.hid (fun h => by cases HI.out.1 h : ¬ losesT ⟨1, bs r1, bs r2, bs r3, bs r4⟩ (G k))
          go_wp2_with fail
          refine (CO.out _ 2000 hm1 (by omega)).mono ?_
          rintro e w5 ⟨rfl, hm5, hg5⟩
          have NX := Lib.hid (NEXT.out _ _ _ HNP.out hx1 hm5 hg5)
          go_wp2
          go_roundw
          case rel => exact ⟨k + 1, by omega, by go_num, NX.out⟩
          case measure => simp [intOf]; omega
      · have b1 := Blk.new wo 23 #[.int .i64 2, .string r1, .string r2, .string r3, .string r4]
        have hc1 := b1.cell; have hf1 := b1.free; have hz1 := b1.lt
        have hm1 := hmk.ext ((Ext.refl wo).alloc (.cells #[.int .i64 2, .string r1, .string r2, .string r3, .string r4] 23))
        have hx1 := hxr.alloc (.cells #[.int .i64 2, .string r1, .string r2, .string r3, .string r4] 23)
        have HI := Lib.hid (show losesT ⟨2, bs r1, bs r2, bs r3, bs r4⟩ (G k) ↔ ∃ x, (G k x).isSome = true ∧ underL x (bs r2) = true from by simp [losesT])
        go_wp2_with (first
          | (at_range; refine wp_range_t _ rfl _ 178 rfl Tryz.underlying178 w.heap.size 2000 (G k) rfl hm1 ?_; intro w4 cnt0 hrg0 hg0 hs0; simp only [World.size_alloc] at hrg0 ⊢)
          | go_in)
        go_frame
        have hx4 : Ext w w4 := hx1.trans (grown_none hg0)
        have b4 := b1.ext (grown_none hg0)
        clear hg0 hs0 b1 hc1 hf1 hz1 hm1 hx1
        go_loopw [10] (fun _ wr => ∃ (left : Str → Bool) (cnt : Nat), RangeT wr w.heap.size (wo.heap.size + 1) 2000 (G k) left cnt ∧ Hid (∀ y, (G k y).isSome = true → left y = false → underL y (bs r2) = false) ∧ Blk wr wo.heap.size 23 #[.int .i64 2, .string r1, .string r2, .string r3, .string r4] ∧ Ext w wr) (fun _ wr => wr.rangeLeft w.heap.size (wo.heap.size + 1))
        case atStart => exact ⟨_, cnt0, hrg0, (fun y h1 h2 => by rw [h1] at h2; cases h2), b4, hx4⟩
        case round =>
          clear hrg0 hx4 b4
          obtain ⟨left, cnt, hrg, HP, bK, hxq⟩ := hrel
          have hcb := bK.cell; have hfb := bK.free; have hzb := bK.lt
          go_wp2_with (first
            | (at_next; refine wp_next_t _ rfl _ rfl w.heap.size (wo.heap.size + 1) 2000 (G k) left cnt rfl hrg ?_ ?_)
            | go_in)
          · intro hl0
            have HNP := Lib.hid (show ¬ losesT ⟨2, bs r1, bs r2, bs r3, bs r4⟩ (G k) from fun h => by
              obtain ⟨y, hy, hu⟩ := HI.out.1 h
              rw [HP.out y hy (hl0 y)] at hu; cases hu)
            have hmq := hrg.owns
            clear hrg hl0
            go_wp2_with fail
            refine (CO.out _ 2000 hmq (by omega)).mono ?_
            rintro e w5 ⟨rfl, hm5, hg5⟩
            have NX := Lib.hid (NEXT.out _ _ _ HNP.out hxq hm5 hg5)
            go_wp2
            go_roundw
            case rel => exact ⟨k + 1, by omega, by go_num, NX.out⟩
            case measure => simp [intOf]; omega
          · intro x c w5 cnt1 hlx hfx hrg1 hcl hg1 hs1 hen
            have hx5 : Ext w w5 := hxq.row hg1 (by omega)
            have b5 := bK.turned hg1 (by simp)
            obtain ⟨xs, cs⟩ := okt_key HOC.out hfx
            have HFX := Lib.hid hfx
            have HRG := Lib.hid hrg1
            have HLE := Lib.hid hrg.left_eq
            clear hrg hlx hfx hrg1 hg1 hs1 hcb hfb hzb bK
            have hcb := b5.cell; have hfb := b5.free; have hzb := b5.lt
            have CB2 := Lib.hid (rbelow_any x r2 w5 (by omega) (by omega))
            cases hu : underL (bs x) (bs r2)
            · rw [hu] at CB2
              have HU := Lib.hid hu
              have GO := Lib.hid (show ∀ y, (G k y).isSome = true → (left y && !(y == bs x)) = false → underL y (bs r2) = false from fun y h1 h2 => by
                by_cases e : y = bs x
                · rw [e]; exact HU.out
                · have e2 : (y == bs x) = false := by simpa using e
                  exact HP.out y h1 (by simpa [e2] using h2))
              clear hu
              go_wp2_with fail
              refine CB2.out.mono ?_
              rintro e w' ⟨q, rfl, -, rfl⟩
              go_wp2
              go_roundw
              case rel => exact ⟨_, cnt1, HRG.out, GO.out, b5, hx5⟩
              case measure => rw [HRG.out.left_eq, HLE.out]; exact hcl
            · rw [hu] at CB2
              have HE := Lib.hid (STOP.out (HI.out.2 ⟨bs x, by rw [HFX.out]; rfl, hu⟩))
              clear hu
              go_wp2_with fail
              refine CB2.out.mono ?_
              rintro e w' ⟨q, rfl, -, rfl⟩
              go_wp2
              go_ret
              exact ⟨by rw [HE.out] <;> rfl, hx5⟩
      · have b1 := Blk.new wo 23 #[.int .i64 3, .string r1, .string r2, .string r3, .string r4]
        have hc1 := b1.cell; have hf1 := b1.free; have hz1 := b1.lt
        have hm1 := hmk.ext ((Ext.refl wo).alloc (.cells #[.int .i64 3, .string r1, .string r2, .string r3, .string r4] 23))
        have hx1 := hxr.alloc (.cells #[.int .i64 3, .string r1, .string r2, .string r3, .string r4] 23)
        have HNP := Lib.hid (show ¬ losesT ⟨3, bs r1, bs r2, bs r3, bs r4⟩ (G k) from by simp [losesT])
        go_wp2_with fail
        refine (CO.out _ 2000 hm1 (by omega)).mono ?_
        rintro e w5 ⟨rfl, hm5, hg5⟩
        have NX := Lib.hid (NEXT.out _ _ _ HNP.out hx1 hm5 hg5)
        go_wp2
        go_roundw
        case rel => exact ⟨k + 1, by omega, by go_num, NX.out⟩
        case measure => simp [intOf]; omega
      · have b1 := Blk.new wo 23 #[.int .i64 4, .string r1, .string r2, .string r3, .string r4]
        have hc1 := b1.cell; have hf1 := b1.free; have hz1 := b1.lt
        have hm1 := hmk.ext ((Ext.refl wo).alloc (.cells #[.int .i64 4, .string r1, .string r2, .string r3, .string r4] 23))
        have hx1 := hxr.alloc (.cells #[.int .i64 4, .string r1, .string r2, .string r3, .string r4] 23)
        have HNP := Lib.hid (show ¬ losesT ⟨4, bs r1, bs r2, bs r3, bs r4⟩ (G k) from by simp [losesT])
        go_wp2_with fail
        refine (CO.out _ 2000 hm1 (by omega)).mono ?_
        rintro e w5 ⟨rfl, hm5, hg5⟩
        have NX := Lib.hid (NEXT.out _ _ _ HNP.out hx1 hm5 hg5)
        go_wp2
        go_roundw
        case rel => exact ⟨k + 1, by omega, by go_num, NX.out⟩
        case measure => simp [intOf]; omega
      · have b1 := Blk.new wo 23 #[.int .i64 5, .string r1, .string r2, .string r3, .string r4]
        have hc1 := b1.cell; have hf1 := b1.free; have hz1 := b1.lt
        have hm1 := hmk.ext ((Ext.refl wo).alloc (.cells #[.int .i64 5, .string r1, .string r2, .string r3, .string r4] 23))
        have hx1 := hxr.alloc (.cells #[.int .i64 5, .string r1, .string r2, .string r3, .string r4] 23)
        have HNP := Lib.hid (show ¬ losesT ⟨5, bs r1, bs r2, bs r3, bs r4⟩ (G k) from by simp [losesT])
        go_wp2_with fail
        refine (CO.out _ 2000 hm1 (by omega)).mono ?_
        rintro e w5 ⟨rfl, hm5, hg5⟩
        have NX := Lib.hid (NEXT.out _ _ _ HNP.out hx1 hm5 hg5)
        go_wp2
        go_roundw
        case rel => exact ⟨k + 1, by omega, by go_num, NX.out⟩
        case measure => simp [intOf]; omega
      · have b1 := Blk.new wo 23 #[.int .i64 6, .string r1, .string r2, .string r3, .string r4]
        have hc1 := b1.cell; have hf1 := b1.free; have hz1 := b1.lt
        have hm1 := hmk.ext ((Ext.refl wo).alloc (.cells #[.int .i64 6, .string r1, .string r2, .string r3, .string r4] 23))
        have hx1 := hxr.alloc (.cells #[.int .i64 6, .string r1, .string r2, .string r3, .string r4] 23)
        have HNP := Lib.hid (show ¬ losesT ⟨6, bs r1, bs r2, bs r3, bs r4⟩ (G k) from by simp [losesT])
        go_wp2_with fail
        refine (CO.out _ 2000 hm1 (by omega)).mono ?_
        rintro e w5 ⟨rfl, hm5, hg5⟩
        have NX := Lib.hid (NEXT.out _ _ _ HNP.out hx1 hm5 hg5)
        go_wp2
        go_roundw
        case rel => exact ⟨k + 1, by omega, by go_num, NX.out⟩
        case measure => simp [intOf]; omega
      · have b1 := Blk.new wo 23 #[.int .i64 7, .string r1, .string r2, .string r3, .string r4]
        have hc1 := b1.cell; have hf1 := b1.free; have hz1 := b1.lt
        have hm1 := hmk.ext ((Ext.refl wo).alloc (.cells #[.int .i64 7, .string r1, .string r2, .string r3, .string r4] 23))
        have hx1 := hxr.alloc (.cells #[.int .i64 7, .string r1, .string r2, .string r3, .string r4] 23)
        have hlook := hm1.look (t := 178) Tryz.underlying178 r1 (by omega)
        have hI : losesT ⟨7, bs r1, bs r2, bs r3, bs r4⟩ (G k) ↔ G k (bs r1) = some (bs r4) := by simp [losesT]
        cases hf : G k (bs r1) with
        | none =>
          rw [hf] at hlook hI
          simp only [Option.isSome_none, Option.getD_none] at hlook
          have HNP := Lib.hid (fun h => by cases hI.1 h : ¬ losesT ⟨7, bs r1, bs r2, bs r3, bs r4⟩ (G k))
          clear hf hI
          go_wp2_with fail
          refine (CO.out _ 2000 hm1 (by omega)).mono ?_
          rintro e w5 ⟨rfl, hm5, hg5⟩
          have NX := Lib.hid (NEXT.out _ _ _ HNP.out hx1 hm5 hg5)
          go_wp2
          go_roundw
          case rel => exact ⟨k + 1, by omega, by go_num, NX.out⟩
          case measure => simp [intOf]; omega
        | some u =>
          obtain ⟨ub, rfl⟩ : ∃ ub : ByteArray, u = bs ub := ⟨⟨u.toArray⟩, (bs_mk u).symm⟩
          rw [hf] at hlook hI
          simp only [Option.isSome_some, Option.getD_some, S_bs] at hlook
          clear hf
          by_cases e1 : ub = r4
          · have e2 : (ub.toList == r4.toList) = true := by rw [e1, beq_iff_eq]
            have HE := Lib.hid (STOP.out (hI.2 (by rw [e1])))
            clear hI e1
            go_wp2
            go_ret
            exact ⟨by rw [HE.out] <;> rfl, hx1⟩
          · have e2 : (ub.toList == r4.toList) = false := beq_eq_false_iff_ne.2 (by rw [ne_eq, str_eq]; exact e1)
            have HNP := Lib.hid (fun h => e1 (bs_inj (Option.some.inj (hI.1 h))) : ¬ losesT ⟨7, bs r1, bs r2, bs r3, bs r4⟩ (G k))
            clear hI e1
            go_wp2_with fail
            refine (CO.out _ 2000 hm1 (by omega)).mono ?_
            rintro e w5 ⟨rfl, hm5, hg5⟩
            have NX := Lib.hid (NEXT.out _ _ _ HNP.out hx1 hm5 hg5)
            go_wp2
            go_roundw
            case rel => exact ⟨k + 1, by omega, by go_num, NX.out⟩
            case measure => simp [intOf]; omega
      · have b1 := Blk.new wo 23 #[.int .i64 8, .string r1, .string r2, .string r3, .string r4]
        have hc1 := b1.cell; have hf1 := b1.free; have hz1 := b1.lt
        have hm1 := hmk.ext ((Ext.refl wo).alloc (.cells #[.int .i64 8, .string r1, .string r2, .string r3, .string r4] 23))
        have hx1 := hxr.alloc (.cells #[.int .i64 8, .string r1, .string r2, .string r3, .string r4] 23)
        have HNP := Lib.hid (show ¬ losesT ⟨8, bs r1, bs r2, bs r3, bs r4⟩ (G k) from by simp [losesT])
        go_wp2_with fail
        refine (CO.out _ 2000 hm1 (by omega)).mono ?_
        rintro e w5 ⟨rfl, hm5, hg5⟩
        have NX := Lib.hid (NEXT.out _ _ _ HNP.out hx1 hm5 hg5)
        go_wp2
        go_roundw
        case rel => exact ⟨k + 1, by omega, by go_num, NX.out⟩
        case measure => simp [intOf]; omega
    · obtain rfl : k = m := by omega
      have HE := Lib.hid (show V = true from by rw [HVK.out, HCA.out])
      go_wp2
      go_ret
      exact ⟨by rw [HE.out] <;> rfl, hxr⟩
end Go.Proofs.YtghhjlcbcojcnaaGreatDoor
