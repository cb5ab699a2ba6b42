/- Contract of ver.Within. -/
import Derived.Test.YtcmceeihdhcmnaaGreatDoorRm36

namespace Go.Proofs.YtcmceeihdhcmnaaGreatDoor
open Go.RowKit

theorem run_eqls (u v : Sp) (w : World) : (binOp .eql 127 (spV u) (spV v)).run Tryz.prog w = .ok (.bool (decide (u = v))) w := by
  rw [run_eql_struct, run_eqs 9997]
  rfl
/-- ver.Within -/
def withinP (la lb : List Sp) : Bool × Int := if firstI [rngErr la, rngErr lb] ≠ 0 then (false, firstI [rngErr la, rngErr lb]) else (withinS la lb, 0)
theorem within_bad {la lb : List Sp} (h : ¬ firstI [rngErr la, rngErr lb] = 0) : withinP la lb = (false, firstI [rngErr la, rngErr lb]) := by rw [withinP, if_pos h]
theorem within_ok {la lb : List Sp} (h : firstI [rngErr la, rngErr lb] = 0) : withinP la lb = (withinS la lb, 0) := by rw [withinP, if_neg (by simpa using h)]
def insL (s : Sp) (lb : List Sp) (j : Nat) : Bool := (lb.take j).any fun b => okS (meetS s b) && decide (meetS s b = s)
theorem insL_zero (s : Sp) (lb : List Sp) : insL s lb 0 = false := rfl
theorem insL_succ (s : Sp) (lb : List Sp) (j : Nat) (h : j < lb.length) : insL s lb (j + 1) = (insL s lb j || (okS (meetS s lb[j]) && decide (meetS s lb[j] = s))) := by
  unfold insL
  rw [List.take_succ_eq_append_getElem h, List.any_append]
  simp
theorem withinS_no {la lb : List Sp} {k : Nat} (h : k < la.length) (e : insL la[k] lb lb.length = false) : withinS la lb = false := by
  unfold withinS
  rw [List.all_eq_false]
  refine ⟨la[k], List.getElem_mem h, ?_⟩
  unfold insL at e
  rw [List.take_length] at e
  rw [e]
  decide
theorem withinS_yes {la lb : List Sp} (h : ∀ k (hk : k < la.length), insL la[k] lb lb.length = true) : withinS la lb = true := by
  unfold withinS
  rw [List.all_eq_true]
  intro s hs
  obtain ⟨k, hk, rfl⟩ := List.mem_iff_getElem.1 hs
  have e := h k hk
  unfold insL at e
  rw [List.take_length] at e
  exact e
theorem ret_bi {b : Bool} {z : Int} {P : Bool × Int} (h : P = (b, z)) : Ending.returned (.tuple #[.bool b, .int .i64 z]) = .returned (.tuple #[.bool P.1, .int .i64 P.2]) := by rw [h]
set_option maxHeartbeats 16000000 in
set_option maxRecDepth 100000 in
theorem Within_any (A B : Option Addr) (n c m d : Nat) (la lb : List Sp) (w : World) (hg : Good w) (hn : la.length = n) (ra : RdS w A la) (sa : SmallS la) (hl : n ≤ 2097152) (hm : lb.length = m) (rb : RdS w B lb) (sb : SmallS lb) (hl2 : m ≤ 2097152) :
    Calls Tryz.prog 53 #[.agg #[.slice A n c], .agg #[.slice B m d]] w fun e w' => e = .returned (.tuple #[.bool (withinP la lb).1, .int .i64 (withinP la lb).2]) ∧ Ext w w' := by
  have HN := Lib.hid hn; have HM := Lib.hid hm
  clear hn hm
  have bL := Blk.new ((w.alloc (.cells #[.slice A n c] 51)).alloc (.cells #[.slice B m d] 51)) 51 #[.slice A n c, .slice B m d]
  have bA := ((Blk.new w 51 #[.slice A n c]).alloc (.cells #[.slice B m d] 51)).alloc (.cells #[.slice A n c, .slice B m d] 51)
  have bB := (Blk.new (w.alloc (.cells #[.slice A n c] 51)) 51 #[.slice B m d]).alloc (.cells #[.slice A n c, .slice B m d] 51)
  rw [World.size_alloc, World.size_alloc] at bL
  rw [World.size_alloc] at bB
  have hx0 : Ext w (((w.alloc (.cells #[.slice A n c] 51)).alloc (.cells #[.slice B m d] 51)).alloc (.cells #[.slice A n c, .slice B m d] 51)) := (((Ext.refl w).alloc _).alloc _).alloc _
  have CL := Lib.hid (fun W (h : Ext w W) c0 c1 => ranges_any A B n c m d la lb (w.heap.size + 1 + 1) 2 W (hg.ext h) HN.out (ra.ext h) sa hl HM.out (rb.ext h) sb hl2 c0 c1)
  have HB := Lib.hid (within_bad (la := la) (lb := lb))
  have HOK := Lib.hid (within_ok (la := la) (lb := lb))
  have HNO := Lib.hid (fun k h e => withinS_no (la := la) (lb := lb) (k := k) h e)
  have HYES := Lib.hid (fun h => withinS_yes (la := la) (lb := lb) h)
  generalize firstI [rngErr la, rngErr lb] = FE at *
  generalize withinP la lb = WP at *
  generalize withinS la lb = WS at *
  go_enter Tryz.func53, Tryz.ntmps53
  go_wp2_with fail
  refine (CL.out _ hx0 (by rw [bL.cell]; rfl) (by rw [bL.cell]; rfl)).mono ?_
  rintro e w1 ⟨rfl, hx1⟩
  have hxw : Ext w w1 := hx0.trans hx1
  have bA1 := bA.ext hx1; have bB1 := bB.ext hx1
  clear bL bA bB hx0 hx1 CL
  by_cases hr : FE = 0
  rotate_left
  · have HP := Lib.hid (HB.out hr)
    have hbn : (FE != 0) = true := by rw [bne_iff_ne]; exact hr
    clear hr
    go_wp2
    go_ret2
    exact ⟨ret_bi HP.out, hxw⟩
  have HP := Lib.hid (HOK.out hr)
  rw [hr]
  clear hr HB HOK
  have cA1 := bA1.cell; have cB1 := bB1.cell; have lA1 := bA1.lt; have lB1 := bB1.lt
  go_wp2
  go_loopw [24] (fun i wr => ∃ k : Nat, k ≤ n ∧ i = .int .i64 k ∧ Hid (∀ j (hj : j < la.length), j < k → insL la[j] lb lb.length = true) ∧ Ext w1 wr) (fun i _ => n - (intOf i).toNat)
  case atStart => exact ⟨0, Nat.zero_le _, rfl, fun j _ h => absurd h (Nat.not_lt_zero _), Ext.refl _⟩
  case round =>
    obtain ⟨k, hk, rfl, HALL, hxr⟩ := hrel
    obtain ⟨wo, rfl⟩ : ∃ wo : World, wo = wr := ⟨_, rfl⟩
    have hxwr := hxw.trans hxr
    by_cases hlt : k < n
    · have hk1 : k < la.length := by rw [HN.out]; exact hlt
      obtain ⟨b, o, rfl, hX⟩ := ra (fun e => by rw [e] at hk1; exact absurd hk1 (Nat.not_lt_zero _))
      have X := hX.ext hxwr
      have x0 := X.c0 k hk1; have x1 := X.c1 k hk1; have x2 := X.c2 k hk1; have x3 := X.c3 k hk1; have x4 := X.c4 k hk1
      have x5 := X.c5 k hk1; have x6 := X.c6 k hk1; have x7 := X.c7 k hk1; have x8 := X.c8 k hk1; have x9 := X.c9 k hk1
      obtain ⟨z1, z2⟩ := sa la[k] (List.getElem_mem hk1)
      have HNOK := Lib.hid (HNO.out k hk1)
      have HNX := Lib.hid (show insL la[k] lb lb.length = true → ∀ j (hj : j < la.length), j < k + 1 → insL la[j] lb lb.length = true from fun e j hj h => by
        by_cases hjk : j = k
        · subst hjk; exact e
        · exact HALL.out j hj (by omega))
      clear X
      generalize la[k] = s at *
      have HS0 := Lib.hid (insL_succ s lb)
      obtain ⟨hf, ht, ⟨f1, f2, f3, fa⟩, ⟨t1, t2, t3, ta⟩⟩ := s
      dsimp only at x0 x1 x2 x3 x4 x5 x6 x7 x8 x9 z1 z2
      generalize hS : (⟨hf, ht, ⟨f1, f2, f3, fa⟩, ⟨t1, t2, t3, ta⟩⟩ : Sp) = s at *
      have HS := Lib.hid hS
      clear hS
      have cB := (bB1.ext hxr).cell; have lB := (bB1.ext hxr).lt
      have bS := Blk.new wo 127 #[.bool hf, .bool ht, .int .i64 f1, .int .i64 f2, .int .i64 f3, .string fa, .int .i64 t1, .int .i64 t2, .int .i64 t3, .string ta]
      have hxo : Ext wo (wo.alloc (.cells #[.bool hf, .bool ht, .int .i64 f1, .int .i64 f2, .int .i64 f3, .string fa, .int .i64 t1, .int .i64 t2, .int .i64 t3, .string ta] 127)) := (Ext.refl wo).alloc _
      go_wp2
      go_loopw [9, 31] (fun ins i wq => ∃ (j : Nat) (I : Bool), j ≤ m ∧ i = .int .i64 j ∧ ins = .bool I ∧ Hid (I = insL s lb j) ∧ Ext (wo.alloc (.cells #[.bool hf, .bool ht, .int .i64 f1, .int .i64 f2, .int .i64 f3, .string fa, .int .i64 t1, .int .i64 t2, .int .i64 t3, .string ta] 127)) wq) (fun _ i _ => m - (intOf i).toNat)
      case atStart => exact ⟨0, false, Nat.zero_le _, rfl, rfl, rfl, Ext.refl _⟩
      case round =>
        obtain ⟨j, I, hj, rfl, rfl, HI, hxq⟩ := hrel
        obtain ⟨wq, rfl⟩ : ∃ wq : World, wq = wr := ⟨_, rfl⟩
        have hxwq := (hxwr.trans hxo).trans hxq
        have bS2 := bS.ext hxq
        have cS2 := bS2.cell; have lS2 := bS2.lt
        by_cases hlt2 : j < m
        · have hj1 : j < lb.length := by rw [HM.out]; exact hlt2
          obtain ⟨b2, o2, rfl, hY⟩ := rb (fun e => by rw [e] at hj1; exact absurd hj1 (Nat.not_lt_zero _))
          have Y := hY.ext hxwq
          have y0 := Y.c0 j hj1; have y1 := Y.c1 j hj1; have y2 := Y.c2 j hj1; have y3 := Y.c3 j hj1; have y4 := Y.c4 j hj1
          have y5 := Y.c5 j hj1; have y6 := Y.c6 j hj1; have y7 := Y.c7 j hj1; have y8 := Y.c8 j hj1; have y9 := Y.c9 j hj1
          obtain ⟨z3, z4⟩ := sb lb[j] (List.getElem_mem hj1)
          have HNS := Lib.hid (HS0.out j hj1)
          clear Y
          generalize lb[j] = t at *
          have cM := fun W (h : Ext w W) => meet_any s t W (hg.ext h) (by rw [← HS.out]; exact z1) (by rw [← HS.out]; exact z2) z3 z4
          generalize meetS s t = u at *
          generalize hok : okS u = ok at *
          clear hok
          have hq := fun W => run_eqls u s W
          generalize hEQ : decide (u = s) = EQ at *
          clear hEQ
          obtain ⟨gf, gt, ⟨g1, g2, g3, ga⟩, ⟨h1, h2, h3, ha⟩⟩ := t
          dsimp only at y0 y1 y2 y3 y4 y5 y6 y7 y8 y9 z3 z4
          obtain ⟨uf, ut, ⟨u1, u2, u3, ua⟩, ⟨v1, v2, v3, va⟩⟩ := u
          rw [← HS.out] at cM hq
          dsimp only [spV] at cM hq
          have CM := Lib.hid cM
          have HQ := Lib.hid hq
          clear cM hq
          have hx2 : Ext wq (wq.alloc (.cells #[.bool gf, .bool gt, .int .i64 g1, .int .i64 g2, .int .i64 g3, .string ga, .int .i64 h1, .int .i64 h2, .int .i64 h3, .string ha] 127)) := (Ext.refl wq).alloc _
          go_wp2_with fail
          refine (CM.out _ (hxwq.trans hx2)).mono ?_
          rintro e w3 ⟨rfl, hx3⟩
          have hq := HQ.out
          have bU := Blk.new w3 127 #[.bool uf, .bool ut, .int .i64 u1, .int .i64 u2, .int .i64 u3, .string ua, .int .i64 v1, .int .i64 v2, .int .i64 v3, .string va]
          have bS4 := ((bS2.ext hx2).ext hx3)
          have cS4 := bS4.cell; have lS4 := bS4.lt
          have hxq4 := ((hxq.trans hx2).trans hx3).alloc (.cells #[.bool uf, .bool ut, .int .i64 u1, .int .i64 u2, .int .i64 u3, .string ua, .int .i64 v1, .int .i64 v2, .int .i64 v3, .string va] 127)
          clear y0 y1 y2 y3 y4 y5 y6 y7 y8 y9 cS2 lS2 x0 x1 x2 x3 x4 x5 x6 x7 x8 x9
          cases I
          · cases ok
            · have HF := Lib.hid (show false = insL s lb (j + 1) by rw [HNS.out, ← HI.out]; rfl)
              go_wp2
              go_roundw
              case rel => exact ⟨j + 1, _, by omega, by go_num, rfl, HF.out, hxq4⟩
              case measure => simp [intOf]; omega
            · have HF := Lib.hid (show EQ = insL s lb (j + 1) by rw [HNS.out, ← HI.out]; simp)
              go_wp2
              go_roundw
              case rel => exact ⟨j + 1, _, by omega, by go_num, rfl, HF.out, hxq4⟩
              case measure => simp [intOf]; omega
          · have HF := Lib.hid (show true = insL s lb (j + 1) by rw [HNS.out, ← HI.out]; rfl)
            go_wp2
            go_roundw
            case rel => exact ⟨j + 1, _, by omega, by go_num, rfl, HF.out, hxq4⟩
            case measure => simp [intOf]; omega
        · obtain rfl : j = m := by omega
          have HI2 := Lib.hid (show I = insL s lb lb.length by rw [HM.out]; exact HI.out)
          cases I
          · have HF := Lib.hid (HNOK.out HI2.out.symm)
            go_wp2
            go_ret2
            exact ⟨ret_bi (by rw [HP.out, HF.out]), hxwq⟩
          · have HF := Lib.hid (HNX.out HI2.out.symm)
            go_wp2
            go_roundw
            case rel => exact ⟨k + 1, by omega, by go_num, HF.out, (hxr.trans hxo).trans hxq⟩
            case measure => simp [intOf]; omega
    · obtain rfl : k = n := by omega
      have HF := Lib.hid (HYES.out fun j hj => HALL.out j hj (by have := HN.out; omega))
      go_wp2
      go_ret2
      exact ⟨ret_bi (by rw [HP.out, HF.out]), hxwr⟩
end Go.Proofs.YtcmceeihdhcmnaaGreatDoor
