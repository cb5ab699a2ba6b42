/- Contracts of ver.walk and outref2.CondParts, for whatever visits the parts. -/
import Derived.Test.YtaobnifiengglaaGreatDoorAl25

namespace Go.Proofs.YtaobnifiengglaaGreatDoor
open Go.RowKit

theorem CdIn.extC {C P : Nat → Prop} {w w' : World} {c : Cd} {v : Value} (h : CdIn P w c v) (hx : ExtC C w w') (hp : ∀ k, P k → ¬ C k) : CdIn P w' c v := h.keep fun b _ _ hb e => hx.cell (hp b hb) e

/-! ### What a visit of all parts computes -/
def runP {α : Type} (step : Cd → Nat → α → α × Bool) : List (Cd × Nat) → α → α × Bool
  | [], st => (st, true)
  | p :: r, st => if (step p.1 p.2 st).2 = true then runP step r (step p.1 p.2 st).1 else ((step p.1 p.2 st).1, false)
theorem runP_append {α : Type} (step : Cd → Nat → α → α × Bool) (b : List (Cd × Nat)) : ∀ (a : List (Cd × Nat)) (st : α), runP step (a ++ b) st = if (runP step a st).2 = true then runP step b (runP step a st).1 else ((runP step a st).1, false)
  | [], st => by simp [runP]
  | p :: r, st => by
    simp only [List.cons_append, runP]
    by_cases h : (step p.1 p.2 st).2 = true
    · simp only [if_pos h, runP_append step b r]
    · simp only [if_neg h]
      simp
theorem runP_stop {α : Type} (step : Cd → Nat → α → α × Bool) (lev : Nat) (l : List Cd) (j : Nat) (h : j < l.length) {st s1 s2 : α} (h1 : runP step (prts lev (l.take j)) st = (s1, true)) (h2 : runP step (prt lev l[j]) s1 = (s2, false)) : runP step (prts lev l) st = (s2, false) := by
  have e : prts lev l = (prts lev (l.take j) ++ prt lev l[j]) ++ prts lev (l.drop (j + 1)) := by
    rw [List.append_assoc]
    conv => lhs; rw [← List.take_append_drop j l, prts_append, List.drop_eq_getElem_cons h]
    rfl
  rw [e, runP_append, runP_append, h1]
  simp [h2]
theorem runP_next {α : Type} (step : Cd → Nat → α → α × Bool) (lev : Nat) (l : List Cd) (j : Nat) (h : j < l.length) {st s1 s2 : α} (h1 : runP step (prts lev (l.take j)) st = (s1, true)) (h2 : runP step (prt lev l[j]) s1 = (s2, true)) : runP step (prts lev (l.take (j + 1))) st = (s2, true) := by
  have e : prts lev (l.take (j + 1)) = prts lev (l.take j) ++ prt lev l[j] := by
    rw [List.take_succ_eq_append_getElem h, prts_append]
    simp [prts]
  rw [e, runP_append, h1]
  simp [h2]
/-- the first so many args -/
theorem prts_take (lev : Nat) (l : List Cd) (j : Nat) (h : j < l.length) : prts lev (l.take (j + 1)) = prts lev (l.take j) ++ prt lev l[j] := by
  rw [List.take_succ_eq_append_getElem h, prts_append]
  simp [prts]
theorem cnts_at : ∀ (l : List Cd) (j : Nat) (h : j < l.length), cnt l[j] ≤ cnts l
  | c :: l, 0, _ => by simp only [cnts, List.getElem_cons_zero]; omega
  | c :: l, j + 1, h => by
    have := cnts_at l j (by simpa using h)
    simp only [cnts, List.getElem_cons_succ]
    omega
theorem cnts_len : ∀ (l : List Cd), l.length ≤ cnts l
  | [] => Nat.le_refl _
  | c :: l => by
    have := cnts_len l
    have := cnt_pos c
    simp only [cnts, List.length_cons]
    omega

theorem runP_yes {α : Type} (step : Cd → Nat → α → α × Bool) (hyes : ∀ c lev st, (step c lev st).2 = true) : ∀ (l : List (Cd × Nat)) (st : α), (runP step l st).2 = true
  | [], _ => rfl
  | p :: r, st => by
    unfold runP
    rw [if_pos (hyes _ _ _)]
    exact runP_yes step hyes r _
set_option maxRecDepth 100000 in
set_option maxHeartbeats 8000000 in
theorem walk_any {α : Type} (f : FuncId) (caps : Array Value) (hen : ∀ xs w, Sem.run Tryz.prog (callFunc f xs) w = .ok (.enter f xs) w) (P C : Nat → Prop) (B : Nat) (Inv : α → World → Prop) (step : Cd → Nat → α → α × Bool)
    (hal : ∀ st w w', Inv st w → Ext w w' → Inv st w') (hC : ∀ k, C k → k < B) (hB : ∀ st w, Inv st w → B ≤ w.heap.size) (hP : ∀ k, P k → ¬ C k)
    (hf : ∀ c v (lev : Nat) st w, lev ≤ 1000000000 → SmallC c → CdIn P w c v → Inv st w → Calls Tryz.prog f (#[v, .int .i64 lev] ++ caps) w fun e w' => e = .returned (.bool (step c lev st).2) ∧ Inv (step c lev st).1 w' ∧ ExtC C w w') :
    ∀ (N : Nat) (c : Cd), cnt c ≤ N → ∀ (lev : Nat) (v : Value) (st : α) (w : World), lev + N ≤ 1000000000 → SmallC c → CdIn P w c v → Inv st w →
      Calls Tryz.prog 146 #[v, .int .i64 lev, .func (.func f) #[] caps] w fun e w' => e = .returned (.bool (runP step (prt lev c) st).2) ∧ Inv (runP step (prt lev c) st).1 w' ∧ ExtC C w w' := by
  intro N
  induction N with
  | zero => intro c hc; have := cnt_pos c; omega
  | succ N ih =>
    intro c hc lev v st w hlev hsm hcd hinv
    have hc0 := hcd
    cases hcd with
    | mk k n x l A cp b o u0 u1 u2 u3 hA hb h0 h1 h2 h3 hr =>
      obtain ⟨_, _, _, _, hsn, hsx, hsl, hsr⟩ := hsm
      have hnw : w.heap.size ≤ w.heap.size := Nat.le_refl _
      have hBw := hB _ _ hinv
      have hnC : ¬ C w.heap.size := fun h => by have := hC _ h; omega
      have hxb : Ext w (w.alloc (.cells #[.int .i64 k, .string n, .string x, .slice A l.length cp] 61)) := (Ext.refl w).alloc _
      have hfb := hf (.mk k n x l) _ lev st _ (by omega) ⟨k, n, x, l, hsn, hsx, hsl, hsr⟩ (hc0.ext hxb) (hal _ _ _ hinv hxb)
      have bx := Blk.new w 61 #[.int .i64 k, .string n, .string x, .slice A l.length cp]
      have hrun : runP step (prt lev (.mk k n x l)) st = (if (step (.mk k n x l) lev st).2 = true then runP step (prts (lev + 1) l) (step (.mk k n x l) lev st).1 else ((step (.mk k n x l) lev st).1, false)) := rfl
      rw [hrun]
      have hcl : cnts l ≤ N := by unfold cnt at hc; omega
      have hlw : IntKind.i64.wrap ((lev : Int) + 1) = (lev : Int) + 1 := by rw [IntKind.wrap_i64]; omega
      have hll := cnts_len l
      skip
      generalize step (.mk k n x l) lev st = S at *
      obtain ⟨st1, ok⟩ := S
      dsimp only at hfb ⊢
      have HF := Lib.hid hfb
      have HEN := hen
      clear hfb hrun hc hinv
      cases ok
      · go_enter Tryz.func146, Tryz.ntmps146
        go_wp2_with fail
        refine HF.out.mono ?_
        rintro e w1 ⟨rfl, hinv1, hx1⟩
        go_wp2
        go_ret
        exact ⟨rfl, hinv1, (ExtC.ofExt hxb).trans hx1⟩
      obtain ⟨R, hR⟩ : ∃ R, runP step (prts (lev + 1) l) st1 = R := ⟨_, rfl⟩
      rw [if_pos rfl, hR]
      have HR := Lib.hid hR
      have HIHs := Lib.hid ih
      have HSR := Lib.hid hsr
      have HH0 := Lib.hid h0; have HH1 := Lib.hid h1; have HH2 := Lib.hid h2; have HH3 := Lib.hid h3; have HHR := Lib.hid hr
      have HB := Lib.hid hB; have HP := Lib.hid hP; have HA := Lib.hid hA; have HBB := Lib.hid hb; have HAL := Lib.hid hal
      clear hR ih hf h0 h1 h2 h3 hr hsr hB hP hA hb hc0 hal
      go_enter Tryz.func146, Tryz.ntmps146
      go_wp2_with fail
      refine HF.out.mono ?_
      rintro e w1 ⟨rfl, hinv1, hx1⟩
      have bx1 := bx.extC hx1 hnC
      have bc := bx1.cell; have bf := bx1.free; have bz := bx1.lt
      have hxa := (ExtC.ofExt hxb).trans hx1
      clear bx
      go_wp2
      go_loopw [17] (fun t wr => ∃ (j : Nat) (sj : α), t = .int .i64 j ∧ j ≤ l.length ∧ Inv sj wr ∧ ExtC C w wr ∧ runP step (prts (lev + 1) (l.take j)) st1 = (sj, true)) (fun t _ => l.length - (intOf t).toNat)
      case atStart => exact ⟨0, st1, by go_num, Nat.zero_le _, hinv1, hxa, rfl⟩
      case round =>
        obtain ⟨j, sj, rfl, hj, hinvr, hxr, hdone⟩ := hrel
        have HXR := Lib.hid hxr
        clear bc bf bz bx1 hx1 hinv1 HF hxa
        by_cases hlt : j < l.length
        · obtain rfl := HA.out (by omega)
          have hPb := HBB.out (by omega)
          have hnb := HP.out b hPb
          have g0 := hxr.cell hnb (HH0.out j hlt)
          have g1 := hxr.cell hnb (HH1.out j hlt)
          have g2 := hxr.cell hnb (HH2.out j hlt)
          have g3 := hxr.cell hnb (HH3.out j hlt)
          have hcj := HHR.out j hlt
          obtain ⟨ck, cn, cx, cA, cm, ccp, hcc⟩ := hcj.cells
          have hcc2 := hcc
          simp only [Value.agg.injEq, Array.mk.injEq, List.cons.injEq, and_true] at hcc2
          obtain ⟨q0, q1, q2, q3⟩ := hcc2
          rw [hcc] at hcj
          rw [q0] at g0; rw [q1] at g1; rw [q2] at g2; rw [q3] at g3
          clear hcc q0 q1 q2 q3
          have hxc : Ext wr (wr.alloc (.cells #[.int .i64 ck, .string cn, .string cx, .slice cA cm ccp] 61)) := (Ext.refl wr).alloc _
          have hih := HIHs.out l[j] (Nat.le_trans (cnts_at l j hlt) hcl) (lev + 1) _ sj _ (by omega) (HSR.out _ (List.getElem_mem hlt)) ((hcj.extC hxr HP.out).ext hxc) (HAL.out _ _ _ hinvr hxc)
          rw [show ((lev + 1 : Nat) : Int) = (lev : Int) + 1 by omega] at hih
          generalize hs2 : runP step (prt (lev + 1) l[j]) sj = S2 at *
          have hq0 : (0 : Int) ≤ (j : Int) := by omega
          clear hxr hxc hcj
          obtain ⟨s2, ok2⟩ := S2
          dsimp only at hih
          have HIH := Lib.hid hih
          cases ok2
          · have hfin := runP_stop step (lev + 1) l j hlt hdone hs2
            rw [HR.out] at hfin
            subst hfin
            clear hdone hs2 hih
            go_wp2_with fail
            refine HIH.out.mono ?_
            rintro e w3 ⟨rfl, hinv3, hx3⟩
            go_wp2
            go_ret
            exact ⟨rfl, hinv3, (HXR.out.trans (ExtC.ofExt ((Ext.refl wr).alloc _))).trans hx3⟩
          · have hnx := runP_next step (lev + 1) l j hlt hdone hs2
            have HNX := Lib.hid hnx
            clear hdone hs2 hnx hih
            go_wp2_with fail
            refine HIH.out.mono ?_
            rintro e w3 ⟨rfl, hinv3, hx3⟩
            go_wp2
            go_roundw
            case rel => exact ⟨j + 1, s2, by go_num, hlt, hinv3, (HXR.out.trans (ExtC.ofExt ((Ext.refl wr).alloc _))).trans hx3, HNX.out⟩
            case measure => simp [intOf]; omega
        · have hjl : l.take j = l := List.take_of_length_le (by omega)
          rw [hjl, HR.out] at hdone
          subst hdone
          go_wp2
          go_ret
          exact ⟨rfl, hinvr, HXR.out⟩
set_option maxRecDepth 100000 in
set_option maxHeartbeats 8000000 in
theorem CondParts_any {α : Type} (f : FuncId) (caps : Array Value) (hen : ∀ xs w, Sem.run Tryz.prog (callFunc f xs) w = .ok (.enter f xs) w) (P C : Nat → Prop) (B : Nat) (Inv : α → World → Prop) (step : Cd → Nat → α → α × Bool)
    (hal : ∀ st w w', Inv st w → Ext w w' → Inv st w') (hC : ∀ k, C k → k < B) (hB : ∀ st w, Inv st w → B ≤ w.heap.size) (hP : ∀ k, P k → ¬ C k) (hyes : ∀ c lev st, (step c lev st).2 = true)
    (hf : ∀ c v (lev : Nat) st w, lev ≤ 1000000000 → SmallC c → CdIn P w c v → Inv st w → Calls Tryz.prog f (#[v, .int .i64 lev] ++ caps) w fun e w' => e = .returned (.tuple #[]) ∧ Inv (step c lev st).1 w' ∧ ExtC C w w') :
    ∀ (N : Nat) (c : Cd), cnt c ≤ N → ∀ (lev : Nat) (v : Value) (st : α) (w : World), lev + N ≤ 1000000000 → SmallC c → CdIn P w c v → Inv st w →
      Calls Tryz.prog 140 #[v, .int .i64 lev, .func (.func f) #[] caps] w fun e w' => e = .returned (.tuple #[]) ∧ Inv (runP step (prt lev c) st).1 w' ∧ ExtC C w w' := by
  intro N
  induction N with
  | zero => intro c hc; have := cnt_pos c; omega
  | succ N ih =>
    intro c hc lev v st w hlev hsm hcd hinv
    have hc0 := hcd
    cases hcd with
    | mk k n x l A cp b o u0 u1 u2 u3 hA hb h0 h1 h2 h3 hr =>
      obtain ⟨_, _, _, _, hsn, hsx, hsl, hsr⟩ := hsm
      have hnw : w.heap.size ≤ w.heap.size := Nat.le_refl _
      have hBw := hB _ _ hinv
      have hnC : ¬ C w.heap.size := fun h => by have := hC _ h; omega
      have hxb : Ext w (w.alloc (.cells #[.int .i64 k, .string n, .string x, .slice A l.length cp] 61)) := (Ext.refl w).alloc _
      have hfb := hf (.mk k n x l) _ lev st _ (by omega) ⟨k, n, x, l, hsn, hsx, hsl, hsr⟩ (hc0.ext hxb) (hal _ _ _ hinv hxb)
      have bx := Blk.new w 61 #[.int .i64 k, .string n, .string x, .slice A l.length cp]
      have hrun : runP step (prt lev (.mk k n x l)) st = (if (step (.mk k n x l) lev st).2 = true then runP step (prts (lev + 1) l) (step (.mk k n x l) lev st).1 else ((step (.mk k n x l) lev st).1, false)) := rfl
      rw [hrun]
      have hcl : cnts l ≤ N := by unfold cnt at hc; omega
      have hlw : IntKind.i64.wrap ((lev : Int) + 1) = (lev : Int) + 1 := by rw [IntKind.wrap_i64]; omega
      have hll := cnts_len l
      have hok := hyes (.mk k n x l) lev st
      generalize step (.mk k n x l) lev st = S at *
      obtain ⟨st1, ok⟩ := S
      dsimp only at hfb hok ⊢
      have HF := Lib.hid hfb
      have HEN := hen
      clear hfb hrun hc hinv
      obtain rfl : ok = true := hok
      obtain ⟨R, hR⟩ : ∃ R, runP step (prts (lev + 1) l) st1 = R := ⟨_, rfl⟩
      rw [if_pos rfl, hR]
      have HR := Lib.hid hR
      have HIHs := Lib.hid ih
      have HSR := Lib.hid hsr
      have HH0 := Lib.hid h0; have HH1 := Lib.hid h1; have HH2 := Lib.hid h2; have HH3 := Lib.hid h3; have HHR := Lib.hid hr
      have HB := Lib.hid hB; have HP := Lib.hid hP; have HA := Lib.hid hA; have HBB := Lib.hid hb; have HAL := Lib.hid hal
      clear hR ih hf h0 h1 h2 h3 hr hsr hB hP hA hb hc0 hal
      go_enter Tryz.func140, Tryz.ntmps140
      go_wp2_with fail
      refine HF.out.mono ?_
      rintro e w1 ⟨rfl, hinv1, hx1⟩
      have bx1 := bx.extC hx1 hnC
      have bc := bx1.cell; have bf := bx1.free; have bz := bx1.lt
      have hxa := (ExtC.ofExt hxb).trans hx1
      clear bx
      go_wp2
      go_loopw [15] (fun t wr => ∃ (j : Nat) (sj : α), t = .int .i64 j ∧ j ≤ l.length ∧ Inv sj wr ∧ ExtC C w wr ∧ runP step (prts (lev + 1) (l.take j)) st1 = (sj, true)) (fun t _ => l.length - (intOf t).toNat)
      case atStart => exact ⟨0, st1, by go_num, Nat.zero_le _, hinv1, hxa, rfl⟩
      case round =>
        obtain ⟨j, sj, rfl, hj, hinvr, hxr, hdone⟩ := hrel
        have HXR := Lib.hid hxr
        clear bc bf bz bx1 hx1 hinv1 HF hxa
        by_cases hlt : j < l.length
        · obtain rfl := HA.out (by omega)
          have hPb := HBB.out (by omega)
          have hnb := HP.out b hPb
          have g0 := hxr.cell hnb (HH0.out j hlt)
          have g1 := hxr.cell hnb (HH1.out j hlt)
          have g2 := hxr.cell hnb (HH2.out j hlt)
          have g3 := hxr.cell hnb (HH3.out j hlt)
          have hcj := HHR.out j hlt
          obtain ⟨ck, cn, cx, cA, cm, ccp, hcc⟩ := hcj.cells
          have hcc2 := hcc
          simp only [Value.agg.injEq, Array.mk.injEq, List.cons.injEq, and_true] at hcc2
          obtain ⟨q0, q1, q2, q3⟩ := hcc2
          rw [hcc] at hcj
          rw [q0] at g0; rw [q1] at g1; rw [q2] at g2; rw [q3] at g3
          clear hcc q0 q1 q2 q3
          have hxc : Ext wr (wr.alloc (.cells #[.int .i64 ck, .string cn, .string cx, .slice cA cm ccp] 61)) := (Ext.refl wr).alloc _
          have hih := HIHs.out l[j] (Nat.le_trans (cnts_at l j hlt) hcl) (lev + 1) _ sj _ (by omega) (HSR.out _ (List.getElem_mem hlt)) ((hcj.extC hxr HP.out).ext hxc) (HAL.out _ _ _ hinvr hxc)
          rw [show ((lev + 1 : Nat) : Int) = (lev : Int) + 1 by omega] at hih
          generalize hs2 : runP step (prt (lev + 1) l[j]) sj = S2 at *
          have hq0 : (0 : Int) ≤ (j : Int) := by omega
          clear hxr hxc hcj
          obtain ⟨s2, ok2⟩ := S2
          have hok2 : ok2 = true := by
            have := runP_yes step hyes (prt (lev + 1) l[j]) sj
            rw [hs2] at this
            exact this
          subst hok2
          dsimp only at hih
          have HIH := Lib.hid hih
          have hnx := runP_next step (lev + 1) l j hlt hdone hs2
          have HNX := Lib.hid hnx
          clear hdone hs2 hnx hih
          go_wp2_with fail
          refine HIH.out.mono ?_
          rintro e w3 ⟨rfl, hinv3, hx3⟩
          go_wp2
          go_roundw
          case rel => exact ⟨j + 1, s2, by go_num, hlt, hinv3, (HXR.out.trans (ExtC.ofExt ((Ext.refl wr).alloc _))).trans hx3, HNX.out⟩
          case measure => simp [intOf]; omega
        · have hjl : l.take j = l := List.take_of_length_le (by omega)
          rw [hjl, HR.out] at hdone
          subst hdone
          go_wp2
          refine bodyPost_end (results_none rfl _ _ _) rfl ⟨rfl, hinvr, HXR.out⟩
end Go.Proofs.YtaobnifiengglaaGreatDoor
