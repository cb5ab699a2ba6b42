/- A world of which some blocks alone were written. Contracts of ver.walk and outref2.CondParts, for whatever visits the parts. Contracts of ver.CheckCond and outref2.CondError. -/
import Derived.Test.YtaobnifiengglaaGreatDoorCe01
import Derived.Test.YtaobnifiengglaaGreatDoorCe28
import Derived.Deep.RegionHeld3

namespace Go.Proofs.YtaobnifiengglaaGreatDoor
open Go.RowKit

/-! ### A world of which some blocks alone were written -/
structure ExtC (C : Nat → Prop) (w w' : World) : Prop where
  os : w'.os = w.os
  tape : w'.tape = w.tape
  output : w'.output = w.output
  size : w.heap.size ≤ w'.heap.size
  block : ∀ k, k < w.heap.size → ¬ C k → w'.heap[k]? = w.heap[k]?
namespace ExtC
variable {C : Nat → Prop} {a b c w w' : World}
theorem refl (C : Nat → Prop) (w : World) : ExtC C w w := ⟨rfl, rfl, rfl, Nat.le_refl _, fun _ _ _ => rfl⟩
theorem ofExt (h : Ext a b) : ExtC C a b := ⟨h.os, h.tape, h.output, h.size, fun k hk _ => h.block k hk⟩
theorem trans (h : ExtC C a b) (k : ExtC C b c) : ExtC C a c :=
  ⟨k.os.trans h.os, k.tape.trans h.tape, k.output.trans h.output, Nat.le_trans h.size k.size, fun i hi hg => (k.block i (Nat.lt_of_lt_of_le hi h.size) hg).trans (h.block i hi hg)⟩
theorem alloc (h : ExtC C a w) (o : Obj) : ExtC C a (w.alloc o) := h.trans (ofExt ((Ext.refl w).alloc o))
theorem set (h : ExtC C a w) {p : Addr} (hp : C p.block ∨ a.heap.size ≤ p.block) (u : Value) : ExtC C a (w.setCell p u) :=
  ⟨h.os, h.tape, h.output, by have := h.size; simpa [World.setCell] using this, fun k hk hg => by
    refine Eq.trans ?_ (h.block k hk hg)
    simp only [World.setCell, Array.getElem?_modify]
    rw [if_neg]
    rintro rfl
    rcases hp with h1 | h1
    · exact hg h1
    · omega⟩
theorem ext (h : Ext a w) (k : ExtC C w w') (hC : ∀ i, C i → a.heap.size ≤ i) : Ext a w' :=
  ⟨k.os.trans h.os, k.tape.trans h.tape, k.output.trans h.output, Nat.le_trans h.size k.size, fun i hi => (k.block i (Nat.lt_of_lt_of_le hi h.size) (fun hc => by have := hC i hc; omega)).trans (h.block i hi)⟩
theorem cell (h : ExtC C a b) {k o : Nat} {v : Value} (hk : ¬ C k) (hc : a.cell? ⟨k, o, none⟩ = some v) : b.cell? ⟨k, o, none⟩ = some v := by
  have hl := lt_of_cell hc
  unfold World.cell? at hc ⊢
  rw [h.block k hl hk]
  exact hc
end ExtC
theorem Blk.extC {C : Nat → Prop} {w w' : World} {k : Nat} {t : TypeId} {cs : Array Value} (h : Blk w k t cs) (hx : ExtC C w w') (hk : ¬ C k) : Blk w' k t cs := (hx.block k h.lt hk).trans h
end Go.Proofs.YtaobnifiengglaaGreatDoor

namespace Go.Proofs.YtaobnifiengglaaGreatDoor
open Go.RowKit

theorem CdIn.extC {C P : Nat → Prop} {w w' : World} {c : Cd} {v : Value} (h : CdIn P w c v) (hx : ExtC C w w') (hp : ∀ k, P k → ¬ C k) : CdIn P w' c v := h.keep fun b _ _ hb e => hx.cell (hp b hb) e

/-! ### What a visit of all parts computes -/
def runP {α : Type} (step : Cd → Nat → α → α × Bool) : List (Cd × Nat) → α → α × Bool
  | [], st => (st, true)
  | p :: r, st => if (step p.1 p.2 st).2 = true then runP step r (step p.1 p.2 st).1 else ((step p.1 p.2 st).1, false)
theorem runP_append {α : Type} (step : Cd → Nat → α → α × Bool) (b : List (Cd × Nat)) : ∀ (a : List (Cd × Nat)) (st : α), runP step (a ++ b) st = if (runP step a st).2 = true then runP step b (runP step a st).1 else ((runP step a st).1, false)
  | [], st => by simp [runP]
  | p :: r, st => by
    simp only [List.cons_append, runP]
    by_cases h : (step p.1 p.2 st).2 = true
    · simp only [if_pos h, runP_append step b r]
    · simp only [if_neg h]
      simp
theorem runP_stop {α : Type} (step : Cd → Nat → α → α × Bool) (lev : Nat) (l : List Cd) (j : Nat) (h : j < l.length) {st s1 s2 : α} (h1 : runP step (prts lev (l.take j)) st = (s1, true)) (h2 : runP step (prt lev l[j]) s1 = (s2, false)) : runP step (prts lev l) st = (s2, false) := by
  have e : prts lev l = (prts lev (l.take j) ++ prt lev l[j]) ++ prts lev (l.drop (j + 1)) := by
    rw [List.append_assoc]
    conv => lhs; rw [← List.take_append_drop j l, prts_append, List.drop_eq_getElem_cons h]
    rfl
  rw [e, runP_append, runP_append, h1]
  simp [h2]
theorem runP_next {α : Type} (step : Cd → Nat → α → α × Bool) (lev : Nat) (l : List Cd) (j : Nat) (h : j < l.length) {st s1 s2 : α} (h1 : runP step (prts lev (l.take j)) st = (s1, true)) (h2 : runP step (prt lev l[j]) s1 = (s2, true)) : runP step (prts lev (l.take (j + 1))) st = (s2, true) := by
  have e : prts lev (l.take (j + 1)) = prts lev (l.take j) ++ prt lev l[j] := by
    rw [List.take_succ_eq_append_getElem h, prts_append]
    simp [prts]
  rw [e, runP_append, h1]
  simp [h2]
/-- the first so many args -/
theorem prts_take (lev : Nat) (l : List Cd) (j : Nat) (h : j < l.length) : prts lev (l.take (j + 1)) = prts lev (l.take j) ++ prt lev l[j] := by
  rw [List.take_succ_eq_append_getElem h, prts_append]
  simp [prts]
theorem cnts_at : ∀ (l : List Cd) (j : Nat) (h : j < l.length), cnt l[j] ≤ cnts l
  | c :: l, 0, _ => by simp only [cnts, List.getElem_cons_zero]; omega
  | c :: l, j + 1, h => by
    have := cnts_at l j (by simpa using h)
    simp only [cnts, List.getElem_cons_succ]
    omega
theorem cnts_len : ∀ (l : List Cd), l.length ≤ cnts l
  | [] => Nat.le_refl _
  | c :: l => by
    have := cnts_len l
    have := cnt_pos c
    simp only [cnts, List.length_cons]
    omega

theorem runP_yes {α : Type} (step : Cd → Nat → α → α × Bool) (hyes : ∀ c lev st, (step c lev st).2 = true) : ∀ (l : List (Cd × Nat)) (st : α), (runP step l st).2 = true
  | [], _ => rfl
  | p :: r, st => by
    unfold runP
    rw [if_pos (hyes _ _ _)]
    exact runP_yes step hyes r _
set_option maxRecDepth 100000 in
set_option maxHeartbeats 8000000 in
theorem walk_any {α : Type} (f : FuncId) (caps : Array Value) (hen : ∀ xs w, Sem.run Tryz.prog (callFunc f xs) w = .ok (.enter f xs) w) (P C : Nat → Prop) (B : Nat) (Inv : α → World → Prop) (step : Cd → Nat → α → α × Bool)
    (hal : ∀ st w w', Inv st w → Ext w w' → Inv st w') (hC : ∀ k, C k → k < B) (hB : ∀ st w, Inv st w → B ≤ w.heap.size) (hP : ∀ k, P k → ¬ C k)
    (hf : ∀ c v (lev : Nat) st w, lev ≤ 1000000000 → SmallC c → CdIn P w c v → Inv st w → Calls Tryz.prog f (#[v, .int .i64 lev] ++ caps) w fun e w' => e = .returned (.bool (step c lev st).2) ∧ Inv (step c lev st).1 w' ∧ ExtC C w w') :
    ∀ (N : Nat) (c : Cd), cnt c ≤ N → ∀ (lev : Nat) (v : Value) (st : α) (w : World), lev + N ≤ 1000000000 → SmallC c → CdIn P w c v → Inv st w →
      Calls Tryz.prog 146 #[v, .int .i64 lev, .func (.func f) #[] caps] w fun e w' => e = .returned (.bool (runP step (prt lev c) st).2) ∧ Inv (runP step (prt lev c) st).1 w' ∧ ExtC C w w' := by
  intro N
  induction N with
  | zero => intro c hc; have := cnt_pos c; omega
  | succ N ih =>
    intro c hc lev v st w hlev hsm hcd hinv
    have hc0 := hcd
    cases hcd with
    | mk k n x l A cp b o u0 u1 u2 u3 hA hb h0 h1 h2 h3 hr =>
      obtain ⟨_, _, _, _, hsn, hsx, hsl, hsr⟩ := hsm
      have hnw : w.heap.size ≤ w.heap.size := Nat.le_refl _
      have hBw := hB _ _ hinv
      have hnC : ¬ C w.heap.size := fun h => by have := hC _ h; omega
      have hxb : Ext w (w.alloc (.cells #[.int .i64 k, .string n, .string x, .slice A l.length cp] 61)) := (Ext.refl w).alloc _
      have hfb := hf (.mk k n x l) _ lev st _ (by omega) ⟨k, n, x, l, hsn, hsx, hsl, hsr⟩ (hc0.ext hxb) (hal _ _ _ hinv hxb)
      have bx := Blk.new w 61 #[.int .i64 k, .string n, .string x, .slice A l.length cp]
      have hrun : runP step (prt lev (.mk k n x l)) st = (if (step (.mk k n x l) lev st).2 = true then runP step (prts (lev + 1) l) (step (.mk k n x l) lev st).1 else ((step (.mk k n x l) lev st).1, false)) := rfl
      rw [hrun]
      have hcl : cnts l ≤ N := by unfold cnt at hc; omega
      have hlw : IntKind.i64.wrap ((lev : Int) + 1) = (lev : Int) + 1 := by rw [IntKind.wrap_i64]; omega
      have hll := cnts_len l
      skip
      generalize step (.mk k n x l) lev st = S at *
      obtain ⟨st1, ok⟩ := S
      dsimp only at hfb ⊢
      have HF := Lib.hid hfb
      have HEN := hen
      clear hfb hrun hc hinv
      cases ok
      · go_enter Tryz.func146, Tryz.ntmps146
        go_wp2_with fail
        refine HF.out.mono ?_
        rintro e w1 ⟨rfl, hinv1, hx1⟩
        go_wp2
        go_ret
        exact ⟨rfl, hinv1, (ExtC.ofExt hxb).trans hx1⟩
      obtain ⟨R, hR⟩ : ∃ R, runP step (prts (lev + 1) l) st1 = R := ⟨_, rfl⟩
      rw [if_pos rfl, hR]
      have HR := Lib.hid hR
      have HIHs := Lib.hid ih
      have HSR := Lib.hid hsr
      have HH0 := Lib.hid h0; have HH1 := Lib.hid h1; have HH2 := Lib.hid h2; have HH3 := Lib.hid h3; have HHR := Lib.hid hr
      have HB := Lib.hid hB; have HP := Lib.hid hP; have HA := Lib.hid hA; have HBB := Lib.hid hb; have HAL := Lib.hid hal
      clear hR ih hf h0 h1 h2 h3 hr hsr hB hP hA hb hc0 hal
      go_enter Tryz.func146, Tryz.ntmps146
      go_wp2_with fail
      refine HF.out.mono ?_
      rintro e w1 ⟨rfl, hinv1, hx1⟩
      have bx1 := bx.extC hx1 hnC
      have bc := bx1.cell; have bf := bx1.free; have bz := bx1.lt
      have hxa := (ExtC.ofExt hxb).trans hx1
      clear bx
      go_wp2
      go_loopw [17] (fun t wr => ∃ (j : Nat) (sj : α), t = .int .i64 j ∧ j ≤ l.length ∧ Inv sj wr ∧ ExtC C w wr ∧ runP step (prts (lev + 1) (l.take j)) st1 = (sj, true)) (fun t _ => l.length - (intOf t).toNat)
      case atStart => exact ⟨0, st1, by go_num, Nat.zero_le _, hinv1, hxa, rfl⟩
      case round =>
        obtain ⟨j, sj, rfl, hj, hinvr, hxr, hdone⟩ := hrel
        have HXR := Lib.hid hxr
        clear bc bf bz bx1 hx1 hinv1 HF hxa
        by_cases hlt : j < l.length
        · obtain rfl := HA.out (by omega)
          have hPb := HBB.out (by omega)
          have hnb := HP.out b hPb
          have g0 := hxr.cell hnb (HH0.out j hlt)
          have g1 := hxr.cell hnb (HH1.out j hlt)
          have g2 := hxr.cell hnb (HH2.out j hlt)
          have g3 := hxr.cell hnb (HH3.out j hlt)
          have hcj := HHR.out j hlt
          obtain ⟨ck, cn, cx, cA, cm, ccp, hcc⟩ := hcj.cells
          have hcc2 := hcc
          simp only [Value.agg.injEq, Array.mk.injEq, List.cons.injEq, and_true] at hcc2
          obtain ⟨q0, q1, q2, q3⟩ := hcc2
          rw [hcc] at hcj
          rw [q0] at g0; rw [q1] at g1; rw [q2] at g2; rw [q3] at g3
          clear hcc q0 q1 q2 q3
          have hxc : Ext wr (wr.alloc (.cells #[.int .i64 ck, .string cn, .string cx, .slice cA cm ccp] 61)) := (Ext.refl wr).alloc _
          have hih := HIHs.out l[j] (Nat.le_trans (cnts_at l j hlt) hcl) (lev + 1) _ sj _ (by omega) (HSR.out _ (List.getElem_mem hlt)) ((hcj.extC hxr HP.out).ext hxc) (HAL.out _ _ _ hinvr hxc)
          rw [show ((lev + 1 : Nat) : Int) = (lev : Int) + 1 by omega] at hih
          generalize hs2 : runP step (prt (lev + 1) l[j]) sj = S2 at *
          have hq0 : (0 : Int) ≤ (j : Int) := by omega
          clear hxr hxc hcj
          obtain ⟨s2, ok2⟩ := S2
          dsimp only at hih
          have HIH := Lib.hid hih
          cases ok2
          · have hfin := runP_stop step (lev + 1) l j hlt hdone hs2
            rw [HR.out] at hfin
            subst hfin
            clear hdone hs2 hih
            go_wp2_with fail
            refine HIH.out.mono ?_
            rintro e w3 ⟨rfl, hinv3, hx3⟩
            go_wp2
            go_ret
            exact ⟨rfl, hinv3, (HXR.out.trans (ExtC.ofExt ((Ext.refl wr).alloc _))).trans hx3⟩
          · have hnx := runP_next step (lev + 1) l j hlt hdone hs2
            have HNX := Lib.hid hnx
            clear hdone hs2 hnx hih
            go_wp2_with fail
            refine HIH.out.mono ?_
            rintro e w3 ⟨rfl, hinv3, hx3⟩
            go_wp2
            go_roundw
            case rel => exact ⟨j + 1, s2, by go_num, hlt, hinv3, (HXR.out.trans (ExtC.ofExt ((Ext.refl wr).alloc _))).trans hx3, HNX.out⟩
            case measure => simp [intOf]; omega
        · have hjl : l.take j = l := List.take_of_length_le (by omega)
          rw [hjl, HR.out] at hdone
          subst hdone
          go_wp2
          go_ret
          exact ⟨rfl, hinvr, HXR.out⟩
set_option maxRecDepth 100000 in
set_option maxHeartbeats 8000000 in
theorem CondParts_any {α : Type} (f : FuncId) (caps : Array Value) (hen : ∀ xs w, Sem.run Tryz.prog (callFunc f xs) w = .ok (.enter f xs) w) (P C : Nat → Prop) (B : Nat) (Inv : α → World → Prop) (step : Cd → Nat → α → α × Bool)
    (hal : ∀ st w w', Inv st w → Ext w w' → Inv st w') (hC : ∀ k, C k → k < B) (hB : ∀ st w, Inv st w → B ≤ w.heap.size) (hP : ∀ k, P k → ¬ C k) (hyes : ∀ c lev st, (step c lev st).2 = true)
    (hf : ∀ c v (lev : Nat) st w, lev ≤ 1000000000 → SmallC c → CdIn P w c v → Inv st w → Calls Tryz.prog f (#[v, .int .i64 lev] ++ caps) w fun e w' => e = .returned (.tuple #[]) ∧ Inv (step c lev st).1 w' ∧ ExtC C w w') :
    ∀ (N : Nat) (c : Cd), cnt c ≤ N → ∀ (lev : Nat) (v : Value) (st : α) (w : World), lev + N ≤ 1000000000 → SmallC c → CdIn P w c v → Inv st w →
      Calls Tryz.prog 140 #[v, .int .i64 lev, .func (.func f) #[] caps] w fun e w' => e = .returned (.tuple #[]) ∧ Inv (runP step (prt lev c) st).1 w' ∧ ExtC C w w' := by
  intro N
  induction N with
  | zero => intro c hc; have := cnt_pos c; omega
  | succ N ih =>
    intro c hc lev v st w hlev hsm hcd hinv
    have hc0 := hcd
    cases hcd with
    | mk k n x l A cp b o u0 u1 u2 u3 hA hb h0 h1 h2 h3 hr =>
      obtain ⟨_, _, _, _, hsn, hsx, hsl, hsr⟩ := hsm
      have hnw : w.heap.size ≤ w.heap.size := Nat.le_refl _
      have hBw := hB _ _ hinv
      have hnC : ¬ C w.heap.size := fun h => by have := hC _ h; omega
      have hxb : Ext w (w.alloc (.cells #[.int .i64 k, .string n, .string x, .slice A l.length cp] 61)) := (Ext.refl w).alloc _
      have hfb := hf (.mk k n x l) _ lev st _ (by omega) ⟨k, n, x, l, hsn, hsx, hsl, hsr⟩ (hc0.ext hxb) (hal _ _ _ hinv hxb)
      have bx := Blk.new w 61 #[.int .i64 k, .string n, .string x, .slice A l.length cp]
      have hrun : runP step (prt lev (.mk k n x l)) st = (if (step (.mk k n x l) lev st).2 = true then runP step (prts (lev + 1) l) (step (.mk k n x l) lev st).1 else ((step (.mk k n x l) lev st).1, false)) := rfl
      rw [hrun]
      have hcl : cnts l ≤ N := by unfold cnt at hc; omega
      have hlw : IntKind.i64.wrap ((lev : Int) + 1) = (lev : Int) + 1 := by rw [IntKind.wrap_i64]; omega
      have hll := cnts_len l
      have hok := hyes (.mk k n x l) lev st
      generalize step (.mk k n x l) lev st = S at *
      obtain ⟨st1, ok⟩ := S
      dsimp only at hfb hok ⊢
      have HF := Lib.hid hfb
      have HEN := hen
      clear hfb hrun hc hinv
      obtain rfl : ok = true := hok
      obtain ⟨R, hR⟩ : ∃ R, runP step (prts (lev + 1) l) st1 = R := ⟨_, rfl⟩
      rw [if_pos rfl, hR]
      have HR := Lib.hid hR
      have HIHs := Lib.hid ih
      have HSR := Lib.hid hsr
      have HH0 := Lib.hid h0; have HH1 := Lib.hid h1; have HH2 := Lib.hid h2; have HH3 := Lib.hid h3; have HHR := Lib.hid hr
      have HB := Lib.hid hB; have HP := Lib.hid hP; have HA := Lib.hid hA; have HBB := Lib.hid hb; have HAL := Lib.hid hal
      clear hR ih hf h0 h1 h2 h3 hr hsr hB hP hA hb hc0 hal
      go_enter Tryz.func140, Tryz.ntmps140
      go_wp2_with fail
      refine HF.out.mono ?_
      rintro e w1 ⟨rfl, hinv1, hx1⟩
      have bx1 := bx.extC hx1 hnC
      have bc := bx1.cell; have bf := bx1.free; have bz := bx1.lt
      have hxa := (ExtC.ofExt hxb).trans hx1
      clear bx
      go_wp2
      go_loopw [15] (fun t wr => ∃ (j : Nat) (sj : α), t = .int .i64 j ∧ j ≤ l.length ∧ Inv sj wr ∧ ExtC C w wr ∧ runP step (prts (lev + 1) (l.take j)) st1 = (sj, true)) (fun t _ => l.length - (intOf t).toNat)
      case atStart => exact ⟨0, st1, by go_num, Nat.zero_le _, hinv1, hxa, rfl⟩
      case round =>
        obtain ⟨j, sj, rfl, hj, hinvr, hxr, hdone⟩ := hrel
        have HXR := Lib.hid hxr
        clear bc bf bz bx1 hx1 hinv1 HF hxa
        by_cases hlt : j < l.length
        · obtain rfl := HA.out (by omega)
          have hPb := HBB.out (by omega)
          have hnb := HP.out b hPb
          have g0 := hxr.cell hnb (HH0.out j hlt)
          have g1 := hxr.cell hnb (HH1.out j hlt)
          have g2 := hxr.cell hnb (HH2.out j hlt)
          have g3 := hxr.cell hnb (HH3.out j hlt)
          have hcj := HHR.out j hlt
          obtain ⟨ck, cn, cx, cA, cm, ccp, hcc⟩ := hcj.cells
          have hcc2 := hcc
          simp only [Value.agg.injEq, Array.mk.injEq, List.cons.injEq, and_true] at hcc2
          obtain ⟨q0, q1, q2, q3⟩ := hcc2
          rw [hcc] at hcj
          rw [q0] at g0; rw [q1] at g1; rw [q2] at g2; rw [q3] at g3
          clear hcc q0 q1 q2 q3
          have hxc : Ext wr (wr.alloc (.cells #[.int .i64 ck, .string cn, .string cx, .slice cA cm ccp] 61)) := (Ext.refl wr).alloc _
          have hih := HIHs.out l[j] (Nat.le_trans (cnts_at l j hlt) hcl) (lev + 1) _ sj _ (by omega) (HSR.out _ (List.getElem_mem hlt)) ((hcj.extC hxr HP.out).ext hxc) (HAL.out _ _ _ hinvr hxc)
          rw [show ((lev + 1 : Nat) : Int) = (lev : Int) + 1 by omega] at hih
          generalize hs2 : runP step (prt (lev + 1) l[j]) sj = S2 at *
          have hq0 : (0 : Int) ≤ (j : Int) := by omega
          clear hxr hxc hcj
          obtain ⟨s2, ok2⟩ := S2
          have hok2 : ok2 = true := by
            have := runP_yes step hyes (prt (lev + 1) l[j]) sj
            rw [hs2] at this
            exact this
          subst hok2
          dsimp only at hih
          have HIH := Lib.hid hih
          have hnx := runP_next step (lev + 1) l j hlt hdone hs2
          have HNX := Lib.hid hnx
          clear hdone hs2 hnx hih
          go_wp2_with fail
          refine HIH.out.mono ?_
          rintro e w3 ⟨rfl, hinv3, hx3⟩
          go_wp2
          go_roundw
          case rel => exact ⟨j + 1, s2, by go_num, hlt, hinv3, (HXR.out.trans (ExtC.ofExt ((Ext.refl wr).alloc _))).trans hx3, HNX.out⟩
          case measure => simp [intOf]; omega
        · have hjl : l.take j = l := List.take_of_length_le (by omega)
          rw [hjl, HR.out] at hdone
          subst hdone
          go_wp2
          refine bodyPost_end (results_none rfl _ _ _) rfl ⟨rfl, hinvr, HXR.out⟩
end Go.Proofs.YtaobnifiengglaaGreatDoor

namespace Go.Proofs.YtaobnifiengglaaGreatDoor
open Go.RowKit

/-! ### What the visits compute -/
def step1 (_ : Cd) (lev : Nat) (s : Int × Bool) : (Int × Bool) × Bool := ((IntKind.i64.wrap (s.1 + 1), s.2 || decide (20 < lev)), decide (IntKind.i64.wrap (s.1 + 1) ≤ 100))
def step2 (c : Cd) (_ : Nat) (_ : Int) : Int × Bool := (partC c, partC c == 0)
def step3 (_ : Cd) (lev : Nat) (s : Int × Int) : (Int × Int) × Bool := ((IntKind.i64.wrap (s.1 + 1), max s.2 (lev : Int)), true)
def step4 (c : Cd) (_ : Nat) (e : Int) : Int × Bool := (if e = 0 then partC c else e, true)
theorem wrap_small {p : Int} (h0 : 0 ≤ p) (h1 : p ≤ 1000000000) : IntKind.i64.wrap (p + 1) = p + 1 := by rw [IntKind.wrap_i64]; omega
theorem run1_small : ∀ (l : List (Cd × Nat)) (p : Int) (d : Bool), 0 ≤ p → p + l.length ≤ 100 → runP step1 l (p, d) = ((p + l.length, d || l.any fun q => decide (20 < q.2)), true)
  | [], p, d, _, _ => by simp [runP]
  | q :: r, p, d, h0, h1 => by
    simp only [List.length_cons] at h1
    have hw := wrap_small h0 (by omega)
    unfold runP
    simp only [step1, hw]
    rw [if_pos (by rw [decide_eq_true_eq]; omega), run1_small r (p + 1) _ (by omega) (by omega)]
    simp only [List.length_cons, List.any_cons, Bool.or_assoc, Prod.mk.injEq, and_true]
    omega
theorem run1_large : ∀ (l : List (Cd × Nat)) (p : Int) (d : Bool), 0 ≤ p → p ≤ 100 → 100 < p + l.length → (runP step1 l (p, d)).1.1 = 101
  | [], p, d, _, h1, h2 => by simp at h2; omega
  | q :: r, p, d, h0, h1, h2 => by
    simp only [List.length_cons] at h2
    have hw := wrap_small h0 (by omega)
    unfold runP
    simp only [step1, hw]
    by_cases h : p + 1 ≤ 100
    · rw [if_pos (by rw [decide_eq_true_eq]; exact h)]
      exact run1_large r (p + 1) _ (by omega) h (by omega)
    · rw [if_neg (by rw [decide_eq_true_eq]; exact h)]
      show p + 1 = 101
      omega
theorem run2_first : ∀ (l : List (Cd × Nat)), (runP step2 l 0).1 = firstErr l
  | [] => rfl
  | q :: r => by
    have h : ∀ z, (runP step2 r z).1 = if r = [] then z else firstErr r := fun z => by
      cases r with
      | nil => rfl
      | cons a b => rw [if_neg (by simp), ← run2_first (a :: b)]; rfl
    unfold runP firstErr
    simp only [step2, beq_iff_eq]
    by_cases hz : partC q.1 = 0
    · rw [if_pos hz, if_pos hz, hz, run2_first r]
    · rw [if_neg hz, if_neg hz]
theorem run3_all : ∀ (l : List (Cd × Nat)) (m d : Int), 0 ≤ m → m + l.length ≤ 1000000000 → (runP step3 l (m, d)).1.1 = m + l.length ∧ ((20 < (runP step3 l (m, d)).1.2) ↔ (20 < d ∨ (l.any fun q => decide (20 < q.2)) = true))
  | [], m, d, _, _ => by simp [runP]
  | q :: r, m, d, h0, h1 => by
    simp only [List.length_cons] at h1
    have hw := wrap_small h0 (by omega)
    unfold runP
    simp only [step3, hw, if_true]
    obtain ⟨a, b⟩ := run3_all r (m + 1) (max d (q.2 : Int)) (by omega) (by omega)
    refine ⟨by rw [a, List.length_cons]; omega, ?_⟩
    rw [b, List.any_cons, Bool.or_eq_true, decide_eq_true_eq]
    constructor
    · rintro (h | h)
      · by_cases h2 : 20 < q.2
        · exact .inr (.inl h2)
        · exact .inl (by omega)
      · exact .inr (.inr h)
    · rintro (h | h | h)
      · exact .inl (by omega)
      · exact .inl (by omega)
      · exact .inr h
theorem run4_first : ∀ (l : List (Cd × Nat)) (e : Int), (runP step4 l e).1 = if e = 0 then firstErr l else e
  | [], e => by
    unfold runP firstErr
    split
    · assumption
    · rfl
  | q :: r, e => by
    unfold runP
    simp only [step4, if_true]
    rw [run4_first r]
    by_cases he : e = 0
    · rw [if_pos he, if_pos he]
      rfl
    · rw [if_neg he, if_neg he, if_neg he]

/-! ### The closures -/
theorem visit1_any (g1 g2 : Nat) (hne : g1 ≠ g2) (c : Cd) (v : Value) (lev : Nat) (s : Int × Bool) (w : World) (P : Nat → Prop) (hlev : lev ≤ 1000000000) (hc : CdIn P w c v) (h1 : Blk w g1 3 #[.int .i64 s.1]) (h2 : Blk w g2 4 #[.bool s.2]) :
    Calls Tryz.prog 154 #[v, .int .i64 lev, .pointer (some ⟨g1, 0, none⟩), .pointer (some ⟨g2, 0, none⟩)] w fun e w' => e = .returned (.bool (step1 c lev s).2) ∧ (Blk w' g1 3 #[.int .i64 (step1 c lev s).1.1] ∧ Blk w' g2 4 #[.bool (step1 c lev s).1.2]) ∧ ExtC (fun k => k = g1 ∨ k = g2) w w' := by
  obtain ⟨k, n, x, A, m, cp, rfl⟩ := hc.cells
  obtain ⟨p, d⟩ := s
  have c1 := h1.cell; have f1 := h1.free; have l1 := h1.lt
  have c2 := h2.cell; have f2 := h2.free; have l2 := h2.lt
  have H1 := Lib.hid h1; have H2 := Lib.hid h2
  unfold step1
  dsimp only at *
  clear hc h1 h2
  have hd2 : decide ((20 : Int) < (lev : Int)) = decide (20 < lev) := by
    by_cases h : 20 < lev
    · rw [decide_eq_true h, decide_eq_true (by omega)]
    · rw [decide_eq_false h, decide_eq_false (by omega)]
  rw [← hd2]
  generalize hq : IntKind.i64.wrap (p + 1) = q
  clear hd2
  have hfin := fun (b : Bool) (o : Obj) => (⟨⟨((H1.out.set 0 (.int .i64 q)).far (p := ⟨g2, 0, none⟩) hne (.bool b)).alloc o, ((H2.out.far (p := ⟨g1, 0, none⟩) (Ne.symm hne) (.int .i64 q)).set 0 (.bool b)).alloc o⟩, (((ExtC.refl (fun k => k = g1 ∨ k = g2) w).set (p := ⟨g1, 0, none⟩) (.inl (.inl rfl)) (.int .i64 q)).set (p := ⟨g2, 0, none⟩) (.inl (.inr rfl)) (.bool b)).alloc o⟩ : (_ ∧ _) ∧ _)
  have HF := Lib.hid hfin
  clear hfin
  cases d
  · go_enter Tryz.func154, Tryz.ntmps154
    go_wp2
    go_ret
    exact ⟨rfl, HF.out _ _⟩
  · go_enter Tryz.func154, Tryz.ntmps154
    go_wp2
    go_ret
    exact ⟨rfl, HF.out _ _⟩
theorem visit2_any (g3 : Nat) (c : Cd) (v : Value) (lev : Nat) (s : Int) (w : World) (P : Nat → Prop) (hg : GoodN w) (hsm : SmallC c) (hc : CdIn P w c v) (h3 : Blk w g3 24 #[.int .i64 s]) :
    Calls Tryz.prog 155 #[v, .int .i64 lev, .pointer (some ⟨g3, 0, none⟩)] w fun e w' => e = .returned (.bool (step2 c lev s).2) ∧ Blk w' g3 24 #[.int .i64 (step2 c lev s).1] ∧ ExtC (fun k => k = g3) w w' := by
  cases hc with
  | mk k n x l A cp b o u0 u1 u2 u3 hA hb h0 h1 h2 h3' hr =>
    obtain ⟨_, _, _, _, hsn, hsx, hsl, hsr⟩ := hsm
    have hb3 := h3.alloc (.cells #[.int .i64 k, .string n, .string x, .slice A l.length cp] 61)
    have hx0 : Ext w (w.alloc (.cells #[.int .i64 k, .string n, .string x, .slice A l.length cp] 61)) := (Ext.refl w).alloc _
    have hp := partFault_any k n x A l.length cp _ (hg.ext hx0) hsn hsx hsl
    unfold step2 partC
    dsimp only [Cd.kind, Cd.name, Cd.value, Cd.args]
    generalize partErr k (bs n) (bs x) l.length = E at *
    have HP := Lib.hid hp
    clear hp h0 h1 h2 h3' hr hA hb h3
    go_enter Tryz.func155, Tryz.ntmps155
    go_wp2_with fail
    refine HP.out.mono ?_
    rintro e w1 ⟨rfl, hx1⟩
    have b1 := hb3.ext hx1
    have c1 := b1.cell; have f1 := b1.free; have l1 := b1.lt
    have hfin : Blk (w1.setCell ⟨g3, 0, none⟩ (.int .i64 E)) g3 24 #[.int .i64 E] := b1.set 0 _
    have HF := Lib.hid hfin
    clear hfin hb3
    go_wp2
    go_ret
    exact ⟨rfl, HF.out, (ExtC.ofExt (C := fun k => k = g3) (hx0.trans hx1)).set (p := ⟨g3, 0, none⟩) (.inl rfl) _⟩
theorem visit3_any (g1 g2 : Nat) (hne : g1 ≠ g2) (c : Cd) (v : Value) (lev : Nat) (s : Int × Int) (w : World) (P : Nat → Prop) (hc : CdIn P w c v) (h1 : Blk w g1 3 #[.int .i64 s.1]) (h2 : Blk w g2 3 #[.int .i64 s.2]) :
    Calls Tryz.prog 141 #[v, .int .i64 lev, .pointer (some ⟨g1, 0, none⟩), .pointer (some ⟨g2, 0, none⟩)] w fun e w' => e = .returned (.tuple #[]) ∧ (Blk w' g1 3 #[.int .i64 (step3 c lev s).1.1] ∧ Blk w' g2 3 #[.int .i64 (step3 c lev s).1.2]) ∧ ExtC (fun k => k = g1 ∨ k = g2) w w' := by
  obtain ⟨k, n, x, A, m, cp, rfl⟩ := hc.cells
  obtain ⟨p, d⟩ := s
  have c1 := h1.cell; have f1 := h1.free; have l1 := h1.lt
  have c2 := h2.cell; have f2 := h2.free; have l2 := h2.lt
  have H1 := Lib.hid h1; have H2 := Lib.hid h2
  unfold step3
  dsimp only at *
  clear hc h1 h2
  generalize hq : IntKind.i64.wrap (p + 1) = q
  have hfin := fun (b : Int) (o : Obj) => (⟨⟨((H1.out.set 0 (.int .i64 q)).far (p := ⟨g2, 0, none⟩) hne (.int .i64 b)).alloc o, ((H2.out.far (p := ⟨g1, 0, none⟩) (Ne.symm hne) (.int .i64 q)).set 0 (.int .i64 b)).alloc o⟩, (((ExtC.refl (fun k => k = g1 ∨ k = g2) w).set (p := ⟨g1, 0, none⟩) (.inl (.inl rfl)) (.int .i64 q)).set (p := ⟨g2, 0, none⟩) (.inl (.inr rfl)) (.int .i64 b)).alloc o⟩ : (_ ∧ _) ∧ _)
  have HF := Lib.hid hfin
  clear hfin
  go_enter Tryz.func141, Tryz.ntmps141
  go_wp2
  refine bodyPost_end (results_none rfl _ _ _) rfl ?_
  exact ⟨rfl, HF.out _ _⟩
theorem visit4_any (g3 : Nat) (c : Cd) (v : Value) (lev : Nat) (s : Int) (w : World) (P : Nat → Prop) (hg : GoodN w) (hsm : SmallC c) (hc : CdIn P w c v) (h3 : Blk w g3 24 #[.int .i64 s]) :
    Calls Tryz.prog 142 #[v, .int .i64 lev, .pointer (some ⟨g3, 0, none⟩)] w fun e w' => e = .returned (.tuple #[]) ∧ Blk w' g3 24 #[.int .i64 (step4 c lev s).1] ∧ ExtC (fun k => k = g3) w w' := by
  cases hc with
  | mk k n x l A cp b o u0 u1 u2 u3 hA hb h0 h1 h2 h3' hr =>
    obtain ⟨_, _, _, _, hsn, hsx, hsl, hsr⟩ := hsm
    have hb3 := h3.alloc (.cells #[.int .i64 k, .string n, .string x, .slice A l.length cp] 61)
    have hx0 : Ext w (w.alloc (.cells #[.int .i64 k, .string n, .string x, .slice A l.length cp] 61)) := (Ext.refl w).alloc _
    have hp := partError_any k n x A l.length cp _ (hg.ext hx0) hsn hsx hsl
    unfold step4 partC
    dsimp only [Cd.kind, Cd.name, Cd.value, Cd.args]
    generalize partErr k (bs n) (bs x) l.length = E at *
    have HP := Lib.hid hp
    have HG := Lib.hid h3
    have c3 := hb3.cell; have c3w := h3.cell; have l3 := h3.lt
    clear hp h0 h1 h2 h3' hr hA hb h3
    by_cases hs : s = 0
    · rw [if_pos hs]
      have es : (s == 0) = true := beq_iff_eq.2 hs
      clear hs
      go_enter Tryz.func142, Tryz.ntmps142
      go_wp2_with fail
      refine HP.out.mono ?_
      rintro e w1 ⟨rfl, hx1⟩
      have b1 := hb3.ext hx1
      have c1 := b1.cell; have f1 := b1.free; have l1 := b1.lt
      have hfin : Blk (w1.setCell ⟨g3, 0, none⟩ (.int .i64 E)) g3 24 #[.int .i64 E] := b1.set 0 _
      have HF := Lib.hid hfin
      clear hfin hb3
      go_wp2
      refine bodyPost_end (results_none rfl _ _ _) rfl ?_
      exact ⟨rfl, HF.out, (ExtC.ofExt (C := fun k => k = g3) (hx0.trans hx1)).set (p := ⟨g3, 0, none⟩) (.inl rfl) _⟩
    · rw [if_neg hs]
      have es : (s == 0) = false := beq_eq_false_iff_ne.2 hs
      have HB3 := Lib.hid hb3
      clear hs hb3
      go_enter Tryz.func142, Tryz.ntmps142
      go_wp2
      refine bodyPost_end (results_none rfl _ _ _) rfl ?_
      exact ⟨rfl, HB3.out, ExtC.ofExt hx0⟩
end Go.Proofs.YtaobnifiengglaaGreatDoor
