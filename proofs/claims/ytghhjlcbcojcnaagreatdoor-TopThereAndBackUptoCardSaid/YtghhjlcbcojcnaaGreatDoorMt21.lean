/- Contracts of ver.walk and outref2.CondParts, for whatever visits the parts. Contracts of ver.CheckCond and outref2.CondError. Contracts of ver.CheckCond and outref2.CondError, the whole. Settings: plain words, and settings in memory. Maps of strings that the call itself has made. -/
import Derived.Test.YtghhjlcbcojcnaaGreatDoorMt20
import Derived.Test.YtghhjlcbcojcnaaGreatDoorMt01
import Derived.Deep.RegionHeld3
import Derived.Test.YtghhjlcbcojcnaaGreatDoorMt08
import Derived.Maps.OwnSet
import Derived.Maps.StringElems

namespace Go.Proofs.YtghhjlcbcojcnaaGreatDoor
open Go.RowKit

theorem CdIn.extC {C P : Nat → Prop} {w w' : World} {c : Cd} {v : Value} (h : CdIn P w c v) (hx : ExtC C w w') (hp : ∀ k, P k → ¬ C k) : CdIn P w' c v := h.keep fun b _ _ hb e => hx.cell (hp b hb) e

/-! ### What a visit of all parts computes -/
def runP {α : Type} (step : Cd → Nat → α → α × Bool) : List (Cd × Nat) → α → α × Bool
  | [], st => (st, true)
  | p :: r, st => if (step p.1 p.2 st).2 = true then runP step r (step p.1 p.2 st).1 else ((step p.1 p.2 st).1, false)
theorem runP_append {α : Type} (step : Cd → Nat → α → α × Bool) (b : List (Cd × Nat)) : ∀ (a : List (Cd × Nat)) (st : α), runP step (a ++ b) st = if (runP step a st).2 = true then runP step b (runP step a st).1 else ((runP step a st).1, false)
  | [], st => by simp [runP]
  | p :: r, st => by
    simp only [List.cons_append, runP]
    by_cases h : (step p.1 p.2 st).2 = true
    · simp only [if_pos h, runP_append step b r]
    · simp only [if_neg h]
      simp
theorem runP_stop {α : Type} (step : Cd → Nat → α → α × Bool) (lev : Nat) (l : List Cd) (j : Nat) (h : j < l.length) {st s1 s2 : α} (h1 : runP step (prts lev (l.take j)) st = (s1, true)) (h2 : runP step (prt lev l[j]) s1 = (s2, false)) : runP step (prts lev l) st = (s2, false) := by
  have e : prts lev l = (prts lev (l.take j) ++ prt lev l[j]) ++ prts lev (l.drop (j + 1)) := by
    rw [List.append_assoc]
    conv => lhs; rw [← List.take_append_drop j l, prts_append, List.drop_eq_getElem_cons h]
    rfl
  rw [e, runP_append, runP_append, h1]
  simp [h2]
theorem runP_next {α : Type} (step : Cd → Nat → α → α × Bool) (lev : Nat) (l : List Cd) (j : Nat) (h : j < l.length) {st s1 s2 : α} (h1 : runP step (prts lev (l.take j)) st = (s1, true)) (h2 : runP step (prt lev l[j]) s1 = (s2, true)) : runP step (prts lev (l.take (j + 1))) st = (s2, true) := by
  have e : prts lev (l.take (j + 1)) = prts lev (l.take j) ++ prt lev l[j] := by
    rw [List.take_succ_eq_append_getElem h, prts_append]
    simp [prts]
  rw [e, runP_append, h1]
  simp [h2]
theorem cnts_at : ∀ (l : List Cd) (j : Nat) (h : j < l.length), cnt l[j] ≤ cnts l
  | c :: l, 0, _ => by simp only [cnts, List.getElem_cons_zero]; omega
  | c :: l, j + 1, h => by
    have := cnts_at l j (by simpa using h)
    simp only [cnts, List.getElem_cons_succ]
    omega
theorem cnts_len : ∀ (l : List Cd), l.length ≤ cnts l
  | [] => Nat.le_refl _
  | c :: l => by
    have := cnts_len l
    have := cnt_pos c
    simp only [cnts, List.length_cons]
    omega

set_option maxRecDepth 100000 in
set_option maxHeartbeats 8000000 in
theorem walk_any {α : Type} (f : FuncId) (caps : Array Value) (hen : ∀ xs w, Sem.run Tryz.prog (callFunc f xs) w = .ok (.enter f xs) w) (P C : Nat → Prop) (B : Nat) (Inv : α → World → Prop) (step : Cd → Nat → α → α × Bool)
    (hal : ∀ st w w', Inv st w → Ext w w' → Inv st w') (hC : ∀ k, C k → k < B) (hB : ∀ st w, Inv st w → B ≤ w.heap.size) (hP : ∀ k, P k → ¬ C k)
    (hf : ∀ c v (lev : Nat) st w, lev ≤ 1000000000 → SmallC c → CdIn P w c v → Inv st w → Calls Tryz.prog f (#[v, .int .i64 lev] ++ caps) w fun e w' => e = .returned (.bool (step c lev st).2) ∧ Inv (step c lev st).1 w' ∧ ExtC C w w') :
    ∀ (N : Nat) (c : Cd), cnt c ≤ N → ∀ (lev : Nat) (v : Value) (st : α) (w : World), lev + N ≤ 1000000000 → SmallC c → CdIn P w c v → Inv st w →
      Calls Tryz.prog 184 #[v, .int .i64 lev, .func (.func f) #[] caps] w fun e w' => e = .returned (.bool (runP step (prt lev c) st).2) ∧ Inv (runP step (prt lev c) st).1 w' ∧ ExtC C w w' := by
  intro N
  induction N with
  | zero => intro c hc; have := cnt_pos c; omega
  | succ N ih =>
    intro c hc lev v st w hlev hsm hcd hinv
    have hc0 := hcd
    cases hcd with
    | mk k n x l A cp b o u0 u1 u2 u3 hA hb h0 h1 h2 h3 hr =>
      obtain ⟨_, _, _, _, hsn, hsx, hsl, hsr⟩ := hsm
      have hnw : w.heap.size ≤ w.heap.size := Nat.le_refl _
      have hBw := hB _ _ hinv
      have hnC : ¬ C w.heap.size := fun h => by have := hC _ h; omega
      have hxb : Ext w (w.alloc (.cells #[.int .i64 k, .string n, .string x, .slice A l.length cp] 61)) := (Ext.refl w).alloc _
      have hfb := hf (.mk k n x l) _ lev st _ (by omega) ⟨k, n, x, l, hsn, hsx, hsl, hsr⟩ (hc0.ext hxb) (hal _ _ _ hinv hxb)
      have bx := Blk.new w 61 #[.int .i64 k, .string n, .string x, .slice A l.length cp]
      have hrun : runP step (prt lev (.mk k n x l)) st = (if (step (.mk k n x l) lev st).2 = true then runP step (prts (lev + 1) l) (step (.mk k n x l) lev st).1 else ((step (.mk k n x l) lev st).1, false)) := rfl
      rw [hrun]
      have hcl : cnts l ≤ N := by unfold cnt at hc; omega
      have hlw : IntKind.i64.wrap ((lev : Int) + 1) = (lev : Int) + 1 := by rw [IntKind.wrap_i64]; omega
      have hll := cnts_len l
      skip
      generalize step (.mk k n x l) lev st = S at *
      obtain ⟨st1, ok⟩ := S
      dsimp only at hfb ⊢
      have HF := Lib.hid hfb
      have HEN := hen
      clear hfb hrun hc hinv
      cases ok
      · go_enter Tryz.func184, Tryz.ntmps184
        go_wp2_with fail
        refine HF.out.mono ?_
        rintro e w1 ⟨rfl, hinv1, hx1⟩
        go_wp2
        go_ret
        exact ⟨rfl, hinv1, (ExtC.ofExt hxb).trans hx1⟩
      obtain ⟨R, hR⟩ : ∃ R, runP step (prts (lev + 1) l) st1 = R := ⟨_, rfl⟩
      rw [if_pos rfl, hR]
      have HR := Lib.hid hR
      have HIHs := Lib.hid ih
      have HSR := Lib.hid hsr
      have HH0 := Lib.hid h0; have HH1 := Lib.hid h1; have HH2 := Lib.hid h2; have HH3 := Lib.hid h3; have HHR := Lib.hid hr
      have HB := Lib.hid hB; have HP := Lib.hid hP; have HA := Lib.hid hA; have HBB := Lib.hid hb; have HAL := Lib.hid hal
      clear hR ih hf h0 h1 h2 h3 hr hsr hB hP hA hb hc0 hal
      go_enter Tryz.func184, Tryz.ntmps184
      go_wp2_with fail
      refine HF.out.mono ?_
      rintro e w1 ⟨rfl, hinv1, hx1⟩
      have bx1 := bx.extC hx1 hnC
      have bc := bx1.cell; have bf := bx1.free; have bz := bx1.lt
      have hxa := (ExtC.ofExt hxb).trans hx1
      clear bx
      go_wp2
      go_loopw [17] (fun t wr => ∃ (j : Nat) (sj : α), t = .int .i64 j ∧ j ≤ l.length ∧ Inv sj wr ∧ ExtC C w wr ∧ runP step (prts (lev + 1) (l.take j)) st1 = (sj, true)) (fun t _ => l.length - (intOf t).toNat)
      case atStart => exact ⟨0, st1, by go_num, Nat.zero_le _, hinv1, hxa, rfl⟩
      case round =>
        obtain ⟨j, sj, rfl, hj, hinvr, hxr, hdone⟩ := hrel
        have HXR := Lib.hid hxr
        clear bc bf bz bx1 hx1 hinv1 HF hxa
        by_cases hlt : j < l.length
        · obtain rfl := HA.out (by omega)
          have hPb := HBB.out (by omega)
          have hnb := HP.out b hPb
          have g0 := hxr.cell hnb (HH0.out j hlt)
          have g1 := hxr.cell hnb (HH1.out j hlt)
          have g2 := hxr.cell hnb (HH2.out j hlt)
          have g3 := hxr.cell hnb (HH3.out j hlt)
          have hcj := HHR.out j hlt
          obtain ⟨ck, cn, cx, cA, cm, ccp, hcc⟩ := hcj.cells
          have hcc2 := hcc
          simp only [Value.agg.injEq, Array.mk.injEq, List.cons.injEq, and_true] at hcc2
          obtain ⟨q0, q1, q2, q3⟩ := hcc2
          rw [hcc] at hcj
          rw [q0] at g0; rw [q1] at g1; rw [q2] at g2; rw [q3] at g3
          clear hcc q0 q1 q2 q3
          have hxc : Ext wr (wr.alloc (.cells #[.int .i64 ck, .string cn, .string cx, .slice cA cm ccp] 61)) := (Ext.refl wr).alloc _
          have hih := HIHs.out l[j] (Nat.le_trans (cnts_at l j hlt) hcl) (lev + 1) _ sj _ (by omega) (HSR.out _ (List.getElem_mem hlt)) ((hcj.extC hxr HP.out).ext hxc) (HAL.out _ _ _ hinvr hxc)
          rw [show ((lev + 1 : Nat) : Int) = (lev : Int) + 1 by omega] at hih
          generalize hs2 : runP step (prt (lev + 1) l[j]) sj = S2 at *
          have hq0 : (0 : Int) ≤ (j : Int) := by omega
          clear hxr hxc hcj
          obtain ⟨s2, ok2⟩ := S2
          dsimp only at hih
          have HIH := Lib.hid hih
          cases ok2
          · have hfin := runP_stop step (lev + 1) l j hlt hdone hs2
            rw [HR.out] at hfin
            subst hfin
            clear hdone hs2 hih
            go_wp2_with fail
            refine HIH.out.mono ?_
            rintro e w3 ⟨rfl, hinv3, hx3⟩
            go_wp2
            go_ret
            exact ⟨rfl, hinv3, (HXR.out.trans (ExtC.ofExt ((Ext.refl wr).alloc _))).trans hx3⟩
          · have hnx := runP_next step (lev + 1) l j hlt hdone hs2
            have HNX := Lib.hid hnx
            clear hdone hs2 hnx hih
            go_wp2_with fail
            refine HIH.out.mono ?_
            rintro e w3 ⟨rfl, hinv3, hx3⟩
            go_wp2
            go_roundw
            case rel => exact ⟨j + 1, s2, by go_num, hlt, hinv3, (HXR.out.trans (ExtC.ofExt ((Ext.refl wr).alloc _))).trans hx3, HNX.out⟩
            case measure => simp [intOf]; omega
        · have hjl : l.take j = l := List.take_of_length_le (by omega)
          rw [hjl, HR.out] at hdone
          subst hdone
          go_wp2
          go_ret
          exact ⟨rfl, hinvr, HXR.out⟩
end Go.Proofs.YtghhjlcbcojcnaaGreatDoor

namespace Go.Proofs.YtghhjlcbcojcnaaGreatDoor
open Go.RowKit

/-! ### What the visits compute -/
def step1 (_ : Cd) (lev : Nat) (s : Int × Bool) : (Int × Bool) × Bool := ((IntKind.i64.wrap (s.1 + 1), s.2 || decide (20 < lev)), decide (IntKind.i64.wrap (s.1 + 1) ≤ 100))
def step2 (c : Cd) (_ : Nat) (_ : Int) : Int × Bool := (partC c, partC c == 0)
theorem wrap_small {p : Int} (h0 : 0 ≤ p) (h1 : p ≤ 1000000000) : IntKind.i64.wrap (p + 1) = p + 1 := by rw [IntKind.wrap_i64]; omega
theorem run1_small : ∀ (l : List (Cd × Nat)) (p : Int) (d : Bool), 0 ≤ p → p + l.length ≤ 100 → runP step1 l (p, d) = ((p + l.length, d || l.any fun q => decide (20 < q.2)), true)
  | [], p, d, _, _ => by simp [runP]
  | q :: r, p, d, h0, h1 => by
    simp only [List.length_cons] at h1
    have hw := wrap_small h0 (by omega)
    unfold runP
    simp only [step1, hw]
    rw [if_pos (by rw [decide_eq_true_eq]; omega), run1_small r (p + 1) _ (by omega) (by omega)]
    simp only [List.length_cons, List.any_cons, Bool.or_assoc, Prod.mk.injEq, and_true]
    omega
theorem run1_large : ∀ (l : List (Cd × Nat)) (p : Int) (d : Bool), 0 ≤ p → p ≤ 100 → 100 < p + l.length → (runP step1 l (p, d)).1.1 = 101
  | [], p, d, _, h1, h2 => by simp at h2; omega
  | q :: r, p, d, h0, h1, h2 => by
    simp only [List.length_cons] at h2
    have hw := wrap_small h0 (by omega)
    unfold runP
    simp only [step1, hw]
    by_cases h : p + 1 ≤ 100
    · rw [if_pos (by rw [decide_eq_true_eq]; exact h)]
      exact run1_large r (p + 1) _ (by omega) h (by omega)
    · rw [if_neg (by rw [decide_eq_true_eq]; exact h)]
      show p + 1 = 101
      omega
theorem run2_first : ∀ (l : List (Cd × Nat)), (runP step2 l 0).1 = firstErr l
  | [] => rfl
  | q :: r => by
    have h : ∀ z, (runP step2 r z).1 = if r = [] then z else firstErr r := fun z => by
      cases r with
      | nil => rfl
      | cons a b => rw [if_neg (by simp), ← run2_first (a :: b)]; rfl
    unfold runP firstErr
    simp only [step2, beq_iff_eq]
    by_cases hz : partC q.1 = 0
    · rw [if_pos hz, if_pos hz, hz, run2_first r]
    · rw [if_neg hz, if_neg hz]
/-! ### The closures -/
theorem visit1_any (g1 g2 : Nat) (hne : g1 ≠ g2) (c : Cd) (v : Value) (lev : Nat) (s : Int × Bool) (w : World) (P : Nat → Prop) (hlev : lev ≤ 1000000000) (hc : CdIn P w c v) (h1 : Blk w g1 3 #[.int .i64 s.1]) (h2 : Blk w g2 4 #[.bool s.2]) :
    Calls Tryz.prog 185 #[v, .int .i64 lev, .pointer (some ⟨g1, 0, none⟩), .pointer (some ⟨g2, 0, none⟩)] w fun e w' => e = .returned (.bool (step1 c lev s).2) ∧ (Blk w' g1 3 #[.int .i64 (step1 c lev s).1.1] ∧ Blk w' g2 4 #[.bool (step1 c lev s).1.2]) ∧ ExtC (fun k => k = g1 ∨ k = g2) w w' := by
  obtain ⟨k, n, x, A, m, cp, rfl⟩ := hc.cells
  obtain ⟨p, d⟩ := s
  have c1 := h1.cell; have f1 := h1.free; have l1 := h1.lt
  have c2 := h2.cell; have f2 := h2.free; have l2 := h2.lt
  have H1 := Lib.hid h1; have H2 := Lib.hid h2
  unfold step1
  dsimp only at *
  clear hc h1 h2
  have hd2 : decide ((20 : Int) < (lev : Int)) = decide (20 < lev) := by
    by_cases h : 20 < lev
    · rw [decide_eq_true h, decide_eq_true (by omega)]
    · rw [decide_eq_false h, decide_eq_false (by omega)]
  rw [← hd2]
  generalize hq : IntKind.i64.wrap (p + 1) = q
  clear hd2
  have hfin := fun (b : Bool) (o : Obj) => (⟨⟨((H1.out.set 0 (.int .i64 q)).far (p := ⟨g2, 0, none⟩) hne (.bool b)).alloc o, ((H2.out.far (p := ⟨g1, 0, none⟩) (Ne.symm hne) (.int .i64 q)).set 0 (.bool b)).alloc o⟩, (((ExtC.refl (fun k => k = g1 ∨ k = g2) w).set (p := ⟨g1, 0, none⟩) (.inl (.inl rfl)) (.int .i64 q)).set (p := ⟨g2, 0, none⟩) (.inl (.inr rfl)) (.bool b)).alloc o⟩ : (_ ∧ _) ∧ _)
  have HF := Lib.hid hfin
  clear hfin
  cases d
  · go_enter Tryz.func185, Tryz.ntmps185
    go_wp2
    go_ret
    exact ⟨rfl, HF.out _ _⟩
  · go_enter Tryz.func185, Tryz.ntmps185
    go_wp2
    go_ret
    exact ⟨rfl, HF.out _ _⟩
theorem visit2_any (g3 : Nat) (c : Cd) (v : Value) (lev : Nat) (s : Int) (w : World) (P : Nat → Prop) (hg : GoodN w) (hsm : SmallC c) (hc : CdIn P w c v) (h3 : Blk w g3 24 #[.int .i64 s]) :
    Calls Tryz.prog 186 #[v, .int .i64 lev, .pointer (some ⟨g3, 0, none⟩)] w fun e w' => e = .returned (.bool (step2 c lev s).2) ∧ Blk w' g3 24 #[.int .i64 (step2 c lev s).1] ∧ ExtC (fun k => k = g3) w w' := by
  cases hc with
  | mk k n x l A cp b o u0 u1 u2 u3 hA hb h0 h1 h2 h3' hr =>
    obtain ⟨_, _, _, _, hsn, hsx, hsl, hsr⟩ := hsm
    have hb3 := h3.alloc (.cells #[.int .i64 k, .string n, .string x, .slice A l.length cp] 61)
    have hx0 : Ext w (w.alloc (.cells #[.int .i64 k, .string n, .string x, .slice A l.length cp] 61)) := (Ext.refl w).alloc _
    have hp := partFault_any k n x A l.length cp _ (hg.ext hx0) hsn hsx hsl
    unfold step2 partC
    dsimp only [Cd.kind, Cd.name, Cd.value, Cd.args]
    generalize partErr k (bs n) (bs x) l.length = E at *
    have HP := Lib.hid hp
    clear hp h0 h1 h2 h3' hr hA hb h3
    go_enter Tryz.func186, Tryz.ntmps186
    go_wp2_with fail
    refine HP.out.mono ?_
    rintro e w1 ⟨rfl, hx1⟩
    have b1 := hb3.ext hx1
    have c1 := b1.cell; have f1 := b1.free; have l1 := b1.lt
    have hfin : Blk (w1.setCell ⟨g3, 0, none⟩ (.int .i64 E)) g3 24 #[.int .i64 E] := b1.set 0 _
    have HF := Lib.hid hfin
    clear hfin hb3
    go_wp2
    go_ret
    exact ⟨rfl, HF.out, (ExtC.ofExt (C := fun k => k = g3) (hx0.trans hx1)).set (p := ⟨g3, 0, none⟩) (.inl rfl) _⟩
end Go.Proofs.YtghhjlcbcojcnaaGreatDoor

namespace Go.Proofs.YtghhjlcbcojcnaaGreatDoor
open Go.RowKit

set_option maxRecDepth 100000 in
set_option maxHeartbeats 8000000 in
theorem CheckCond_any (c : Cd) (v : Value) (P : Nat → Prop) (w : World) (hg : GoodN w) (hc : CdIn P w c v) (hsm : SmallC c) (hcnt : cnt c ≤ 100000000) :
    Calls Tryz.prog 121 #[v] w fun e w' => e = .returned (.int .i64 (checkC c)) ∧ Ext w w' := by
  have hcd : CdIn (fun k => k < w.heap.size) w c v := hc.imp fun b hb _ => hb
  obtain ⟨k, n, x, A, m, cp, rfl⟩ := hc.cells
  clear hc
  have hxb : Ext w (((w.alloc (.cells #[.int .i64 k, .string n, .string x, .slice A m cp] 61)).alloc (.cells #[.int .i64 0] 3)).alloc (.cells #[.bool false] 4)) := (((Ext.refl w).alloc _).alloc _).alloc _
  have bx := ((Blk.new w 61 #[.int .i64 k, .string n, .string x, .slice A m cp]).alloc (.cells #[.int .i64 0] 3)).alloc (.cells #[.bool false] 4)
  have b1 := (Blk.new (w.alloc (.cells #[.int .i64 k, .string n, .string x, .slice A m cp] 61)) 3 #[.int .i64 0]).alloc (.cells #[.bool false] 4)
  have b2 := Blk.new ((w.alloc (.cells #[.int .i64 k, .string n, .string x, .slice A m cp] 61)).alloc (.cells #[.int .i64 0] 3)) 4 #[.bool false]
  rw [World.size_alloc] at b1
  rw [World.size_alloc, World.size_alloc] at b2
  have hB0 : w.heap.size + 1 + 1 + 1 ≤ (((w.alloc (.cells #[.int .i64 k, .string n, .string x, .slice A m cp] 61)).alloc (.cells #[.int .i64 0] 3)).alloc (.cells #[.bool false] 4)).heap.size := by rw [World.size_alloc, World.size_alloc, World.size_alloc]; exact Nat.le_refl _
  have hw1 := walk_any 185 #[.pointer (some ⟨w.heap.size + 1, 0, none⟩), .pointer (some ⟨w.heap.size + 1 + 1, 0, none⟩)] (fun xs w => by kernel_rfl) (fun k => k < w.heap.size) (fun k => k = w.heap.size + 1 ∨ k = w.heap.size + 1 + 1) (w.heap.size + 1 + 1 + 1)
    (fun (st : Int × Bool) W => (Blk W (w.heap.size + 1) 3 #[.int .i64 st.1] ∧ Blk W (w.heap.size + 1 + 1) 4 #[.bool st.2]) ∧ w.heap.size + 1 + 1 + 1 ≤ W.heap.size) step1
    (fun st W W' h hx => ⟨⟨h.1.1.ext hx, h.1.2.ext hx⟩, Nat.le_trans h.2 hx.size⟩) (fun k hk => by omega) (fun st W h => h.2) (fun k hk h => by omega)
    (fun c v lev st W hl hs hcv h => (visit1_any (w.heap.size + 1) (w.heap.size + 1 + 1) (by omega) c v lev st W _ hl hcv h.1.1 h.1.2).mono fun e W' ⟨a, b, d⟩ => ⟨a, ⟨b, Nat.le_trans h.2 d.size⟩, d⟩)
    (cnt c) c (Nat.le_refl _) 0 _ (0, false) _ (by omega) hsm (hcd.ext hxb) ⟨⟨b1, b2⟩, hB0⟩
  rw [show ((0 : Nat) : Int) = 0 from rfl] at hw1
  have hsx := hxb.size
  have HW1 := Lib.hid hw1
  have hch : checkC c = if 100 < cnt c then 4 else if firstErr (prt 0 c) ≠ 0 then firstErr (prt 0 c) else if (prt 0 c).any (fun p => decide (20 < p.2)) = true then 4 else 0 := rfl
  rw [hch]
  have hlen := prt_len 0 c
  clear hw1 hch
  by_cases hbig : 100 < cnt c
  · have hl := run1_large (prt 0 c) 0 false (by omega) (by omega) (by omega)
    rw [if_pos hbig]
    generalize (runP step1 (prt 0 c) (0, false)).1 = S at *
    obtain ⟨s1, s2⟩ := S
    have hl : s1 = 101 := hl
    subst hl
    go_enter Tryz.func121, Tryz.ntmps121
    go_wp2_with fail
    refine HW1.out.mono ?_
    rintro e W1 ⟨rfl, ⟨⟨hb1, hb2⟩, hB1⟩, hx1⟩
    have c1 := hb1.cell
    have hxf : Ext w W1 := ExtC.ext hxb hx1 (fun i hi => by omega)
    clear bx b1 b2 hb1 hb2 hx1
    go_wp2
    go_ret
    exact ⟨rfl, hxf⟩
  have hsmall := run1_small (prt 0 c) 0 false (by omega) (by omega)
  rw [if_neg hbig]
  have hs1 : (runP step1 (prt 0 c) (0, false)).1 = (((cnt c : Nat) : Int), (prt 0 c).any fun q => decide (20 < q.2)) := by rw [hsmall, hlen]; simp
  rw [hs1] at HW1
  have hnc : ¬ (100 : Int) < (cnt c : Int) := by omega
  generalize (prt 0 c).any (fun q => decide (20 < q.2)) = dp at *
  clear hsmall hs1
  obtain ⟨R, hR⟩ : ∃ R : Int, R = (if firstErr (prt 0 c) ≠ 0 then firstErr (prt 0 c) else if dp = true then 4 else 0) := ⟨_, rfl⟩
  rw [← hR]
  have HR := Lib.hid hR
  clear hR
  go_enter Tryz.func121, Tryz.ntmps121
  go_wp2_with fail
  refine HW1.out.mono ?_
  rintro e W1 ⟨rfl, ⟨⟨hb1, hb2⟩, hB1⟩, hx1⟩
  have c1 := hb1.cell; have c2 := hb2.cell
  have bx1 := bx.extC hx1 (by omega)
  have cx := bx1.cell
  have hxf : Ext w W1 := ExtC.ext hxb hx1 (fun i hi => by omega)
  have hz1 := hxf.size
  have b3 := Blk.new W1 24 #[.int .i64 0]
  have hx3 : Ext W1 (W1.alloc (.cells #[.int .i64 0] 24)) := (Ext.refl W1).alloc _
  have hw2 := walk_any 186 #[.pointer (some ⟨W1.heap.size, 0, none⟩)] (fun xs w => by kernel_rfl) (fun k => k < w.heap.size) (fun k => k = W1.heap.size) (W1.heap.size + 1)
    (fun (st : Int) W => Ext w W ∧ Blk W W1.heap.size 24 #[.int .i64 st] ∧ W1.heap.size + 1 ≤ W.heap.size) step2
    (fun st W W' h hx => ⟨h.1.trans hx, h.2.1.ext hx, Nat.le_trans h.2.2 hx.size⟩) (fun k hk => by omega) (fun st W h => h.2.2) (fun k hk h => by omega)
    (fun c v lev st W hl hs hcv h => (visit2_any W1.heap.size c v lev st W _ (hg.ext h.1) hs hcv h.2.1).mono fun e W' ⟨a, b, d⟩ => ⟨a, ⟨ExtC.ext h.1 d (fun i hi => by omega), b, Nat.le_trans h.2.2 d.size⟩, d⟩)
    (cnt c) c (Nat.le_refl _) 0 _ 0 _ (by omega) hsm ((hcd.ext hxf).ext hx3) ⟨hxf.trans hx3, b3, by rw [World.size_alloc]; exact Nat.le_refl _⟩
  rw [show ((0 : Nat) : Int) = 0 from rfl] at hw2
  have hfe : (runP step2 (prt 0 c) 0).1 = firstErr (prt 0 c) := run2_first _
  rw [hfe] at hw2
  generalize firstErr (prt 0 c) = E at *
  have HW2 := Lib.hid hw2
  have HB1 := Lib.hid hb1; have HB2 := Lib.hid hb2
  have hl1 := hb1.lt; have hl2 := hb2.lt; have hlx := bx1.lt
  clear hw2 hfe b1 b2 bx b3 hb1 hx1 hxf hx3 hlen hcd hsm
  go_wp2_with fail
  refine HW2.out.mono ?_
  rintro e W2 ⟨rfl, ⟨hxf2, hb3, hB2⟩, hx2⟩
  have hb22 := (hb2.alloc (.cells #[.int .i64 0] 24)).extC hx2 (by omega)
  have d2 := hb22.cell; have d3 := hb3.cell
  have hR := HR.out
  by_cases hE : E = 0
  · have eE : (E == 0) = true := beq_iff_eq.2 hE
    rw [if_neg (fun h => h hE)] at hR
    have HE := Lib.hid hE
    clear hE
    cases dp
    · rw [if_neg (by decide)] at hR
      have HRz := Lib.hid hR
      clear hR HR
      go_wp2
      go_ret
      exact ⟨ret_int (by rw [HRz.out]; exact HE.out), hxf2⟩
    · rw [if_pos rfl] at hR
      have HRz := Lib.hid hR
      clear hR HR
      go_wp2
      go_ret
      exact ⟨ret_int HRz.out.symm, hxf2⟩
  · have eE : (E == 0) = false := beq_eq_false_iff_ne.2 hE
    rw [if_pos hE] at hR
    have HRz := Lib.hid hR
    clear hE hR HR
    go_wp2
    go_ret
    exact ⟨ret_int HRz.out.symm, hxf2⟩
end Go.Proofs.YtghhjlcbcojcnaaGreatDoor

namespace Go.Proofs.YtghhjlcbcojcnaaGreatDoor
open Go.RowKit

structure Se where
  k : ByteArray
  v : ByteArray
deriving DecidableEq
def zeroSe : Se := ⟨⟨#[]⟩, ⟨#[]⟩⟩
def seOne (is : Str → Bool) (s : Se) : Int := if is (bs s.k) = false then 5 else if valueL (bs s.v) = false then 2 else 0
def seGap (p s : Se) : Int := if (Op.bytesLess s.k.toList p.k.toList || s.k.toList == p.k.toList) = true then 7 else 0
def seAt (is : Str → Bool) (l : List Se) (i : Nat) : Int :=
  if seOne is (l.getD i zeroSe) ≠ 0 then seOne is (l.getD i zeroSe) else if i = 0 then 0 else seGap (l.getD (i - 1) zeroSe) (l.getD i zeroSe)
def seErrs (is : Str → Bool) (l : List Se) : List Int := (List.range l.length).map (seAt is l)
/-- the error of settings -/
def seErr (is : Str → Bool) (l : List Se) : Int := firstI (seErrs is l)
theorem seErrs_length (is : Str → Bool) (l : List Se) : (seErrs is l).length = l.length := by simp [seErrs]
theorem seErrs_get (is : Str → Bool) (l : List Se) (k : Nat) (h : k < (seErrs is l).length) : (seErrs is l)[k] = seAt is l k := by simp [seErrs]
theorem seAt_0 {is : Str → Bool} {l : List Se} (h : 0 < l.length) : seAt is l 0 = seOne is l[0] := by
  unfold seAt
  have e : l.getD 0 zeroSe = l[0] := by simp [List.getD, List.getElem?_eq_getElem h]
  rw [e]
  by_cases h1 : seOne is l[0] = 0
  · rw [if_neg (by simpa using h1), if_pos rfl, h1]
  · rw [if_pos h1]
theorem seAt_bad {is : Str → Bool} {l : List Se} {k : Nat} (h : k < l.length) (h1 : ¬ seOne is l[k] = 0) : seAt is l k = seOne is l[k] := by
  unfold seAt
  have e : l.getD k zeroSe = l[k] := by simp [List.getD, List.getElem?_eq_getElem h]
  rw [e, if_pos h1]
theorem seAt_gap {is : Str → Bool} {l : List Se} {k : Nat} (h : k + 1 < l.length) (h1 : seOne is l[k + 1] = 0) : seAt is l (k + 1) = seGap l[k] l[k + 1] := by
  unfold seAt
  have e : l.getD (k + 1) zeroSe = l[k + 1] := by simp [List.getD, List.getElem?_eq_getElem h]
  have e2 : l.getD k zeroSe = l[k] := by simp [List.getD, List.getElem?_eq_getElem (by omega : k < l.length)]
  rw [Nat.add_sub_cancel, e, e2, if_neg (by simpa using h1), if_neg (by omega)]
theorem seErr_at {is : Str → Bool} {l : List Se} {k : Nat} (h : k < l.length) (h0 : ∀ x ∈ (seErrs is l).take k, x = 0) (h1 : ¬ seAt is l k = 0) : seErr is l = seAt is l k := by
  have hk : k < (seErrs is l).length := by rw [seErrs_length]; exact h
  rw [seErr, firstI_at hk h0 (by rw [seErrs_get]; exact h1), seErrs_get]
theorem seErr_next {is : Str → Bool} {l : List Se} {k : Nat} (h : k < l.length) (h0 : ∀ x ∈ (seErrs is l).take k, x = 0) (h1 : seAt is l k = 0) : ∀ x ∈ (seErrs is l).take (k + 1), x = 0 := by
  have hk : k < (seErrs is l).length := by rw [seErrs_length]; exact h
  exact take_zero_succ hk h0 (by rw [seErrs_get]; exact h1)
theorem seErr_all {is : Str → Bool} {l : List Se} (h0 : ∀ x ∈ (seErrs is l).take l.length, x = 0) : seErr is l = 0 := by
  rw [List.take_of_length_le (by rw [seErrs_length]; exact Nat.le_refl _)] at h0
  exact firstI_zero h0
theorem seOne_name {is : Str → Bool} {s : Se} (h : is (bs s.k) = false) : seOne is s = 5 := by rw [seOne, if_pos h]
theorem seOne_value {is : Str → Bool} {s : Se} (h : is (bs s.k) = true) (h2 : valueL (bs s.v) = false) : seOne is s = 2 := by rw [seOne, if_neg (by rw [h]; decide), if_pos h2]
theorem seOne_ok {is : Str → Bool} {s : Se} (h : is (bs s.k) = true) (h2 : valueL (bs s.v) = true) : seOne is s = 0 := by rw [seOne, if_neg (by rw [h]; decide), if_neg (by rw [h2]; decide)]

/-! ### In memory -/
structure SeS (w : World) (b o : Nat) (l : List Se) : Prop where
  c0 : ∀ k (h : k < l.length), w.cell? ⟨b, o + k * 2, none⟩ = some (.string l[k].k)
  c1 : ∀ k (h : k < l.length), w.cell? ⟨b, o + k * 2 + 1, none⟩ = some (.string l[k].v)
theorem SeS.ext {w w' : World} {b o : Nat} {l : List Se} (h : SeS w b o l) (hx : Ext w w') : SeS w' b o l := ⟨fun k hk => hx.cell (h.c0 k hk), fun k hk => hx.cell (h.c1 k hk)⟩
/-- a slice of settings: its address where it has any -/
def RdE (w : World) (A : Option Addr) (l : List Se) : Prop := l ≠ [] → ∃ b o, A = some ⟨b, o, none⟩ ∧ SeS w b o l
theorem RdE.ext {w w' : World} {A : Option Addr} {l : List Se} (h : RdE w A l) (hx : Ext w w') : RdE w' A l := fun hn => by
  obtain ⟨b, o, e, k⟩ := h hn
  exact ⟨b, o, e, k.ext hx⟩
def SmallE (l : List Se) : Prop := ∀ s ∈ l, s.k.size ≤ 2097152 ∧ s.v.size ≤ 2097152
end Go.Proofs.YtghhjlcbcojcnaaGreatDoor

namespace Go.Proofs.YtghhjlcbcojcnaaGreatDoor
open Go.RowKit
open Go.Maps (Keyed)

theorem str_under : Tryz.prog.underlying 9 = some .string := by kernel_rfl
theorem str_zero (w : World) : (zeroValue 9).run Tryz.prog w = .ok (.string ⟨#[]⟩) w := by go_simp
/-- block b is a map of strings, of at most n entries, that holds f -/
def StrMap (w : World) (b n : Nat) (f : Str → Option Str) : Prop :=
  ∃ D : DataW PUnit, w.ownsMap Tryz.prog 9 (plainElem Tryz.prog 9) b n D ∧ (∀ s, f s = none → Maps.has D (.string s) = false) ∧ ∀ s v, f s = some v → Maps.has D (.string s) = true ∧ ∀ z, D.atKey (.string s) z = .lit (.string v)
namespace StrMap
variable {w w' : World} {b n : Nat} {f : Str → Option Str}
theorem made (w : World) : StrMap (w.alloc (.map #[] 0)) w.heap.size 0 (fun _ => none) :=
  ⟨.map [], World.ownsMap_made w _ _ _, fun _ _ => rfl, fun _ _ h => by cases h⟩
theorem ext (h : StrMap w b n f) (hx : Ext w w') : StrMap w' b n f := by
  obtain ⟨D, h, r⟩ := h
  exact ⟨D, h.kept (row := none) ⟨hx.os, hx.tape, hx.output, hx.size, fun k hk _ => hx.block k hk⟩ (by simp), r⟩
theorem lt (h : StrMap w b n f) : b < w.heap.size := by
  obtain ⟨D, h, _⟩ := h
  exact h.lt
theorem mono (h : StrMap w b n f) {m : Nat} (hm : n ≤ m) : StrMap w b m f := by
  obtain ⟨D, h, r⟩ := h
  exact ⟨D, h.mono hm, r⟩
theorem look (h : StrMap w b n f) {t : TypeId} (ht : Tryz.prog.underlying t = some (.map 9 9)) (k : ByteArray) (hk : k.size ≤ 2097152) :
    (Instr.lookup t (.map (some b)) (.string k) true).run Tryz.prog w = .ok (.tuple #[S ((f (bs k)).getD []), .bool (f (bs k)).isSome]) w := by
  obtain ⟨D, h, r1, r2⟩ := h
  obtain ⟨v, ps, hrun, hv⟩ := h.look_ok (Maps.string_keyed str_under) ht (str_zero w) (plainElem_string str_under (by decide)) (WideMaps.keyOf_string_mk str_under (s := k) (by simp only [maxLen]; omega))
  rw [hrun]
  obtain ⟨s, rfl, hs, _⟩ := plainElem_string_inv str_under hv
  have hs := congrArg Prod.fst hs
  cases hf : f (bs k) with
  | none =>
    have h0 := r1 _ hf
    have e : (DataW.lit (.string []) : DataW PUnit) = .lit (.string s.data.toList) := (Maps.atKey_of_not_has h0 _).symm.trans hs
    have e := Lit.string.inj (DataW.lit.inj e)
    have e2 : s = ⟨#[]⟩ := bs_inj (show bs s = bs ⟨#[]⟩ from e.symm)
    subst e2
    have h0 : Maps.has D (Lit.string k.data.toList) = false := h0
    simp only [h0]
    rfl
  | some u =>
    obtain ⟨h0, h1⟩ := r2 _ _ hf
    have e : (DataW.lit (.string u) : DataW PUnit) = .lit (.string s.data.toList) := (h1 _).symm.trans hs
    have e := Lit.string.inj (DataW.lit.inj e)
    have h0 : Maps.has D (Lit.string k.data.toList) = true := h0
    have e2 : S u = .string s := by rw [show u = bs s from e, S_bs]
    simp only [h0, Option.getD_some, Option.isSome_some, e2]
theorem upd (h : StrMap w b n f) {t : TypeId} (ht : Tryz.prog.underlying t = some (.map 9 9)) (k v : ByteArray) (hk : k.size ≤ 2097152) (hv : v.size ≤ 2097152) (hn : n ≤ 2097152) :
    ∃ w', (Instr.mapUpdate t (.map (some b)) (.string k) (.string v)).run Tryz.prog w = .ok () w' ∧ StrMap w' b (n + 1) (fun x => if x = bs k then some (bs v) else f x) ∧ w.grownBy w' (some b) := by
  obtain ⟨D, h, r1, r2⟩ := h
  have hkey : keyOf Tryz.prog 9 (.string k) = some (.string (bs k)) := WideMaps.keyOf_string_mk str_under (by simp only [maxLen]; omega)
  have hval : plainElem (H := PUnit) Tryz.prog 9 (.string v) = some (.lit (.string (bs v)), []) := plainElem_string str_under (by simp only [maxLen]; omega)
  obtain ⟨w', hrun, h', hg⟩ := h.update (Maps.string_keyed str_under) ht (by simp only [maxLen]; omega) hkey hval
  refine ⟨w', hrun, ⟨_, h', fun s hs => ?_, fun s u hs => ?_⟩, hg⟩ <;> dsimp only at hs
  · by_cases e : s = bs k
    · rw [if_pos e] at hs; cases hs
    · rw [if_neg e] at hs
      rw [Maps.has_put_other (by intro e2; injection e2 with e2; exact e e2)]
      exact r1 s hs
  · by_cases e : s = bs k
    · rw [if_pos e] at hs
      cases hs
      subst e
      exact ⟨Maps.has_put_same h.isMap (by trivial) _, fun z => Maps.atKey_put_same h.isMap (by trivial) _ _⟩
    · rw [if_neg e] at hs
      have hne : (Lit.string s : Lit) ≠ .string (bs k) := by intro e2; injection e2 with e2; exact e e2
      obtain ⟨h1, h2⟩ := r2 s u hs
      exact ⟨by rw [Maps.has_put_other hne]; exact h1, fun z => by rw [Maps.atKey_put_other hne]; exact h2 z⟩
end StrMap

/-- what a table of the first k settings holds -/
def tblN (l : List Se) (k : Nat) : Str → Option Str := (l.take k).foldl (fun f s x => if x = bs s.k then some (bs s.v) else f x) (fun _ => none)
def tbl (l : List Se) : Str → Option Str := tblN l l.length
theorem tblN_zero (l : List Se) : tblN l 0 = fun _ => none := rfl
theorem tblN_succ {l : List Se} {k : Nat} (h : k < l.length) : tblN l (k + 1) = fun x => if x = bs l[k].k then some (bs l[k].v) else tblN l k x := by
  unfold tblN
  rw [List.take_add_one, List.getElem?_eq_getElem h, Option.toList_some, List.foldl_append]
  rfl
end Go.Proofs.YtghhjlcbcojcnaaGreatDoor
