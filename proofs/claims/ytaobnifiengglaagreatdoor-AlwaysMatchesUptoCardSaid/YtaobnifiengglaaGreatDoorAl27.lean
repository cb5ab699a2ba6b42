/- Contracts of ver.CheckCond and outref2.CondError. Contracts of ver.CheckCond and outref2.CondError, the whole. -/
import Derived.Test.YtaobnifiengglaaGreatDoorAl25
import Derived.Test.YtaobnifiengglaaGreatDoorAl26
import Derived.Test.YtaobnifiengglaaGreatDoorAl02
import Derived.Deep.RegionHeld3

namespace Go.Proofs.YtaobnifiengglaaGreatDoor
open Go.RowKit

/-! ### What the visits compute -/
def step1 (_ : Cd) (lev : Nat) (s : Int × Bool) : (Int × Bool) × Bool := ((IntKind.i64.wrap (s.1 + 1), s.2 || decide (20 < lev)), decide (IntKind.i64.wrap (s.1 + 1) ≤ 100))
def step2 (c : Cd) (_ : Nat) (_ : Int) : Int × Bool := (partC c, partC c == 0)
def step3 (_ : Cd) (lev : Nat) (s : Int × Int) : (Int × Int) × Bool := ((IntKind.i64.wrap (s.1 + 1), max s.2 (lev : Int)), true)
def step4 (c : Cd) (_ : Nat) (e : Int) : Int × Bool := (if e = 0 then partC c else e, true)
theorem wrap_small {p : Int} (h0 : 0 ≤ p) (h1 : p ≤ 1000000000) : IntKind.i64.wrap (p + 1) = p + 1 := by rw [IntKind.wrap_i64]; omega
theorem run1_small : ∀ (l : List (Cd × Nat)) (p : Int) (d : Bool), 0 ≤ p → p + l.length ≤ 100 → runP step1 l (p, d) = ((p + l.length, d || l.any fun q => decide (20 < q.2)), true)
  | [], p, d, _, _ => by simp [runP]
  | q :: r, p, d, h0, h1 => by
    simp only [List.length_cons] at h1
    have hw := wrap_small h0 (by omega)
    unfold runP
    simp only [step1, hw]
    rw [if_pos (by rw [decide_eq_true_eq]; omega), run1_small r (p + 1) _ (by omega) (by omega)]
    simp only [List.length_cons, List.any_cons, Bool.or_assoc, Prod.mk.injEq, and_true]
    omega
theorem run1_large : ∀ (l : List (Cd × Nat)) (p : Int) (d : Bool), 0 ≤ p → p ≤ 100 → 100 < p + l.length → (runP step1 l (p, d)).1.1 = 101
  | [], p, d, _, h1, h2 => by simp at h2; omega
  | q :: r, p, d, h0, h1, h2 => by
    simp only [List.length_cons] at h2
    have hw := wrap_small h0 (by omega)
    unfold runP
    simp only [step1, hw]
    by_cases h : p + 1 ≤ 100
    · rw [if_pos (by rw [decide_eq_true_eq]; exact h)]
      exact run1_large r (p + 1) _ (by omega) h (by omega)
    · rw [if_neg (by rw [decide_eq_true_eq]; exact h)]
      show p + 1 = 101
      omega
theorem run2_first : ∀ (l : List (Cd × Nat)), (runP step2 l 0).1 = firstErr l
  | [] => rfl
  | q :: r => by
    have h : ∀ z, (runP step2 r z).1 = if r = [] then z else firstErr r := fun z => by
      cases r with
      | nil => rfl
      | cons a b => rw [if_neg (by simp), ← run2_first (a :: b)]; rfl
    unfold runP firstErr
    simp only [step2, beq_iff_eq]
    by_cases hz : partC q.1 = 0
    · rw [if_pos hz, if_pos hz, hz, run2_first r]
    · rw [if_neg hz, if_neg hz]
theorem run3_all : ∀ (l : List (Cd × Nat)) (m d : Int), 0 ≤ m → m + l.length ≤ 1000000000 → (runP step3 l (m, d)).1.1 = m + l.length ∧ ((20 < (runP step3 l (m, d)).1.2) ↔ (20 < d ∨ (l.any fun q => decide (20 < q.2)) = true))
  | [], m, d, _, _ => by simp [runP]
  | q :: r, m, d, h0, h1 => by
    simp only [List.length_cons] at h1
    have hw := wrap_small h0 (by omega)
    unfold runP
    simp only [step3, hw, if_true]
    obtain ⟨a, b⟩ := run3_all r (m + 1) (max d (q.2 : Int)) (by omega) (by omega)
    refine ⟨by rw [a, List.length_cons]; omega, ?_⟩
    rw [b, List.any_cons, Bool.or_eq_true, decide_eq_true_eq]
    constructor
    · rintro (h | h)
      · by_cases h2 : 20 < q.2
        · exact .inr (.inl h2)
        · exact .inl (by omega)
      · exact .inr (.inr h)
    · rintro (h | h | h)
      · exact .inl (by omega)
      · exact .inl (by omega)
      · exact .inr h
theorem run4_first : ∀ (l : List (Cd × Nat)) (e : Int), (runP step4 l e).1 = if e = 0 then firstErr l else e
  | [], e => by
    unfold runP firstErr
    split
    · assumption
    · rfl
  | q :: r, e => by
    unfold runP
    simp only [step4, if_true]
    rw [run4_first r]
    by_cases he : e = 0
    · rw [if_pos he, if_pos he]
      rfl
    · rw [if_neg he, if_neg he, if_neg he]

/-! ### The closures -/
theorem visit1_any (g1 g2 : Nat) (hne : g1 ≠ g2) (c : Cd) (v : Value) (lev : Nat) (s : Int × Bool) (w : World) (P : Nat → Prop) (hlev : lev ≤ 1000000000) (hc : CdIn P w c v) (h1 : Blk w g1 3 #[.int .i64 s.1]) (h2 : Blk w g2 4 #[.bool s.2]) :
    Calls Tryz.prog 154 #[v, .int .i64 lev, .pointer (some ⟨g1, 0, none⟩), .pointer (some ⟨g2, 0, none⟩)] w fun e w' => e = .returned (.bool (step1 c lev s).2) ∧ (Blk w' g1 3 #[.int .i64 (step1 c lev s).1.1] ∧ Blk w' g2 4 #[.bool (step1 c lev s).1.2]) ∧ ExtC (fun k => k = g1 ∨ k = g2) w w' := by
  obtain ⟨k, n, x, A, m, cp, rfl⟩ := hc.cells
  obtain ⟨p, d⟩ := s
  have c1 := h1.cell; have f1 := h1.free; have l1 := h1.lt
  have c2 := h2.cell; have f2 := h2.free; have l2 := h2.lt
  have H1 := Lib.hid h1; have H2 := Lib.hid h2
  unfold step1
  dsimp only at *
  clear hc h1 h2
  have hd2 : decide ((20 : Int) < (lev : Int)) = decide (20 < lev) := by
    by_cases h : 20 < lev
    · rw [decide_eq_true h, decide_eq_true (by omega)]
    · rw [decide_eq_false h, decide_eq_false (by omega)]
  rw [← hd2]
  generalize hq : IntKind.i64.wrap (p + 1) = q
  clear hd2
  have hfin := fun (b : Bool) (o : Obj) => (⟨⟨((H1.out.set 0 (.int .i64 q)).far (p := ⟨g2, 0, none⟩) hne (.bool b)).alloc o, ((H2.out.far (p := ⟨g1, 0, none⟩) (Ne.symm hne) (.int .i64 q)).set 0 (.bool b)).alloc o⟩, (((ExtC.refl (fun k => k = g1 ∨ k = g2) w).set (p := ⟨g1, 0, none⟩) (.inl (.inl rfl)) (.int .i64 q)).set (p := ⟨g2, 0, none⟩) (.inl (.inr rfl)) (.bool b)).alloc o⟩ : (_ ∧ _) ∧ _)
  have HF := Lib.hid hfin
  clear hfin
  cases d
  · go_enter Tryz.func154, Tryz.ntmps154
    go_wp2
    go_ret
    exact ⟨rfl, HF.out _ _⟩
  · go_enter Tryz.func154, Tryz.ntmps154
    go_wp2
    go_ret
    exact ⟨rfl, HF.out _ _⟩
theorem visit2_any (g3 : Nat) (c : Cd) (v : Value) (lev : Nat) (s : Int) (w : World) (P : Nat → Prop) (hg : GoodN w) (hsm : SmallC c) (hc : CdIn P w c v) (h3 : Blk w g3 24 #[.int .i64 s]) :
    Calls Tryz.prog 155 #[v, .int .i64 lev, .pointer (some ⟨g3, 0, none⟩)] w fun e w' => e = .returned (.bool (step2 c lev s).2) ∧ Blk w' g3 24 #[.int .i64 (step2 c lev s).1] ∧ ExtC (fun k => k = g3) w w' := by
  cases hc with
  | mk k n x l A cp b o u0 u1 u2 u3 hA hb h0 h1 h2 h3' hr =>
    obtain ⟨_, _, _, _, hsn, hsx, hsl, hsr⟩ := hsm
    have hb3 := h3.alloc (.cells #[.int .i64 k, .string n, .string x, .slice A l.length cp] 61)
    have hx0 : Ext w (w.alloc (.cells #[.int .i64 k, .string n, .string x, .slice A l.length cp] 61)) := (Ext.refl w).alloc _
    have hp := partFault_any k n x A l.length cp _ (hg.ext hx0) hsn hsx hsl
    unfold step2 partC
    dsimp only [Cd.kind, Cd.name, Cd.value, Cd.args]
    generalize partErr k (bs n) (bs x) l.length = E at *
    have HP := Lib.hid hp
    clear hp h0 h1 h2 h3' hr hA hb h3
    go_enter Tryz.func155, Tryz.ntmps155
    go_wp2_with fail
    refine HP.out.mono ?_
    rintro e w1 ⟨rfl, hx1⟩
    have b1 := hb3.ext hx1
    have c1 := b1.cell; have f1 := b1.free; have l1 := b1.lt
    have hfin : Blk (w1.setCell ⟨g3, 0, none⟩ (.int .i64 E)) g3 24 #[.int .i64 E] := b1.set 0 _
    have HF := Lib.hid hfin
    clear hfin hb3
    go_wp2
    go_ret
    exact ⟨rfl, HF.out, (ExtC.ofExt (C := fun k => k = g3) (hx0.trans hx1)).set (p := ⟨g3, 0, none⟩) (.inl rfl) _⟩
theorem visit3_any (g1 g2 : Nat) (hne : g1 ≠ g2) (c : Cd) (v : Value) (lev : Nat) (s : Int × Int) (w : World) (P : Nat → Prop) (hc : CdIn P w c v) (h1 : Blk w g1 3 #[.int .i64 s.1]) (h2 : Blk w g2 3 #[.int .i64 s.2]) :
    Calls Tryz.prog 141 #[v, .int .i64 lev, .pointer (some ⟨g1, 0, none⟩), .pointer (some ⟨g2, 0, none⟩)] w fun e w' => e = .returned (.tuple #[]) ∧ (Blk w' g1 3 #[.int .i64 (step3 c lev s).1.1] ∧ Blk w' g2 3 #[.int .i64 (step3 c lev s).1.2]) ∧ ExtC (fun k => k = g1 ∨ k = g2) w w' := by
  obtain ⟨k, n, x, A, m, cp, rfl⟩ := hc.cells
  obtain ⟨p, d⟩ := s
  have c1 := h1.cell; have f1 := h1.free; have l1 := h1.lt
  have c2 := h2.cell; have f2 := h2.free; have l2 := h2.lt
  have H1 := Lib.hid h1; have H2 := Lib.hid h2
  unfold step3
  dsimp only at *
  clear hc h1 h2
  generalize hq : IntKind.i64.wrap (p + 1) = q
  have hfin := fun (b : Int) (o : Obj) => (⟨⟨((H1.out.set 0 (.int .i64 q)).far (p := ⟨g2, 0, none⟩) hne (.int .i64 b)).alloc o, ((H2.out.far (p := ⟨g1, 0, none⟩) (Ne.symm hne) (.int .i64 q)).set 0 (.int .i64 b)).alloc o⟩, (((ExtC.refl (fun k => k = g1 ∨ k = g2) w).set (p := ⟨g1, 0, none⟩) (.inl (.inl rfl)) (.int .i64 q)).set (p := ⟨g2, 0, none⟩) (.inl (.inr rfl)) (.int .i64 b)).alloc o⟩ : (_ ∧ _) ∧ _)
  have HF := Lib.hid hfin
  clear hfin
  go_enter Tryz.func141, Tryz.ntmps141
  go_wp2
  refine bodyPost_end (results_none rfl _ _ _) rfl ?_
  exact ⟨rfl, HF.out _ _⟩
theorem visit4_any (g3 : Nat) (c : Cd) (v : Value) (lev : Nat) (s : Int) (w : World) (P : Nat → Prop) (hg : GoodN w) (hsm : SmallC c) (hc : CdIn P w c v) (h3 : Blk w g3 24 #[.int .i64 s]) :
    Calls Tryz.prog 142 #[v, .int .i64 lev, .pointer (some ⟨g3, 0, none⟩)] w fun e w' => e = .returned (.tuple #[]) ∧ Blk w' g3 24 #[.int .i64 (step4 c lev s).1] ∧ ExtC (fun k => k = g3) w w' := by
  cases hc with
  | mk k n x l A cp b o u0 u1 u2 u3 hA hb h0 h1 h2 h3' hr =>
    obtain ⟨_, _, _, _, hsn, hsx, hsl, hsr⟩ := hsm
    have hb3 := h3.alloc (.cells #[.int .i64 k, .string n, .string x, .slice A l.length cp] 61)
    have hx0 : Ext w (w.alloc (.cells #[.int .i64 k, .string n, .string x, .slice A l.length cp] 61)) := (Ext.refl w).alloc _
    have hp := partError_any k n x A l.length cp _ (hg.ext hx0) hsn hsx hsl
    unfold step4 partC
    dsimp only [Cd.kind, Cd.name, Cd.value, Cd.args]
    generalize partErr k (bs n) (bs x) l.length = E at *
    have HP := Lib.hid hp
    have HG := Lib.hid h3
    have c3 := hb3.cell; have c3w := h3.cell; have l3 := h3.lt
    clear hp h0 h1 h2 h3' hr hA hb h3
    by_cases hs : s = 0
    · rw [if_pos hs]
      have es : (s == 0) = true := beq_iff_eq.2 hs
      clear hs
      go_enter Tryz.func142, Tryz.ntmps142
      go_wp2_with fail
      refine HP.out.mono ?_
      rintro e w1 ⟨rfl, hx1⟩
      have b1 := hb3.ext hx1
      have c1 := b1.cell; have f1 := b1.free; have l1 := b1.lt
      have hfin : Blk (w1.setCell ⟨g3, 0, none⟩ (.int .i64 E)) g3 24 #[.int .i64 E] := b1.set 0 _
      have HF := Lib.hid hfin
      clear hfin hb3
      go_wp2
      refine bodyPost_end (results_none rfl _ _ _) rfl ?_
      exact ⟨rfl, HF.out, (ExtC.ofExt (C := fun k => k = g3) (hx0.trans hx1)).set (p := ⟨g3, 0, none⟩) (.inl rfl) _⟩
    · rw [if_neg hs]
      have es : (s == 0) = false := beq_eq_false_iff_ne.2 hs
      have HB3 := Lib.hid hb3
      clear hs hb3
      go_enter Tryz.func142, Tryz.ntmps142
      go_wp2
      refine bodyPost_end (results_none rfl _ _ _) rfl ?_
      exact ⟨rfl, HB3.out, ExtC.ofExt hx0⟩
end Go.Proofs.YtaobnifiengglaaGreatDoor

namespace Go.Proofs.YtaobnifiengglaaGreatDoor
open Go.RowKit

set_option maxRecDepth 100000 in
set_option maxHeartbeats 8000000 in
theorem CheckCond_any (c : Cd) (v : Value) (P : Nat → Prop) (w : World) (hg : GoodN w) (hc : CdIn P w c v) (hsm : SmallC c) (hcnt : cnt c ≤ 100000000) :
    Calls Tryz.prog 67 #[v] w fun e w' => e = .returned (.int .i64 (checkC c)) ∧ Ext w w' := by
  have hcd : CdIn (fun k => k < w.heap.size) w c v := hc.imp fun b hb _ => hb
  obtain ⟨k, n, x, A, m, cp, rfl⟩ := hc.cells
  clear hc
  have hxb : Ext w (((w.alloc (.cells #[.int .i64 k, .string n, .string x, .slice A m cp] 61)).alloc (.cells #[.int .i64 0] 3)).alloc (.cells #[.bool false] 4)) := (((Ext.refl w).alloc _).alloc _).alloc _
  have bx := ((Blk.new w 61 #[.int .i64 k, .string n, .string x, .slice A m cp]).alloc (.cells #[.int .i64 0] 3)).alloc (.cells #[.bool false] 4)
  have b1 := (Blk.new (w.alloc (.cells #[.int .i64 k, .string n, .string x, .slice A m cp] 61)) 3 #[.int .i64 0]).alloc (.cells #[.bool false] 4)
  have b2 := Blk.new ((w.alloc (.cells #[.int .i64 k, .string n, .string x, .slice A m cp] 61)).alloc (.cells #[.int .i64 0] 3)) 4 #[.bool false]
  rw [World.size_alloc] at b1
  rw [World.size_alloc, World.size_alloc] at b2
  have hB0 : w.heap.size + 1 + 1 + 1 ≤ (((w.alloc (.cells #[.int .i64 k, .string n, .string x, .slice A m cp] 61)).alloc (.cells #[.int .i64 0] 3)).alloc (.cells #[.bool false] 4)).heap.size := by rw [World.size_alloc, World.size_alloc, World.size_alloc]; exact Nat.le_refl _
  have hw1 := walk_any 154 #[.pointer (some ⟨w.heap.size + 1, 0, none⟩), .pointer (some ⟨w.heap.size + 1 + 1, 0, none⟩)] (fun xs w => by kernel_rfl) (fun k => k < w.heap.size) (fun k => k = w.heap.size + 1 ∨ k = w.heap.size + 1 + 1) (w.heap.size + 1 + 1 + 1)
    (fun (st : Int × Bool) W => (Blk W (w.heap.size + 1) 3 #[.int .i64 st.1] ∧ Blk W (w.heap.size + 1 + 1) 4 #[.bool st.2]) ∧ w.heap.size + 1 + 1 + 1 ≤ W.heap.size) step1
    (fun st W W' h hx => ⟨⟨h.1.1.ext hx, h.1.2.ext hx⟩, Nat.le_trans h.2 hx.size⟩) (fun k hk => by omega) (fun st W h => h.2) (fun k hk h => by omega)
    (fun c v lev st W hl hs hcv h => (visit1_any (w.heap.size + 1) (w.heap.size + 1 + 1) (by omega) c v lev st W _ hl hcv h.1.1 h.1.2).mono fun e W' ⟨a, b, d⟩ => ⟨a, ⟨b, Nat.le_trans h.2 d.size⟩, d⟩)
    (cnt c) c (Nat.le_refl _) 0 _ (0, false) _ (by omega) hsm (hcd.ext hxb) ⟨⟨b1, b2⟩, hB0⟩
  rw [show ((0 : Nat) : Int) = 0 from rfl] at hw1
  have hsx := hxb.size
  have HW1 := Lib.hid hw1
  have hch : checkC c = if 100 < cnt c then 4 else if firstErr (prt 0 c) ≠ 0 then firstErr (prt 0 c) else if (prt 0 c).any (fun p => decide (20 < p.2)) = true then 4 else 0 := rfl
  rw [hch]
  have hlen := prt_len 0 c
  clear hw1 hch
  by_cases hbig : 100 < cnt c
  · have hl := run1_large (prt 0 c) 0 false (by omega) (by omega) (by omega)
    rw [if_pos hbig]
    generalize (runP step1 (prt 0 c) (0, false)).1 = S at *
    obtain ⟨s1, s2⟩ := S
    have hl : s1 = 101 := hl
    subst hl
    go_enter Tryz.func67, Tryz.ntmps67
    go_wp2_with fail
    refine HW1.out.mono ?_
    rintro e W1 ⟨rfl, ⟨⟨hb1, hb2⟩, hB1⟩, hx1⟩
    have c1 := hb1.cell
    have hxf : Ext w W1 := ExtC.ext hxb hx1 (fun i hi => by omega)
    clear bx b1 b2 hb1 hb2 hx1
    go_wp2
    go_ret
    exact ⟨rfl, hxf⟩
  have hsmall := run1_small (prt 0 c) 0 false (by omega) (by omega)
  rw [if_neg hbig]
  have hs1 : (runP step1 (prt 0 c) (0, false)).1 = (((cnt c : Nat) : Int), (prt 0 c).any fun q => decide (20 < q.2)) := by rw [hsmall, hlen]; simp
  rw [hs1] at HW1
  have hnc : ¬ (100 : Int) < (cnt c : Int) := by omega
  generalize (prt 0 c).any (fun q => decide (20 < q.2)) = dp at *
  clear hsmall hs1
  obtain ⟨R, hR⟩ : ∃ R : Int, R = (if firstErr (prt 0 c) ≠ 0 then firstErr (prt 0 c) else if dp = true then 4 else 0) := ⟨_, rfl⟩
  rw [← hR]
  have HR := Lib.hid hR
  clear hR
  go_enter Tryz.func67, Tryz.ntmps67
  go_wp2_with fail
  refine HW1.out.mono ?_
  rintro e W1 ⟨rfl, ⟨⟨hb1, hb2⟩, hB1⟩, hx1⟩
  have c1 := hb1.cell; have c2 := hb2.cell
  have bx1 := bx.extC hx1 (by omega)
  have cx := bx1.cell
  have hxf : Ext w W1 := ExtC.ext hxb hx1 (fun i hi => by omega)
  have hz1 := hxf.size
  have b3 := Blk.new W1 24 #[.int .i64 0]
  have hx3 : Ext W1 (W1.alloc (.cells #[.int .i64 0] 24)) := (Ext.refl W1).alloc _
  have hw2 := walk_any 155 #[.pointer (some ⟨W1.heap.size, 0, none⟩)] (fun xs w => by kernel_rfl) (fun k => k < w.heap.size) (fun k => k = W1.heap.size) (W1.heap.size + 1)
    (fun (st : Int) W => Ext w W ∧ Blk W W1.heap.size 24 #[.int .i64 st] ∧ W1.heap.size + 1 ≤ W.heap.size) step2
    (fun st W W' h hx => ⟨h.1.trans hx, h.2.1.ext hx, Nat.le_trans h.2.2 hx.size⟩) (fun k hk => by omega) (fun st W h => h.2.2) (fun k hk h => by omega)
    (fun c v lev st W hl hs hcv h => (visit2_any W1.heap.size c v lev st W _ (hg.ext h.1) hs hcv h.2.1).mono fun e W' ⟨a, b, d⟩ => ⟨a, ⟨ExtC.ext h.1 d (fun i hi => by omega), b, Nat.le_trans h.2.2 d.size⟩, d⟩)
    (cnt c) c (Nat.le_refl _) 0 _ 0 _ (by omega) hsm ((hcd.ext hxf).ext hx3) ⟨hxf.trans hx3, b3, by rw [World.size_alloc]; exact Nat.le_refl _⟩
  rw [show ((0 : Nat) : Int) = 0 from rfl] at hw2
  have hfe : (runP step2 (prt 0 c) 0).1 = firstErr (prt 0 c) := run2_first _
  rw [hfe] at hw2
  generalize firstErr (prt 0 c) = E at *
  have HW2 := Lib.hid hw2
  have HB1 := Lib.hid hb1; have HB2 := Lib.hid hb2
  have hl1 := hb1.lt; have hl2 := hb2.lt; have hlx := bx1.lt
  clear hw2 hfe b1 b2 bx b3 hb1 hx1 hxf hx3 hlen hcd hsm
  go_wp2_with fail
  refine HW2.out.mono ?_
  rintro e W2 ⟨rfl, ⟨hxf2, hb3, hB2⟩, hx2⟩
  have hb22 := (hb2.alloc (.cells #[.int .i64 0] 24)).extC hx2 (by omega)
  have d2 := hb22.cell; have d3 := hb3.cell
  have hR := HR.out
  by_cases hE : E = 0
  · have eE : (E == 0) = true := beq_iff_eq.2 hE
    rw [if_neg (fun h => h hE)] at hR
    have HE := Lib.hid hE
    clear hE
    cases dp
    · rw [if_neg (by decide)] at hR
      have HRz := Lib.hid hR
      clear hR HR
      go_wp2
      go_ret
      exact ⟨ret_int (by rw [HRz.out]; exact HE.out), hxf2⟩
    · rw [if_pos rfl] at hR
      have HRz := Lib.hid hR
      clear hR HR
      go_wp2
      go_ret
      exact ⟨ret_int HRz.out.symm, hxf2⟩
  · have eE : (E == 0) = false := beq_eq_false_iff_ne.2 hE
    rw [if_pos hE] at hR
    have HRz := Lib.hid hR
    clear hE hR HR
    go_wp2
    go_ret
    exact ⟨ret_int HRz.out.symm, hxf2⟩
set_option maxRecDepth 100000 in
set_option maxHeartbeats 8000000 in
theorem CondError_any (c : Cd) (v : Value) (P : Nat → Prop) (w : World) (hg : GoodN w) (hc : CdIn P w c v) (hsm : SmallC c) (hcnt : cnt c ≤ 100000000) :
    Calls Tryz.prog 61 #[v] w fun e w' => e = .returned (.int .i64 (checkC c)) ∧ Ext w w' := by
  have hcd : CdIn (fun k => k < w.heap.size) w c v := hc.imp fun b hb _ => hb
  obtain ⟨k, n, x, A, m, cp, rfl⟩ := hc.cells
  clear hc
  have hxb : Ext w (((w.alloc (.cells #[.int .i64 k, .string n, .string x, .slice A m cp] 61)).alloc (.cells #[.int .i64 0] 3)).alloc (.cells #[.int .i64 0] 3)) := (((Ext.refl w).alloc _).alloc _).alloc _
  have bx := ((Blk.new w 61 #[.int .i64 k, .string n, .string x, .slice A m cp]).alloc (.cells #[.int .i64 0] 3)).alloc (.cells #[.int .i64 0] 3)
  have b1 := (Blk.new (w.alloc (.cells #[.int .i64 k, .string n, .string x, .slice A m cp] 61)) 3 #[.int .i64 0]).alloc (.cells #[.int .i64 0] 3)
  have b2 := Blk.new ((w.alloc (.cells #[.int .i64 k, .string n, .string x, .slice A m cp] 61)).alloc (.cells #[.int .i64 0] 3)) 3 #[.int .i64 0]
  rw [World.size_alloc] at b1
  rw [World.size_alloc, World.size_alloc] at b2
  have hB0 : w.heap.size + 1 + 1 + 1 ≤ (((w.alloc (.cells #[.int .i64 k, .string n, .string x, .slice A m cp] 61)).alloc (.cells #[.int .i64 0] 3)).alloc (.cells #[.int .i64 0] 3)).heap.size := by rw [World.size_alloc, World.size_alloc, World.size_alloc]; exact Nat.le_refl _
  have hw1 := CondParts_any 141 #[.pointer (some ⟨w.heap.size + 1, 0, none⟩), .pointer (some ⟨w.heap.size + 1 + 1, 0, none⟩)] (fun xs w => by kernel_rfl) (fun k => k < w.heap.size) (fun k => k = w.heap.size + 1 ∨ k = w.heap.size + 1 + 1) (w.heap.size + 1 + 1 + 1)
    (fun (st : Int × Int) W => (Blk W (w.heap.size + 1) 3 #[.int .i64 st.1] ∧ Blk W (w.heap.size + 1 + 1) 3 #[.int .i64 st.2]) ∧ w.heap.size + 1 + 1 + 1 ≤ W.heap.size) step3
    (fun st W W' h hx => ⟨⟨h.1.1.ext hx, h.1.2.ext hx⟩, Nat.le_trans h.2 hx.size⟩) (fun k hk => by omega) (fun st W h => h.2) (fun k hk h => by omega) (fun _ _ _ => rfl)
    (fun c v lev st W hl hs hcv h => (visit3_any (w.heap.size + 1) (w.heap.size + 1 + 1) (by omega) c v lev st W _ hcv h.1.1 h.1.2).mono fun e W' ⟨a, b, d⟩ => ⟨a, ⟨b, Nat.le_trans h.2 d.size⟩, d⟩)
    (cnt c) c (Nat.le_refl _) 0 _ (0, 0) _ (by omega) hsm (hcd.ext hxb) ⟨⟨b1, b2⟩, hB0⟩
  rw [show ((0 : Nat) : Int) = 0 from rfl] at hw1
  have hsx := hxb.size
  have HW1 := Lib.hid hw1
  have hch : checkC c = if 100 < cnt c then 4 else if firstErr (prt 0 c) ≠ 0 then firstErr (prt 0 c) else if (prt 0 c).any (fun p => decide (20 < p.2)) = true then 4 else 0 := rfl
  rw [hch]
  have hlen := prt_len 0 c
  clear hw1 hch
  have hrun := run3_all (prt 0 c) 0 0 (by omega) (by omega)
  generalize (runP step3 (prt 0 c) (0, 0)).1 = S at *
  obtain ⟨s1, s2⟩ := S
  obtain ⟨hr1, hr2⟩ := hrun
  dsimp only at hr1 hr2
  rw [hlen] at hr1
  by_cases hbig : 100 < cnt c
  · rw [if_pos hbig]
    have hs1 : (100 : Int) < s1 := by omega
    clear hr1 hr2
    go_enter Tryz.func61, Tryz.ntmps61
    go_wp2_with fail
    refine HW1.out.mono ?_
    rintro e W1 ⟨rfl, ⟨⟨hb1, hb2⟩, hB1⟩, hx1⟩
    have c1 := hb1.cell
    have hxf : Ext w W1 := ExtC.ext hxb hx1 (fun i hi => by omega)
    clear bx b1 b2 hb1 hb2 hx1
    go_wp2
    go_ret
    exact ⟨rfl, hxf⟩
  rw [if_neg hbig]
  have hs1 : ¬ (100 : Int) < s1 := by omega
  have hr3 : (20 < s2) ↔ ((prt 0 c).any fun q => decide (20 < q.2)) = true := by rw [hr2]; exact ⟨fun h => h.elim (fun x => absurd x (by decide)) id, .inr⟩
  generalize (prt 0 c).any (fun q => decide (20 < q.2)) = dp at *
  obtain ⟨Wn, hWn⟩ : ∃ Wn : Int, (if decide ((20 : Int) < s2) = true then (4 : Int) else 0) = Wn := ⟨_, rfl⟩
  have hwh := fun W => When_any (decide ((20 : Int) < s2)) 4 W
  have hfs : (if firstErr (prt 0 c) ≠ 0 then firstErr (prt 0 c) else if dp = true then 4 else 0) = firstI [firstErr (prt 0 c), Wn] := by
    generalize firstErr (prt 0 c) = E
    rw [← hWn]
    by_cases hE : E = 0
    · subst hE
      rw [if_neg (by decide)]
      by_cases h20 : (20 : Int) < s2
      · rw [decide_eq_true h20, hr3.1 h20]; rfl
      · rw [decide_eq_false h20, (Bool.not_eq_true _).mp (fun h => h20 (hr3.2 h))]; rfl
    · rw [if_pos hE]
      simp [firstI, hE]
  rw [hfs]
  simp only [hWn] at hwh
  have HWH := Lib.hid hwh
  clear hwh hfs hWn hr1 hr2 hr3
  go_enter Tryz.func61, Tryz.ntmps61
  go_wp2_with fail
  refine HW1.out.mono ?_
  rintro e W1 ⟨rfl, ⟨⟨hb1, hb2⟩, hB1⟩, hx1⟩
  have c1 := hb1.cell; have c2 := hb2.cell
  have bx1 := bx.extC hx1 (by omega)
  have cx := bx1.cell
  have hxf : Ext w W1 := ExtC.ext hxb hx1 (fun i hi => by omega)
  have hz1 := hxf.size
  have b3 := Blk.new W1 24 #[.int .i64 0]
  have hx3 : Ext W1 (W1.alloc (.cells #[.int .i64 0] 24)) := (Ext.refl W1).alloc _
  have hw2 := CondParts_any 142 #[.pointer (some ⟨W1.heap.size, 0, none⟩)] (fun xs w => by kernel_rfl) (fun k => k < w.heap.size) (fun k => k = W1.heap.size) (W1.heap.size + 1)
    (fun (st : Int) W => Ext w W ∧ Blk W W1.heap.size 24 #[.int .i64 st] ∧ W1.heap.size + 1 ≤ W.heap.size) step4
    (fun st W W' h hx => ⟨h.1.trans hx, h.2.1.ext hx, Nat.le_trans h.2.2 hx.size⟩) (fun k hk => by omega) (fun st W h => h.2.2) (fun k hk h => by omega) (fun _ _ _ => rfl)
    (fun c v lev st W hl hs hcv h => (visit4_any W1.heap.size c v lev st W _ (hg.ext h.1) hs hcv h.2.1).mono fun e W' ⟨a, b, d⟩ => ⟨a, ⟨ExtC.ext h.1 d (fun i hi => by omega), b, Nat.le_trans h.2.2 d.size⟩, d⟩)
    (cnt c) c (Nat.le_refl _) 0 _ 0 _ (by omega) hsm ((hcd.ext hxf).ext hx3) ⟨hxf.trans hx3, b3, by rw [World.size_alloc]; exact Nat.le_refl _⟩
  rw [show ((0 : Nat) : Int) = 0 from rfl] at hw2
  have hfe : (runP step4 (prt 0 c) 0).1 = firstErr (prt 0 c) := by rw [run4_first, if_pos rfl]
  rw [hfe] at hw2
  obtain ⟨E, hE0⟩ : ∃ E, firstErr (prt 0 c) = E := ⟨_, rfl⟩
  rw [hE0] at hw2
  have HE0 := Lib.hid hE0
  clear hE0
  have HW2 := Lib.hid hw2
  have HB1 := Lib.hid hb1; have HB2 := Lib.hid hb2
  have hl1 := hb1.lt; have hl2 := hb2.lt; have hlx := bx1.lt
  clear hw2 hfe b1 b2 bx b3 hb1 hx1 hxf hx3 hlen hcd hsm
  go_wp2_with fail
  refine HW2.out.mono ?_
  rintro e W2 ⟨rfl, ⟨hxf2, hb3, hB2⟩, hx2⟩
  have hb22 := (hb2.alloc (.cells #[.int .i64 0] 24)).extC hx2 (by omega)
  have d2 := hb22.cell; have d3 := hb3.cell
  have hl3 := hb3.lt; have hl22 := hb22.lt
  have q2 : W2.cell? ⟨w.heap.size + 1 + 1, 0, none⟩ = some (.int .i64 s2) := d2 0
  have q3 : W2.cell? ⟨W1.heap.size, 0, none⟩ = some (.int .i64 E) := d3 0
  clear d2 d3
  go_wp2_with fail
  go_region_held3 (fun w' => w'.cell? ⟨w.heap.size + 1 + 1, 0, none⟩ = some (.int .i64 s2) ∧ w'.cell? ⟨W1.heap.size, 0, none⟩ = some (.int .i64 E)) (first | (go_keep; done) | skip)
    (first
    | (go_at_call 59; refine (HWH.out _).mono ?_; rintro e w' ⟨rfl, rfl⟩)
    | (go_at_call 21; refine (First_any _ _ [E, Wn] _ ?_ (by simp)).mono ?_; (next => (intro k hk; match k, hk with | 0, _ => (simp; done) | 1, _ => (simp; done))); rintro e w' ⟨rfl, rfl⟩))
  all_goals
    go_wp2
    go_ret
    refine ⟨?_, ?_⟩
    · simp [HE0.out]
    · exact (hxf2.alloc _).drew
end Go.Proofs.YtaobnifiengglaaGreatDoor
