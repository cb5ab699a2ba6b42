/- Contracts of ver.CheckCond and outref2.CondError, the whole. -/
import Derived.Test.YtncagihilplliaaGreatDoorCr43

namespace Go.Proofs.YtncagihilplliaaGreatDoor
open Go.RowKit

set_option maxRecDepth 100000 in
set_option maxHeartbeats 8000000 in
theorem CheckCond_any (c : Cd) (v : Value) (P : Nat → Prop) (w : World) (hg : GoodN w) (hc : CdIn P w c v) (hsm : SmallC c) (hcnt : cnt c ≤ 100000000) :
    Calls Tryz.prog 89 #[v] w fun e w' => e = .returned (.int .i64 (checkC c)) ∧ Ext w w' := by
  have hcd : CdIn (fun k => k < w.heap.size) w c v := hc.imp fun b hb _ => hb
  obtain ⟨k, n, x, A, m, cp, rfl⟩ := hc.cells
  clear hc
  have hxb : Ext w (((w.alloc (.cells #[.int .i64 k, .string n, .string x, .slice A m cp] 61)).alloc (.cells #[.int .i64 0] 3)).alloc (.cells #[.bool false] 4)) := (((Ext.refl w).alloc _).alloc _).alloc _
  have bx := ((Blk.new w 61 #[.int .i64 k, .string n, .string x, .slice A m cp]).alloc (.cells #[.int .i64 0] 3)).alloc (.cells #[.bool false] 4)
  have b1 := (Blk.new (w.alloc (.cells #[.int .i64 k, .string n, .string x, .slice A m cp] 61)) 3 #[.int .i64 0]).alloc (.cells #[.bool false] 4)
  have b2 := Blk.new ((w.alloc (.cells #[.int .i64 k, .string n, .string x, .slice A m cp] 61)).alloc (.cells #[.int .i64 0] 3)) 4 #[.bool false]
  rw [World.size_alloc] at b1
  rw [World.size_alloc, World.size_alloc] at b2
  have hB0 : w.heap.size + 1 + 1 + 1 ≤ (((w.alloc (.cells #[.int .i64 k, .string n, .string x, .slice A m cp] 61)).alloc (.cells #[.int .i64 0] 3)).alloc (.cells #[.bool false] 4)).heap.size := by rw [World.size_alloc, World.size_alloc, World.size_alloc]; exact Nat.le_refl _
  have hw1 := walk_any 128 #[.pointer (some ⟨w.heap.size + 1, 0, none⟩), .pointer (some ⟨w.heap.size + 1 + 1, 0, none⟩)] (fun xs w => by kernel_rfl) (fun k => k < w.heap.size) (fun k => k = w.heap.size + 1 ∨ k = w.heap.size + 1 + 1) (w.heap.size + 1 + 1 + 1)
    (fun (st : Int × Bool) W => (Blk W (w.heap.size + 1) 3 #[.int .i64 st.1] ∧ Blk W (w.heap.size + 1 + 1) 4 #[.bool st.2]) ∧ w.heap.size + 1 + 1 + 1 ≤ W.heap.size) step1
    (fun st W W' h hx => ⟨⟨h.1.1.ext hx, h.1.2.ext hx⟩, Nat.le_trans h.2 hx.size⟩) (fun k hk => by omega) (fun st W h => h.2) (fun k hk h => by omega)
    (fun c v lev st W hl hs hcv h => (visit1_any (w.heap.size + 1) (w.heap.size + 1 + 1) (by omega) c v lev st W _ hl hcv h.1.1 h.1.2).mono fun e W' ⟨a, b, d⟩ => ⟨a, ⟨b, Nat.le_trans h.2 d.size⟩, d⟩)
    (cnt c) c (Nat.le_refl _) 0 _ (0, false) _ (by omega) hsm (hcd.ext hxb) ⟨⟨b1, b2⟩, hB0⟩
  rw [show ((0 : Nat) : Int) = 0 from rfl] at hw1
  have hsx := hxb.size
  have HW1 := Lib.hid hw1
  have hch : checkC c = if 100 < cnt c then 4 else if firstErr (prt 0 c) ≠ 0 then firstErr (prt 0 c) else if (prt 0 c).any (fun p => decide (20 < p.2)) = true then 4 else 0 := rfl
  rw [hch]
  have hlen := prt_len 0 c
  clear hw1 hch
  by_cases hbig : 100 < cnt c
  · have hl := run1_large (prt 0 c) 0 false (by omega) (by omega) (by omega)
    rw [if_pos hbig]
    generalize (runP step1 (prt 0 c) (0, false)).1 = S at *
    obtain ⟨s1, s2⟩ := S
    have hl : s1 = 101 := hl
    subst hl
    go_enter Tryz.func89, Tryz.ntmps89
    go_wp2_with fail
    refine HW1.out.mono ?_
    rintro e W1 ⟨rfl, ⟨⟨hb1, hb2⟩, hB1⟩, hx1⟩
    have c1 := hb1.cell
    have hxf : Ext w W1 := ExtC.ext hxb hx1 (fun i hi => by omega)
    clear bx b1 b2 hb1 hb2 hx1
    go_wp2
    go_ret
    exact ⟨rfl, hxf⟩
  have hsmall := run1_small (prt 0 c) 0 false (by omega) (by omega)
  rw [if_neg hbig]
  have hs1 : (runP step1 (prt 0 c) (0, false)).1 = (((cnt c : Nat) : Int), (prt 0 c).any fun q => decide (20 < q.2)) := by rw [hsmall, hlen]; simp
  rw [hs1] at HW1
  have hnc : ¬ (100 : Int) < (cnt c : Int) := by omega
  generalize (prt 0 c).any (fun q => decide (20 < q.2)) = dp at *
  clear hsmall hs1
  obtain ⟨R, hR⟩ : ∃ R : Int, R = (if firstErr (prt 0 c) ≠ 0 then firstErr (prt 0 c) else if dp = true then 4 else 0) := ⟨_, rfl⟩
  rw [← hR]
  have HR := Lib.hid hR
  clear hR
  go_enter Tryz.func89, Tryz.ntmps89
  go_wp2_with fail
  refine HW1.out.mono ?_
  rintro e W1 ⟨rfl, ⟨⟨hb1, hb2⟩, hB1⟩, hx1⟩
  have c1 := hb1.cell; have c2 := hb2.cell
  have bx1 := bx.extC hx1 (by omega)
  have cx := bx1.cell
  have hxf : Ext w W1 := ExtC.ext hxb hx1 (fun i hi => by omega)
  have hz1 := hxf.size
  have b3 := Blk.new W1 24 #[.int .i64 0]
  have hx3 : Ext W1 (W1.alloc (.cells #[.int .i64 0] 24)) := (Ext.refl W1).alloc _
  have hw2 := walk_any 129 #[.pointer (some ⟨W1.heap.size, 0, none⟩)] (fun xs w => by kernel_rfl) (fun k => k < w.heap.size) (fun k => k = W1.heap.size) (W1.heap.size + 1)
    (fun (st : Int) W => Ext w W ∧ Blk W W1.heap.size 24 #[.int .i64 st] ∧ W1.heap.size + 1 ≤ W.heap.size) step2
    (fun st W W' h hx => ⟨h.1.trans hx, h.2.1.ext hx, Nat.le_trans h.2.2 hx.size⟩) (fun k hk => by omega) (fun st W h => h.2.2) (fun k hk h => by omega)
    (fun c v lev st W hl hs hcv h => (visit2_any W1.heap.size c v lev st W _ (hg.ext h.1) hs hcv h.2.1).mono fun e W' ⟨a, b, d⟩ => ⟨a, ⟨ExtC.ext h.1 d (fun i hi => by omega), b, Nat.le_trans h.2.2 d.size⟩, d⟩)
    (cnt c) c (Nat.le_refl _) 0 _ 0 _ (by omega) hsm ((hcd.ext hxf).ext hx3) ⟨hxf.trans hx3, b3, by rw [World.size_alloc]; exact Nat.le_refl _⟩
  rw [show ((0 : Nat) : Int) = 0 from rfl] at hw2
  have hfe : (runP step2 (prt 0 c) 0).1 = firstErr (prt 0 c) := run2_first _
  rw [hfe] at hw2
  generalize firstErr (prt 0 c) = E at *
  have HW2 := Lib.hid hw2
  have HB1 := Lib.hid hb1; have HB2 := Lib.hid hb2
  have hl1 := hb1.lt; have hl2 := hb2.lt; have hlx := bx1.lt
  clear hw2 hfe b1 b2 bx b3 hb1 hx1 hxf hx3 hlen hcd hsm
  go_wp2_with fail
  refine HW2.out.mono ?_
  rintro e W2 ⟨rfl, ⟨hxf2, hb3, hB2⟩, hx2⟩
  have hb22 := (hb2.alloc (.cells #[.int .i64 0] 24)).extC hx2 (by omega)
  have d2 := hb22.cell; have d3 := hb3.cell
  have hR := HR.out
  by_cases hE : E = 0
  · have eE : (E == 0) = true := beq_iff_eq.2 hE
    rw [if_neg (fun h => h hE)] at hR
    have HE := Lib.hid hE
    clear hE
    cases dp
    · rw [if_neg (by decide)] at hR
      have HRz := Lib.hid hR
      clear hR HR
      go_wp2
      go_ret
      exact ⟨ret_int (by rw [HRz.out]; exact HE.out), hxf2⟩
    · rw [if_pos rfl] at hR
      have HRz := Lib.hid hR
      clear hR HR
      go_wp2
      go_ret
      exact ⟨ret_int HRz.out.symm, hxf2⟩
  · have eE : (E == 0) = false := beq_eq_false_iff_ne.2 hE
    rw [if_pos hE] at hR
    have HRz := Lib.hid hR
    clear hE hR HR
    go_wp2
    go_ret
    exact ⟨ret_int HRz.out.symm, hxf2⟩
set_option maxRecDepth 100000 in
set_option maxHeartbeats 8000000 in
theorem CondError_any (c : Cd) (v : Value) (P : Nat → Prop) (w : World) (hg : GoodN w) (hc : CdIn P w c v) (hsm : SmallC c) (hcnt : cnt c ≤ 100000000) :
    Calls Tryz.prog 93 #[v] w fun e w' => e = .returned (.int .i64 (checkC c)) ∧ Ext w w' := by
  have hcd : CdIn (fun k => k < w.heap.size) w c v := hc.imp fun b hb _ => hb
  obtain ⟨k, n, x, A, m, cp, rfl⟩ := hc.cells
  clear hc
  have hxb : Ext w (((w.alloc (.cells #[.int .i64 k, .string n, .string x, .slice A m cp] 61)).alloc (.cells #[.int .i64 0] 3)).alloc (.cells #[.int .i64 0] 3)) := (((Ext.refl w).alloc _).alloc _).alloc _
  have bx := ((Blk.new w 61 #[.int .i64 k, .string n, .string x, .slice A m cp]).alloc (.cells #[.int .i64 0] 3)).alloc (.cells #[.int .i64 0] 3)
  have b1 := (Blk.new (w.alloc (.cells #[.int .i64 k, .string n, .string x, .slice A m cp] 61)) 3 #[.int .i64 0]).alloc (.cells #[.int .i64 0] 3)
  have b2 := Blk.new ((w.alloc (.cells #[.int .i64 k, .string n, .string x, .slice A m cp] 61)).alloc (.cells #[.int .i64 0] 3)) 3 #[.int .i64 0]
  rw [World.size_alloc] at b1
  rw [World.size_alloc, World.size_alloc] at b2
  have hB0 : w.heap.size + 1 + 1 + 1 ≤ (((w.alloc (.cells #[.int .i64 k, .string n, .string x, .slice A m cp] 61)).alloc (.cells #[.int .i64 0] 3)).alloc (.cells #[.int .i64 0] 3)).heap.size := by rw [World.size_alloc, World.size_alloc, World.size_alloc]; exact Nat.le_refl _
  have hw1 := CondParts_any 135 #[.pointer (some ⟨w.heap.size + 1, 0, none⟩), .pointer (some ⟨w.heap.size + 1 + 1, 0, none⟩)] (fun xs w => by kernel_rfl) (fun k => k < w.heap.size) (fun k => k = w.heap.size + 1 ∨ k = w.heap.size + 1 + 1) (w.heap.size + 1 + 1 + 1)
    (fun (st : Int × Int) W => (Blk W (w.heap.size + 1) 3 #[.int .i64 st.1] ∧ Blk W (w.heap.size + 1 + 1) 3 #[.int .i64 st.2]) ∧ w.heap.size + 1 + 1 + 1 ≤ W.heap.size) step3
    (fun st W W' h hx => ⟨⟨h.1.1.ext hx, h.1.2.ext hx⟩, Nat.le_trans h.2 hx.size⟩) (fun k hk => by omega) (fun st W h => h.2) (fun k hk h => by omega) (fun _ _ _ => rfl)
    (fun c v lev st W hl hs hcv h => (visit3_any (w.heap.size + 1) (w.heap.size + 1 + 1) (by omega) c v lev st W _ hcv h.1.1 h.1.2).mono fun e W' ⟨a, b, d⟩ => ⟨a, ⟨b, Nat.le_trans h.2 d.size⟩, d⟩)
    (cnt c) c (Nat.le_refl _) 0 _ (0, 0) _ (by omega) hsm (hcd.ext hxb) ⟨⟨b1, b2⟩, hB0⟩
  rw [show ((0 : Nat) : Int) = 0 from rfl] at hw1
  have hsx := hxb.size
  have HW1 := Lib.hid hw1
  have hch : checkC c = if 100 < cnt c then 4 else if firstErr (prt 0 c) ≠ 0 then firstErr (prt 0 c) else if (prt 0 c).any (fun p => decide (20 < p.2)) = true then 4 else 0 := rfl
  rw [hch]
  have hlen := prt_len 0 c
  clear hw1 hch
  have hrun := run3_all (prt 0 c) 0 0 (by omega) (by omega)
  generalize (runP step3 (prt 0 c) (0, 0)).1 = S at *
  obtain ⟨s1, s2⟩ := S
  obtain ⟨hr1, hr2⟩ := hrun
  dsimp only at hr1 hr2
  rw [hlen] at hr1
  by_cases hbig : 100 < cnt c
  · rw [if_pos hbig]
    have hs1 : (100 : Int) < s1 := by omega
    clear hr1 hr2
    go_enter Tryz.func93, Tryz.ntmps93
    go_wp2_with fail
    refine HW1.out.mono ?_
    rintro e W1 ⟨rfl, ⟨⟨hb1, hb2⟩, hB1⟩, hx1⟩
    have c1 := hb1.cell
    have hxf : Ext w W1 := ExtC.ext hxb hx1 (fun i hi => by omega)
    clear bx b1 b2 hb1 hb2 hx1
    go_wp2
    go_ret
    exact ⟨rfl, hxf⟩
  rw [if_neg hbig]
  have hs1 : ¬ (100 : Int) < s1 := by omega
  have hr3 : (20 < s2) ↔ ((prt 0 c).any fun q => decide (20 < q.2)) = true := by rw [hr2]; exact ⟨fun h => h.elim (fun x => absurd x (by decide)) id, .inr⟩
  generalize (prt 0 c).any (fun q => decide (20 < q.2)) = dp at *
  obtain ⟨Wn, hWn⟩ : ∃ Wn : Int, (if decide ((20 : Int) < s2) = true then (4 : Int) else 0) = Wn := ⟨_, rfl⟩
  have hwh := fun W => When_any (decide ((20 : Int) < s2)) 4 W
  have hfs : (if firstErr (prt 0 c) ≠ 0 then firstErr (prt 0 c) else if dp = true then 4 else 0) = firstI [firstErr (prt 0 c), Wn] := by
    generalize firstErr (prt 0 c) = E
    rw [← hWn]
    by_cases hE : E = 0
    · subst hE
      rw [if_neg (by decide)]
      by_cases h20 : (20 : Int) < s2
      · rw [decide_eq_true h20, hr3.1 h20]; rfl
      · rw [decide_eq_false h20, (Bool.not_eq_true _).mp (fun h => h20 (hr3.2 h))]; rfl
    · rw [if_pos hE]
      simp [firstI, hE]
  rw [hfs]
  simp only [hWn] at hwh
  have HWH := Lib.hid hwh
  clear hwh hfs hWn hr1 hr2 hr3
  go_enter Tryz.func93, Tryz.ntmps93
  go_wp2_with fail
  refine HW1.out.mono ?_
  rintro e W1 ⟨rfl, ⟨⟨hb1, hb2⟩, hB1⟩, hx1⟩
  have c1 := hb1.cell; have c2 := hb2.cell
  have bx1 := bx.extC hx1 (by omega)
  have cx := bx1.cell
  have hxf : Ext w W1 := ExtC.ext hxb hx1 (fun i hi => by omega)
  have hz1 := hxf.size
  have b3 := Blk.new W1 24 #[.int .i64 0]
  have hx3 : Ext W1 (W1.alloc (.cells #[.int .i64 0] 24)) := (Ext.refl W1).alloc _
  have hw2 := CondParts_any 136 #[.pointer (some ⟨W1.heap.size, 0, none⟩)] (fun xs w => by kernel_rfl) (fun k => k < w.heap.size) (fun k => k = W1.heap.size) (W1.heap.size + 1)
    (fun (st : Int) W => Ext w W ∧ Blk W W1.heap.size 24 #[.int .i64 st] ∧ W1.heap.size + 1 ≤ W.heap.size) step4
    (fun st W W' h hx => ⟨h.1.trans hx, h.2.1.ext hx, Nat.le_trans h.2.2 hx.size⟩) (fun k hk => by omega) (fun st W h => h.2.2) (fun k hk h => by omega) (fun _ _ _ => rfl)
    (fun c v lev st W hl hs hcv h => (visit4_any W1.heap.size c v lev st W _ (hg.ext h.1) hs hcv h.2.1).mono fun e W' ⟨a, b, d⟩ => ⟨a, ⟨ExtC.ext h.1 d (fun i hi => by omega), b, Nat.le_trans h.2.2 d.size⟩, d⟩)
    (cnt c) c (Nat.le_refl _) 0 _ 0 _ (by omega) hsm ((hcd.ext hxf).ext hx3) ⟨hxf.trans hx3, b3, by rw [World.size_alloc]; exact Nat.le_refl _⟩
  rw [show ((0 : Nat) : Int) = 0 from rfl] at hw2
  have hfe : (runP step4 (prt 0 c) 0).1 = firstErr (prt 0 c) := by rw [run4_first, if_pos rfl]
  rw [hfe] at hw2
  obtain ⟨E, hE0⟩ : ∃ E, firstErr (prt 0 c) = E := ⟨_, rfl⟩
  rw [hE0] at hw2
  have HE0 := Lib.hid hE0
  clear hE0
  have HW2 := Lib.hid hw2
  have HB1 := Lib.hid hb1; have HB2 := Lib.hid hb2
  have hl1 := hb1.lt; have hl2 := hb2.lt; have hlx := bx1.lt
  clear hw2 hfe b1 b2 bx b3 hb1 hx1 hxf hx3 hlen hcd hsm
  go_wp2_with fail
  refine HW2.out.mono ?_
  rintro e W2 ⟨rfl, ⟨hxf2, hb3, hB2⟩, hx2⟩
  have hb22 := (hb2.alloc (.cells #[.int .i64 0] 24)).extC hx2 (by omega)
  have d2 := hb22.cell; have d3 := hb3.cell
  have hl3 := hb3.lt; have hl22 := hb22.lt
  have q2 : W2.cell? ⟨w.heap.size + 1 + 1, 0, none⟩ = some (.int .i64 s2) := d2 0
  have q3 : W2.cell? ⟨W1.heap.size, 0, none⟩ = some (.int .i64 E) := d3 0
  clear d2 d3
  go_wp2_with fail
  go_region_held3 (fun w' => w'.cell? ⟨w.heap.size + 1 + 1, 0, none⟩ = some (.int .i64 s2) ∧ w'.cell? ⟨W1.heap.size, 0, none⟩ = some (.int .i64 E)) (first | (go_keep; done) | skip)
    (first
    | (go_at_call 61; refine (HWH.out _).mono ?_; rintro e w' ⟨rfl, rfl⟩)
    | (go_at_call 17; refine (First_any _ _ [E, Wn] _ ?_ (by simp)).mono ?_; (next => (intro k hk; match k, hk with | 0, _ => (simp; done) | 1, _ => (simp; done))); rintro e w' ⟨rfl, rfl⟩))
  all_goals
    go_wp2
    go_ret
    refine ⟨?_, ?_⟩
    · simp [HE0.out]
    · exact (hxf2.alloc _).drew
end Go.Proofs.YtncagihilplliaaGreatDoor
