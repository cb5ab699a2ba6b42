/- Contracts of ver.CheckCond and outref2.CondError, the whole. Plain law: what is read of a text as a condition has a bearable size. Contract of outref2.SameCond, at two conditions that are the same. -/
import Derived.Test.YtaobnifiengglaaGreatDoorCe29
import Derived.Test.YtaobnifiengglaaGreatDoorCe28

namespace Go.Proofs.YtaobnifiengglaaGreatDoor
open Go.RowKit

set_option maxRecDepth 100000 in
set_option maxHeartbeats 8000000 in
theorem CheckCond_any (c : Cd) (v : Value) (P : Nat → Prop) (w : World) (hg : GoodN w) (hc : CdIn P w c v) (hsm : SmallC c) (hcnt : cnt c ≤ 100000000) :
    Calls Tryz.prog 67 #[v] w fun e w' => e = .returned (.int .i64 (checkC c)) ∧ Ext w w' := by
  have hcd : CdIn (fun k => k < w.heap.size) w c v := hc.imp fun b hb _ => hb
  obtain ⟨k, n, x, A, m, cp, rfl⟩ := hc.cells
  clear hc
  have hxb : Ext w (((w.alloc (.cells #[.int .i64 k, .string n, .string x, .slice A m cp] 61)).alloc (.cells #[.int .i64 0] 3)).alloc (.cells #[.bool false] 4)) := (((Ext.refl w).alloc _).alloc _).alloc _
  have bx := ((Blk.new w 61 #[.int .i64 k, .string n, .string x, .slice A m cp]).alloc (.cells #[.int .i64 0] 3)).alloc (.cells #[.bool false] 4)
  have b1 := (Blk.new (w.alloc (.cells #[.int .i64 k, .string n, .string x, .slice A m cp] 61)) 3 #[.int .i64 0]).alloc (.cells #[.bool false] 4)
  have b2 := Blk.new ((w.alloc (.cells #[.int .i64 k, .string n, .string x, .slice A m cp] 61)).alloc (.cells #[.int .i64 0] 3)) 4 #[.bool false]
  rw [World.size_alloc] at b1
  rw [World.size_alloc, World.size_alloc] at b2
  have hB0 : w.heap.size + 1 + 1 + 1 ≤ (((w.alloc (.cells #[.int .i64 k, .string n, .string x, .slice A m cp] 61)).alloc (.cells #[.int .i64 0] 3)).alloc (.cells #[.bool false] 4)).heap.size := by rw [World.size_alloc, World.size_alloc, World.size_alloc]; exact Nat.le_refl _
  have hw1 := walk_any 154 #[.pointer (some ⟨w.heap.size + 1, 0, none⟩), .pointer (some ⟨w.heap.size + 1 + 1, 0, none⟩)] (fun xs w => by kernel_rfl) (fun k => k < w.heap.size) (fun k => k = w.heap.size + 1 ∨ k = w.heap.size + 1 + 1) (w.heap.size + 1 + 1 + 1)
    (fun (st : Int × Bool) W => (Blk W (w.heap.size + 1) 3 #[.int .i64 st.1] ∧ Blk W (w.heap.size + 1 + 1) 4 #[.bool st.2]) ∧ w.heap.size + 1 + 1 + 1 ≤ W.heap.size) step1
    (fun st W W' h hx => ⟨⟨h.1.1.ext hx, h.1.2.ext hx⟩, Nat.le_trans h.2 hx.size⟩) (fun k hk => by omega) (fun st W h => h.2) (fun k hk h => by omega)
    (fun c v lev st W hl hs hcv h => (visit1_any (w.heap.size + 1) (w.heap.size + 1 + 1) (by omega) c v lev st W _ hl hcv h.1.1 h.1.2).mono fun e W' ⟨a, b, d⟩ => ⟨a, ⟨b, Nat.le_trans h.2 d.size⟩, d⟩)
    (cnt c) c (Nat.le_refl _) 0 _ (0, false) _ (by omega) hsm (hcd.ext hxb) ⟨⟨b1, b2⟩, hB0⟩
  rw [show ((0 : Nat) : Int) = 0 from rfl] at hw1
  have hsx := hxb.size
  have HW1 := Lib.hid hw1
  have hch : checkC c = if 100 < cnt c then 4 else if firstErr (prt 0 c) ≠ 0 then firstErr (prt 0 c) else if (prt 0 c).any (fun p => decide (20 < p.2)) = true then 4 else 0 := rfl
  rw [hch]
  have hlen := prt_len 0 c
  clear hw1 hch
  by_cases hbig : 100 < cnt c
  · have hl := run1_large (prt 0 c) 0 false (by omega) (by omega) (by omega)
    rw [if_pos hbig]
    generalize (runP step1 (prt 0 c) (0, false)).1 = S at *
    obtain ⟨s1, s2⟩ := S
    have hl : s1 = 101 := hl
    subst hl
    go_enter Tryz.func67, Tryz.ntmps67
    go_wp2_with fail
    refine HW1.out.mono ?_
    rintro e W1 ⟨rfl, ⟨⟨hb1, hb2⟩, hB1⟩, hx1⟩
    have c1 := hb1.cell
    have hxf : Ext w W1 := ExtC.ext hxb hx1 (fun i hi => by omega)
    clear bx b1 b2 hb1 hb2 hx1
    go_wp2
    go_ret
    exact ⟨rfl, hxf⟩
  have hsmall := run1_small (prt 0 c) 0 false (by omega) (by omega)
  rw [if_neg hbig]
  have hs1 : (runP step1 (prt 0 c) (0, false)).1 = (((cnt c : Nat) : Int), (prt 0 c).any fun q => decide (20 < q.2)) := by rw [hsmall, hlen]; simp
  rw [hs1] at HW1
  have hnc : ¬ (100 : Int) < (cnt c : Int) := by omega
  generalize (prt 0 c).any (fun q => decide (20 < q.2)) = dp at *
  clear hsmall hs1
  obtain ⟨R, hR⟩ : ∃ R : Int, R = (if firstErr (prt 0 c) ≠ 0 then firstErr (prt 0 c) else if dp = true then 4 else 0) := ⟨_, rfl⟩
  rw [← hR]
  have HR := Lib.hid hR
  clear hR
  go_enter Tryz.func67, Tryz.ntmps67
  go_wp2_with fail
  refine HW1.out.mono ?_
  rintro e W1 ⟨rfl, ⟨⟨hb1, hb2⟩, hB1⟩, hx1⟩
  have c1 := hb1.cell; have c2 := hb2.cell
  have bx1 := bx.extC hx1 (by omega)
  have cx := bx1.cell
  have hxf : Ext w W1 := ExtC.ext hxb hx1 (fun i hi => by omega)
  have hz1 := hxf.size
  have b3 := Blk.new W1 24 #[.int .i64 0]
  have hx3 : Ext W1 (W1.alloc (.cells #[.int .i64 0] 24)) := (Ext.refl W1).alloc _
  have hw2 := walk_any 155 #[.pointer (some ⟨W1.heap.size, 0, none⟩)] (fun xs w => by kernel_rfl) (fun k => k < w.heap.size) (fun k => k = W1.heap.size) (W1.heap.size + 1)
    (fun (st : Int) W => Ext w W ∧ Blk W W1.heap.size 24 #[.int .i64 st] ∧ W1.heap.size + 1 ≤ W.heap.size) step2
    (fun st W W' h hx => ⟨h.1.trans hx, h.2.1.ext hx, Nat.le_trans h.2.2 hx.size⟩) (fun k hk => by omega) (fun st W h => h.2.2) (fun k hk h => by omega)
    (fun c v lev st W hl hs hcv h => (visit2_any W1.heap.size c v lev st W _ (hg.ext h.1) hs hcv h.2.1).mono fun e W' ⟨a, b, d⟩ => ⟨a, ⟨ExtC.ext h.1 d (fun i hi => by omega), b, Nat.le_trans h.2.2 d.size⟩, d⟩)
    (cnt c) c (Nat.le_refl _) 0 _ 0 _ (by omega) hsm ((hcd.ext hxf).ext hx3) ⟨hxf.trans hx3, b3, by rw [World.size_alloc]; exact Nat.le_refl _⟩
  rw [show ((0 : Nat) : Int) = 0 from rfl] at hw2
  have hfe : (runP step2 (prt 0 c) 0).1 = firstErr (prt 0 c) := run2_first _
  rw [hfe] at hw2
  generalize firstErr (prt 0 c) = E at *
  have HW2 := Lib.hid hw2
  have HB1 := Lib.hid hb1; have HB2 := Lib.hid hb2
  have hl1 := hb1.lt; have hl2 := hb2.lt; have hlx := bx1.lt
  clear hw2 hfe b1 b2 bx b3 hb1 hx1 hxf hx3 hlen hcd hsm
  go_wp2_with fail
  refine HW2.out.mono ?_
  rintro e W2 ⟨rfl, ⟨hxf2, hb3, hB2⟩, hx2⟩
  have hb22 := (hb2.alloc (.cells #[.int .i64 0] 24)).extC hx2 (by omega)
  have d2 := hb22.cell; have d3 := hb3.cell
  have hR := HR.out
  by_cases hE : E = 0
  · have eE : (E == 0) = true := beq_iff_eq.2 hE
    rw [if_neg (fun h => h hE)] at hR
    have HE := Lib.hid hE
    clear hE
    cases dp
    · rw [if_neg (by decide)] at hR
      have HRz := Lib.hid hR
      clear hR HR
      go_wp2
      go_ret
      exact ⟨ret_int (by rw [HRz.out]; exact HE.out), hxf2⟩
    · rw [if_pos rfl] at hR
      have HRz := Lib.hid hR
      clear hR HR
      go_wp2
      go_ret
      exact ⟨ret_int HRz.out.symm, hxf2⟩
  · have eE : (E == 0) = false := beq_eq_false_iff_ne.2 hE
    rw [if_pos hE] at hR
    have HRz := Lib.hid hR
    clear hE hR HR
    go_wp2
    go_ret
    exact ⟨ret_int HRz.out.symm, hxf2⟩
set_option maxRecDepth 100000 in
set_option maxHeartbeats 8000000 in
theorem CondError_any (c : Cd) (v : Value) (P : Nat → Prop) (w : World) (hg : GoodN w) (hc : CdIn P w c v) (hsm : SmallC c) (hcnt : cnt c ≤ 100000000) :
    Calls Tryz.prog 61 #[v] w fun e w' => e = .returned (.int .i64 (checkC c)) ∧ Ext w w' := by
  have hcd : CdIn (fun k => k < w.heap.size) w c v := hc.imp fun b hb _ => hb
  obtain ⟨k, n, x, A, m, cp, rfl⟩ := hc.cells
  clear hc
  have hxb : Ext w (((w.alloc (.cells #[.int .i64 k, .string n, .string x, .slice A m cp] 61)).alloc (.cells #[.int .i64 0] 3)).alloc (.cells #[.int .i64 0] 3)) := (((Ext.refl w).alloc _).alloc _).alloc _
  have bx := ((Blk.new w 61 #[.int .i64 k, .string n, .string x, .slice A m cp]).alloc (.cells #[.int .i64 0] 3)).alloc (.cells #[.int .i64 0] 3)
  have b1 := (Blk.new (w.alloc (.cells #[.int .i64 k, .string n, .string x, .slice A m cp] 61)) 3 #[.int .i64 0]).alloc (.cells #[.int .i64 0] 3)
  have b2 := Blk.new ((w.alloc (.cells #[.int .i64 k, .string n, .string x, .slice A m cp] 61)).alloc (.cells #[.int .i64 0] 3)) 3 #[.int .i64 0]
  rw [World.size_alloc] at b1
  rw [World.size_alloc, World.size_alloc] at b2
  have hB0 : w.heap.size + 1 + 1 + 1 ≤ (((w.alloc (.cells #[.int .i64 k, .string n, .string x, .slice A m cp] 61)).alloc (.cells #[.int .i64 0] 3)).alloc (.cells #[.int .i64 0] 3)).heap.size := by rw [World.size_alloc, World.size_alloc, World.size_alloc]; exact Nat.le_refl _
  have hw1 := CondParts_any 141 #[.pointer (some ⟨w.heap.size + 1, 0, none⟩), .pointer (some ⟨w.heap.size + 1 + 1, 0, none⟩)] (fun xs w => by kernel_rfl) (fun k => k < w.heap.size) (fun k => k = w.heap.size + 1 ∨ k = w.heap.size + 1 + 1) (w.heap.size + 1 + 1 + 1)
    (fun (st : Int × Int) W => (Blk W (w.heap.size + 1) 3 #[.int .i64 st.1] ∧ Blk W (w.heap.size + 1 + 1) 3 #[.int .i64 st.2]) ∧ w.heap.size + 1 + 1 + 1 ≤ W.heap.size) step3
    (fun st W W' h hx => ⟨⟨h.1.1.ext hx, h.1.2.ext hx⟩, Nat.le_trans h.2 hx.size⟩) (fun k hk => by omega) (fun st W h => h.2) (fun k hk h => by omega) (fun _ _ _ => rfl)
    (fun c v lev st W hl hs hcv h => (visit3_any (w.heap.size + 1) (w.heap.size + 1 + 1) (by omega) c v lev st W _ hcv h.1.1 h.1.2).mono fun e W' ⟨a, b, d⟩ => ⟨a, ⟨b, Nat.le_trans h.2 d.size⟩, d⟩)
    (cnt c) c (Nat.le_refl _) 0 _ (0, 0) _ (by omega) hsm (hcd.ext hxb) ⟨⟨b1, b2⟩, hB0⟩
  rw [show ((0 : Nat) : Int) = 0 from rfl] at hw1
  have hsx := hxb.size
  have HW1 := Lib.hid hw1
  have hch : checkC c = if 100 < cnt c then 4 else if firstErr (prt 0 c) ≠ 0 then firstErr (prt 0 c) else if (prt 0 c).any (fun p => decide (20 < p.2)) = true then 4 else 0 := rfl
  rw [hch]
  have hlen := prt_len 0 c
  clear hw1 hch
  have hrun := run3_all (prt 0 c) 0 0 (by omega) (by omega)
  generalize (runP step3 (prt 0 c) (0, 0)).1 = S at *
  obtain ⟨s1, s2⟩ := S
  obtain ⟨hr1, hr2⟩ := hrun
  dsimp only at hr1 hr2
  rw [hlen] at hr1
  by_cases hbig : 100 < cnt c
  · rw [if_pos hbig]
    have hs1 : (100 : Int) < s1 := by omega
    clear hr1 hr2
    go_enter Tryz.func61, Tryz.ntmps61
    go_wp2_with fail
    refine HW1.out.mono ?_
    rintro e W1 ⟨rfl, ⟨⟨hb1, hb2⟩, hB1⟩, hx1⟩
    have c1 := hb1.cell
    have hxf : Ext w W1 := ExtC.ext hxb hx1 (fun i hi => by omega)
    clear bx b1 b2 hb1 hb2 hx1
    go_wp2
    go_ret
    exact ⟨rfl, hxf⟩
  rw [if_neg hbig]
  have hs1 : ¬ (100 : Int) < s1 := by omega
  have hr3 : (20 < s2) ↔ ((prt 0 c).any fun q => decide (20 < q.2)) = true := by rw [hr2]; exact ⟨fun h => h.elim (fun x => absurd x (by decide)) id, .inr⟩
  generalize (prt 0 c).any (fun q => decide (20 < q.2)) = dp at *
  obtain ⟨Wn, hWn⟩ : ∃ Wn : Int, (if decide ((20 : Int) < s2) = true then (4 : Int) else 0) = Wn := ⟨_, rfl⟩
  have hwh := fun W => When_any (decide ((20 : Int) < s2)) 4 W
  have hfs : (if firstErr (prt 0 c) ≠ 0 then firstErr (prt 0 c) else if dp = true then 4 else 0) = firstI [firstErr (prt 0 c), Wn] := by
    generalize firstErr (prt 0 c) = E
    rw [← hWn]
    by_cases hE : E = 0
    · subst hE
      rw [if_neg (by decide)]
      by_cases h20 : (20 : Int) < s2
      · rw [decide_eq_true h20, hr3.1 h20]; rfl
      · rw [decide_eq_false h20, (Bool.not_eq_true _).mp (fun h => h20 (hr3.2 h))]; rfl
    · rw [if_pos hE]
      simp [firstI, hE]
  rw [hfs]
  simp only [hWn] at hwh
  have HWH := Lib.hid hwh
  clear hwh hfs hWn hr1 hr2 hr3
  go_enter Tryz.func61, Tryz.ntmps61
  go_wp2_with fail
  refine HW1.out.mono ?_
  rintro e W1 ⟨rfl, ⟨⟨hb1, hb2⟩, hB1⟩, hx1⟩
  have c1 := hb1.cell; have c2 := hb2.cell
  have bx1 := bx.extC hx1 (by omega)
  have cx := bx1.cell
  have hxf : Ext w W1 := ExtC.ext hxb hx1 (fun i hi => by omega)
  have hz1 := hxf.size
  have b3 := Blk.new W1 24 #[.int .i64 0]
  have hx3 : Ext W1 (W1.alloc (.cells #[.int .i64 0] 24)) := (Ext.refl W1).alloc _
  have hw2 := CondParts_any 142 #[.pointer (some ⟨W1.heap.size, 0, none⟩)] (fun xs w => by kernel_rfl) (fun k => k < w.heap.size) (fun k => k = W1.heap.size) (W1.heap.size + 1)
    (fun (st : Int) W => Ext w W ∧ Blk W W1.heap.size 24 #[.int .i64 st] ∧ W1.heap.size + 1 ≤ W.heap.size) step4
    (fun st W W' h hx => ⟨h.1.trans hx, h.2.1.ext hx, Nat.le_trans h.2.2 hx.size⟩) (fun k hk => by omega) (fun st W h => h.2.2) (fun k hk h => by omega) (fun _ _ _ => rfl)
    (fun c v lev st W hl hs hcv h => (visit4_any W1.heap.size c v lev st W _ (hg.ext h.1) hs hcv h.2.1).mono fun e W' ⟨a, b, d⟩ => ⟨a, ⟨ExtC.ext h.1 d (fun i hi => by omega), b, Nat.le_trans h.2.2 d.size⟩, d⟩)
    (cnt c) c (Nat.le_refl _) 0 _ 0 _ (by omega) hsm ((hcd.ext hxf).ext hx3) ⟨hxf.trans hx3, b3, by rw [World.size_alloc]; exact Nat.le_refl _⟩
  rw [show ((0 : Nat) : Int) = 0 from rfl] at hw2
  have hfe : (runP step4 (prt 0 c) 0).1 = firstErr (prt 0 c) := by rw [run4_first, if_pos rfl]
  rw [hfe] at hw2
  obtain ⟨E, hE0⟩ : ∃ E, firstErr (prt 0 c) = E := ⟨_, rfl⟩
  rw [hE0] at hw2
  have HE0 := Lib.hid hE0
  clear hE0
  have HW2 := Lib.hid hw2
  have HB1 := Lib.hid hb1; have HB2 := Lib.hid hb2
  have hl1 := hb1.lt; have hl2 := hb2.lt; have hlx := bx1.lt
  clear hw2 hfe b1 b2 bx b3 hb1 hx1 hxf hx3 hlen hcd hsm
  go_wp2_with fail
  refine HW2.out.mono ?_
  rintro e W2 ⟨rfl, ⟨hxf2, hb3, hB2⟩, hx2⟩
  have hb22 := (hb2.alloc (.cells #[.int .i64 0] 24)).extC hx2 (by omega)
  have d2 := hb22.cell; have d3 := hb3.cell
  have hl3 := hb3.lt; have hl22 := hb22.lt
  have q2 : W2.cell? ⟨w.heap.size + 1 + 1, 0, none⟩ = some (.int .i64 s2) := d2 0
  have q3 : W2.cell? ⟨W1.heap.size, 0, none⟩ = some (.int .i64 E) := d3 0
  clear d2 d3
  go_wp2_with fail
  go_region_held3 (fun w' => w'.cell? ⟨w.heap.size + 1 + 1, 0, none⟩ = some (.int .i64 s2) ∧ w'.cell? ⟨W1.heap.size, 0, none⟩ = some (.int .i64 E)) (first | (go_keep; done) | skip)
    (first
    | (go_at_call 59; refine (HWH.out _).mono ?_; rintro e w' ⟨rfl, rfl⟩)
    | (go_at_call 21; refine (First_any _ _ [E, Wn] _ ?_ (by simp)).mono ?_; (next => (intro k hk; match k, hk with | 0, _ => (simp; done) | 1, _ => (simp; done))); rintro e w' ⟨rfl, rfl⟩))
  all_goals
    go_wp2
    go_ret
    refine ⟨?_, ?_⟩
    · simp [HE0.out]
    · exact (hxf2.alloc _).drew
end Go.Proofs.YtaobnifiengglaaGreatDoor

namespace Go.Proofs.YtaobnifiengglaaGreatDoor

/-- texts no longer than m -/
inductive StrC (m : Nat) : Cd → Prop where
  | mk (k : Int) (n x : ByteArray) (l : List Cd) (hn : n.size ≤ m) (hx : x.size ≤ m) (hr : ∀ c ∈ l, StrC m c) : StrC m (.mk k n x l)
theorem StrC.zero (m : Nat) : StrC m zeroC := .mk _ _ _ _ (Nat.zero_le _) (Nat.zero_le _) (fun _ h => by cases h)
theorem cnts_mem : ∀ {l : List Cd} {c : Cd}, c ∈ l → cnt c ≤ cnts l
  | a :: l, c, h => by
    rcases List.mem_cons.1 h with rfl | h
    · simp only [cnts]; omega
    · have := cnts_mem h
      simp only [cnts]; omega
theorem cnts_len' : ∀ (l : List Cd), l.length ≤ cnts l
  | [] => Nat.le_refl _
  | c :: l => by
    have := cnts_len' l
    have := cnt_pos c
    simp only [cnts, List.length_cons]
    omega
theorem small_of {m : Nat} (hm : m ≤ 2097152) {c : Cd} (h : StrC m c) (hc : cnt c ≤ 100000000) : SmallC c := by
  induction h with
  | mk k n x l hn hx hr ih =>
    unfold cnt at hc
    have := cnts_len' l
    exact .mk k n x l (by omega) (by omega) (by omega) fun c hcl => ih c hcl (by have := cnts_mem hcl; omega)
section
variable {s : ByteArray}
def phi (s : ByteArray) (σ : St) : Nat := if σ.wr < 0 then (s.size + 1 - σ.p) + (if σ.k = 0 ∨ σ.k = 4 then 0 else 1) else 0
theorem phi_adv {σ : St} (ho : OkS s σ) (hw : σ.wr < 0) (h0 : σ.k ≠ 0) (h4 : σ.k ≠ 4) : phi s (advF s σ) + 1 ≤ phi s σ := by
  have hw2 : (advF s σ).wr < 0 := by rw [show (advF s σ).wr = σ.wr from tokF_wr s σ _]; exact hw
  have hp := ho.p
  have hp2 := (advF_ok ho).p
  have hge := (advF_on s σ).p ho
  unfold phi
  rw [if_pos hw, if_pos hw2, if_neg (show ¬ (σ.k = 0 ∨ σ.k = 4) by omega)]
  by_cases hk : (advF s σ).k = 0 ∨ (advF s σ).k = 4
  · rw [if_pos hk]; omega
  · rw [if_neg hk]
    have := advF_lt (s := s) (σ := σ) (fun e => hk (.inl e)) (fun e => hk (.inr e))
    omega
theorem phi_fail (σ : St) (a : Nat) : phi s (failF σ a) ≤ phi s σ := by
  unfold failF
  split
  · unfold phi
    rw [if_neg (show ¬ (a : Int) < 0 by omega)]
    exact Nat.zero_le _
  · exact Nat.le_refl _
theorem phi_take {σ : St} (ho : OkS s σ) (k : Int) (t : Str) (h0 : k ≠ 0) (h4 : k ≠ 4) : phi s (takeF s σ k t).2 ≤ phi s σ ∧ ((takeF s σ k t).2.wr < 0 → phi s (takeF s σ k t).2 + 1 ≤ phi s σ) := by
  unfold takeF
  split
  · rename_i h
    exact ⟨Nat.le_refl _, fun x => absurd x h⟩
  · rename_i h
    have hw := Classical.not_not.1 h
    split
    · refine ⟨?_, fun x => absurd x (by show ¬ (σ.a : Int) < 0; omega)⟩
      unfold phi
      rw [if_neg (show ¬ (σ.a : Int) < 0 by omega)]
      exact Nat.zero_le _
    · rename_i hm
      have hk : σ.k = k := Classical.byContradiction fun e => hm (.inl e)
      have := phi_adv ho hw (by rw [hk]; exact h0) (by rw [hk]; exact h4)
      exact ⟨by show phi s (advF s σ) ≤ _; omega, fun _ => this⟩
theorem take_ok {σ : St} (ho : OkS s σ) (k : Int) (t : Str) : OkS s (takeF s σ k t).2 := (takeF_ok ho k t).1
/-- a reading whose result is no larger than what it took -/
def Bnd (s : ByteArray) (f : St → Cd × St) : Prop := ∀ σ, OkS s σ → cnt (f σ).1 + phi s (f σ).2 ≤ 1 + phi s σ ∧ StrC s.size (f σ).1 ∧ OkS s (f σ).2
theorem cnt_mk (k : Int) (n x : ByteArray) (l : List Cd) : cnt (.mk k n x l) = 1 + cnts l := by simp [cnt]
theorem cnt_leaf (k : Int) (n x : ByteArray) : cnt (.mk k n x []) = 1 := by simp [cnt, cnts]
theorem cnt_one (k : Int) (n x : ByteArray) (c : Cd) : cnt (.mk k n x [c]) = 1 + cnt c := by simp [cnt, cnts]
theorem one_str {m : Nat} {c : Cd} (k : Int) (h : StrC m c) : StrC m (.mk k ⟨#[]⟩ ⟨#[]⟩ [c]) := .mk _ _ _ _ (Nat.zero_le _) (Nat.zero_le _) (fun d hd => by rw [List.mem_singleton] at hd; exact hd ▸ h)
theorem leaf_str {m : Nat} (k : Int) : StrC m (.mk k ⟨#[]⟩ ⟨#[]⟩ []) := .mk _ _ _ _ (Nat.zero_le _) (Nat.zero_le _) (fun _ h => by cases h)
theorem loop_bnd {f : St → Cd × St} (hf : Bnd s f) (word : Str) : ∀ m σ l, OkS s σ → (∀ c ∈ l, StrC s.size c) →
    cnts (loopF s f word m σ l).1 + phi s (loopF s f word m σ l).2 ≤ cnts l + phi s σ ∧ (∀ c ∈ (loopF s f word m σ l).1, StrC s.size c) ∧ OkS s (loopF s f word m σ l).2
  | 0, σ, l, ho, hl => ⟨Nat.le_refl _, hl, ho⟩
  | m + 1, σ, l, ho, hl => by
    unfold loopF
    split
    · rename_i hi
      have hx := hi
      unfold isF at hx
      simp only [Bool.and_eq_true, decide_eq_true_eq] at hx
      have h1 := phi_adv ho hx.1.1 (by rw [hx.1.2]; decide) (by rw [hx.1.2]; decide)
      obtain ⟨h2, h3, h4⟩ := hf _ (advF_ok ho)
      obtain ⟨h5, h6, h7⟩ := loop_bnd hf word m _ (l ++ [(f (advF s σ)).1]) h4 (fun c hc => by
        rcases List.mem_append.1 hc with h | h
        · exact hl c h
        · rw [List.mem_singleton] at h; exact h ▸ h3)
      refine ⟨?_, h6, h7⟩
      rw [cnts_append] at h5
      simp only [cnts, Nat.add_zero] at h5
      omega
    · exact ⟨Nat.le_refl _, hl, ho⟩
theorem head_bnd {f : St → Cd × St} (hf : Bnd s f) (word : ByteArray) (σ : St) (ho : OkS s σ) : cnt (headF s f word σ).1 + phi s (headF s f word σ).2 ≤ 2 + phi s σ ∧ StrC s.size (headF s f word σ).1 ∧ OkS s (headF s f word σ).2 := by
  unfold headF
  split
  · have := (phi_take ho 3 [41] (by decide) (by decide)).1
    refine ⟨?_, leaf_str _, take_ok ho _ _⟩
    show cnt (.mk _ _ _ []) + _ ≤ _
    rw [cnt_leaf]
    show 1 + phi s (takeF s σ 3 [41]).2 ≤ _
    omega
  · obtain ⟨h1, h2, h3⟩ := hf σ ho
    have := (phi_take h3 3 [41] (by decide) (by decide)).1
    refine ⟨?_, one_str _ h2, take_ok h3 _ _⟩
    show cnt (.mk _ _ _ [_]) + _ ≤ _
    rw [cnt_one]
    show 1 + cnt (f σ).1 + phi s (takeF s (f σ).2 3 [41]).2 ≤ _
    omega
theorem tail_bnd {f : St → Cd × St} (hf : Bnd s f) (c : Cd) (σ : St) (ho : OkS s σ) (hc : StrC s.size c) : cnt (tailF s f c σ).1 + phi s (tailF s f c σ).2 ≤ 1 + cnt c + phi s σ ∧ StrC s.size (tailF s f c σ).1 ∧ OkS s (tailF s f c σ).2 := by
  have ho2 : OkS s (fixF σ) := (fixF_on σ).ok ho
  have hfx : phi s (fixF σ) ≤ phi s σ := by
    unfold fixF
    split
    · exact phi_fail σ σ.a
    · exact Nat.le_refl _
  obtain ⟨h1, h2, h3⟩ := loop_bnd hf (bs σ.t) (left s (fixF σ)) (fixF σ) [c] ho2 (fun d hd => by rw [List.mem_singleton] at hd; exact hd ▸ hc)
  have h4 := (phi_take h3 3 [41] (by decide) (by decide)).1
  simp only [cnts, Nat.add_zero] at h1
  unfold tailF
  refine ⟨?_, .mk _ _ _ _ (Nat.zero_le _) (Nat.zero_le _) h2, take_ok h3 _ _⟩
  show cnt (.mk _ _ _ _) + phi s (takeF s _ 3 [41]).2 ≤ _
  rw [cnt_mk]
  omega
theorem pair_bnd (σ : St) (ho : OkS s σ) (kind mid : Int) (t : Str) (h0 : mid ≠ 0) (h4 : mid ≠ 4) : cnt (pairF s σ kind mid t).1 + phi s (pairF s σ kind mid t).2 ≤ 1 + phi s σ ∧ StrC s.size (pairF s σ kind mid t).1 ∧ OkS s (pairF s σ kind mid t).2 := by
  have o1 := takeF_ok ho 1 []
  have o2 := takeF_ok o1.1 mid t
  have o3 := takeF_ok o2.1 2 []
  have h1 := (phi_take ho 1 [] (by decide) (by decide)).1
  have h2 := (phi_take o1.1 mid t h0 h4).1
  have h3 := (phi_take o2.1 2 [] (by decide) (by decide)).1
  unfold pairF
  refine ⟨?_, .mk _ _ _ _ o1.2 o3.2 (fun _ h => by cases h), o3.1⟩
  show cnt (.mk _ _ _ []) + _ ≤ _
  rw [cnt_leaf]
  show 1 + phi s (takeF s _ 2 []).2 ≤ _
  omega
theorem cond_bnd (f : Option (St → Cd × St)) (hf : ∀ g, f = some g → Bnd s g) : Bnd s (condB s f) := by
  intro σ ho
  unfold condB
  split
  · rename_i hi
    unfold listB
    cases f with
    | none =>
      have := phi_fail (s := s) σ σ.a
      refine ⟨?_, StrC.zero _, (failF_on s σ σ.a).ok ho⟩
      show cnt zeroC + phi s (failF σ σ.a) ≤ _
      rw [show cnt zeroC = 1 from cnt_leaf _ _ _]
      omega
    | some g =>
      have hg := hf g rfl
      have hx := hi
      unfold isF at hx
      simp only [Bool.and_eq_true, decide_eq_true_eq] at hx
      have ho1 := take_ok ho 3 [40]
      have hok : (takeF s σ 3 [40]).2.wr < 0 := by
        unfold takeF
        rw [if_neg (show ¬ ¬ σ.wr < 0 from fun x => x hx.1.1), if_neg (by rintro (x | x); exact x hx.1.2; exact x.2 hx.2)]
        rw [show (advF s σ).wr = σ.wr from tokF_wr s σ _]
        exact hx.1.1
      have h1 := (phi_take ho 3 [40] (by decide) (by decide)).2 hok
      dsimp only
      have hadv : ∀ w, isF (takeF s σ 3 [40]).2 1 w = true → phi s (advF s (takeF s σ 3 [40]).2) + 1 ≤ phi s (takeF s σ 3 [40]).2 := fun w hw => by
        unfold isF at hw
        simp only [Bool.and_eq_true, decide_eq_true_eq] at hw
        exact phi_adv ho1 hw.1.1 (by rw [hw.1.2]; decide) (by rw [hw.1.2]; decide)
      split
      · rename_i hw
        have h2 := hadv _ hw
        obtain ⟨a, b, c⟩ := head_bnd hg ⟨#[97, 110, 100]⟩ _ (advF_ok ho1)
        exact ⟨by omega, b, c⟩
      · split
        · rename_i hw
          have h2 := hadv _ hw
          obtain ⟨a, b, c⟩ := head_bnd hg ⟨#[111, 114]⟩ _ (advF_ok ho1)
          exact ⟨by omega, b, c⟩
        · obtain ⟨a, b, c⟩ := hg _ ho1
          obtain ⟨d, e, f⟩ := tail_bnd hg _ _ c b
          exact ⟨by omega, e, f⟩
  · have ho1 := take_ok ho 1 []
    have h1 := phi_take ho 1 [] (by decide) (by decide)
    have hfl := phi_fail (s := s) (takeF s σ 1 []).2 σ.a
    have hz : cnt zeroC + phi s (failF (takeF s σ 1 []).2 σ.a) ≤ 1 + phi s σ ∧ StrC s.size zeroC ∧ OkS s (failF (takeF s σ 1 []).2 σ.a) := by
      refine ⟨?_, StrC.zero _, (failF_on s _ _).ok ho1⟩
      rw [show cnt zeroC = 1 from cnt_leaf _ _ _]
      omega
    have pb : ∀ kind mid t, mid ≠ 0 → mid ≠ 4 → cnt (pairF s (takeF s σ 1 []).2 kind mid t).1 + phi s (pairF s (takeF s σ 1 []).2 kind mid t).2 ≤ 1 + phi s σ ∧ StrC s.size (pairF s (takeF s σ 1 []).2 kind mid t).1 ∧ OkS s (pairF s (takeF s σ 1 []).2 kind mid t).2 := fun kind mid t h0 h4 => by
      obtain ⟨a, b, c⟩ := pair_bnd _ ho1 kind mid t h0 h4
      exact ⟨by omega, b, c⟩
    unfold wordF
    split
    · refine ⟨?_, leaf_str _, ho1⟩
      show cnt (.mk _ _ _ []) + phi s (takeF s σ 1 []).2 ≤ _
      rw [cnt_leaf]
      omega
    split
    · exact pb _ _ _ (by decide) (by decide)
    split
    · exact pb _ _ _ (by decide) (by decide)
    split
    · have o2 := takeF_ok ho1 1 []
      have h2 := (phi_take ho1 1 [] (by decide) (by decide)).1
      refine ⟨?_, .mk _ _ _ _ o2.2 (Nat.zero_le _) (fun _ h => by cases h), o2.1⟩
      show cnt (.mk _ _ _ []) + phi s (takeF s _ 1 []).2 ≤ _
      rw [cnt_leaf]
      omega
    split
    · exact pb _ _ _ (by decide) (by decide)
    split
    · rename_i hx
      cases f with
      | none => exact hz
      | some g =>
        have hok : (takeF s σ 1 []).2.wr < 0 := by
          apply Classical.byContradiction
          intro hn
          have : (takeF s σ 1 []).1 = ⟨#[]⟩ := by
            unfold takeF at hn ⊢
            split
            · rfl
            · rename_i hw
              rw [if_neg hw] at hn
              split
              · rfl
              · rename_i hm
                rw [if_neg hm] at hn
                exact absurd (show (advF s σ).wr < 0 by rw [show (advF s σ).wr = σ.wr from tokF_wr s σ _]; exact Classical.not_not.1 hw) hn
          rw [this] at hx
          exact absurd hx (by decide)
        have h2 := h1.2 hok
        obtain ⟨a, b, c⟩ := hf g rfl _ ho1
        refine ⟨?_, one_str _ b, c⟩
        show cnt (.mk _ _ _ [_]) + phi s (g (takeF s σ 1 []).2).2 ≤ _
        rw [cnt_one]
        omega
    · exact hz
theorem condF_bnd : ∀ n, Bnd s (condF s n)
  | 0 => cond_bnd none (fun _ h => by cases h)
  | n + 1 => cond_bnd (some (condF s n)) (fun g h => by cases h; exact condF_bnd n)
theorem condF_size (n : Nat) (σ : St) (ho : OkS s σ) (hs : s.size ≤ 2097152) : SmallC (condF s n σ).1 ∧ cnt (condF s n σ).1 ≤ 100000000 := by
  obtain ⟨a, b, _⟩ := condF_bnd n σ ho
  have hphi : phi s σ ≤ s.size + 2 := by
    unfold phi
    split
    · split <;> omega
    · omega
  have hc : cnt (condF s n σ).1 ≤ 100000000 := by omega
  exact ⟨small_of hs b hc, hc⟩
end
end Go.Proofs.YtaobnifiengglaaGreatDoor

namespace Go.Proofs.YtaobnifiengglaaGreatDoor
open Go.RowKit

theorem cnts_mem' : ∀ {l : List Cd} {c : Cd}, c ∈ l → cnt c ≤ cnts l
  | a :: l, c, h => by
    rcases List.mem_cons.1 h with rfl | h
    · simp only [cnts]; omega
    · have := cnts_mem' h
      simp only [cnts]; omega
theorem cntz_len : ∀ (l : List Cd), l.length ≤ cnts l
  | [] => Nat.le_refl _
  | c :: l => by
    have := cntz_len l
    have := cnt_pos c
    simp only [cnts, List.length_cons]
    omega
/-- the parts of a condition in memory -/
def ArgAt (P : Nat → Prop) (w : World) (l : List Cd) (b o : Nat) : Prop := ∀ j (hj : j < l.length), ∃ (ck : Int) (cn cx : ByteArray) (cA : Option Addr) (cm ccp : Nat),
  w.cell? ⟨b, o + j * 4, none⟩ = some (.int .i64 ck) ∧ w.cell? ⟨b, o + j * 4 + 1, none⟩ = some (.string cn) ∧ w.cell? ⟨b, o + j * 4 + 2, none⟩ = some (.string cx) ∧ w.cell? ⟨b, o + j * 4 + 3, none⟩ = some (.slice cA cm ccp) ∧
  CdIn P w l[j] (.agg #[.int .i64 ck, .string cn, .string cx, .slice cA cm ccp])
theorem ArgAt.ext {P : Nat → Prop} {w w' : World} {l : List Cd} {b o : Nat} (h : ArgAt P w l b o) (hx : Ext w w') : ArgAt P w' l b o := fun j hj => by
  obtain ⟨ck, cn, cx, cA, cm, ccp, h0, h1, h2, h3, hc⟩ := h j hj
  exact ⟨ck, cn, cx, cA, cm, ccp, hx.cell h0, hx.cell h1, hx.cell h2, hx.cell h3, hc.ext hx⟩
theorem CdIn.arg {P : Nat → Prop} {w : World} {k : Int} {n x : ByteArray} {l : List Cd} {v : Value} (h : CdIn P w (.mk k n x l) v) :
    ∃ (A : Option Addr) (cp b o : Nat), v = .agg #[.int .i64 k, .string n, .string x, .slice A l.length cp] ∧ (0 < l.length → A = some ⟨b, o, none⟩) ∧ ArgAt P w l b o := by
  cases h with
  | mk k n x l A cp b o u0 u1 u2 u3 hA hb h0 h1 h2 h3 hr =>
    refine ⟨A, cp, b, o, rfl, hA, fun j hj => ?_⟩
    have hc := hr j hj
    obtain ⟨ck, cn, cx, cA, cm, ccp, hcc⟩ := hc.cells
    have hcc2 := hcc
    simp only [Value.agg.injEq, Array.mk.injEq, List.cons.injEq, and_true] at hcc2
    obtain ⟨q0, q1, q2, q3⟩ := hcc2
    exact ⟨ck, cn, cx, cA, cm, ccp, q0 ▸ h0 j hj, q1 ▸ h1 j hj, q2 ▸ h2 j hj, q3 ▸ h3 j hj, hcc ▸ hc⟩
set_option maxRecDepth 100000 in
set_option maxHeartbeats 8000000 in
theorem EqualC_any (l : List Cd) (P Q : Nat → Prop) (hl : l.length ≤ 100000000)
    (hS : ∀ c ∈ l, ∀ v1 v2 w, CdIn P w c v1 → CdIn Q w c v2 → Calls Tryz.prog 46 #[v1, v2] w fun e w' => e = .returned (.bool true) ∧ Ext w w')
    (A1 A2 : Option Addr) (c1 c2 b1 o1 b2 o2 : Nat) (w : World) (hA1 : 0 < l.length → A1 = some ⟨b1, o1, none⟩) (hA2 : 0 < l.length → A2 = some ⟨b2, o2, none⟩) (h1 : ArgAt P w l b1 o1) (h2 : ArgAt Q w l b2 o2) :
    Calls Tryz.prog 120 #[.slice A1 l.length c1, .slice A2 l.length c2, .func (.func 46) #[] #[]] w fun e w' => e = .returned (.bool true) ∧ Ext w w' := by
  have hen : ∀ xs w, Sem.run Tryz.prog (callFunc 46 xs) w = .ok (.enter 46 xs) w := fun xs w => by kernel_rfl
  have hne : ((l.length : Int) != (l.length : Int)) = false := by rw [bne, beq_iff_eq.2 rfl]; rfl
  have HS := Lib.hid hS
  have H1 := Lib.hid h1; have H2 := Lib.hid h2; have HA1 := Lib.hid hA1; have HA2 := Lib.hid hA2
  clear hS h1 h2 hA1 hA2
  go_enter Tryz.func120, Tryz.ntmps120
  go_wp2
  go_loopw [17] (fun t wr => ∃ j : Nat, t = .int .i64 j ∧ j ≤ l.length ∧ Ext w wr) (fun t _ => l.length - (intOf t).toNat)
  case atStart => exact ⟨0, by go_num, Nat.zero_le _, Ext.refl w⟩
  case round =>
    obtain ⟨j, rfl, hj, hxr⟩ := hrel
    have HXR := Lib.hid hxr
    by_cases hlt : j < l.length
    · obtain rfl := HA1.out (by omega)
      obtain rfl := HA2.out (by omega)
      obtain ⟨k1, n1, x1, B1, m1, p1, g0, g1, g2, g3, hc1⟩ := H1.out.ext hxr j hlt
      obtain ⟨k2, n2, x2, B2, m2, p2, g4, g5, g6, g7, hc2⟩ := H2.out.ext hxr j hlt
      have hxc : Ext wr ((wr.alloc (.cells #[.int .i64 k1, .string n1, .string x1, .slice B1 m1 p1] 61)).alloc (.cells #[.int .i64 k2, .string n2, .string x2, .slice B2 m2 p2] 61)) := ((Ext.refl wr).alloc _).alloc _
      have hs := HS.out l[j] (List.getElem_mem hlt) _ _ _ (hc1.ext hxc) (hc2.ext hxc)
      have HSS := Lib.hid hs
      have hq0 : (0 : Int) ≤ (j : Int) := by omega
      have hlb1 := lt_of_cell g0; have hlb2 := lt_of_cell g4
      clear hs hc1 hc2 hxr hxc
      go_wp2_with fail
      refine HSS.out.mono ?_
      rintro e w3 ⟨rfl, hx3⟩
      go_wp2
      go_roundw
      case rel => exact ⟨j + 1, by go_num, hlt, (((HXR.out.alloc _).alloc _).trans hx3)⟩
      case measure => simp [intOf]; omega
    · go_wp2
      go_ret
      exact ⟨rfl, HXR.out⟩
set_option maxRecDepth 100000 in
set_option maxHeartbeats 8000000 in
theorem SameCond_refl (P Q : Nat → Prop) : ∀ (N : Nat) (c : Cd), cnt c ≤ N → N ≤ 100000000 → ∀ (v1 v2 : Value) (w : World), CdIn P w c v1 → CdIn Q w c v2 →
    Calls Tryz.prog 46 #[v1, v2] w fun e w' => e = .returned (.bool true) ∧ Ext w w' := by
  intro N
  induction N with
  | zero => intro c hc; have := cnt_pos c; omega
  | succ N ih =>
    intro c hc hN v1 v2 w h1 h2
    obtain ⟨k, n, x, l⟩ := c
    obtain ⟨A1, p1, b1, o1, rfl, hA1, ha1⟩ := h1.arg
    obtain ⟨A2, p2, b2, o2, rfl, hA2, ha2⟩ := h2.arg
    have hcl : cnts l ≤ N := by unfold cnt at hc; omega
    have hll := cntz_len l
    have hxb : Ext w ((w.alloc (.cells #[.int .i64 k, .string n, .string x, .slice A1 l.length p1] 61)).alloc (.cells #[.int .i64 k, .string n, .string x, .slice A2 l.length p2] 61)) := ((Ext.refl w).alloc _).alloc _
    have hE := EqualC_any l P Q (by omega) (fun c hcm v1 v2 w g1 g2 => ih c (Nat.le_trans (cnts_mem' hcm) hcl) (by omega) v1 v2 w g1 g2) A1 A2 p1 p2 b1 o1 b2 o2 _ hA1 hA2 (ha1.ext hxb) (ha2.ext hxb)
    have HE := Lib.hid hE
    have e1 : (k == k) = true := beq_iff_eq.2 rfl
    have e2 : (n.toList == n.toList) = true := by rw [eqE, decide_eq_true rfl]
    have e3 : (x.toList == x.toList) = true := by rw [eqE, decide_eq_true rfl]
    clear hE ih h1 h2 ha1 ha2 hA1 hA2
    go_enter Tryz.func46, Tryz.ntmps46
    go_wp2_with fail
    refine HE.out.mono ?_
    rintro e w1 ⟨rfl, hx1⟩
    go_wp2
    go_ret
    exact ⟨rfl, hxb.trans hx1⟩
end Go.Proofs.YtaobnifiengglaaGreatDoor
