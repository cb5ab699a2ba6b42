/- The law outlaw2.CondsMatch: its walk. (Printed by gen/lawcd.py.) -/
import Derived.Test.YtaobnifiengglaaGreatDoorCe38
import Derived.Test.YtaobnifiengglaaGreatDoorCe40
import Derived.Test.YtaobnifiengglaaGreatDoorCe42
import Derived.Test.YtaobnifiengglaaGreatDoorCe31
import Derived.Test.YtaobnifiengglaaGreatDoorCe10

namespace Go.Proofs.YtaobnifiengglaaGreatDoor
open Go.RowKit

theorem OkD.small : ∀ (m : Nat) (c : Cd), OkD m c → cnt c ≤ 10000 → SmallC c := by
  intro m
  induction m with
  | zero =>
    intro c h hc
    obtain ⟨k, n, x, l⟩ := c
    obtain ⟨s1, s2⟩ := part_sizes h.1
    rw [bs_length] at s1 s2
    have hl := (form_leaf (part_form h.1)).2.2.1 h.2
    exact .mk k n x l (by omega) (by omega) (by omega) fun c hm => by rw [List.eq_nil_of_length_eq_zero hl] at hm; cases hm
  | succ m ih =>
    intro c h hc
    obtain ⟨k, n, x, l⟩ := c
    obtain ⟨s1, s2⟩ := part_sizes h.1
    rw [bs_length] at s1 s2
    have hcl : cnt (.mk k n x l) = 1 + cnts l := rfl
    have := cntz_len l
    exact .mk k n x l (by omega) (by omega) (by omega) fun c hm => ih c (h.2 c hm) (by have := cnts_mem' hm; omega)
theorem oneEach_len {α : Type} [DecidableEq α] : ∀ l : List α, (oneEach l).length ≤ l.length
  | [] => Nat.le_refl _
  | [a] => Nat.le_refl _
  | a :: b :: l => by
    have := oneEach_len (b :: l)
    rw [oneEach]
    split
    · rw [List.length_cons]; omega
    · rw [List.length_cons, List.length_cons]; omega
theorem inOrder_len (L : List Str) : (inOrder L).length ≤ L.length := by
  have := oneEach_len (L.mergeSort Go.leB)
  rw [List.length_mergeSort] at this
  exact this
theorem Facts_tells (A : Option Addr) (n c : Nat) (l : List Se) (w : World) (hn : l.length = n) (hr : RdE w A l) (hs : SmallE l) (hl : n ≤ 2097152) :
    Calls Tryz.prog 72 #[.slice A n c] w fun e w' => ∃ b, e = .returned (.map (some b)) ∧ StrMap w' b n (tbl l) ∧ Ext w w' := by
  refine (Facts_any A n c l w hn hr hs hl).mono ?_
  rintro e w' ⟨rfl, hm, hx⟩
  exact ⟨_, rfl, hm, hx⟩
set_option maxHeartbeats 32000000 in
set_option maxRecDepth 100000 in
theorem CondsMatch_any (A B : Option Addr) (n1 n2 c1 c2 : Nat) (lf ls : List Se) (c : Cd) (v : Value) (P : Nat → Prop) (w : World) (hg : GoodN w) (hc : CdIn P w c v) (hsm : SmallC c) (hcnt : cnt c ≤ 100000000)
    (hn1 : lf.length = n1) (hr1 : RdE w A lf) (hs1 : SmallE lf) (hl1 : n1 ≤ 2097152) (hn2 : ls.length = n2) (hr2 : RdE w B ls) (hs2 : SmallE ls) (hl2 : n2 ≤ 2097152) :
    Calls Tryz.prog 10 #[v, .slice A n1 c1, .slice B n2 c2] w fun e w' => e = .returned (.bool true) ∧ Ext w w' := by
  obtain ⟨k, n, x, A0, m, cp, rfl⟩ := hc.cells
  have hx0 : Ext w (w.alloc (.cells #[.int .i64 k, .string n, .string x, .slice A0 m cp] 61)) := (Ext.refl w).alloc _
  have bX := Blk.new w 61 #[.int .i64 k, .string n, .string x, .slice A0 m cp]
  have CER := Lib.hid (fun W (hx : Ext w W) => CondError_any c _ P W (hg.ext hx) (hc.ext hx) hsm hcnt)
  have CPR := Lib.hid (fun W (hx : Ext w W) => PrintCond_any c _ P W (hg.ext hx) (hc.ext hx) hsm hcnt)
  have CNA := Lib.hid (fun W (hx : Ext w W) => Names_any c _ P W (hg.ext hx) (hc.ext hx) hsm hcnt)
  have CHD := Lib.hid (fun W (hx : Ext w W) => Holds_any A B n1 n2 c1 c2 lf ls c _ P W (hg.ext hx) (hc.ext hx) hsm hcnt hn1 (hr1.ext hx) hs1 hl1 hn2 (hr2.ext hx) hs2 hl2)
  have CCK := Lib.hid (fun W (hx : Ext w W) => CheckCond_any c _ P W (hg.ext hx) (hc.ext hx) hsm hcnt)
  have CVE := Lib.hid (fun W (hx : Ext w W) => versions_any W (hg.ext hx))
  have HHE : holdE c lf ls = firstI [checkC c, seErr nameL lf, seErr pathL ls] := rfl
  have HHR : holdR c lf ls = if holdE c lf ls = 0 then holdsC (tbl lf) (tbl ls) c else false := rfl
  by_cases h0 : checkC c = 0
  rotate_left
  · have e1 : prC c = [] := by unfold prC; rw [if_neg h0]
    have e2 : namesC c = [] := by unfold namesC; rw [if_neg h0]
    have e3 : holdE c lf ls = checkC c := by rw [HHE, firstI, if_neg h0]
    have e4 : holdR c lf ls = false := by rw [HHR, e3, if_neg h0]
    rw [e1] at CPR
    rw [e2] at CNA
    rw [e3, e4] at CHD
    have hne : (checkC c != 0) = true := by rw [bne_iff_ne]; exact h0
    clear hc hsm hn1 hr1 hs1 hn2 hr2 hs2 HHE HHR e1 e2 e3 e4
    generalize checkC c = E0 at *
    have hee : (E0 != E0) = false := by simp
    have hee2 : (E0 == E0) = true := by simp
    go_enter Tryz.func10, Tryz.ntmps10
    go_wp2_with fail
    refine (CER.out _ hx0).mono ?_
    rintro e w1 ⟨rfl, hx1⟩
    have hxa := hx0.trans hx1
    have bX1 := bX.ext hx1
    have cX1 := bX1.cell; have lX1 := bX1.lt
    go_wp2_with fail
    refine (CPR.out _ hxa).mono ?_
    rintro e w2 ⟨rfl, hx2⟩
    have hxb := hxa.trans hx2
    have bX2 := bX1.ext hx2
    have cX2 := bX2.cell; have lX2 := bX2.lt
    clear cX1 lX1
    go_wp2_with fail
    refine (CNA.out _ hxb).mono ?_
    rintro e w3 ⟨A3, n3, c3, rfl, hl3, _, hx3⟩
    obtain rfl : n3 = 0 := by simpa using hl3.symm
    have hxc := hxb.trans hx3
    have bX3 := bX2.ext hx3
    have cX3 := bX3.cell; have lX3 := bX3.lt
    clear cX2 lX2
    go_wp2_with fail
    refine (CHD.out _ hxc).mono ?_
    rintro e w4 ⟨rfl, hx4⟩
    have hxd := hxc.trans hx4
    have bX4 := bX3.ext hx4
    have cX4 := bX4.cell; have lX4 := bX4.lt
    clear cX3 lX3
    go_wp2_with fail
    refine (CVE.out _ hxd).mono ?_
    rintro e w5 ⟨rfl, hx5⟩
    have hxe := hxd.trans hx5
    have bX5 := bX4.ext hx5
    have cX5 := bX5.cell; have lX5 := bX5.lt
    clear cX4 lX4
    go_wp2_with fail
    refine (CCK.out _ hxe).mono ?_
    rintro e w6 ⟨rfl, hx6⟩
    go_wp2
    go_ret
    exact ⟨by simp, hxe.trans hx6⟩
  have hcn := check_cnt h0
  have hok := ok_of_check h0
  have e1 : prC c = ctL c := by unfold prC; rw [if_pos h0]
  have e2 : namesC c = inOrder (useAll c) := by unfold namesC; rw [if_pos h0]
  have hlen := ct_len 100 c hok
  obtain ⟨t, ht, hbt, hlt⟩ : ∃ t : ByteArray, S (ctL c) = .string t ∧ bs t = ctL c ∧ t.size ≤ 400000 := ⟨⟨(ctL c).toArray⟩, rfl, by rw [bs_mk], by rw [← bs_length, bs_mk]; omega⟩
  rw [e1, h0, ht] at CPR
  rw [e2, h0] at CNA
  rw [h0] at CER CCK
  have CTX := Lib.hid (fun W (hx : Ext w W) => CondText_any 100 c hok (by omega) P _ W (hg.toGood.ext hx) (hc.ext hx))
  rw [ht] at CTX
  have CUS := Lib.hid (fun W (hx : Ext w W) => Uses_any c _ P W (hc.ext hx) hsm (by omega))
  have hil : (inOrder (useAll c)).length ≤ 100000000 := by
    have h1 := uses_len (prt 0 c)
    rw [prt_len] at h1
    have h2 : (inOrder (useAll c)).length ≤ (useAll c).length := inOrder_len _
    have h3 : (useAll c).length ≤ cnt c := h1
    omega
  have CEQ := Lib.hid (fun A1 A2 d1 d2 n W (hn : (inOrder (useAll c)).length = n) (h1 : RdT W A1 (inOrder (useAll c))) (h2 : RdT W A2 (inOrder (useAll c))) => EqualT_same A1 A2 d1 d2 n (inOrder (useAll c)) W hn h1 h2 (by omega))
  have CPA := Lib.hid (fun W (hx : Ext w W) => ParseCond_any t W (hg.ext hx) (by omega))
  have HPP := Lib.hid (fun h => parse_print (c := c) (s := t) h0 hbt h)
  have CSA := Lib.hid (fun v2 W (hx : Ext w W) (h2 : CdIn (fun _ => True) W c v2) => SameCond_refl P (fun _ => True) 10000 c (by omega) (by omega) _ v2 W (hc.ext hx) h2)
  have CLF := Lib.hid (fun W (hx : Ext w W) => ListErrorF_any A n1 c1 lf W (hg.toGood.ext hx) hn1 (hr1.ext hx) hs1 hl1)
  have CLS := Lib.hid (fun W (hx : Ext w W) => ListErrorS_any B n2 c2 ls W (hg.toGood.ext hx) hn2 (hr2.ext hx) hs2 hl2)
  have CF1 := Lib.hid (fun W (hx : Ext w W) => (Facts_tells A n1 c1 lf W hn1 (hr1.ext hx) hs1 hl1).mono fun _ _ h => (match h with | ⟨g, a, b, d⟩ => ⟨g, a, b, d, hx.trans d⟩ : ∃ g, _ = _ ∧ StrMap _ g n1 (tbl lf) ∧ Ext W _ ∧ Ext w _))
  have CF2 := Lib.hid (fun W (hx : Ext w W) => (Facts_tells B n2 c2 ls W hn2 (hr2.ext hx) hs2 hl2).mono fun _ _ h => (match h with | ⟨g, a, b, d⟩ => ⟨g, a, b, d, hx.trans d⟩ : ∃ g, _ = _ ∧ StrMap _ g n2 (tbl ls) ∧ Ext W _ ∧ Ext w _))
  have CHO := Lib.hid (fun W (hx : Ext w W) b1 b2 (k1 : StrMap W b1 n1 (tbl lf)) (k2 : StrMap W b2 n2 (tbl ls)) => holdsOf_any (tbl lf) (tbl ls) (fun y u h => tbl_size hs1 h) 100 c hok (by omega) P _ b1 b2 n1 n2 W (hg.ext hx) (hc.ext hx) k1 k2 |>.mono fun _ _ h => (⟨h.1, h.2, hx.trans h.2⟩ : _ ∧ _ ∧ Ext w _))
  rw [h0] at HHE
  have HFI := Lib.hid (show firstI [seErr nameL lf, seErr pathL ls] = holdE c lf ls from by rw [HHE]; rfl)
  have HRF := Lib.hid (fun (h : ¬ holdE c lf ls = 0) => (show holdR c lf ls = false by rw [HHR, if_neg h]))
  have HRT := Lib.hid (fun (h : holdE c lf ls = 0) => (show holdR c lf ls = holdsC (tbl lf) (tbl ls) c by rw [HHR, if_pos h]))
  clear hc hsm hcnt hn1 hr1 hs1 hn2 hr2 hs2 HHE HHR e1 e2 hok hlen ht hbt h0 hil
  generalize holdE c lf ls = E at *
  generalize holdR c lf ls = R at *
  generalize holdsC (tbl lf) (tbl ls) c = RR at *
  generalize seErr nameL lf = E1 at *
  generalize seErr pathL ls = E2 at *
  generalize inOrder (useAll c) = L at *
  have htt : (t.toList == t.toList) = true := beq_self_eq_true _
  go_enter Tryz.func10, Tryz.ntmps10
  go_wp2_with fail
  refine (CER.out _ hx0).mono ?_
  rintro e w1 ⟨rfl, hx1⟩
  have hxa := hx0.trans hx1
  have bX1 := bX.ext hx1
  have cX1 := bX1.cell; have lX1 := bX1.lt
  go_wp2_with fail
  refine (CPR.out _ hxa).mono ?_
  rintro e w2 ⟨rfl, hx2⟩
  have hxb := hxa.trans hx2
  have bX2 := bX1.ext hx2
  have cX2 := bX2.cell; have lX2 := bX2.lt
  clear cX1 lX1
  go_wp2_with fail
  refine (CNA.out _ hxb).mono ?_
  rintro e w3 ⟨A3, n3, c3, rfl, hl3, hr3, hx3⟩
  have hxc := hxb.trans hx3
  have bX3 := bX2.ext hx3
  have cX3 := bX3.cell; have lX3 := bX3.lt
  clear cX2 lX2
  go_wp2_with fail
  refine (CHD.out _ hxc).mono ?_
  rintro e w4 ⟨rfl, hx4⟩
  have hxd := hxc.trans hx4
  have bX4 := bX3.ext hx4
  have cX4 := bX4.cell; have lX4 := bX4.lt
  clear cX3 lX3
  go_wp2_with fail
  refine (CVE.out _ hxd).mono ?_
  rintro e w5 ⟨rfl, hx5⟩
  have hxe := hxd.trans hx5
  have bX5 := bX4.ext hx5
  have cX5 := bX5.cell; have lX5 := bX5.lt
  clear cX4 lX4
  go_wp2_with fail
  refine (CCK.out _ hxe).mono ?_
  rintro e w6 ⟨rfl, hx6⟩
  have hxf := hxe.trans hx6
  have bX6 := bX5.ext hx6
  have cX6 := bX6.cell; have lX6 := bX6.lt
  clear cX5 lX5
  go_wp2_with fail
  refine (CTX.out _ hxf).mono ?_
  rintro e w7 ⟨rfl, hx7⟩
  have hxg := hxf.trans hx7
  have bX7 := bX6.ext hx7
  have cX7 := bX7.cell; have lX7 := bX7.lt
  clear cX6 lX6
  go_wp2_with fail
  refine (CUS.out _ hxg).mono ?_
  rintro e w8 ⟨A8, n8, c8, rfl, hl8, hr8, hx8⟩
  obtain rfl : n3 = n8 := by rw [← hl3, ← hl8]
  have hxh := hxg.trans hx8
  have bX8 := bX7.ext hx8
  have cX8 := bX8.cell; have lX8 := bX8.lt
  have hr38 := ((((hr3.ext hx4).ext hx5).ext hx6).ext hx7).ext hx8
  have CE8 := Lib.hid (CEQ.out A3 A8 c3 c8 n3 w8 hl8 hr38 hr8)
  clear cX7 lX7 hr3 hr8 hr38 CEQ
  go_wp2_with fail
  refine CE8.out.mono ?_
  rintro e w9 ⟨rfl, hx9⟩
  have hxi := hxh.trans hx9
  have bX9 := bX8.ext hx9
  have cX9 := bX9.cell; have lX9 := bX9.lt
  clear cX8 lX8 CE8 hx1 hx2 hx3 hx4 hx5 hx6 hx7 hx8 hx9 hxa hxb hxc hxd hxe hxf hxg hxh bX bX1 bX2 bX3 bX4 bX5 bX6 bX7 bX8 CER CPR CNA CHD CCK CVE CTX CUS
  by_cases hbig : t.size ≤ 4000
  rotate_left
  · clear CPA HPP CSA cX9 lX9
    have hxR : Ext w w9 := hxi
    have bR := bX9
    have d0 : w9.cell? ⟨w.heap.size, 0, none⟩ = some (.int .i64 k) := bR.cell 0
    have d1 : w9.cell? ⟨w.heap.size, 1, none⟩ = some (.string n) := bR.cell 1
    have d2 : w9.cell? ⟨w.heap.size, 2, none⟩ = some (.string x) := bR.cell 2
    have d3 : w9.cell? ⟨w.heap.size, 3, none⟩ = some (.slice A0 m cp) := bR.cell 3
    have dl := bR.lt
    go_wp2_with fail
    refine (CLF.out _ hxR).mono ?_
    rintro e u1 ⟨rfl, hy1⟩
    have hxS := hxR.trans hy1
    go_wp2_with fail
    refine (CLS.out _ hxS).mono ?_
    rintro e u2 ⟨rfl, hy2⟩
    have hxT := hxS.trans hy2
    have bS := (bR.ext hy1).ext hy2
    go_wp2_with fail
    refine (First_any _ _ [E1, E2] _ ?_ (by simp)).mono ?_
    · intro k hk
      rw [World.cell?_alloc_at _ _ _ _ rfl]
      match k, hk with
      | 0, _ => rfl
      | 1, _ => rfl
    rw [HFI.out]
    rintro e u3 ⟨rfl, rfl⟩
    have hxU := hxT.alloc (.cells #[.int .i64 E1, .int .i64 E2] 24)
    have bU := bS.alloc (.cells #[.int .i64 E1, .int .i64 E2] 24)
    clear d0 d1 d2 d3 dl bR bS hxR hxS
    by_cases hE : E = 0
    rotate_left
    · have hne : (E != 0) = true := by rw [bne_iff_ne]; exact hE
      have hR := HRF.out hE
      subst hR
      clear bU
      go_wp2
      go_ret
      exact ⟨by simp, hxU⟩
    subst hE
    have hr := HRT.out rfl
    subst hr
    generalize u2.alloc (.cells #[.int .i64 E1, .int .i64 E2] 24) = u4 at *
    have e0 : u4.cell? ⟨w.heap.size, 0, none⟩ = some (.int .i64 k) := bU.cell 0
    have e1 : u4.cell? ⟨w.heap.size, 1, none⟩ = some (.string n) := bU.cell 1
    have e2 : u4.cell? ⟨w.heap.size, 2, none⟩ = some (.string x) := bU.cell 2
    have e3 : u4.cell? ⟨w.heap.size, 3, none⟩ = some (.slice A0 m cp) := bU.cell 3
    have el := bU.lt
    clear bU
    go_wp2_with fail
    go_region_held3 (fun w' => w'.cell? ⟨w.heap.size, 0, none⟩ = some (.int .i64 k) ∧ w'.cell? ⟨w.heap.size, 1, none⟩ = some (.string n) ∧ w'.cell? ⟨w.heap.size, 2, none⟩ = some (.string x) ∧ w'.cell? ⟨w.heap.size, 3, none⟩ = some (.slice A0 m cp)) (first | (go_keep; done) | ((try go_split_ands); (try dsimp only); (repeat' apply And.intro); all_goals (first | (go_keep; done) | (with_reducible exact hxh.cell (by assumption)) | (refine hxh.cell ?_; go_simp))))
      (first
      | (go_at_call 72; with_reducible refine (CF1.out _ (by repeat (first | with_reducible exact Ext.refl _ | with_reducible assumption | with_reducible apply Ext.drewN | with_reducible apply Ext.drew | with_reducible apply Ext.alloc | exact Ext.refl _ | assumption | apply Ext.drewN | apply Ext.drew | apply Ext.alloc))).mono ?_; rintro e w' ⟨mb, rfl, hm, hxh, hab⟩)
      | (go_at_call 72; with_reducible refine (CF2.out _ (by repeat (first | with_reducible exact Ext.refl _ | with_reducible assumption | with_reducible apply Ext.drewN | with_reducible apply Ext.drew | with_reducible apply Ext.alloc | exact Ext.refl _ | assumption | apply Ext.drewN | apply Ext.drew | apply Ext.alloc))).mono ?_; rintro e w' ⟨mb, rfl, hm, hxh, hab⟩)
      | (go_at_call 71; with_reducible refine (CHO.out _ (by repeat (first | with_reducible exact Ext.refl _ | with_reducible assumption | with_reducible apply Ext.drewN | with_reducible apply Ext.drew | with_reducible apply Ext.alloc | exact Ext.refl _ | assumption | apply Ext.drewN | apply Ext.drew | apply Ext.alloc)) _ _ (by first | with_reducible assumption | exact StrMap.ext (by with_reducible assumption) (by with_reducible assumption) | exact StrMap.ext (by with_reducible assumption) (by repeat (first | with_reducible exact Ext.refl _ | with_reducible assumption | with_reducible apply Ext.drewN | with_reducible apply Ext.drew | with_reducible apply Ext.alloc | exact Ext.refl _ | assumption | apply Ext.drewN | apply Ext.drew | apply Ext.alloc))) (by first | with_reducible assumption | exact StrMap.ext (by with_reducible assumption) (by with_reducible assumption) | exact StrMap.ext (by with_reducible assumption) (by repeat (first | with_reducible exact Ext.refl _ | with_reducible assumption | with_reducible apply Ext.drewN | with_reducible apply Ext.drew | with_reducible apply Ext.alloc | exact Ext.refl _ | assumption | apply Ext.drewN | apply Ext.drew | apply Ext.alloc)))).mono ?_; rintro e w' ⟨rfl, hxh, hab⟩))
    all_goals
      go_wp2
      go_ret
      refine ⟨by simp, ?_⟩
      exact (by repeat (first | with_reducible exact Ext.refl _ | with_reducible assumption | with_reducible apply Ext.drewN | with_reducible apply Ext.drew | with_reducible apply Ext.alloc | exact Ext.refl _ | assumption | apply Ext.drewN | apply Ext.drew | apply Ext.alloc))
  have hpp := HPP.out hbig
  have cpa := CPA.out w9 hxi
  rw [hpp] at cpa
  have CP := Lib.hid cpa
  clear cpa hpp
  go_wp2_with fail
  refine CP.out.mono ?_
  rintro e wa ⟨v2, rfl, hv2, hxp⟩
  obtain ⟨k2, m2, x2, A2, q2, cp2, rfl⟩ := hv2.cells
  have hxj := hxi.trans hxp
  have bXa := bX9.ext hxp
  have hxa2 : Ext wa (wa.alloc (.cells #[.int .i64 k2, .string m2, .string x2, .slice A2 q2 cp2] 61)) := (Ext.refl wa).alloc _
  have bXb := bXa.ext hxa2
  have bD := Blk.new wa 61 #[.int .i64 k2, .string m2, .string x2, .slice A2 q2 cp2]
  have hxk := hxj.trans hxa2
  have CS2 := Lib.hid (CSA.out _ _ hxk (hv2.ext hxa2))
  have cXb := bXb.cell; have lXb := bXb.lt; have cD := bD.cell; have lD := bD.lt
  clear CPA HPP CSA CP cX9 lX9 hv2
  go_wp2_with fail
  refine CS2.out.mono ?_
  rintro e wb ⟨rfl, hxq⟩
  have hxl := hxk.trans hxq
  have bXc := bXb.ext hxq
  clear cXb lXb cD lD CS2
  have hxR : Ext w wb := hxl
  have bR := bXc
  have d0 : wb.cell? ⟨w.heap.size, 0, none⟩ = some (.int .i64 k) := bR.cell 0
  have d1 : wb.cell? ⟨w.heap.size, 1, none⟩ = some (.string n) := bR.cell 1
  have d2 : wb.cell? ⟨w.heap.size, 2, none⟩ = some (.string x) := bR.cell 2
  have d3 : wb.cell? ⟨w.heap.size, 3, none⟩ = some (.slice A0 m cp) := bR.cell 3
  have dl := bR.lt
  go_wp2_with fail
  refine (CLF.out _ hxR).mono ?_
  rintro e u1 ⟨rfl, hy1⟩
  have hxS := hxR.trans hy1
  go_wp2_with fail
  refine (CLS.out _ hxS).mono ?_
  rintro e u2 ⟨rfl, hy2⟩
  have hxT := hxS.trans hy2
  have bS := (bR.ext hy1).ext hy2
  go_wp2_with fail
  refine (First_any _ _ [E1, E2] _ ?_ (by simp)).mono ?_
  · intro k hk
    rw [World.cell?_alloc_at _ _ _ _ rfl]
    match k, hk with
    | 0, _ => rfl
    | 1, _ => rfl
  rw [HFI.out]
  rintro e u3 ⟨rfl, rfl⟩
  have hxU := hxT.alloc (.cells #[.int .i64 E1, .int .i64 E2] 24)
  have bU := bS.alloc (.cells #[.int .i64 E1, .int .i64 E2] 24)
  clear d0 d1 d2 d3 dl bR bS hxR hxS
  by_cases hE : E = 0
  rotate_left
  · have hne : (E != 0) = true := by rw [bne_iff_ne]; exact hE
    have hR := HRF.out hE
    subst hR
    clear bU
    go_wp2
    go_ret
    exact ⟨by simp, hxU⟩
  subst hE
  have hr := HRT.out rfl
  subst hr
  generalize u2.alloc (.cells #[.int .i64 E1, .int .i64 E2] 24) = u4 at *
  have e0 : u4.cell? ⟨w.heap.size, 0, none⟩ = some (.int .i64 k) := bU.cell 0
  have e1 : u4.cell? ⟨w.heap.size, 1, none⟩ = some (.string n) := bU.cell 1
  have e2 : u4.cell? ⟨w.heap.size, 2, none⟩ = some (.string x) := bU.cell 2
  have e3 : u4.cell? ⟨w.heap.size, 3, none⟩ = some (.slice A0 m cp) := bU.cell 3
  have el := bU.lt
  clear bU
  go_wp2_with fail
  go_region_held3 (fun w' => w'.cell? ⟨w.heap.size, 0, none⟩ = some (.int .i64 k) ∧ w'.cell? ⟨w.heap.size, 1, none⟩ = some (.string n) ∧ w'.cell? ⟨w.heap.size, 2, none⟩ = some (.string x) ∧ w'.cell? ⟨w.heap.size, 3, none⟩ = some (.slice A0 m cp)) (first | (go_keep; done) | ((try go_split_ands); (try dsimp only); (repeat' apply And.intro); all_goals (first | (go_keep; done) | (with_reducible exact hxh.cell (by assumption)) | (refine hxh.cell ?_; go_simp))))
    (first
    | (go_at_call 72; with_reducible refine (CF1.out _ (by repeat (first | with_reducible exact Ext.refl _ | with_reducible assumption | with_reducible apply Ext.drewN | with_reducible apply Ext.drew | with_reducible apply Ext.alloc | exact Ext.refl _ | assumption | apply Ext.drewN | apply Ext.drew | apply Ext.alloc))).mono ?_; rintro e w' ⟨mb, rfl, hm, hxh, hab⟩)
    | (go_at_call 72; with_reducible refine (CF2.out _ (by repeat (first | with_reducible exact Ext.refl _ | with_reducible assumption | with_reducible apply Ext.drewN | with_reducible apply Ext.drew | with_reducible apply Ext.alloc | exact Ext.refl _ | assumption | apply Ext.drewN | apply Ext.drew | apply Ext.alloc))).mono ?_; rintro e w' ⟨mb, rfl, hm, hxh, hab⟩)
    | (go_at_call 71; with_reducible refine (CHO.out _ (by repeat (first | with_reducible exact Ext.refl _ | with_reducible assumption | with_reducible apply Ext.drewN | with_reducible apply Ext.drew | with_reducible apply Ext.alloc | exact Ext.refl _ | assumption | apply Ext.drewN | apply Ext.drew | apply Ext.alloc)) _ _ (by first | with_reducible assumption | exact StrMap.ext (by with_reducible assumption) (by with_reducible assumption) | exact StrMap.ext (by with_reducible assumption) (by repeat (first | with_reducible exact Ext.refl _ | with_reducible assumption | with_reducible apply Ext.drewN | with_reducible apply Ext.drew | with_reducible apply Ext.alloc | exact Ext.refl _ | assumption | apply Ext.drewN | apply Ext.drew | apply Ext.alloc))) (by first | with_reducible assumption | exact StrMap.ext (by with_reducible assumption) (by with_reducible assumption) | exact StrMap.ext (by with_reducible assumption) (by repeat (first | with_reducible exact Ext.refl _ | with_reducible assumption | with_reducible apply Ext.drewN | with_reducible apply Ext.drew | with_reducible apply Ext.alloc | exact Ext.refl _ | assumption | apply Ext.drewN | apply Ext.drew | apply Ext.alloc)))).mono ?_; rintro e w' ⟨rfl, hxh, hab⟩))
  all_goals
    go_wp2
    go_ret
    refine ⟨by simp, ?_⟩
    exact (by repeat (first | with_reducible exact Ext.refl _ | with_reducible assumption | with_reducible apply Ext.drewN | with_reducible apply Ext.drew | with_reducible apply Ext.alloc | exact Ext.refl _ | assumption | apply Ext.drewN | apply Ext.drew | apply Ext.alloc))
end Go.Proofs.YtaobnifiengglaaGreatDoor
