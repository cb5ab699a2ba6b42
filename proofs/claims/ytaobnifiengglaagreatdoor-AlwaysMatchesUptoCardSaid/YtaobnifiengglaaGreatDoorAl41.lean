/- Contract of ver.Always. (Printed by gen/alwb.py.) -/
import Derived.Test.YtaobnifiengglaaGreatDoorAl40
import Derived.Test.YtaobnifiengglaaGreatDoorAl30
import Derived.Test.YtaobnifiengglaaGreatDoorAl31
import Derived.Deep.RegionHeld3
import Derived.Laws.EntriesVeiled
import Derived.Laws.Small

namespace Go.Proofs.YtaobnifiengglaaGreatDoor
open Go.RowKit

theorem d_short {d : Dm} {tw : Bool} (h : dErrOf d tw = 0) : d.n.size ≤ 200 := by
  unfold dErrOf at h
  by_cases hr : rightD d = false
  · rw [if_pos hr] at h; cases h
  · have hr : rightD d = true := by simpa using hr
    rw [← bs_length]
    unfold rightD at hr
    by_cases hs : d.s = true
    · rw [if_pos hs] at hr
      exact pathL_len hr
    · rw [if_neg hs] at hr
      unfold nameL eachL at hr
      simp only [Bool.and_eq_true, decide_eq_true_eq] at hr
      omega
theorem oneEach_le2 {α : Type} [DecidableEq α] : ∀ l : List α, (oneEach l).length ≤ l.length
  | [] => Nat.le_refl _
  | [a] => Nat.le_refl _
  | a :: b :: l => by
    have := oneEach_le2 (b :: l)
    rw [oneEach]
    split
    · rw [List.length_cons]; omega
    · rw [List.length_cons, List.length_cons]; omega
theorem alwE_0 {c : Cd} {l : List Dm} (h : checkC c ≠ 0) : alwE c l = checkC c := by rw [alwE, firstI, if_neg h]
theorem alwE_1 {c : Cd} {l : List Dm} (h0 : checkC c = 0) (h : domE l ≠ 0) : alwE c l = domE l := by rw [alwE, firstI, if_pos h0, firstI, if_neg h]
theorem alwE_2 {c : Cd} {l : List Dm} (h0 : checkC c = 0) (h1 : domE l = 0) (h : 1000 < many l) : alwE c l = 4 := by rw [alwE, firstI, if_pos h0, firstI, if_pos h1, firstI, if_pos h, if_neg (by decide)]
theorem alwE_3 {c : Cd} {l : List Dm} (h0 : checkC c = 0) (h1 : domE l = 0) (h2 : ¬ 1000 < many l) (h : ¬ (inOrder (useAll c)).all (known l) = true) : alwE c l = 10 := by
  rw [alwE, firstI, if_pos h0, firstI, if_pos h1, firstI, if_neg h2, if_pos rfl, firstI, if_neg h, if_neg (by decide)]
theorem alwE_4 {c : Cd} {l : List Dm} (h0 : checkC c = 0) (h1 : domE l = 0) (h2 : ¬ 1000 < many l) (h : (inOrder (useAll c)).all (known l) = true) : alwE c l = 0 := by
  rw [alwE, firstI, if_pos h0, firstI, if_pos h1, firstI, if_neg h2, if_pos rfl, firstI, if_pos h, if_pos rfl, firstI]
set_option maxRecDepth 100000 in
set_option maxHeartbeats 64000000 in
theorem Always_any (A : Option Addr) (n cc : Nat) (l : List Dm) (c : Cd) (v : Value) (P : Nat → Prop) (w : World) (hg : GoodN w) (hcd : CdIn P w c v) (hsm : SmallC c) (hcnt : cnt c ≤ 100000000) (hn : l.length = n) (hr : RdD w A l) (hs : SmallD l) (hl : n ≤ 2097152) (hcap : n ≤ cc) :
    Calls Tryz.prog 60 #[v, .slice A n cc] w fun e w' => e = .returned (.tuple #[.bool (alwA c l), .bool (alwN c l), .int .i64 (alwE c l)]) ∧ Ext w w' := by
  have CNA := Lib.hid (fun W (hx : Ext w W) => Names_any c _ P W (hg.ext hx) (hcd.ext hx) hsm hcnt)
  have CDF := Lib.hid (fun W (hx : Ext w W) => domainsFault_any A n cc l W (hg.toGood.ext hx) hn (hr.ext hx) hs hl hcap)
  have HWA := Lib.hid (fun (h : alwE c l ≠ 0) => (show alwA c l = false ∧ alwN c l = false from ⟨by rw [alwA, if_neg h], by rw [alwN, if_neg h]⟩))
  have HWB := Lib.hid (fun (h : alwE c l = 0) => (show alwA c l = (List.range (many l)).all (fun w => holdsE c (decP l w e0)) ∧ alwN c l = (List.range (many l)).all (fun w => !holdsE c (decP l w e0)) from ⟨by rw [alwA, if_pos h], by rw [alwN, if_pos h]⟩))
  have HHO := Lib.hid (fun (h0 : checkC c = 0) (M : Str → Option Str) (hM : ∀ y (u : ByteArray), M y = some (bs u) → u.size ≤ 2097152) W (hx : Ext w W) k1 k2 (t1 : FnTells 138 k1 (fun y => M (wFactS ++ y)) W) (t2 : FnTells 138 k2 (fun y => M (wSettingS ++ y)) W) =>
    (holdsG_any 138 enters_alw21 (fun y => M (wFactS ++ y)) (fun y => M (wSettingS ++ y)) (fun y u h => hM _ u h) 100 c (ok_of_check h0) (by have := check_cnt h0; omega) P _ k1 k2 W (hg.ext hx) (hcd.ext hx) t1 t2).mono fun _ _ h => (⟨h.1, h.2, hx.trans h.2⟩ : _ ∧ _ ∧ Ext w _))
  obtain ⟨ck, cn, cx, cA, cm, cp, rfl⟩ := hcd.cells
  have hx0 : Ext w (w.alloc (.cells #[.int .i64 ck, .string cn, .string cx, .slice cA cm cp] 61)) := (Ext.refl w).alloc _
  have bX := Blk.new w 61 #[.int .i64 ck, .string cn, .string cx, .slice cA cm cp]
  have hmm := @run_makeMap Tryz.prog
  have HN := Lib.hid hn; have HR := Lib.hid hr; have HS := Lib.hid hs
  clear hn hr hs hcd
  obtain ⟨E, hE⟩ : ∃ E, alwE c l = E := ⟨_, rfl⟩
  obtain ⟨AL, hAL⟩ : ∃ AL, alwA c l = AL := ⟨_, rfl⟩
  obtain ⟨NO, hNO⟩ : ∃ NO, alwN c l = NO := ⟨_, rfl⟩
  rw [hE, hAL, hNO] at HWA HWB ⊢
  have HEQ := Lib.hid hE
  clear hAL hNO hE
  by_cases h0 : checkC c = 0
  rotate_left
  · have e1 := HEQ.out.symm.trans (alwE_0 (l := l) h0)
    obtain ⟨e2, e3⟩ := HWA.out (by rw [e1]; exact h0)
    subst e2 e3
    have hne : (checkC c != 0) = true := by rw [bne_iff_ne]; exact h0
    have HE1 := Lib.hid e1
    clear HEQ HWA HWB HHO e1 CDF
    generalize checkC c = E0 at *
    go_enter Tryz.func60, Tryz.ntmps60
    go_wp2_with fail
    refine (CNA.out _ hx0).mono ?_
    rintro e w1 ⟨A1, n1, c1, rfl, _, _, hx1⟩
    go_wp2
    go_ret3
    exact ⟨by rw [HE1.out]; rfl, hx0.trans hx1⟩
  have HHO2 := Lib.hid (HHO.out h0)
  have hcn := check_cnt h0
  have hul : (inOrder (useAll c)).length ≤ 100 := by
    have h1 := oneEach_le2 ((useAll c).mergeSort Go.leB)
    rw [List.length_mergeSort] at h1
    have h2 := uses_len (prt 0 c)
    rw [prt_len] at h2
    exact Nat.le_trans h1 (Nat.le_trans h2 hcn)
  have hnc : namesC c = inOrder (useAll c) := by unfold namesC; rw [if_pos h0]
  rw [h0, hnc] at CNA
  by_cases h1 : domE l = 0
  rotate_left
  · have e1 := HEQ.out.symm.trans (alwE_1 h0 h1)
    obtain ⟨e2, e3⟩ := HWA.out (by rw [e1]; exact h1)
    subst e2 e3
    have hne : (domE l != 0) = true := by rw [bne_iff_ne]; exact h1
    have HE1 := Lib.hid e1
    clear HEQ HWA HWB HHO HHO2 e1 hnc
    generalize domE l = E1 at *
    go_enter Tryz.func60, Tryz.ntmps60
    go_wp2_with fail
    refine (CNA.out _ hx0).mono ?_
    rintro e w1 ⟨A1, n1, c1, rfl, _, _, hx1⟩
    go_wp2_with fail
    refine (CDF.out _ (hx0.trans hx1)).mono ?_
    rintro e w2 ⟨rfl, hx2⟩
    go_wp2
    go_ret3
    exact ⟨by rw [HE1.out]; rfl, (hx0.trans hx1).trans hx2⟩
  have hdw : domW l = min (many l) 1001 := by rw [domW, if_pos h1]
  rw [h1, hdw] at CDF
  by_cases h2 : 1000 < many l
  · have e1 := HEQ.out.symm.trans (alwE_2 h0 h1 h2)
    obtain ⟨e2, e3⟩ := HWA.out (by rw [e1]; decide)
    have hm2 : 1000 < min (many l) 1001 := by omega
    subst e1 e2 e3
    clear HEQ HWA HWB HHO HHO2 hnc hdw h2
    generalize min (many l) 1001 = m0 at *
    go_enter Tryz.func60, Tryz.ntmps60
    go_wp2_with fail
    refine (CNA.out _ hx0).mono ?_
    rintro e w1 ⟨A1, n1, c1, rfl, _, _, hx1⟩
    go_wp2_with fail
    refine (CDF.out _ (hx0.trans hx1)).mono ?_
    rintro e w2 ⟨rfl, hx2⟩
    go_wp2
    go_ret3
    exact ⟨rfl, (hx0.trans hx1).trans hx2⟩
  have hdm : min (many l) 1001 = many l := by omega
  rw [hdm] at CDF
  have HK0 := Lib.hid (fun (h : ¬ (inOrder (useAll c)).all (known l) = true) => (show E = 10 ∧ AL = false ∧ NO = false from by
    have e1 := HEQ.out.symm.trans (alwE_3 h0 h1 h2 h)
    exact ⟨e1, HWA.out (by rw [e1]; decide)⟩))
  have HK1 := Lib.hid (fun (h : (inOrder (useAll c)).all (known l) = true) => (show E = 0 ∧ AL = (List.range (many l)).all (fun w => holdsE c (decP l w e0)) ∧ NO = (List.range (many l)).all (fun w => !holdsE c (decP l w e0)) from by
    have e1 := HEQ.out.symm.trans (alwE_4 h0 h1 h2 h)
    exact ⟨e1, HWB.out e1⟩))
  have HSZ := Lib.hid (fun k (hk : k < l.length) => (show 0 < l[k].size ∧ l[k].n.size ≤ 200 from by
    have := (dom_ok h1).2 k hk
    rw [dErr_of hk] at this
    exact ⟨d_size this, d_short this⟩))
  have hl20 : n ≤ 20 := by have := (dom_ok h1).1; rw [HN.out] at this; exact this
  clear HEQ HWA HWB HHO hdw hdm hnc h0 h1 hcn
  generalize inOrder (useAll c) = UL at *
  have hDec : ∀ j, decP (l.drop 0) j (fsOf (fun _ => none)) = decP l j e0 := fun j => by rw [List.drop_zero, fs_none]
  have HDec := Lib.hid hDec
  clear hDec
  obtain ⟨p, hp⟩ : ∃ p : Nat → Bool, (fun w => holdsE c (decP l w e0)) = p := ⟨_, rfl⟩
  have hp2 : (fun w => !holdsE c (decP l w e0)) = fun w => !p w := by rw [← hp]
  rw [hp, hp2] at HK1
  have HPE := Lib.hid (fun j (M : Str → Option Str) (h : fsOf M = decP l j e0) => (show holdsC (fun y => M (wFactS ++ y)) (fun y => M (wSettingS ++ y)) c = p j from by rw [← hp]; show _ = holdsE c (decP l j e0); rw [← h]; rfl))
  clear hp hp2
  generalize hMN : many l = MN at *
  go_enter Tryz.func60, Tryz.ntmps60
  go_wp2_with fail
  refine (CNA.out _ hx0).mono ?_
  rintro e w1 ⟨A1, n1, c1, rfl, hl1, hr1, hx1⟩
  have hxa := hx0.trans hx1
  have hn1 : n1 ≤ 100 := by rw [← hl1]; exact hul
  go_wp2_with fail
  refine (CDF.out _ hxa).mono ?_
  rintro e w2 ⟨rfl, hx2⟩
  have hxb := hxa.trans hx2
  have bX2 := (bX.ext hx1).ext hx2
  have HR1 := Lib.hid (hr1.ext hx2)
  have HN1 := Lib.hid hl1
  clear CNA CDF hx1 hx2 hr1 hl1 bX
  go_wp2
  go_loopw [41] (fun t wr => ∃ j : Nat, t = .int .i64 j ∧ j ≤ n1 ∧ Hid (∀ i (hi : i < UL.length), i < j → known l UL[i] = true) ∧ Ext w2 wr) (fun t _ => n1 - (intOf t).toNat)
  case atStart => exact ⟨0, by go_num, Nat.zero_le _, (fun i _ h => absurd h (Nat.not_lt_zero _)), Ext.refl _⟩
  case round =>
    obtain ⟨j, rfl, hj, HALL, hxr⟩ := hrel
    by_cases hlj : j < n1
    · have hj1 : j < UL.length := by rw [HN1.out]; exact hlj
      obtain ⟨g1, rfl, hc1⟩ := HR1.out (fun e => by rw [e] at hj1; exact absurd hj1 (Nat.not_lt_zero _))
      have y0 := hxr.cell (hc1 j hj1)
      obtain ⟨x, hx, hbx⟩ : ∃ x : ByteArray, S UL[j] = .string x ∧ bs x = UL[j] := ⟨⟨_⟩, rfl, bs_mk _⟩
      rw [hx] at y0
      have hxs : Ext wr (wr.alloc (.cells #[.string x] 9)) := (Ext.refl wr).alloc _
      have twc := ContainsFuncD_any A n cc l 135 #[.pointer (some ⟨wr.heap.size, 0, none⟩)] (fun d => decide (d.mark = bs x)) (wr.alloc (.cells #[.string x] 9)) HN.out (HR.out.ext (hxb.trans (hxr.trans hxs))) hl enters_alw1
        (fun k hk A' c' W' h' => alw1_any l[k] A' c' wr.heap.size x W' (HS.out _ (List.getElem_mem hk)).1 ((Blk.new wr _ _).ext h'))
      rw [show (l.any fun d => decide (d.mark = bs x)) = known l UL[j] by rw [hbx]; rfl] at twc
      have TWC := Lib.hid twc
      have HAN := Lib.hid (show known l UL[j] = true → ∀ i (hi : i < UL.length), i < j + 1 → known l UL[i] = true from fun e i hi h => by
        by_cases hij : i = j
        · subst hij; exact e
        · exact HALL.out i hi (by omega))
      have HNO := Lib.hid (show known l UL[j] = false → E = 10 ∧ AL = false ∧ NO = false from fun e => HK0.out fun h => by
        have := List.all_eq_true.1 h UL[j] (List.getElem_mem hj1)
        rw [e] at this
        cases this)
      have yl := lt_of_cell y0
      clear hc1 hx hbx twc
      generalize known l UL[j] = KN at *
      cases KN
      · obtain ⟨e1, e2, e3⟩ := HNO.out rfl
        subst e1 e2 e3
        go_wp2_with fail
        refine TWC.out.mono ?_
        rintro e w3 ⟨rfl, hx3⟩
        go_wp2
        go_ret3
        exact ⟨rfl, hxb.trans ((hxr.trans hxs).trans hx3)⟩
      · have HF := Lib.hid (HAN.out rfl)
        go_wp2_with fail
        refine TWC.out.mono ?_
        rintro e w3 ⟨rfl, hx3⟩
        go_wp2
        go_roundw
        case rel => exact ⟨j + 1, by go_num, hlj, HF.out, (hxr.trans hxs).trans hx3⟩
        case measure => simp [intOf]; omega
    obtain rfl : j = n1 := by omega
    have hall : UL.all (known l) = true := by
      rw [List.all_eq_true]
      intro y hy
      obtain ⟨i, hi, rfl⟩ := List.mem_iff_getElem.1 hy
      exact HALL.out i hi (by rw [← HN1.out]; exact hi)
    obtain ⟨e1, e2, e3⟩ := HK1.out hall
    subst e1
    have HA2 := Lib.hid e2
    have HA3 := Lib.hid e3
    have hxc := hxb.trans hxr
    have bX3 := bX2.ext hxr
    have hMN2 : MN ≤ 1000 := by omega
    clear hall HK0 HK1 e2 e3 HALL HN1 HR1 bX2 hxr hxa
    obtain ⟨w4, hw4⟩ : ∃ w4, w4 = wr := ⟨wr, rfl⟩
    subst hw4
    go_wp2
    go_loopw [12, 13, 51] (fun s12 s13 s51 wr => ∃ j : Nat, s51 = .int .i64 j ∧ j ≤ MN ∧ s12 = .bool ((List.range j).all p) ∧ s13 = .bool ((List.range j).all fun w => !p w) ∧ Ext w4 wr) (fun _ _ s51 _ => MN - (intOf s51).toNat)
    case atStart => exact ⟨0, by go_num, Nat.zero_le _, rfl, rfl, Ext.refl _⟩
    case round =>
      obtain ⟨j, rfl, hj, rfl, rfl, hxj⟩ := hrel
      by_cases hlj : j < MN
      rotate_left
      · obtain rfl : j = MN := by omega
        go_wp2
        go_ret3
        exact ⟨by rw [HA2.out, HA3.out]; rfl, hxc.trans hxj⟩
      obtain ⟨wq, hwq⟩ : ∃ wq, wq = wr := ⟨wr, rfl⟩
      subst hwq
      have hS0 := (StrMap.made wq).ext ((Ext.refl _).alloc (.cells #[.map (some wq.heap.size)] 108))
      have bM0 : Blk ((wq.alloc (.map #[] 0)).alloc (.cells #[.map (some wq.heap.size)] 108)) (wq.heap.size + 1) 108 #[.map (some wq.heap.size)] := by
        have := Blk.new (wq.alloc (.map #[] 0)) 108 #[.map (some wq.heap.size)]
        rwa [World.size_alloc] at this
      have hxm : Ext wq ((wq.alloc (.map #[] 0)).alloc (.cells #[.map (some wq.heap.size)] 108)) := ((Ext.refl wq).alloc _).alloc _
      go_wp2
      go_loopw [14, 57] (fun s14 s57 wr => ∃ (k wk : Nat) (M : Str → Option Str), s57 = .int .i64 k ∧ s14 = .int .i64 wk ∧ k ≤ n ∧ StrMap wr wq.heap.size k M ∧ Blk wr (wq.heap.size + 1) 108 #[.map (some wq.heap.size)] ∧ Ext wq wr ∧ Hid (decP (l.drop k) wk (fsOf M) = decP l j e0) ∧ wk ≤ 1000 ∧ Hid (∀ y (u : ByteArray), M y = some (bs u) → u.size ≤ 2097152)) (fun _ s57 _ => n - (intOf s57).toNat)
      case atStart => exact ⟨0, j, (fun _ => none), by go_num, by go_num, Nat.zero_le _, hS0, bM0, hxm, HDec.out j, by omega, (fun y u h => by cases h)⟩
      case round =>
        obtain ⟨k, wk, M, rfl, rfl, hk, hS, bM, hxi, HDD, hwk, HMS⟩ := hrel
        clear hS0 bM0 hxm
        by_cases hlt : k < n
        rotate_left
        · obtain rfl : k = n := by omega
          have hfin : fsOf M = decP l j e0 := by
            have := HDD.out
            rw [List.drop_of_length_le (by rw [HN.out]; exact Nat.le_refl _), decP] at this
            exact this
          have HPJ := Lib.hid (HPE.out j M hfin)
          have HA4 := Lib.hid (all_range_succ p j)
          have HA5 := Lib.hid (all_range_succ (fun w => !p w) j)
          have HF1 := Lib.hid (fun W (hx : Ext wr W) => (alw2_any (wq.heap.size + 1) wq.heap.size k M ⟨#[102, 97, 99, 116, 32]⟩ W (bM.ext hx) (hS.ext hx) (by decide)).mono fun _ _ h => (match h with | ⟨g, a, b, d⟩ => ⟨g, a, b, d, hx.trans d⟩ : ∃ g, _ = _ ∧ FnTells 138 g (fun y => M (wFactS ++ y)) _ ∧ Ext W _ ∧ Ext wr _))
          have HF2 := Lib.hid (fun W (hx : Ext wr W) => (alw2_any (wq.heap.size + 1) wq.heap.size k M ⟨#[115, 101, 116, 116, 105, 110, 103, 32]⟩ W (bM.ext hx) (hS.ext hx) (by decide)).mono fun _ _ h => (match h with | ⟨g, a, b, d⟩ => ⟨g, a, b, d, hx.trans d⟩ : ∃ g, _ = _ ∧ FnTells 138 g (fun y => M (wSettingS ++ y)) _ ∧ Ext W _ ∧ Ext wr _))
          have hxw := (hxc.trans hxj).trans hxi
          have HH3 := Lib.hid (fun W (hx : Ext wr W) k1 k2 t1 t2 => (HHO2.out M HMS.out W (hxw.trans hx) k1 k2 t1 t2).mono fun _ _ h => (⟨h.1, h.2.1, hx.trans h.2.1⟩ : _ ∧ _ ∧ Ext wr _))
          rw [show holdsC (fun y => M (wFactS ++ y)) (fun y => M (wSettingS ++ y)) c = p j from HPJ.out] at HH3
          have bX4 := (bX3.ext hxj).ext hxi
          have d0 : wr.cell? ⟨w.heap.size, 0, none⟩ = some (.int .i64 ck) := bX4.cell 0
          have d1 : wr.cell? ⟨w.heap.size, 1, none⟩ = some (.string cn) := bX4.cell 1
          have d2 : wr.cell? ⟨w.heap.size, 2, none⟩ = some (.string cx) := bX4.cell 2
          have d3 : wr.cell? ⟨w.heap.size, 3, none⟩ = some (.slice cA cm cp) := bX4.cell 3
          have dl := bX4.lt
          have hxz := hxj.trans hxi
          clear hS bM hfin HDD HMS HPJ bX4 HHO2
          generalize p j = pj at *
          have hrr := Ext.refl wr
          cases pj
          all_goals
            go_wp2_with fail
            go_region_held3 (fun w' => w'.cell? ⟨w.heap.size, 0, none⟩ = some (.int .i64 ck) ∧ w'.cell? ⟨w.heap.size, 1, none⟩ = some (.string cn) ∧ w'.cell? ⟨w.heap.size, 2, none⟩ = some (.string cx) ∧ w'.cell? ⟨w.heap.size, 3, none⟩ = some (.slice cA cm cp)) (first | (go_keep; done) | ((try go_split_ands); (try dsimp only); (repeat' apply And.intro); all_goals (first | (go_keep; done) | (with_reducible exact hxh.cell (by assumption)) | (refine hxh.cell ?_; go_simp))))
              (first
              | (go_at_call 137; with_reducible refine (HF1.out _ (by repeat (first | with_reducible exact Ext.refl _ | with_reducible assumption | with_reducible apply Ext.drewN | with_reducible apply Ext.drew | with_reducible apply Ext.alloc | exact Ext.refl _ | assumption | apply Ext.drewN | apply Ext.drew | apply Ext.alloc))).mono ?_; rintro e w' ⟨g, rfl, ht, hxh, hab⟩)
              | (go_at_call 137; with_reducible refine (HF2.out _ (by repeat (first | with_reducible exact Ext.refl _ | with_reducible assumption | with_reducible apply Ext.drewN | with_reducible apply Ext.drew | with_reducible apply Ext.alloc | exact Ext.refl _ | assumption | apply Ext.drewN | apply Ext.drew | apply Ext.alloc))).mono ?_; rintro e w' ⟨g, rfl, ht, hxh, hab⟩)
              | (go_at_call 139; with_reducible refine (HH3.out _ (by repeat (first | with_reducible exact Ext.refl _ | with_reducible assumption | with_reducible apply Ext.drewN | with_reducible apply Ext.drew | with_reducible apply Ext.alloc | exact Ext.refl _ | assumption | apply Ext.drewN | apply Ext.drew | apply Ext.alloc)) _ _ (by first | with_reducible assumption | exact FnTells.ext (by with_reducible assumption) (by with_reducible assumption) | exact FnTells.ext (by with_reducible assumption) (by repeat (first | with_reducible exact Ext.refl _ | with_reducible assumption | with_reducible apply Ext.drewN | with_reducible apply Ext.drew | with_reducible apply Ext.alloc | exact Ext.refl _ | assumption | apply Ext.drewN | apply Ext.drew | apply Ext.alloc))) (by first | with_reducible assumption | exact FnTells.ext (by with_reducible assumption) (by with_reducible assumption) | exact FnTells.ext (by with_reducible assumption) (by repeat (first | with_reducible exact Ext.refl _ | with_reducible assumption | with_reducible apply Ext.drewN | with_reducible apply Ext.drew | with_reducible apply Ext.alloc | exact Ext.refl _ | assumption | apply Ext.drewN | apply Ext.drew | apply Ext.alloc)))).mono ?_; rintro e w' ⟨rfl, hxh, hab⟩))
            all_goals
              go_wp2
              go_roundw
              case rel => exact ⟨j + 1, by go_num, hlj, by rw [HA4.out]; simp, by rw [HA5.out]; simp, hxz.trans (by first | assumption | exact (by repeat (first | with_reducible exact Ext.refl _ | with_reducible assumption | with_reducible apply Ext.drewN | with_reducible apply Ext.drew | with_reducible apply Ext.alloc | exact Ext.refl _ | assumption | apply Ext.drewN | apply Ext.drew | apply Ext.alloc)))⟩
              case measure => simp [intOf]; omega
        have hk1 : k < l.length := by rw [HN.out]; exact hlt
        obtain ⟨b, o, rfl, hX⟩ := HR.out (fun e => by rw [e] at hk1; exact absurd hk1 (Nat.not_lt_zero _))
        have hxall := (hxc.trans hxj).trans hxi
        obtain ⟨A', c', x0, x1, x2, x3, hvr, hvc⟩ := hX.ext hxall k hk1
        obtain ⟨hsz, hsv, hsx⟩ := HS.out l[k] (List.getElem_mem hk1)
        obtain ⟨hsp, hs20⟩ := HSZ.out k hk1
        have HDC := Lib.hid (show (∀ h : wk % l[k].size < l[k].v.length, decP (l.drop (k + 1)) (wk / l[k].size) (putD l[k] (l[k].v[wk % l[k].size]'h) (fsOf M)) = decP l j e0) ∧ (¬ wk % l[k].size < l[k].v.length → decP (l.drop (k + 1)) (wk / l[k].size) (fsOf M) = decP l j e0) from by
          have := HDD.out
          rw [dec_drop hk1] at this
          exact ⟨fun h => by rw [dif_pos h] at this; exact this, fun h => by rw [dif_neg h] at this; exact this⟩)
        obtain ⟨y, hy, hby⟩ := mark_str l[k]
        have cm2 := fun W => mark_any l[k] A' c' W hsz
        rw [hy] at cm2
        have hys : y.size ≤ 208 := by
          rw [← bs_length, hby]
          unfold Dm.mark
          split
          · rw [List.length_append, bs_length]; show 8 + _ ≤ _; omega
          · rw [List.length_append, bs_length]; show 5 + _ ≤ _; omega
        have HSV := Lib.hid hsx
        have HBY := Lib.hid hby
        have HSP := Lib.hid hsp
        have lb := lt_of_cell x0
        clear hX HDD hby hy hsp hsx
        generalize l[k] = d at *
        obtain ⟨dn, ds, da, dv⟩ := d
        dsimp only [dmV] at x0 x1 x2 x3 hsz hsv cm2 HSV hvr hvc hs20
        have CM := Lib.hid cm2
        clear cm2
        cases da
        · have hsz0 : Dm.size ⟨dn, ds, false, dv⟩ = dv.length := rfl
          rw [hsz0] at HDC HSP
          clear hsz0
          have hrem : ((wk : Nat) : Int).tmod (dv.length : Int) = ((wk % dv.length : Nat) : Int) := by
            rw [Int.tmod_eq_emod_of_nonneg (by omega)]
            push_cast
            rfl
          have hquo : ((wk : Nat) : Int).tdiv (dv.length : Int) = ((wk / dv.length : Nat) : Int) := by
            rw [Int.tdiv_eq_ediv_of_nonneg (by omega)]
            push_cast
            rfl
          have hnz : ((dv.length : Int) == 0) = false := by rw [beq_eq_false_iff_ne]; have := HSP.out; omega
          have hqle : wk / dv.length ≤ 1000 := Nat.le_trans (Nat.div_le_self _ _) hwk
          by_cases hlt2 : wk % dv.length < dv.length
          · have hne0 : dv ≠ [] := fun e => by rw [e] at hlt2; exact absurd hlt2 (Nat.not_lt_zero _)
            obtain ⟨vb, vo, rfl, hk2⟩ := hvr hne0
            have y0 := hk2 _ hlt2
            have HDY := Lib.hid (HDC.out.1 hlt2)
            have hxs := HSV.out dv[wk % dv.length] (List.getElem_mem hlt2)
            have yl := lt_of_cell y0
            clear hk2 hvr
            generalize dv[wk % dv.length] = x at *
            generalize wk % dv.length = kk at *
            generalize wk / dv.length = wk2 at *
            obtain ⟨W, hW⟩ : ∃ W, wr.alloc (.cells #[.string dn, .bool ds, .bool false, .slice (some ⟨vb, vo, none⟩) dv.length c'] 198) = W := ⟨_, rfl⟩
            have hxW : Ext wr W := by rw [← hW]; exact (Ext.refl wr).alloc _
            have bD : Blk W wr.heap.size 198 #[.string dn, .bool ds, .bool false, .slice (some ⟨vb, vo, none⟩) dv.length c'] := by rw [← hW]; exact Blk.new _ _ _
            have HW := Lib.hid hW
            clear hW
            have cD := bD.cell; have lD := bD.lt
            have bM2 := bM.ext hxW
            have cM := bM2.cell; have lM := bM2.lt
            have hS2 := hS.ext hxW
            have y1 := hxW.cell y0
            have yl2 := lt_of_cell y1
            go_wp2_with fail
            rw [HW.out]
            refine wp_region_ext_tail 8 (by kernel_rfl) (by kernel_rfl) ?_
            simp only [List.take_succ_cons, List.take_zero, List.drop_succ_cons, List.drop_zero]
            repeat (first | go_big_quiet_skip | (refine wpQuiet_step (fun K hK => ?_); go_simp; first | (refine hK _ ?_; clear hK K) | (apply Exists.intro; refine ⟨fun wq hwq => ?_, hK _ ?_⟩; (obtain ⟨hqc, hqf⟩ := hwq.cells; have hqs := hwq.size; (try go_simp); first | rfl | ((first | rw [if_neg (by omega)] | rw [if_pos (by omega)]); (try go_simp); rfl) | ((go_at_call 136; exact (CM.out _).mono (fun e w'' h => ⟨h.1, hwq.trans h.2⟩)))); clear hK K)))
            refine wpQuiet_nil ?_
            intro wN hxN
            obtain ⟨hcN, hfN⟩ := hxN.cells
            have hsN := hxN.size
            obtain ⟨w6, hrun, hS6, hg6⟩ := (hS2.ext hxN).upd (t := 108) Tryz.underlying108 y x (by omega) hxs (by omega)
            rw [HBY.out] at hS6
            have bM6 : Blk w6 (wq.heap.size + 1) 108 _ := (hg6.block _ (bM2.ext hxN).lt (fun e => by simp only [Option.some.injEq] at e; omega)).trans (bM2.ext hxN)
            have HX6 := Lib.hid (show Ext wq w6 from Below.grown ((hxi.trans hxW).trans hxN) hg6 (((hxi.trans hxW).trans hxN).size) (fun i hi => by simp only [Option.some.injEq] at hi; omega))
            have HS6 := Lib.hid hS6
            have HM6 := Lib.hid bM6
            have HSM := Lib.hid (show ∀ y' (u : ByteArray), (if y' = Dm.mark ⟨dn, ds, false, dv⟩ then some (bs x) else M y') = some (bs u) → u.size ≤ 2097152 from fun y' u h => by
              by_cases e : y' = Dm.mark ⟨dn, ds, false, dv⟩
              · rw [if_pos e] at h; rw [← bs_inj (Option.some.inj h)]; exact hxs
              · rw [if_neg e] at h; exact HMS.out y' u h)
            clear hS6 hg6 bM6 hS hS2 bM bM2
            go_wp2
            go_roundw
            case rel => exact ⟨k + 1, wk2, (fun y' => if y' = Dm.mark ⟨dn, ds, false, dv⟩ then some (bs x) else M y'), by go_num, rfl, by omega, HS6.out, HM6.out, HX6.out, (by rw [fs_put]; exact HDY.out), hqle, HSM.out⟩
            case measure => simp [intOf]; omega
          · have HDY := Lib.hid (HDC.out.2 hlt2)
            have hne0 : dv ≠ [] := fun e => by have := HSP.out; rw [e] at this; exact absurd this (Nat.not_lt_zero _)
            have hS2 := hS.mono (show k ≤ k + 1 by omega)
            have hxW : Ext wr (wr.alloc (.cells #[.string dn, .bool ds, .bool false, .slice A' dv.length c'] 198)) := (Ext.refl wr).alloc _
            have HS6 := Lib.hid (hS2.ext hxW); have HM6 := Lib.hid (bM.ext hxW); have HX6 := Lib.hid (hxi.trans hxW)
            clear hS hS2 bM hvr
            generalize wk % dv.length = kk at *
            generalize wk / dv.length = wk2 at *
            go_wp2
            first
              | (refine ⟨⟨k + 1, wk2, M, by go_num, rfl, by omega, HS6.out, HM6.out, HX6.out, HDY.out, hqle, HMS.out⟩, ?_⟩
                 simp [intOf]; omega)
              | (go_roundw
                 case rel => exact ⟨k + 1, wk2, M, by go_num, rfl, by omega, HS6.out, HM6.out, HX6.out, HDY.out, hqle, HMS.out⟩
                 case measure => simp [intOf]; omega)
        · have hsz0 : Dm.size ⟨dn, ds, true, dv⟩ = dv.length + 1 := rfl
          rw [hsz0] at HDC HSP
          clear hsz0
          have hrem : ((wk : Nat) : Int).tmod ((dv.length : Int) + 1) = ((wk % (dv.length + 1) : Nat) : Int) := by
            rw [Int.tmod_eq_emod_of_nonneg (by omega)]
            push_cast
            rfl
          have hquo : ((wk : Nat) : Int).tdiv ((dv.length : Int) + 1) = ((wk / (dv.length + 1) : Nat) : Int) := by
            rw [Int.tdiv_eq_ediv_of_nonneg (by omega)]
            push_cast
            rfl
          have hnz : (((dv.length : Int) + 1) == 0) = false := by rw [beq_eq_false_iff_ne]; have := HSP.out; omega
          have hqle : wk / (dv.length + 1) ≤ 1000 := Nat.le_trans (Nat.div_le_self _ _) hwk
          by_cases hlt2 : wk % (dv.length + 1) < dv.length
          · have hne0 : dv ≠ [] := fun e => by rw [e] at hlt2; exact absurd hlt2 (Nat.not_lt_zero _)
            obtain ⟨vb, vo, rfl, hk2⟩ := hvr hne0
            have y0 := hk2 _ hlt2
            have HDY := Lib.hid (HDC.out.1 hlt2)
            have hxs := HSV.out dv[wk % (dv.length + 1)] (List.getElem_mem hlt2)
            have yl := lt_of_cell y0
            clear hk2 hvr
            generalize dv[wk % (dv.length + 1)] = x at *
            generalize wk % (dv.length + 1) = kk at *
            generalize wk / (dv.length + 1) = wk2 at *
            obtain ⟨W, hW⟩ : ∃ W, wr.alloc (.cells #[.string dn, .bool ds, .bool true, .slice (some ⟨vb, vo, none⟩) dv.length c'] 198) = W := ⟨_, rfl⟩
            have hxW : Ext wr W := by rw [← hW]; exact (Ext.refl wr).alloc _
            have bD : Blk W wr.heap.size 198 #[.string dn, .bool ds, .bool true, .slice (some ⟨vb, vo, none⟩) dv.length c'] := by rw [← hW]; exact Blk.new _ _ _
            have HW := Lib.hid hW
            clear hW
            have cD := bD.cell; have lD := bD.lt
            have bM2 := bM.ext hxW
            have cM := bM2.cell; have lM := bM2.lt
            have hS2 := hS.ext hxW
            have y1 := hxW.cell y0
            have yl2 := lt_of_cell y1
            go_wp2_with fail
            rw [HW.out]
            refine wp_region_ext_tail 8 (by kernel_rfl) (by kernel_rfl) ?_
            simp only [List.take_succ_cons, List.take_zero, List.drop_succ_cons, List.drop_zero]
            repeat (first | go_big_quiet_skip | (refine wpQuiet_step (fun K hK => ?_); go_simp; first | (refine hK _ ?_; clear hK K) | (apply Exists.intro; refine ⟨fun wq hwq => ?_, hK _ ?_⟩; (obtain ⟨hqc, hqf⟩ := hwq.cells; have hqs := hwq.size; (try go_simp); first | rfl | ((first | rw [if_neg (by omega)] | rw [if_pos (by omega)]); (try go_simp); rfl) | ((go_at_call 136; exact (CM.out _).mono (fun e w'' h => ⟨h.1, hwq.trans h.2⟩)))); clear hK K)))
            refine wpQuiet_nil ?_
            intro wN hxN
            obtain ⟨hcN, hfN⟩ := hxN.cells
            have hsN := hxN.size
            obtain ⟨w6, hrun, hS6, hg6⟩ := (hS2.ext hxN).upd (t := 108) Tryz.underlying108 y x (by omega) hxs (by omega)
            rw [HBY.out] at hS6
            have bM6 : Blk w6 (wq.heap.size + 1) 108 _ := (hg6.block _ (bM2.ext hxN).lt (fun e => by simp only [Option.some.injEq] at e; omega)).trans (bM2.ext hxN)
            have HX6 := Lib.hid (show Ext wq w6 from Below.grown ((hxi.trans hxW).trans hxN) hg6 (((hxi.trans hxW).trans hxN).size) (fun i hi => by simp only [Option.some.injEq] at hi; omega))
            have HS6 := Lib.hid hS6
            have HM6 := Lib.hid bM6
            have HSM := Lib.hid (show ∀ y' (u : ByteArray), (if y' = Dm.mark ⟨dn, ds, true, dv⟩ then some (bs x) else M y') = some (bs u) → u.size ≤ 2097152 from fun y' u h => by
              by_cases e : y' = Dm.mark ⟨dn, ds, true, dv⟩
              · rw [if_pos e] at h; rw [← bs_inj (Option.some.inj h)]; exact hxs
              · rw [if_neg e] at h; exact HMS.out y' u h)
            clear hS6 hg6 bM6 hS hS2 bM bM2
            go_wp2
            go_roundw
            case rel => exact ⟨k + 1, wk2, (fun y' => if y' = Dm.mark ⟨dn, ds, true, dv⟩ then some (bs x) else M y'), by go_num, rfl, by omega, HS6.out, HM6.out, HX6.out, (by rw [fs_put]; exact HDY.out), hqle, HSM.out⟩
            case measure => simp [intOf]; omega
          · have HDY := Lib.hid (HDC.out.2 hlt2)
            have hS2 := hS.mono (show k ≤ k + 1 by omega)
            have hxW : Ext wr (wr.alloc (.cells #[.string dn, .bool ds, .bool true, .slice A' dv.length c'] 198)) := (Ext.refl wr).alloc _
            have HS6 := Lib.hid (hS2.ext hxW); have HM6 := Lib.hid (bM.ext hxW); have HX6 := Lib.hid (hxi.trans hxW)
            clear hS hS2 bM hvr
            generalize wk % (dv.length + 1) = kk at *
            generalize wk / (dv.length + 1) = wk2 at *
            go_wp2
            first
              | (refine ⟨⟨k + 1, wk2, M, by go_num, rfl, by omega, HS6.out, HM6.out, HX6.out, HDY.out, hqle, HMS.out⟩, ?_⟩
                 simp [intOf]; omega)
              | (go_roundw
                 case rel => exact ⟨k + 1, wk2, M, by go_num, rfl, by omega, HS6.out, HM6.out, HX6.out, HDY.out, hqle, HMS.out⟩
                 case measure => simp [intOf]; omega)
end Go.Proofs.YtaobnifiengglaaGreatDoor
