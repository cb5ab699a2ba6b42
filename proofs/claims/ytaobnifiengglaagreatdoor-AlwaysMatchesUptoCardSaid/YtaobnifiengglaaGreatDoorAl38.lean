/- Contract of outref2.DomainsError. (Printed by gen/domc.py.) -/
import Derived.Test.YtaobnifiengglaaGreatDoorAl35
import Derived.Test.YtaobnifiengglaaGreatDoorAl37
import Derived.Test.YtaobnifiengglaaGreatDoorAl33
import Derived.Test.YtaobnifiengglaaGreatDoorAl07
import Derived.Test.YtaobnifiengglaaGreatDoorAl16

namespace Go.Proofs.YtaobnifiengglaaGreatDoor
open Go.RowKit

theorem inB_map (v : List ByteArray) (j : Nat) (x : ByteArray) : decide (bs x ∈ (v.take j).map bs) = inB (v.take j) x := by
  rw [Bool.eq_iff_iff, decide_eq_true_eq, inB_iff, List.mem_map]
  constructor
  · rintro ⟨y, hy, e⟩; rw [← bs_inj e]; exact hy
  · intro h; exact ⟨x, h, rfl⟩
theorem mark_same (d o : Dm) : (o.mark = d.mark) ↔ (o.n = d.n ∧ o.s = d.s) := by
  obtain ⟨dn, ds, da, dv⟩ := d
  obtain ⟨on, os, oa, ov⟩ := o
  unfold Dm.mark
  dsimp only
  cases ds <;> cases os <;> simp [wFactS, wSettingS]
  · exact ⟨fun h => bs_inj (by show on.data.toList = dn.data.toList; rw [h]), fun h => by rw [h]⟩
  · exact ⟨fun h => bs_inj (by show on.data.toList = dn.data.toList; rw [h]), fun h => by rw [h]⟩
theorem mark_any_same (l : List Dm) (d : Dm) : decide (d.mark ∈ l.map Dm.mark) = l.any (sameD d) := by
  rw [Bool.eq_iff_iff, decide_eq_true_eq, List.any_eq_true, List.mem_map]
  constructor
  · rintro ⟨o, ho, e⟩
    have := (mark_same d o).1 e
    exact ⟨o, ho, by unfold sameD; simp [this.1, this.2]⟩
  · rintro ⟨o, ho, e⟩
    unfold sameD at e
    simp only [Bool.and_eq_true, decide_eq_true_eq] at e
    exact ⟨o, ho, (mark_same d o).2 e⟩
theorem known_mem (l : List Dm) (x : Str) : decide (x ∈ l.map Dm.mark) = known l x := by
  unfold known
  rw [Bool.eq_iff_iff, decide_eq_true_eq, List.any_eq_true, List.mem_map]
  constructor
  · rintro ⟨o, ho, e⟩; exact ⟨o, ho, decide_eq_true e⟩
  · rintro ⟨o, ho, e⟩; exact ⟨o, ho, of_decide_eq_true e⟩
/-- the error of domains and a condition, of a condition that need not be right -/
def domX (c : Cd) (l : List Dm) : Int := if domE l ≠ 0 then domE l else if 1000 < many l then 4 else if (inOrder (useAll c)).all (known l) = true then 0 else 10
theorem oneEach_le {α : Type} [DecidableEq α] : ∀ l : List α, (oneEach l).length ≤ l.length
  | [] => Nat.le_refl _
  | [a] => Nat.le_refl _
  | a :: b :: l => by
    have := oneEach_le (b :: l)
    rw [oneEach]
    split
    · rw [List.length_cons]; omega
    · rw [List.length_cons, List.length_cons]; omega
theorem inOrder_le (c : Cd) : (inOrder (useAll c)).length ≤ cnt c := by
  have h1 := oneEach_le ((useAll c).mergeSort Go.leB)
  rw [List.length_mergeSort] at h1
  have h2 := uses_len (prt 0 c)
  rw [prt_len] at h2
  exact Nat.le_trans h1 h2
theorem small_part : ∀ (lev : Nat) (c : Cd), SmallC c → ∀ p ∈ prt lev c, p.1.name.size ≤ 2097152 := by
  intro lev c h
  induction h generalizing lev with
  | mk k n x l hn _ _ _ ih =>
    intro p hp
    rcases List.mem_cons.1 hp with rfl | hp
    · exact hn
    · have gen : ∀ (l' : List Cd), (∀ c ∈ l', c ∈ l) → p ∈ prts (lev + 1) l' → p.1.name.size ≤ 2097152 := fun l' => by
        induction l' with
        | nil => intro _ h; cases h
        | cons c l' ih' =>
          intro hs h
          rcases List.mem_append.1 h with h | h
          · exact ih c (hs c (by simp)) (lev + 1) p h
          · exact ih' (fun c hc => hs c (List.mem_cons_of_mem _ hc)) h
      exact gen l (fun _ h => h) hp
theorem use_size {c : Cd} (h : SmallC c) : ∀ x ∈ useAll c, x.length ≤ 2097160 := fun x hx => by
  obtain ⟨p, hp, hx⟩ := List.mem_flatMap.1 hx
  have hs := small_part 0 c h p hp
  rw [← bs_length] at hs
  unfold useOf at hx
  split at hx
  · rw [List.mem_singleton] at hx; subst hx; rw [List.length_append]; show 5 + _ ≤ _; omega
  · split at hx
    · rw [List.mem_singleton] at hx; subst hx; rw [List.length_append]; show 8 + _ ≤ _; omega
    · cases hx
set_option maxRecDepth 100000 in
set_option maxHeartbeats 64000000 in
theorem DomainsError_any (A : Option Addr) (n c : Nat) (l : List Dm) (cd : Cd) (v : Value) (P : Nat → Prop) (w : World) (hg : Good w) (hcd : CdIn P w cd v) (hsm : SmallC cd) (hcnt : cnt cd ≤ 2000000) (hn : l.length = n) (hr : RdD w A l) (hs : SmallD l) (hl : n ≤ 2097152) :
    Calls Tryz.prog 62 #[v, .slice A n c] w fun e w' => e = .returned (.int .i64 (domX cd l)) ∧ Ext w w' := by
  have CUS := Lib.hid (fun W (h : Ext w W) => Uses_any cd _ P W (hcd.ext h) hsm hcnt)
  have hus : ∀ x ∈ inOrder (useAll cd), x.length ≤ 2097160 := fun x hx => use_size hsm x ((inOrder_mem _ _).1 hx)
  have hul := Nat.le_trans (inOrder_le cd) hcnt
  obtain ⟨ck, cn, cx, cA, cm, cp, rfl⟩ := hcd.cells
  have hxb : Ext w (w.alloc (.cells #[.int .i64 ck, .string cn, .string cx, .slice cA cm cp] 61)) := (Ext.refl w).alloc _
  have bX := Blk.new w 61 #[.int .i64 ck, .string cn, .string cx, .slice cA cm cp]
  have hmm := @run_makeMap Tryz.prog
  have HN := Lib.hid hn
  have HS := Lib.hid hs
  by_cases h20 : 20 < n
  · have e1 : domE l = 4 := by rw [domE, hn, if_pos h20]
    have e2 : domX cd l = 4 := by rw [domX, e1]; rfl
    have HE2 := Lib.hid e2
    clear e1 e2 hn hr hs hcd CUS hus
    go_enter Tryz.func62, Tryz.ntmps62
    go_wp2
    go_ret
    exact ⟨by rw [HE2.out]; rfl, hxb⟩
  have hl20 : ¬ 20 < l.length := by rw [hn]; exact h20
  have HDA := Lib.hid (fun h0 => (show domX cd l = if 1000 < many l then 4 else if (inOrder (useAll cd)).all (known l) = true then 0 else 10 by rw [domX, if_neg (by rw [dom_all hl20 h0]; decide)]))
  have HDT := Lib.hid (fun k (hk : k < l.length) (h0 : ∀ x ∈ (dErrs l).take k, x = 0) (x : Int) (hx : x ≠ 0) (h1 : dErr l k = x) => (show domX cd l = x by rw [domX, dom_at hl20 hk h0 hx h1, if_pos hx]))
  have hmade : KSet ((w.alloc (.cells #[.int .i64 ck, .string cn, .string cx, .slice cA cm cp] 61)).alloc (.map #[] 0)) (w.heap.size + 1) 0 [] := by
    have := KSet.made (w.alloc (.cells #[.int .i64 ck, .string cn, .string cx, .slice cA cm cp] 61))
    rwa [World.size_alloc] at this
  have bX0 := bX.ext ((Ext.refl _).alloc (.map #[] 0))
  obtain ⟨E, hE⟩ : ∃ E, domX cd l = E := ⟨_, rfl⟩
  rw [hE] at HDA HDT ⊢
  have HR := Lib.hid hr
  generalize inOrder (useAll cd) = UL at *
  clear hn hr hs hE hl20 hcd hsm hcnt
  go_enter Tryz.func62, Tryz.ntmps62
  go_wp2
  go_loopw [6, 23] (fun s6 s23 wr => ∃ k : Nat, s23 = .int .i64 k ∧ k ≤ n ∧ s6 = .int .i64 ((min (many (l.take k)) 1048576 : Nat) : Int) ∧ Hid (∀ x ∈ (dErrs l).take k, x = 0) ∧ Ext w wr ∧ KSet wr (w.heap.size + 1) k ((l.take k).map Dm.mark) ∧ Blk wr w.heap.size 61 #[.int .i64 ck, .string cn, .string cx, .slice cA cm cp]) (fun _ s23 _ => n - (intOf s23).toNat)
  case atStart => exact ⟨0, by go_num, Nat.zero_le _, rfl, (fun x hx => by rw [List.take_zero] at hx; cases hx), hxb.alloc _, hmade, bX0⟩
  case round =>
    obtain ⟨k, rfl, hk, rfl, H0, hxr, hK, bC⟩ := hrel
    clear bX bX0 hmade
    by_cases hlt : k < n
    rotate_left
    · obtain rfl : k = n := by omega
      have hE := HDA.out (by rw [HN.out]; exact H0.out)
      have ht : l.take k = l := by rw [← HN.out, List.take_length]
      rw [ht] at hK
      have hma : many (l.take k) = many l := by rw [ht]
      rw [hma] at *
      by_cases hm : 1000 < many l
      · rw [if_pos hm] at hE
        subst hE
        have hm2 : 1000 < min (many l) 1048576 := by omega
        clear hm hma ht
        generalize min (many l) 1048576 = m0 at *
        go_wp2
        go_ret
        exact ⟨rfl, hxr⟩
      rw [if_neg hm] at hE
      have hm2 : ¬ 1000 < min (many l) 1048576 := by omega
      have HE := Lib.hid hE
      have HUS := Lib.hid hus
      have cC := bC.cell; have lC := bC.lt
      clear hm hma hE ht hus
      generalize min (many l) 1048576 = m0 at *
      go_wp2_with fail
      refine (CUS.out _ hxr).mono ?_
      rintro e w2 ⟨A2, n2, c2, rfl, hl2, hr2, hx2⟩
      have hxs := hxr.trans hx2
      have hK2 := hK.ext hx2
      have HN2 := Lib.hid hl2
      have hn2 : n2 ≤ 2000000 := by rw [← hl2]; exact hul
      have HR2 := Lib.hid hr2
      clear cC lC hK hl2 hr2
      obtain ⟨wo, hwo⟩ : ∃ wo, wo = wr := ⟨wr, rfl⟩
      subst hwo
      go_wp2
      go_loop [99] (fun t => ∃ j : Nat, t = .int .i64 j ∧ j ≤ n2 ∧ Hid (∀ i (hi : i < UL.length), i < j → known l UL[i] = true)) (fun t => n2 - (intOf t).toNat)
      case atStart => exact ⟨0, by go_num, Nat.zero_le _, fun i _ h => absurd h (Nat.not_lt_zero _)⟩
      case round =>
        obtain ⟨j, rfl, hj, HALL⟩ := hrel
        by_cases hlj : j < n2
        · have hj1 : j < UL.length := by rw [HN2.out]; exact hlj
          obtain ⟨g2, rfl, hc2⟩ := HR2.out (fun e => by rw [e] at hj1; exact absurd hj1 (Nat.not_lt_zero _))
          have y0 := hc2 j hj1
          obtain ⟨x, hx, hbx⟩ : ∃ x : ByteArray, S UL[j] = .string x ∧ bs x = UL[j] := ⟨⟨_⟩, rfl, bs_mk _⟩
          rw [hx] at y0
          have hxs2 : x.size ≤ 4194304 := by have := HUS.out UL[j] (List.getElem_mem hj1); rw [← hbx, bs_length] at this; omega
          have hlook := hK2.look (t := 206) Tryz.underlying206 x hxs2
          rw [known_mem, hbx] at hlook
          have HAN := Lib.hid (show known l UL[j] = true → ∀ i (hi : i < UL.length), i < j + 1 → known l UL[i] = true from fun e i hi h => by
            by_cases hij : i = j
            · subst hij; exact e
            · exact HALL.out i hi (by omega))
          have HNO := Lib.hid (show known l UL[j] = false → E = 10 from fun e => by
            rw [HE.out, if_neg]
            intro h
            have := List.all_eq_true.1 h UL[j] (List.getElem_mem hj1)
            rw [e] at this
            cases this)
          have yl := lt_of_cell y0
          clear hc2 hx hbx
          generalize known l UL[j] = KN at *
          cases KN
          · obtain rfl := HNO.out rfl
            go_wp2
            go_ret
            exact ⟨rfl, hxs⟩
          · have HF := Lib.hid (HAN.out rfl)
            go_wp2
            go_round
            case rel => exact ⟨j + 1, by go_num, hlj, HF.out⟩
            case measure => simp [intOf]; omega
        · obtain rfl : j = n2 := by omega
          have hE0 : E = 0 := by
            rw [HE.out, if_pos]
            rw [List.all_eq_true]
            intro y hy
            obtain ⟨i, hi, rfl⟩ := List.mem_iff_getElem.1 hy
            exact HALL.out i hi (by rw [← HN2.out]; exact hi)
          subst hE0
          go_wp2
          go_ret
          exact ⟨rfl, hxs⟩
    have hk1 : k < l.length := by rw [HN.out]; exact hlt
    obtain ⟨b, o, rfl, hX⟩ := HR.out (fun e => by rw [e] at hk1; exact absurd hk1 (Nat.not_lt_zero _))
    obtain ⟨A', c', x0, x1, x2, x3, _, _⟩ := hX.ext hxr k hk1
    obtain ⟨A'', c'', _, _, _, x3', hv, _⟩ := hX k hk1
    have hAA : A' = A'' := by
      have h1 := hxr.cell x3'
      rw [x3] at h1
      injection h1 with h1
      injection h1 with h1 _ _
    subst hAA
    obtain ⟨hsz, hsv, hsx⟩ := HS.out l[k] (List.getElem_mem hk1)
    have HAT := Lib.hid (fun (x : Int) (hx : x ≠ 0) (h1 : dErrOf l[k] ((l.take k).any (sameD l[k])) = x) => HDT.out k hk1 H0.out x hx (by rw [dErr_of hk1]; exact h1))
    have HNX := Lib.hid (fun (h1 : dErrOf l[k] ((l.take k).any (sameD l[k])) = 0) => dom_next hk1 H0.out (by rw [dErr_of hk1]; exact h1))
    have HMS := Lib.hid (fun (h1 : 0 < l[k].size) => (show min (min (many (l.take k)) 1048576 * l[k].size) 1048576 = min (many (l.take (k + 1))) 1048576 by rw [many_next hk1]; exact min_step _ _ _ h1))
    have HTW := Lib.hid (mark_any_same (l.take k) l[k])
    have HNM := Lib.hid (map_take_succ Dm.mark l k hk1)
    have HVR := Lib.hid hv
    have HSV := Lib.hid hsx
    have lb := lt_of_cell x0
    have hxr0s : w.heap.size + 1 < wr.heap.size := hK.lt
    have HBC := Lib.hid bC
    clear hX hv HDA HDT H0 hsx x3' CUS hus bC
    generalize (l.take k).any (sameD l[k]) = TW at *
    generalize l[k] = d at *
    generalize many (l.take k) = M at *
    obtain ⟨dn, ds, da, dv⟩ := d
    dsimp only at x0 x1 x2 x3 hsz hsv HVR HSV
    cases ds
    · have hR : rightD ⟨dn, false, da, dv⟩ = nameL (bs dn) := rfl
      have hMK : Dm.mark ⟨dn, false, da, dv⟩ = bs (⟨#[102, 97, 99, 116, 32]⟩ ++ dn) := by rw [bs_append]; rfl
      have hTW := HTW.out
      have HLK := Lib.hid (show ∀ W, KSet W (w.heap.size + 1) k ((l.take k).map Dm.mark) → (Instr.lookup 206 (.map (some (w.heap.size + 1))) (.string (⟨#[102, 97, 99, 116, 32]⟩ ++ dn)) false).run Tryz.prog W = .ok (.bool TW) W from fun W h => by
        have h1 := h.look (t := 206) Tryz.underlying206 (⟨#[102, 97, 99, 116, 32]⟩ ++ dn) (by rw [ByteArray.size_append]; show 5 + dn.size ≤ _; omega)
        rw [← hMK, hTW] at h1
        exact h1)
      have HUP := Lib.hid (show ∀ W, KSet W (w.heap.size + 1) k ((l.take k).map Dm.mark) → ∃ w6, (Instr.mapUpdate 206 (.map (some (w.heap.size + 1))) (.string (⟨#[102, 97, 99, 116, 32]⟩ ++ dn)) (.bool true)).run Tryz.prog W = .ok () w6 ∧ KSet w6 (w.heap.size + 1) (k + 1) ((l.take k).map Dm.mark ++ [Dm.mark ⟨dn, false, da, dv⟩]) ∧ W.grownBy w6 (some (w.heap.size + 1)) from fun W h => by
        have h1 := h.upd (t := 206) Tryz.underlying206 (⟨#[102, 97, 99, 116, 32]⟩ ++ dn) (by rw [ByteArray.size_append]; show 5 + dn.size ≤ _; omega) (by omega)
        rw [← hMK] at h1
        exact h1)
      clear hMK hTW HTW
      have rc : ∀ W, Ext w W → Calls Tryz.prog 29 #[.string dn] W fun e w' => e = .returned (.bool (nameL (bs dn))) ∧ Ext W w' := fun W _ => NameOf_any dn W hsz
      have RN := Lib.hid (fun W => NameOf_any dn W hsz)
      rw [← hR] at rc
      have RC := Lib.hid rc
      clear rc hR
      have bD := Blk.new wr 198 #[.string dn, .bool false, .bool da, .slice A' dv.length c']
      generalize nameL (bs dn) = NL at *
      generalize hRI : rightD ⟨dn, false, da, dv⟩ = R at RC
      cases R
      · obtain rfl := HAT.out 5 (by decide) (d_name hRI)
        go_wp2_with fail
        refine (RC.out _ (hxr.alloc _)).mono ?_
        rintro e w2 ⟨rfl, hx2⟩
        have bD2 := bD.ext hx2
        have hxw2 : Ext w w2 := (hxr.alloc _).trans hx2
        have hx02 : Ext wr w2 := ((Ext.refl wr).alloc _).trans hx2
        have cD0 := bD2.cell; have lD0 := bD2.lt
        go_wp2
        go_ret
        exact ⟨rfl, hxw2⟩
      cases TW
      rotate_left
      · obtain rfl := HAT.out 6 (by decide) (d_twice hRI)
        go_wp2_with fail
        refine (RC.out _ (hxr.alloc _)).mono ?_
        rintro e w2 ⟨rfl, hx2⟩
        have bD2 := bD.ext hx2
        have hxw2 : Ext w w2 := (hxr.alloc _).trans hx2
        have hx02 : Ext wr w2 := ((Ext.refl wr).alloc _).trans hx2
        have cD0 := bD2.cell; have lD0 := bD2.lt
        have hK1 := hK.ext hx02
        have hlookN := HLK.out _ hK1
        go_wp2
        go_ret
        exact ⟨rfl, hxw2⟩
      by_cases hz : dv.length = 0
      · have z1 : ((dv.length : Int) == 0) = true := by rw [hz]; rfl
        have HZ0 := Lib.hid hz
        clear hz
        cases da
        · obtain rfl := HAT.out 9 (by decide) (d_empty hRI ⟨HZ0.out, rfl⟩)
          go_wp2_with fail
          refine (RC.out _ (hxr.alloc _)).mono ?_
          rintro e w2 ⟨rfl, hx2⟩
          have bD2 := bD.ext hx2
          have hxw2 : Ext w w2 := (hxr.alloc _).trans hx2
          have hx02 : Ext wr w2 := ((Ext.refl wr).alloc _).trans hx2
          have cD0 := bD2.cell; have lD0 := bD2.lt
          have hK1 := hK.ext hx02
          have hlookN := HLK.out _ hK1
          go_wp2
          go_ret
          exact ⟨rfl, hxw2⟩
        · have HLG := Lib.hid (show 20 < dv.length → dErrOf ⟨dn, false, true, dv⟩ false = 4 from fun h20 => d_large hRI (fun h => by cases h.2) h20)
          have HVS := Lib.hid (show ¬ 20 < dv.length → dErrOf ⟨dn, false, true, dv⟩ false = firstI (valErrs dv) from fun h20 => d_vals hRI (fun h => by cases h.2) h20)
          go_wp2_with fail
          refine (RC.out _ (hxr.alloc _)).mono ?_
          rintro e w2 ⟨rfl, hx2⟩
          have bD2 := bD.ext hx2
          have hxw2 : Ext w w2 := (hxr.alloc _).trans hx2
          have hx02 : Ext wr w2 := ((Ext.refl wr).alloc _).trans hx2
          have cD0 := bD2.cell; have lD0 := bD2.lt
          have hK1 := hK.ext hx02
          have hlookN := HLK.out _ hK1
          clear hK
          by_cases h20 : 20 < dv.length
          · obtain rfl := HAT.out 4 (by decide) (HLG.out h20)
            go_wp2
            go_ret
            exact ⟨rfl, hxw2⟩
          have HV := Lib.hid (show ∀ j (hj : j < dv.length), (∀ x ∈ (valErrs dv).take j, x = 0) → ∀ x : Int, x ≠ 0 → valErr dv j = x → E = x from fun j hj h0 x hx h1 => HAT.out x hx (by rw [HVS.out h20]; exact (val_at hj h0 (by rw [h1]; exact hx)).trans h1))
          have HV0 := Lib.hid (show (∀ x ∈ (valErrs dv).take dv.length, x = 0) → dErrOf ⟨dn, false, true, dv⟩ false = 0 from fun h0 => by rw [HVS.out h20]; exact val_all h0)
          obtain ⟨wo, hwo⟩ : ∃ wo, wo = wr := ⟨wr, rfl⟩
          subst hwo
          have hmade := KSet.made w2
          have hxm : Ext w2 (w2.alloc (.map #[] 0)) := (Ext.refl w2).alloc _
          have hK2 := hK1.ext hxm
          have bD3 := bD2.ext hxm
          have hgw2 : wo.heap.size < w2.heap.size := bD2.lt
          have hb1w2 : w.heap.size + 1 < w2.heap.size := hK1.lt
          have cD := bD3.cell; have lD := bD3.lt
          clear x0 x1 x2 x3 HAT bD
          go_wp2
          clear hlookN cD0 lD0
          go_loopw [67] (fun t wr => ∃ j : Nat, t = .int .i64 j ∧ j ≤ dv.length ∧ Hid (∀ x ∈ (valErrs dv).take j, x = 0) ∧ Ext w wr ∧ Blk wr wo.heap.size 198 #[.string dn, .bool false, .bool true, .slice A' dv.length c'] ∧ KSet wr (w.heap.size + 1) k ((l.take k).map Dm.mark) ∧ KSet wr w2.heap.size j ((dv.take j).map bs) ∧ Blk wr w.heap.size 61 #[.int .i64 ck, .string cn, .string cx, .slice cA cm cp]) (fun t _ => dv.length - (intOf t).toNat)
          case atStart => exact ⟨0, by go_num, Nat.zero_le _, (fun x hx => by rw [List.take_zero] at hx; cases hx), hxw2.trans hxm, bD3, hK2, hmade, HBC.out.ext (hx02.trans hxm)⟩
          case round =>
            obtain ⟨j, rfl, hj, HZ, hxi, bI, hK3, hK4, bC3⟩ := hrel
            have cI := bI.cell; have lI := bI.lt
            clear cD lD
            by_cases hlj : j < dv.length
            · have hne0 : dv ≠ [] := fun e => by rw [e] at hlj; exact absurd hlj (Nat.not_lt_zero _)
              obtain ⟨vb, vo, rfl, hk2⟩ := HVR.out.ext hxi hne0
              have y0 := hk2 j hlj
              have hjs := HSV.out dv[j] (List.getElem_mem hlj)
              have CV := Lib.hid (fun W => ValueOf_any dv[j] W hjs)
              have hlook := hK4.look (t := 206) Tryz.underlying206 dv[j] (by omega)
              rw [inB_map] at hlook
              have HVJ := Lib.hid (HV.out j hlj HZ.out)
              have HVN := Lib.hid (fun h => val_next hlj HZ.out h)
              have HVE := Lib.hid (valErr_of hlj)
              have HMT := Lib.hid (map_take_succ bs dv j hlj)
              have yl := lt_of_cell y0
              clear hk2
              generalize dv[j] = x at *
              obtain ⟨w6, hrun, hK6, hg6⟩ := hK4.upd (t := 206) Tryz.underlying206 x (by omega) (by omega)
              have hl4 := hK4.lt
              have HX6 := Lib.hid (show Ext w w6 from Below.grown hxi hg6 hxi.size (fun i hi => by simp only [Option.some.injEq] at hi; omega))
              have HB6 := Lib.hid (show Blk w6 wo.heap.size 198 _ from (hg6.block _ bI.lt (fun e => by simp only [Option.some.injEq] at e; omega)).trans bI)
              have HK6 := Lib.hid (hK3.far hg6 (by omega))
              have hbc0 := HBC.out.lt
              have HBC6 := Lib.hid (show Blk w6 w.heap.size 61 _ from (hg6.block _ bC3.lt (fun e => by simp only [Option.some.injEq] at e; omega)).trans bC3)
              have HK7 := Lib.hid hK6
              clear hK6 hg6 hK3 hK4 bI bC3
              generalize inB (dv.take j) x = IB at *
              generalize valueL (bs x) = VL at *
              cases VL
              · obtain rfl := HVJ.out 2 (by decide) (by rw [HVE.out, if_pos rfl])
                go_wp2_with fail
                refine (CV.out _).mono ?_
                rintro e w3 ⟨rfl, rfl⟩
                go_wp2
                go_ret
                exact ⟨rfl, hxi⟩
              cases IB
              · have hve : valErr dv j = 0 := by rw [HVE.out, if_neg (by decide), if_neg (by decide)]
                have HV2 := Lib.hid (HVN.out hve)
                clear hve
                go_wp2_with fail
                refine (CV.out _).mono ?_
                rintro e w3 ⟨rfl, rfl⟩
                go_wp2
                go_roundw
                case rel => exact ⟨j + 1, by go_num, hlj, HV2.out, HX6.out, HB6.out, HK6.out, (by rw [← HMT.out]; exact HK7.out), HBC6.out⟩
                case measure => simp [intOf]; omega
              · obtain rfl := HVJ.out 6 (by decide) (by rw [HVE.out, if_neg (by decide), if_pos rfl])
                go_wp2_with fail
                refine (CV.out _).mono ?_
                rintro e w3 ⟨rfl, rfl⟩
                go_wp2
                go_ret
                exact ⟨rfl, hxi⟩
            · obtain rfl : j = dv.length := by omega
              have hd0 := HV0.out HZ.out
              have HN2 := Lib.hid (HNX.out hd0)
              have hsz := HMS.out (d_size hd0)
              have hmul : IntKind.i64.wrap (((min M 1048576 : Nat) : Int) * ((dv.length : Int) + 1)) = ((min M 1048576 * (dv.length + 1) : Nat) : Int) := by
                rw [IntKind.wrap_i64]
                have h1 : min M 1048576 ≤ 1048576 := Nat.min_le_right _ _
                have h2 : min M 1048576 * (dv.length + 1) ≤ 1048576 * 21 := Nat.mul_le_mul h1 (by omega)
                have h3 : ((min M 1048576 : Nat) : Int) * ((dv.length : Int) + 1) = ((min M 1048576 * (dv.length + 1) : Nat) : Int) := by simp
                rw [h3]
                omega
              have HSZ := Lib.hid hsz
              obtain ⟨w6, hrun, hK6, hg6⟩ := HUP.out _ hK3
              have HX6 := Lib.hid (show Ext w w6 from Below.grown hxi hg6 hxi.size (fun i hi => by simp only [Option.some.injEq] at hi; omega))
              have bI6 : Blk w6 wo.heap.size 198 _ := (hg6.block _ bI.lt (fun e => by simp only [Option.some.injEq] at e; have := hxr0s; omega)).trans bI
              have c6 := bI6.cell; have l6 := bI6.lt
              have HBC6 := Lib.hid (show Blk w6 w.heap.size 61 _ from (hg6.block _ bC3.lt (fun e => by simp only [Option.some.injEq] at e; omega)).trans bC3)
              have HK7 := Lib.hid hK6
              clear hsz hd0 HV HV0 HNX HMS hK6 hg6 hK3 hK4 bI bI6 bC3
              generalize min M 1048576 = m0 at *
              go_wp2
              go_roundw
              case rel => exact ⟨k + 1, by go_num, by omega, by rw [← HSZ.out]; have hq : (m0 : Int) * ((dv.length : Int) + 1) = ((m0 * (dv.length + 1) : Nat) : Int) := (by simp); show Value.int .i64 _ = Value.int .i64 ((min (m0 * (dv.length + 1)) 1048576 : Nat) : Int); congr 1; (try rw [hq]); generalize m0 * (dv.length + 1) = q; omega, HN2.out, HX6.out, (by rw [← HNM.out]; exact HK7.out), HBC6.out⟩
              case measure => simp [intOf]; omega
      have z1 : ((dv.length : Int) == 0) = false := by rw [beq_eq_false_iff_ne]; omega
      have HZ0 := Lib.hid hz
      clear hz
      cases da
      · have HLG := Lib.hid (show 20 < dv.length → dErrOf ⟨dn, false, false, dv⟩ false = 4 from fun h20 => d_large hRI (fun h => HZ0.out h.1) h20)
        have HVS := Lib.hid (show ¬ 20 < dv.length → dErrOf ⟨dn, false, false, dv⟩ false = firstI (valErrs dv) from fun h20 => d_vals hRI (fun h => HZ0.out h.1) h20)
        go_wp2_with fail
        refine (RC.out _ (hxr.alloc _)).mono ?_
        rintro e w2 ⟨rfl, hx2⟩
        have bD2 := bD.ext hx2
        have hxw2 : Ext w w2 := (hxr.alloc _).trans hx2
        have hx02 : Ext wr w2 := ((Ext.refl wr).alloc _).trans hx2
        have cD0 := bD2.cell; have lD0 := bD2.lt
        have hK1 := hK.ext hx02
        have hlookN := HLK.out _ hK1
        clear hK
        by_cases h20 : 20 < dv.length
        · obtain rfl := HAT.out 4 (by decide) (HLG.out h20)
          go_wp2
          go_ret
          exact ⟨rfl, hxw2⟩
        have HV := Lib.hid (show ∀ j (hj : j < dv.length), (∀ x ∈ (valErrs dv).take j, x = 0) → ∀ x : Int, x ≠ 0 → valErr dv j = x → E = x from fun j hj h0 x hx h1 => HAT.out x hx (by rw [HVS.out h20]; exact (val_at hj h0 (by rw [h1]; exact hx)).trans h1))
        have HV0 := Lib.hid (show (∀ x ∈ (valErrs dv).take dv.length, x = 0) → dErrOf ⟨dn, false, false, dv⟩ false = 0 from fun h0 => by rw [HVS.out h20]; exact val_all h0)
        obtain ⟨wo, hwo⟩ : ∃ wo, wo = wr := ⟨wr, rfl⟩
        subst hwo
        have hmade := KSet.made w2
        have hxm : Ext w2 (w2.alloc (.map #[] 0)) := (Ext.refl w2).alloc _
        have hK2 := hK1.ext hxm
        have bD3 := bD2.ext hxm
        have hgw2 : wo.heap.size < w2.heap.size := bD2.lt
        have hb1w2 : w.heap.size + 1 < w2.heap.size := hK1.lt
        have cD := bD3.cell; have lD := bD3.lt
        clear x0 x1 x2 x3 HAT bD
        go_wp2
        clear hlookN cD0 lD0
        go_loopw [67] (fun t wr => ∃ j : Nat, t = .int .i64 j ∧ j ≤ dv.length ∧ Hid (∀ x ∈ (valErrs dv).take j, x = 0) ∧ Ext w wr ∧ Blk wr wo.heap.size 198 #[.string dn, .bool false, .bool false, .slice A' dv.length c'] ∧ KSet wr (w.heap.size + 1) k ((l.take k).map Dm.mark) ∧ KSet wr w2.heap.size j ((dv.take j).map bs) ∧ Blk wr w.heap.size 61 #[.int .i64 ck, .string cn, .string cx, .slice cA cm cp]) (fun t _ => dv.length - (intOf t).toNat)
        case atStart => exact ⟨0, by go_num, Nat.zero_le _, (fun x hx => by rw [List.take_zero] at hx; cases hx), hxw2.trans hxm, bD3, hK2, hmade, HBC.out.ext (hx02.trans hxm)⟩
        case round =>
          obtain ⟨j, rfl, hj, HZ, hxi, bI, hK3, hK4, bC3⟩ := hrel
          have cI := bI.cell; have lI := bI.lt
          clear cD lD
          by_cases hlj : j < dv.length
          · have hne0 : dv ≠ [] := fun e => by rw [e] at hlj; exact absurd hlj (Nat.not_lt_zero _)
            obtain ⟨vb, vo, rfl, hk2⟩ := HVR.out.ext hxi hne0
            have y0 := hk2 j hlj
            have hjs := HSV.out dv[j] (List.getElem_mem hlj)
            have CV := Lib.hid (fun W => ValueOf_any dv[j] W hjs)
            have hlook := hK4.look (t := 206) Tryz.underlying206 dv[j] (by omega)
            rw [inB_map] at hlook
            have HVJ := Lib.hid (HV.out j hlj HZ.out)
            have HVN := Lib.hid (fun h => val_next hlj HZ.out h)
            have HVE := Lib.hid (valErr_of hlj)
            have HMT := Lib.hid (map_take_succ bs dv j hlj)
            have yl := lt_of_cell y0
            clear hk2
            generalize dv[j] = x at *
            obtain ⟨w6, hrun, hK6, hg6⟩ := hK4.upd (t := 206) Tryz.underlying206 x (by omega) (by omega)
            have hl4 := hK4.lt
            have HX6 := Lib.hid (show Ext w w6 from Below.grown hxi hg6 hxi.size (fun i hi => by simp only [Option.some.injEq] at hi; omega))
            have HB6 := Lib.hid (show Blk w6 wo.heap.size 198 _ from (hg6.block _ bI.lt (fun e => by simp only [Option.some.injEq] at e; omega)).trans bI)
            have HK6 := Lib.hid (hK3.far hg6 (by omega))
            have hbc0 := HBC.out.lt
            have HBC6 := Lib.hid (show Blk w6 w.heap.size 61 _ from (hg6.block _ bC3.lt (fun e => by simp only [Option.some.injEq] at e; omega)).trans bC3)
            have HK7 := Lib.hid hK6
            clear hK6 hg6 hK3 hK4 bI bC3
            generalize inB (dv.take j) x = IB at *
            generalize valueL (bs x) = VL at *
            cases VL
            · obtain rfl := HVJ.out 2 (by decide) (by rw [HVE.out, if_pos rfl])
              go_wp2_with fail
              refine (CV.out _).mono ?_
              rintro e w3 ⟨rfl, rfl⟩
              go_wp2
              go_ret
              exact ⟨rfl, hxi⟩
            cases IB
            · have hve : valErr dv j = 0 := by rw [HVE.out, if_neg (by decide), if_neg (by decide)]
              have HV2 := Lib.hid (HVN.out hve)
              clear hve
              go_wp2_with fail
              refine (CV.out _).mono ?_
              rintro e w3 ⟨rfl, rfl⟩
              go_wp2
              go_roundw
              case rel => exact ⟨j + 1, by go_num, hlj, HV2.out, HX6.out, HB6.out, HK6.out, (by rw [← HMT.out]; exact HK7.out), HBC6.out⟩
              case measure => simp [intOf]; omega
            · obtain rfl := HVJ.out 6 (by decide) (by rw [HVE.out, if_neg (by decide), if_pos rfl])
              go_wp2_with fail
              refine (CV.out _).mono ?_
              rintro e w3 ⟨rfl, rfl⟩
              go_wp2
              go_ret
              exact ⟨rfl, hxi⟩
          · obtain rfl : j = dv.length := by omega
            have hd0 := HV0.out HZ.out
            have HN2 := Lib.hid (HNX.out hd0)
            have hsz := HMS.out (d_size hd0)
            have hmul : IntKind.i64.wrap (((min M 1048576 : Nat) : Int) * (dv.length : Int)) = ((min M 1048576 * dv.length : Nat) : Int) := by
              rw [IntKind.wrap_i64]
              have h1 : min M 1048576 ≤ 1048576 := Nat.min_le_right _ _
              have h2 : min M 1048576 * dv.length ≤ 1048576 * 21 := Nat.mul_le_mul h1 (by omega)
              have h3 : ((min M 1048576 : Nat) : Int) * (dv.length : Int) = ((min M 1048576 * dv.length : Nat) : Int) := by simp
              rw [h3]
              omega
            have HSZ := Lib.hid hsz
            obtain ⟨w6, hrun, hK6, hg6⟩ := HUP.out _ hK3
            have HX6 := Lib.hid (show Ext w w6 from Below.grown hxi hg6 hxi.size (fun i hi => by simp only [Option.some.injEq] at hi; omega))
            have bI6 : Blk w6 wo.heap.size 198 _ := (hg6.block _ bI.lt (fun e => by simp only [Option.some.injEq] at e; have := hxr0s; omega)).trans bI
            have c6 := bI6.cell; have l6 := bI6.lt
            have HBC6 := Lib.hid (show Blk w6 w.heap.size 61 _ from (hg6.block _ bC3.lt (fun e => by simp only [Option.some.injEq] at e; omega)).trans bC3)
            have HK7 := Lib.hid hK6
            clear hsz hd0 HV HV0 HNX HMS hK6 hg6 hK3 hK4 bI bI6 bC3
            generalize min M 1048576 = m0 at *
            go_wp2
            go_roundw
            case rel => exact ⟨k + 1, by go_num, by omega, by rw [← HSZ.out]; have hq : (m0 : Int) * (dv.length : Int) = ((m0 * dv.length : Nat) : Int) := (by simp); show Value.int .i64 _ = Value.int .i64 ((min (m0 * dv.length) 1048576 : Nat) : Int); congr 1; (try rw [hq]); generalize m0 * dv.length = q; omega, HN2.out, HX6.out, (by rw [← HNM.out]; exact HK7.out), HBC6.out⟩
            case measure => simp [intOf]; omega
      · have HLG := Lib.hid (show 20 < dv.length → dErrOf ⟨dn, false, true, dv⟩ false = 4 from fun h20 => d_large hRI (fun h => HZ0.out h.1) h20)
        have HVS := Lib.hid (show ¬ 20 < dv.length → dErrOf ⟨dn, false, true, dv⟩ false = firstI (valErrs dv) from fun h20 => d_vals hRI (fun h => HZ0.out h.1) h20)
        go_wp2_with fail
        refine (RC.out _ (hxr.alloc _)).mono ?_
        rintro e w2 ⟨rfl, hx2⟩
        have bD2 := bD.ext hx2
        have hxw2 : Ext w w2 := (hxr.alloc _).trans hx2
        have hx02 : Ext wr w2 := ((Ext.refl wr).alloc _).trans hx2
        have cD0 := bD2.cell; have lD0 := bD2.lt
        have hK1 := hK.ext hx02
        have hlookN := HLK.out _ hK1
        clear hK
        by_cases h20 : 20 < dv.length
        · obtain rfl := HAT.out 4 (by decide) (HLG.out h20)
          go_wp2
          go_ret
          exact ⟨rfl, hxw2⟩
        have HV := Lib.hid (show ∀ j (hj : j < dv.length), (∀ x ∈ (valErrs dv).take j, x = 0) → ∀ x : Int, x ≠ 0 → valErr dv j = x → E = x from fun j hj h0 x hx h1 => HAT.out x hx (by rw [HVS.out h20]; exact (val_at hj h0 (by rw [h1]; exact hx)).trans h1))
        have HV0 := Lib.hid (show (∀ x ∈ (valErrs dv).take dv.length, x = 0) → dErrOf ⟨dn, false, true, dv⟩ false = 0 from fun h0 => by rw [HVS.out h20]; exact val_all h0)
        obtain ⟨wo, hwo⟩ : ∃ wo, wo = wr := ⟨wr, rfl⟩
        subst hwo
        have hmade := KSet.made w2
        have hxm : Ext w2 (w2.alloc (.map #[] 0)) := (Ext.refl w2).alloc _
        have hK2 := hK1.ext hxm
        have bD3 := bD2.ext hxm
        have hgw2 : wo.heap.size < w2.heap.size := bD2.lt
        have hb1w2 : w.heap.size + 1 < w2.heap.size := hK1.lt
        have cD := bD3.cell; have lD := bD3.lt
        clear x0 x1 x2 x3 HAT bD
        go_wp2
        clear hlookN cD0 lD0
        go_loopw [67] (fun t wr => ∃ j : Nat, t = .int .i64 j ∧ j ≤ dv.length ∧ Hid (∀ x ∈ (valErrs dv).take j, x = 0) ∧ Ext w wr ∧ Blk wr wo.heap.size 198 #[.string dn, .bool false, .bool true, .slice A' dv.length c'] ∧ KSet wr (w.heap.size + 1) k ((l.take k).map Dm.mark) ∧ KSet wr w2.heap.size j ((dv.take j).map bs) ∧ Blk wr w.heap.size 61 #[.int .i64 ck, .string cn, .string cx, .slice cA cm cp]) (fun t _ => dv.length - (intOf t).toNat)
        case atStart => exact ⟨0, by go_num, Nat.zero_le _, (fun x hx => by rw [List.take_zero] at hx; cases hx), hxw2.trans hxm, bD3, hK2, hmade, HBC.out.ext (hx02.trans hxm)⟩
        case round =>
          obtain ⟨j, rfl, hj, HZ, hxi, bI, hK3, hK4, bC3⟩ := hrel
          have cI := bI.cell; have lI := bI.lt
          clear cD lD
          by_cases hlj : j < dv.length
          · have hne0 : dv ≠ [] := fun e => by rw [e] at hlj; exact absurd hlj (Nat.not_lt_zero _)
            obtain ⟨vb, vo, rfl, hk2⟩ := HVR.out.ext hxi hne0
            have y0 := hk2 j hlj
            have hjs := HSV.out dv[j] (List.getElem_mem hlj)
            have CV := Lib.hid (fun W => ValueOf_any dv[j] W hjs)
            have hlook := hK4.look (t := 206) Tryz.underlying206 dv[j] (by omega)
            rw [inB_map] at hlook
            have HVJ := Lib.hid (HV.out j hlj HZ.out)
            have HVN := Lib.hid (fun h => val_next hlj HZ.out h)
            have HVE := Lib.hid (valErr_of hlj)
            have HMT := Lib.hid (map_take_succ bs dv j hlj)
            have yl := lt_of_cell y0
            clear hk2
            generalize dv[j] = x at *
            obtain ⟨w6, hrun, hK6, hg6⟩ := hK4.upd (t := 206) Tryz.underlying206 x (by omega) (by omega)
            have hl4 := hK4.lt
            have HX6 := Lib.hid (show Ext w w6 from Below.grown hxi hg6 hxi.size (fun i hi => by simp only [Option.some.injEq] at hi; omega))
            have HB6 := Lib.hid (show Blk w6 wo.heap.size 198 _ from (hg6.block _ bI.lt (fun e => by simp only [Option.some.injEq] at e; omega)).trans bI)
            have HK6 := Lib.hid (hK3.far hg6 (by omega))
            have hbc0 := HBC.out.lt
            have HBC6 := Lib.hid (show Blk w6 w.heap.size 61 _ from (hg6.block _ bC3.lt (fun e => by simp only [Option.some.injEq] at e; omega)).trans bC3)
            have HK7 := Lib.hid hK6
            clear hK6 hg6 hK3 hK4 bI bC3
            generalize inB (dv.take j) x = IB at *
            generalize valueL (bs x) = VL at *
            cases VL
            · obtain rfl := HVJ.out 2 (by decide) (by rw [HVE.out, if_pos rfl])
              go_wp2_with fail
              refine (CV.out _).mono ?_
              rintro e w3 ⟨rfl, rfl⟩
              go_wp2
              go_ret
              exact ⟨rfl, hxi⟩
            cases IB
            · have hve : valErr dv j = 0 := by rw [HVE.out, if_neg (by decide), if_neg (by decide)]
              have HV2 := Lib.hid (HVN.out hve)
              clear hve
              go_wp2_with fail
              refine (CV.out _).mono ?_
              rintro e w3 ⟨rfl, rfl⟩
              go_wp2
              go_roundw
              case rel => exact ⟨j + 1, by go_num, hlj, HV2.out, HX6.out, HB6.out, HK6.out, (by rw [← HMT.out]; exact HK7.out), HBC6.out⟩
              case measure => simp [intOf]; omega
            · obtain rfl := HVJ.out 6 (by decide) (by rw [HVE.out, if_neg (by decide), if_pos rfl])
              go_wp2_with fail
              refine (CV.out _).mono ?_
              rintro e w3 ⟨rfl, rfl⟩
              go_wp2
              go_ret
              exact ⟨rfl, hxi⟩
          · obtain rfl : j = dv.length := by omega
            have hd0 := HV0.out HZ.out
            have HN2 := Lib.hid (HNX.out hd0)
            have hsz := HMS.out (d_size hd0)
            have hmul : IntKind.i64.wrap (((min M 1048576 : Nat) : Int) * ((dv.length : Int) + 1)) = ((min M 1048576 * (dv.length + 1) : Nat) : Int) := by
              rw [IntKind.wrap_i64]
              have h1 : min M 1048576 ≤ 1048576 := Nat.min_le_right _ _
              have h2 : min M 1048576 * (dv.length + 1) ≤ 1048576 * 21 := Nat.mul_le_mul h1 (by omega)
              have h3 : ((min M 1048576 : Nat) : Int) * ((dv.length : Int) + 1) = ((min M 1048576 * (dv.length + 1) : Nat) : Int) := by simp
              rw [h3]
              omega
            have HSZ := Lib.hid hsz
            obtain ⟨w6, hrun, hK6, hg6⟩ := HUP.out _ hK3
            have HX6 := Lib.hid (show Ext w w6 from Below.grown hxi hg6 hxi.size (fun i hi => by simp only [Option.some.injEq] at hi; omega))
            have bI6 : Blk w6 wo.heap.size 198 _ := (hg6.block _ bI.lt (fun e => by simp only [Option.some.injEq] at e; have := hxr0s; omega)).trans bI
            have c6 := bI6.cell; have l6 := bI6.lt
            have HBC6 := Lib.hid (show Blk w6 w.heap.size 61 _ from (hg6.block _ bC3.lt (fun e => by simp only [Option.some.injEq] at e; omega)).trans bC3)
            have HK7 := Lib.hid hK6
            clear hsz hd0 HV HV0 HNX HMS hK6 hg6 hK3 hK4 bI bI6 bC3
            generalize min M 1048576 = m0 at *
            go_wp2
            go_roundw
            case rel => exact ⟨k + 1, by go_num, by omega, by rw [← HSZ.out]; have hq : (m0 : Int) * ((dv.length : Int) + 1) = ((m0 * (dv.length + 1) : Nat) : Int) := (by simp); show Value.int .i64 _ = Value.int .i64 ((min (m0 * (dv.length + 1)) 1048576 : Nat) : Int); congr 1; (try rw [hq]); generalize m0 * (dv.length + 1) = q; omega, HN2.out, HX6.out, (by rw [← HNM.out]; exact HK7.out), HBC6.out⟩
            case measure => simp [intOf]; omega
    · have hR : rightD ⟨dn, true, da, dv⟩ = pathL (bs dn) := rfl
      have hMK : Dm.mark ⟨dn, true, da, dv⟩ = bs (⟨#[115, 101, 116, 116, 105, 110, 103, 32]⟩ ++ dn) := by rw [bs_append]; rfl
      have hTW := HTW.out
      have HLK := Lib.hid (show ∀ W, KSet W (w.heap.size + 1) k ((l.take k).map Dm.mark) → (Instr.lookup 206 (.map (some (w.heap.size + 1))) (.string (⟨#[115, 101, 116, 116, 105, 110, 103, 32]⟩ ++ dn)) false).run Tryz.prog W = .ok (.bool TW) W from fun W h => by
        have h1 := h.look (t := 206) Tryz.underlying206 (⟨#[115, 101, 116, 116, 105, 110, 103, 32]⟩ ++ dn) (by rw [ByteArray.size_append]; show 8 + dn.size ≤ _; omega)
        rw [← hMK, hTW] at h1
        exact h1)
      have HUP := Lib.hid (show ∀ W, KSet W (w.heap.size + 1) k ((l.take k).map Dm.mark) → ∃ w6, (Instr.mapUpdate 206 (.map (some (w.heap.size + 1))) (.string (⟨#[115, 101, 116, 116, 105, 110, 103, 32]⟩ ++ dn)) (.bool true)).run Tryz.prog W = .ok () w6 ∧ KSet w6 (w.heap.size + 1) (k + 1) ((l.take k).map Dm.mark ++ [Dm.mark ⟨dn, true, da, dv⟩]) ∧ W.grownBy w6 (some (w.heap.size + 1)) from fun W h => by
        have h1 := h.upd (t := 206) Tryz.underlying206 (⟨#[115, 101, 116, 116, 105, 110, 103, 32]⟩ ++ dn) (by rw [ByteArray.size_append]; show 8 + dn.size ≤ _; omega) (by omega)
        rw [← hMK] at h1
        exact h1)
      clear hMK hTW HTW
      have rc : ∀ W, Ext w W → Calls Tryz.prog 31 #[.string dn] W fun e w' => e = .returned (.bool (pathL (bs dn))) ∧ Ext W w' := fun W h => PathOf_any dn W (hg.ext h) hsz
      have RN := Lib.hid (fun W => NameOf_any dn W hsz)
      rw [← hR] at rc
      have RC := Lib.hid rc
      clear rc hR
      have bD := Blk.new wr 198 #[.string dn, .bool true, .bool da, .slice A' dv.length c']
      generalize nameL (bs dn) = NL at *
      generalize hRI : rightD ⟨dn, true, da, dv⟩ = R at RC
      cases R
      · obtain rfl := HAT.out 5 (by decide) (d_name hRI)
        go_wp2_with fail
        refine (RN.out _).mono ?_
        rintro e w0 ⟨rfl, hx0⟩
        have bD0 := bD.ext hx0
        have e0 := bD0.cell; have f0 := bD0.lt
        go_wp2_with fail
        refine wp_region_ext (by kernel_rfl) (by kernel_rfl) ?_
        repeat (first | go_big_quiet_skip | (refine wpQuiet_step (fun K hK => ?_); go_simp; first | (refine hK _ ?_; clear hK K) | (apply Exists.intro; refine ⟨fun wq hwq => ?_, hK _ ?_⟩; (obtain ⟨hqc, hqf⟩ := hwq.cells; have hqs := hwq.size; (try go_simp); first | rfl | ((first | rw [if_neg (by omega)] | rw [if_pos (by omega)]); (try go_simp); rfl) | ((go_at_call 31; exact (RC.out _ ((hxr.alloc _).trans (hx0.trans hwq))).mono (fun e w'' h => ⟨h.1, hwq.trans h.2⟩)))); clear hK K)))
        refine wpQuiet_nil ?_
        intro wN hxN
        obtain ⟨hcN, hfN⟩ := hxN.cells
        have hsN := hxN.size
        have bD2 := bD0.ext hxN
        have hxw2 : Ext w wN := ((hxr.alloc _).trans hx0).trans hxN
        have hx02 : Ext wr wN := (((Ext.refl wr).alloc _).trans hx0).trans hxN
        clear e0 f0
        have cD0 := bD2.cell; have lD0 := bD2.lt
        generalize wN = w2 at *
        go_wp2
        go_ret
        exact ⟨rfl, hxw2⟩
      cases TW
      rotate_left
      · obtain rfl := HAT.out 6 (by decide) (d_twice hRI)
        go_wp2_with fail
        refine (RN.out _).mono ?_
        rintro e w0 ⟨rfl, hx0⟩
        have bD0 := bD.ext hx0
        have e0 := bD0.cell; have f0 := bD0.lt
        go_wp2_with fail
        refine wp_region_ext (by kernel_rfl) (by kernel_rfl) ?_
        repeat (first | go_big_quiet_skip | (refine wpQuiet_step (fun K hK => ?_); go_simp; first | (refine hK _ ?_; clear hK K) | (apply Exists.intro; refine ⟨fun wq hwq => ?_, hK _ ?_⟩; (obtain ⟨hqc, hqf⟩ := hwq.cells; have hqs := hwq.size; (try go_simp); first | rfl | ((first | rw [if_neg (by omega)] | rw [if_pos (by omega)]); (try go_simp); rfl) | ((go_at_call 31; exact (RC.out _ ((hxr.alloc _).trans (hx0.trans hwq))).mono (fun e w'' h => ⟨h.1, hwq.trans h.2⟩)))); clear hK K)))
        refine wpQuiet_nil ?_
        intro wN hxN
        obtain ⟨hcN, hfN⟩ := hxN.cells
        have hsN := hxN.size
        have bD2 := bD0.ext hxN
        have hxw2 : Ext w wN := ((hxr.alloc _).trans hx0).trans hxN
        have hx02 : Ext wr wN := (((Ext.refl wr).alloc _).trans hx0).trans hxN
        clear e0 f0
        have cD0 := bD2.cell; have lD0 := bD2.lt
        generalize wN = w2 at *
        have hK1 := hK.ext hx02
        have hlookN := HLK.out _ hK1
        go_wp2
        go_ret
        exact ⟨rfl, hxw2⟩
      by_cases hz : dv.length = 0
      · have z1 : ((dv.length : Int) == 0) = true := by rw [hz]; rfl
        have HZ0 := Lib.hid hz
        clear hz
        cases da
        · obtain rfl := HAT.out 9 (by decide) (d_empty hRI ⟨HZ0.out, rfl⟩)
          go_wp2_with fail
          refine (RN.out _).mono ?_
          rintro e w0 ⟨rfl, hx0⟩
          have bD0 := bD.ext hx0
          have e0 := bD0.cell; have f0 := bD0.lt
          go_wp2_with fail
          refine wp_region_ext (by kernel_rfl) (by kernel_rfl) ?_
          repeat (first | go_big_quiet_skip | (refine wpQuiet_step (fun K hK => ?_); go_simp; first | (refine hK _ ?_; clear hK K) | (apply Exists.intro; refine ⟨fun wq hwq => ?_, hK _ ?_⟩; (obtain ⟨hqc, hqf⟩ := hwq.cells; have hqs := hwq.size; (try go_simp); first | rfl | ((first | rw [if_neg (by omega)] | rw [if_pos (by omega)]); (try go_simp); rfl) | ((go_at_call 31; exact (RC.out _ ((hxr.alloc _).trans (hx0.trans hwq))).mono (fun e w'' h => ⟨h.1, hwq.trans h.2⟩)))); clear hK K)))
          refine wpQuiet_nil ?_
          intro wN hxN
          obtain ⟨hcN, hfN⟩ := hxN.cells
          have hsN := hxN.size
          have bD2 := bD0.ext hxN
          have hxw2 : Ext w wN := ((hxr.alloc _).trans hx0).trans hxN
          have hx02 : Ext wr wN := (((Ext.refl wr).alloc _).trans hx0).trans hxN
          clear e0 f0
          have cD0 := bD2.cell; have lD0 := bD2.lt
          generalize wN = w2 at *
          have hK1 := hK.ext hx02
          have hlookN := HLK.out _ hK1
          go_wp2
          go_ret
          exact ⟨rfl, hxw2⟩
        · have HLG := Lib.hid (show 20 < dv.length → dErrOf ⟨dn, true, true, dv⟩ false = 4 from fun h20 => d_large hRI (fun h => by cases h.2) h20)
          have HVS := Lib.hid (show ¬ 20 < dv.length → dErrOf ⟨dn, true, true, dv⟩ false = firstI (valErrs dv) from fun h20 => d_vals hRI (fun h => by cases h.2) h20)
          go_wp2_with fail
          refine (RN.out _).mono ?_
          rintro e w0 ⟨rfl, hx0⟩
          have bD0 := bD.ext hx0
          have e0 := bD0.cell; have f0 := bD0.lt
          go_wp2_with fail
          refine wp_region_ext (by kernel_rfl) (by kernel_rfl) ?_
          repeat (first | go_big_quiet_skip | (refine wpQuiet_step (fun K hK => ?_); go_simp; first | (refine hK _ ?_; clear hK K) | (apply Exists.intro; refine ⟨fun wq hwq => ?_, hK _ ?_⟩; (obtain ⟨hqc, hqf⟩ := hwq.cells; have hqs := hwq.size; (try go_simp); first | rfl | ((first | rw [if_neg (by omega)] | rw [if_pos (by omega)]); (try go_simp); rfl) | ((go_at_call 31; exact (RC.out _ ((hxr.alloc _).trans (hx0.trans hwq))).mono (fun e w'' h => ⟨h.1, hwq.trans h.2⟩)))); clear hK K)))
          refine wpQuiet_nil ?_
          intro wN hxN
          obtain ⟨hcN, hfN⟩ := hxN.cells
          have hsN := hxN.size
          have bD2 := bD0.ext hxN
          have hxw2 : Ext w wN := ((hxr.alloc _).trans hx0).trans hxN
          have hx02 : Ext wr wN := (((Ext.refl wr).alloc _).trans hx0).trans hxN
          clear e0 f0
          have cD0 := bD2.cell; have lD0 := bD2.lt
          generalize wN = w2 at *
          have hK1 := hK.ext hx02
          have hlookN := HLK.out _ hK1
          clear hK
          by_cases h20 : 20 < dv.length
          · obtain rfl := HAT.out 4 (by decide) (HLG.out h20)
            go_wp2
            go_ret
            exact ⟨rfl, hxw2⟩
          have HV := Lib.hid (show ∀ j (hj : j < dv.length), (∀ x ∈ (valErrs dv).take j, x = 0) → ∀ x : Int, x ≠ 0 → valErr dv j = x → E = x from fun j hj h0 x hx h1 => HAT.out x hx (by rw [HVS.out h20]; exact (val_at hj h0 (by rw [h1]; exact hx)).trans h1))
          have HV0 := Lib.hid (show (∀ x ∈ (valErrs dv).take dv.length, x = 0) → dErrOf ⟨dn, true, true, dv⟩ false = 0 from fun h0 => by rw [HVS.out h20]; exact val_all h0)
          obtain ⟨wo, hwo⟩ : ∃ wo, wo = wr := ⟨wr, rfl⟩
          subst hwo
          have hmade := KSet.made w2
          have hxm : Ext w2 (w2.alloc (.map #[] 0)) := (Ext.refl w2).alloc _
          have hK2 := hK1.ext hxm
          have bD3 := bD2.ext hxm
          have hgw2 : wo.heap.size < w2.heap.size := bD2.lt
          have hb1w2 : w.heap.size + 1 < w2.heap.size := hK1.lt
          have cD := bD3.cell; have lD := bD3.lt
          clear x0 x1 x2 x3 HAT bD
          go_wp2
          clear hlookN cD0 lD0
          go_loopw [67] (fun t wr => ∃ j : Nat, t = .int .i64 j ∧ j ≤ dv.length ∧ Hid (∀ x ∈ (valErrs dv).take j, x = 0) ∧ Ext w wr ∧ Blk wr wo.heap.size 198 #[.string dn, .bool true, .bool true, .slice A' dv.length c'] ∧ KSet wr (w.heap.size + 1) k ((l.take k).map Dm.mark) ∧ KSet wr w2.heap.size j ((dv.take j).map bs) ∧ Blk wr w.heap.size 61 #[.int .i64 ck, .string cn, .string cx, .slice cA cm cp]) (fun t _ => dv.length - (intOf t).toNat)
          case atStart => exact ⟨0, by go_num, Nat.zero_le _, (fun x hx => by rw [List.take_zero] at hx; cases hx), hxw2.trans hxm, bD3, hK2, hmade, HBC.out.ext (hx02.trans hxm)⟩
          case round =>
            obtain ⟨j, rfl, hj, HZ, hxi, bI, hK3, hK4, bC3⟩ := hrel
            have cI := bI.cell; have lI := bI.lt
            clear cD lD
            by_cases hlj : j < dv.length
            · have hne0 : dv ≠ [] := fun e => by rw [e] at hlj; exact absurd hlj (Nat.not_lt_zero _)
              obtain ⟨vb, vo, rfl, hk2⟩ := HVR.out.ext hxi hne0
              have y0 := hk2 j hlj
              have hjs := HSV.out dv[j] (List.getElem_mem hlj)
              have CV := Lib.hid (fun W => ValueOf_any dv[j] W hjs)
              have hlook := hK4.look (t := 206) Tryz.underlying206 dv[j] (by omega)
              rw [inB_map] at hlook
              have HVJ := Lib.hid (HV.out j hlj HZ.out)
              have HVN := Lib.hid (fun h => val_next hlj HZ.out h)
              have HVE := Lib.hid (valErr_of hlj)
              have HMT := Lib.hid (map_take_succ bs dv j hlj)
              have yl := lt_of_cell y0
              clear hk2
              generalize dv[j] = x at *
              obtain ⟨w6, hrun, hK6, hg6⟩ := hK4.upd (t := 206) Tryz.underlying206 x (by omega) (by omega)
              have hl4 := hK4.lt
              have HX6 := Lib.hid (show Ext w w6 from Below.grown hxi hg6 hxi.size (fun i hi => by simp only [Option.some.injEq] at hi; omega))
              have HB6 := Lib.hid (show Blk w6 wo.heap.size 198 _ from (hg6.block _ bI.lt (fun e => by simp only [Option.some.injEq] at e; omega)).trans bI)
              have HK6 := Lib.hid (hK3.far hg6 (by omega))
              have hbc0 := HBC.out.lt
              have HBC6 := Lib.hid (show Blk w6 w.heap.size 61 _ from (hg6.block _ bC3.lt (fun e => by simp only [Option.some.injEq] at e; omega)).trans bC3)
              have HK7 := Lib.hid hK6
              clear hK6 hg6 hK3 hK4 bI bC3
              generalize inB (dv.take j) x = IB at *
              generalize valueL (bs x) = VL at *
              cases VL
              · obtain rfl := HVJ.out 2 (by decide) (by rw [HVE.out, if_pos rfl])
                go_wp2_with fail
                refine (CV.out _).mono ?_
                rintro e w3 ⟨rfl, rfl⟩
                go_wp2
                go_ret
                exact ⟨rfl, hxi⟩
              cases IB
              · have hve : valErr dv j = 0 := by rw [HVE.out, if_neg (by decide), if_neg (by decide)]
                have HV2 := Lib.hid (HVN.out hve)
                clear hve
                go_wp2_with fail
                refine (CV.out _).mono ?_
                rintro e w3 ⟨rfl, rfl⟩
                go_wp2
                go_roundw
                case rel => exact ⟨j + 1, by go_num, hlj, HV2.out, HX6.out, HB6.out, HK6.out, (by rw [← HMT.out]; exact HK7.out), HBC6.out⟩
                case measure => simp [intOf]; omega
              · obtain rfl := HVJ.out 6 (by decide) (by rw [HVE.out, if_neg (by decide), if_pos rfl])
                go_wp2_with fail
                refine (CV.out _).mono ?_
                rintro e w3 ⟨rfl, rfl⟩
                go_wp2
                go_ret
                exact ⟨rfl, hxi⟩
            · obtain rfl : j = dv.length := by omega
              have hd0 := HV0.out HZ.out
              have HN2 := Lib.hid (HNX.out hd0)
              have hsz := HMS.out (d_size hd0)
              have hmul : IntKind.i64.wrap (((min M 1048576 : Nat) : Int) * ((dv.length : Int) + 1)) = ((min M 1048576 * (dv.length + 1) : Nat) : Int) := by
                rw [IntKind.wrap_i64]
                have h1 : min M 1048576 ≤ 1048576 := Nat.min_le_right _ _
                have h2 : min M 1048576 * (dv.length + 1) ≤ 1048576 * 21 := Nat.mul_le_mul h1 (by omega)
                have h3 : ((min M 1048576 : Nat) : Int) * ((dv.length : Int) + 1) = ((min M 1048576 * (dv.length + 1) : Nat) : Int) := by simp
                rw [h3]
                omega
              have HSZ := Lib.hid hsz
              obtain ⟨w6, hrun, hK6, hg6⟩ := HUP.out _ hK3
              have HX6 := Lib.hid (show Ext w w6 from Below.grown hxi hg6 hxi.size (fun i hi => by simp only [Option.some.injEq] at hi; omega))
              have bI6 : Blk w6 wo.heap.size 198 _ := (hg6.block _ bI.lt (fun e => by simp only [Option.some.injEq] at e; have := hxr0s; omega)).trans bI
              have c6 := bI6.cell; have l6 := bI6.lt
              have HBC6 := Lib.hid (show Blk w6 w.heap.size 61 _ from (hg6.block _ bC3.lt (fun e => by simp only [Option.some.injEq] at e; omega)).trans bC3)
              have HK7 := Lib.hid hK6
              clear hsz hd0 HV HV0 HNX HMS hK6 hg6 hK3 hK4 bI bI6 bC3
              generalize min M 1048576 = m0 at *
              go_wp2
              go_roundw
              case rel => exact ⟨k + 1, by go_num, by omega, by rw [← HSZ.out]; have hq : (m0 : Int) * ((dv.length : Int) + 1) = ((m0 * (dv.length + 1) : Nat) : Int) := (by simp); show Value.int .i64 _ = Value.int .i64 ((min (m0 * (dv.length + 1)) 1048576 : Nat) : Int); congr 1; (try rw [hq]); generalize m0 * (dv.length + 1) = q; omega, HN2.out, HX6.out, (by rw [← HNM.out]; exact HK7.out), HBC6.out⟩
              case measure => simp [intOf]; omega
      have z1 : ((dv.length : Int) == 0) = false := by rw [beq_eq_false_iff_ne]; omega
      have HZ0 := Lib.hid hz
      clear hz
      cases da
      · have HLG := Lib.hid (show 20 < dv.length → dErrOf ⟨dn, true, false, dv⟩ false = 4 from fun h20 => d_large hRI (fun h => HZ0.out h.1) h20)
        have HVS := Lib.hid (show ¬ 20 < dv.length → dErrOf ⟨dn, true, false, dv⟩ false = firstI (valErrs dv) from fun h20 => d_vals hRI (fun h => HZ0.out h.1) h20)
        go_wp2_with fail
        refine (RN.out _).mono ?_
        rintro e w0 ⟨rfl, hx0⟩
        have bD0 := bD.ext hx0
        have e0 := bD0.cell; have f0 := bD0.lt
        go_wp2_with fail
        refine wp_region_ext (by kernel_rfl) (by kernel_rfl) ?_
        repeat (first | go_big_quiet_skip | (refine wpQuiet_step (fun K hK => ?_); go_simp; first | (refine hK _ ?_; clear hK K) | (apply Exists.intro; refine ⟨fun wq hwq => ?_, hK _ ?_⟩; (obtain ⟨hqc, hqf⟩ := hwq.cells; have hqs := hwq.size; (try go_simp); first | rfl | ((first | rw [if_neg (by omega)] | rw [if_pos (by omega)]); (try go_simp); rfl) | ((go_at_call 31; exact (RC.out _ ((hxr.alloc _).trans (hx0.trans hwq))).mono (fun e w'' h => ⟨h.1, hwq.trans h.2⟩)))); clear hK K)))
        refine wpQuiet_nil ?_
        intro wN hxN
        obtain ⟨hcN, hfN⟩ := hxN.cells
        have hsN := hxN.size
        have bD2 := bD0.ext hxN
        have hxw2 : Ext w wN := ((hxr.alloc _).trans hx0).trans hxN
        have hx02 : Ext wr wN := (((Ext.refl wr).alloc _).trans hx0).trans hxN
        clear e0 f0
        have cD0 := bD2.cell; have lD0 := bD2.lt
        generalize wN = w2 at *
        have hK1 := hK.ext hx02
        have hlookN := HLK.out _ hK1
        clear hK
        by_cases h20 : 20 < dv.length
        · obtain rfl := HAT.out 4 (by decide) (HLG.out h20)
          go_wp2
          go_ret
          exact ⟨rfl, hxw2⟩
        have HV := Lib.hid (show ∀ j (hj : j < dv.length), (∀ x ∈ (valErrs dv).take j, x = 0) → ∀ x : Int, x ≠ 0 → valErr dv j = x → E = x from fun j hj h0 x hx h1 => HAT.out x hx (by rw [HVS.out h20]; exact (val_at hj h0 (by rw [h1]; exact hx)).trans h1))
        have HV0 := Lib.hid (show (∀ x ∈ (valErrs dv).take dv.length, x = 0) → dErrOf ⟨dn, true, false, dv⟩ false = 0 from fun h0 => by rw [HVS.out h20]; exact val_all h0)
        obtain ⟨wo, hwo⟩ : ∃ wo, wo = wr := ⟨wr, rfl⟩
        subst hwo
        have hmade := KSet.made w2
        have hxm : Ext w2 (w2.alloc (.map #[] 0)) := (Ext.refl w2).alloc _
        have hK2 := hK1.ext hxm
        have bD3 := bD2.ext hxm
        have hgw2 : wo.heap.size < w2.heap.size := bD2.lt
        have hb1w2 : w.heap.size + 1 < w2.heap.size := hK1.lt
        have cD := bD3.cell; have lD := bD3.lt
        clear x0 x1 x2 x3 HAT bD
        go_wp2
        clear hlookN cD0 lD0
        go_loopw [67] (fun t wr => ∃ j : Nat, t = .int .i64 j ∧ j ≤ dv.length ∧ Hid (∀ x ∈ (valErrs dv).take j, x = 0) ∧ Ext w wr ∧ Blk wr wo.heap.size 198 #[.string dn, .bool true, .bool false, .slice A' dv.length c'] ∧ KSet wr (w.heap.size + 1) k ((l.take k).map Dm.mark) ∧ KSet wr w2.heap.size j ((dv.take j).map bs) ∧ Blk wr w.heap.size 61 #[.int .i64 ck, .string cn, .string cx, .slice cA cm cp]) (fun t _ => dv.length - (intOf t).toNat)
        case atStart => exact ⟨0, by go_num, Nat.zero_le _, (fun x hx => by rw [List.take_zero] at hx; cases hx), hxw2.trans hxm, bD3, hK2, hmade, HBC.out.ext (hx02.trans hxm)⟩
        case round =>
          obtain ⟨j, rfl, hj, HZ, hxi, bI, hK3, hK4, bC3⟩ := hrel
          have cI := bI.cell; have lI := bI.lt
          clear cD lD
          by_cases hlj : j < dv.length
          · have hne0 : dv ≠ [] := fun e => by rw [e] at hlj; exact absurd hlj (Nat.not_lt_zero _)
            obtain ⟨vb, vo, rfl, hk2⟩ := HVR.out.ext hxi hne0
            have y0 := hk2 j hlj
            have hjs := HSV.out dv[j] (List.getElem_mem hlj)
            have CV := Lib.hid (fun W => ValueOf_any dv[j] W hjs)
            have hlook := hK4.look (t := 206) Tryz.underlying206 dv[j] (by omega)
            rw [inB_map] at hlook
            have HVJ := Lib.hid (HV.out j hlj HZ.out)
            have HVN := Lib.hid (fun h => val_next hlj HZ.out h)
            have HVE := Lib.hid (valErr_of hlj)
            have HMT := Lib.hid (map_take_succ bs dv j hlj)
            have yl := lt_of_cell y0
            clear hk2
            generalize dv[j] = x at *
            obtain ⟨w6, hrun, hK6, hg6⟩ := hK4.upd (t := 206) Tryz.underlying206 x (by omega) (by omega)
            have hl4 := hK4.lt
            have HX6 := Lib.hid (show Ext w w6 from Below.grown hxi hg6 hxi.size (fun i hi => by simp only [Option.some.injEq] at hi; omega))
            have HB6 := Lib.hid (show Blk w6 wo.heap.size 198 _ from (hg6.block _ bI.lt (fun e => by simp only [Option.some.injEq] at e; omega)).trans bI)
            have HK6 := Lib.hid (hK3.far hg6 (by omega))
            have hbc0 := HBC.out.lt
            have HBC6 := Lib.hid (show Blk w6 w.heap.size 61 _ from (hg6.block _ bC3.lt (fun e => by simp only [Option.some.injEq] at e; omega)).trans bC3)
            have HK7 := Lib.hid hK6
            clear hK6 hg6 hK3 hK4 bI bC3
            generalize inB (dv.take j) x = IB at *
            generalize valueL (bs x) = VL at *
            cases VL
            · obtain rfl := HVJ.out 2 (by decide) (by rw [HVE.out, if_pos rfl])
              go_wp2_with fail
              refine (CV.out _).mono ?_
              rintro e w3 ⟨rfl, rfl⟩
              go_wp2
              go_ret
              exact ⟨rfl, hxi⟩
            cases IB
            · have hve : valErr dv j = 0 := by rw [HVE.out, if_neg (by decide), if_neg (by decide)]
              have HV2 := Lib.hid (HVN.out hve)
              clear hve
              go_wp2_with fail
              refine (CV.out _).mono ?_
              rintro e w3 ⟨rfl, rfl⟩
              go_wp2
              go_roundw
              case rel => exact ⟨j + 1, by go_num, hlj, HV2.out, HX6.out, HB6.out, HK6.out, (by rw [← HMT.out]; exact HK7.out), HBC6.out⟩
              case measure => simp [intOf]; omega
            · obtain rfl := HVJ.out 6 (by decide) (by rw [HVE.out, if_neg (by decide), if_pos rfl])
              go_wp2_with fail
              refine (CV.out _).mono ?_
              rintro e w3 ⟨rfl, rfl⟩
              go_wp2
              go_ret
              exact ⟨rfl, hxi⟩
          · obtain rfl : j = dv.length := by omega
            have hd0 := HV0.out HZ.out
            have HN2 := Lib.hid (HNX.out hd0)
            have hsz := HMS.out (d_size hd0)
            have hmul : IntKind.i64.wrap (((min M 1048576 : Nat) : Int) * (dv.length : Int)) = ((min M 1048576 * dv.length : Nat) : Int) := by
              rw [IntKind.wrap_i64]
              have h1 : min M 1048576 ≤ 1048576 := Nat.min_le_right _ _
              have h2 : min M 1048576 * dv.length ≤ 1048576 * 21 := Nat.mul_le_mul h1 (by omega)
              have h3 : ((min M 1048576 : Nat) : Int) * (dv.length : Int) = ((min M 1048576 * dv.length : Nat) : Int) := by simp
              rw [h3]
              omega
            have HSZ := Lib.hid hsz
            obtain ⟨w6, hrun, hK6, hg6⟩ := HUP.out _ hK3
            have HX6 := Lib.hid (show Ext w w6 from Below.grown hxi hg6 hxi.size (fun i hi => by simp only [Option.some.injEq] at hi; omega))
            have bI6 : Blk w6 wo.heap.size 198 _ := (hg6.block _ bI.lt (fun e => by simp only [Option.some.injEq] at e; have := hxr0s; omega)).trans bI
            have c6 := bI6.cell; have l6 := bI6.lt
            have HBC6 := Lib.hid (show Blk w6 w.heap.size 61 _ from (hg6.block _ bC3.lt (fun e => by simp only [Option.some.injEq] at e; omega)).trans bC3)
            have HK7 := Lib.hid hK6
            clear hsz hd0 HV HV0 HNX HMS hK6 hg6 hK3 hK4 bI bI6 bC3
            generalize min M 1048576 = m0 at *
            go_wp2
            go_roundw
            case rel => exact ⟨k + 1, by go_num, by omega, by rw [← HSZ.out]; have hq : (m0 : Int) * (dv.length : Int) = ((m0 * dv.length : Nat) : Int) := (by simp); show Value.int .i64 _ = Value.int .i64 ((min (m0 * dv.length) 1048576 : Nat) : Int); congr 1; (try rw [hq]); generalize m0 * dv.length = q; omega, HN2.out, HX6.out, (by rw [← HNM.out]; exact HK7.out), HBC6.out⟩
            case measure => simp [intOf]; omega
      · have HLG := Lib.hid (show 20 < dv.length → dErrOf ⟨dn, true, true, dv⟩ false = 4 from fun h20 => d_large hRI (fun h => HZ0.out h.1) h20)
        have HVS := Lib.hid (show ¬ 20 < dv.length → dErrOf ⟨dn, true, true, dv⟩ false = firstI (valErrs dv) from fun h20 => d_vals hRI (fun h => HZ0.out h.1) h20)
        go_wp2_with fail
        refine (RN.out _).mono ?_
        rintro e w0 ⟨rfl, hx0⟩
        have bD0 := bD.ext hx0
        have e0 := bD0.cell; have f0 := bD0.lt
        go_wp2_with fail
        refine wp_region_ext (by kernel_rfl) (by kernel_rfl) ?_
        repeat (first | go_big_quiet_skip | (refine wpQuiet_step (fun K hK => ?_); go_simp; first | (refine hK _ ?_; clear hK K) | (apply Exists.intro; refine ⟨fun wq hwq => ?_, hK _ ?_⟩; (obtain ⟨hqc, hqf⟩ := hwq.cells; have hqs := hwq.size; (try go_simp); first | rfl | ((first | rw [if_neg (by omega)] | rw [if_pos (by omega)]); (try go_simp); rfl) | ((go_at_call 31; exact (RC.out _ ((hxr.alloc _).trans (hx0.trans hwq))).mono (fun e w'' h => ⟨h.1, hwq.trans h.2⟩)))); clear hK K)))
        refine wpQuiet_nil ?_
        intro wN hxN
        obtain ⟨hcN, hfN⟩ := hxN.cells
        have hsN := hxN.size
        have bD2 := bD0.ext hxN
        have hxw2 : Ext w wN := ((hxr.alloc _).trans hx0).trans hxN
        have hx02 : Ext wr wN := (((Ext.refl wr).alloc _).trans hx0).trans hxN
        clear e0 f0
        have cD0 := bD2.cell; have lD0 := bD2.lt
        generalize wN = w2 at *
        have hK1 := hK.ext hx02
        have hlookN := HLK.out _ hK1
        clear hK
        by_cases h20 : 20 < dv.length
        · obtain rfl := HAT.out 4 (by decide) (HLG.out h20)
          go_wp2
          go_ret
          exact ⟨rfl, hxw2⟩
        have HV := Lib.hid (show ∀ j (hj : j < dv.length), (∀ x ∈ (valErrs dv).take j, x = 0) → ∀ x : Int, x ≠ 0 → valErr dv j = x → E = x from fun j hj h0 x hx h1 => HAT.out x hx (by rw [HVS.out h20]; exact (val_at hj h0 (by rw [h1]; exact hx)).trans h1))
        have HV0 := Lib.hid (show (∀ x ∈ (valErrs dv).take dv.length, x = 0) → dErrOf ⟨dn, true, true, dv⟩ false = 0 from fun h0 => by rw [HVS.out h20]; exact val_all h0)
        obtain ⟨wo, hwo⟩ : ∃ wo, wo = wr := ⟨wr, rfl⟩
        subst hwo
        have hmade := KSet.made w2
        have hxm : Ext w2 (w2.alloc (.map #[] 0)) := (Ext.refl w2).alloc _
        have hK2 := hK1.ext hxm
        have bD3 := bD2.ext hxm
        have hgw2 : wo.heap.size < w2.heap.size := bD2.lt
        have hb1w2 : w.heap.size + 1 < w2.heap.size := hK1.lt
        have cD := bD3.cell; have lD := bD3.lt
        clear x0 x1 x2 x3 HAT bD
        go_wp2
        clear hlookN cD0 lD0
        go_loopw [67] (fun t wr => ∃ j : Nat, t = .int .i64 j ∧ j ≤ dv.length ∧ Hid (∀ x ∈ (valErrs dv).take j, x = 0) ∧ Ext w wr ∧ Blk wr wo.heap.size 198 #[.string dn, .bool true, .bool true, .slice A' dv.length c'] ∧ KSet wr (w.heap.size + 1) k ((l.take k).map Dm.mark) ∧ KSet wr w2.heap.size j ((dv.take j).map bs) ∧ Blk wr w.heap.size 61 #[.int .i64 ck, .string cn, .string cx, .slice cA cm cp]) (fun t _ => dv.length - (intOf t).toNat)
        case atStart => exact ⟨0, by go_num, Nat.zero_le _, (fun x hx => by rw [List.take_zero] at hx; cases hx), hxw2.trans hxm, bD3, hK2, hmade, HBC.out.ext (hx02.trans hxm)⟩
        case round =>
          obtain ⟨j, rfl, hj, HZ, hxi, bI, hK3, hK4, bC3⟩ := hrel
          have cI := bI.cell; have lI := bI.lt
          clear cD lD
          by_cases hlj : j < dv.length
          · have hne0 : dv ≠ [] := fun e => by rw [e] at hlj; exact absurd hlj (Nat.not_lt_zero _)
            obtain ⟨vb, vo, rfl, hk2⟩ := HVR.out.ext hxi hne0
            have y0 := hk2 j hlj
            have hjs := HSV.out dv[j] (List.getElem_mem hlj)
            have CV := Lib.hid (fun W => ValueOf_any dv[j] W hjs)
            have hlook := hK4.look (t := 206) Tryz.underlying206 dv[j] (by omega)
            rw [inB_map] at hlook
            have HVJ := Lib.hid (HV.out j hlj HZ.out)
            have HVN := Lib.hid (fun h => val_next hlj HZ.out h)
            have HVE := Lib.hid (valErr_of hlj)
            have HMT := Lib.hid (map_take_succ bs dv j hlj)
            have yl := lt_of_cell y0
            clear hk2
            generalize dv[j] = x at *
            obtain ⟨w6, hrun, hK6, hg6⟩ := hK4.upd (t := 206) Tryz.underlying206 x (by omega) (by omega)
            have hl4 := hK4.lt
            have HX6 := Lib.hid (show Ext w w6 from Below.grown hxi hg6 hxi.size (fun i hi => by simp only [Option.some.injEq] at hi; omega))
            have HB6 := Lib.hid (show Blk w6 wo.heap.size 198 _ from (hg6.block _ bI.lt (fun e => by simp only [Option.some.injEq] at e; omega)).trans bI)
            have HK6 := Lib.hid (hK3.far hg6 (by omega))
            have hbc0 := HBC.out.lt
            have HBC6 := Lib.hid (show Blk w6 w.heap.size 61 _ from (hg6.block _ bC3.lt (fun e => by simp only [Option.some.injEq] at e; omega)).trans bC3)
            have HK7 := Lib.hid hK6
            clear hK6 hg6 hK3 hK4 bI bC3
            generalize inB (dv.take j) x = IB at *
            generalize valueL (bs x) = VL at *
            cases VL
            · obtain rfl := HVJ.out 2 (by decide) (by rw [HVE.out, if_pos rfl])
              go_wp2_with fail
              refine (CV.out _).mono ?_
              rintro e w3 ⟨rfl, rfl⟩
              go_wp2
              go_ret
              exact ⟨rfl, hxi⟩
            cases IB
            · have hve : valErr dv j = 0 := by rw [HVE.out, if_neg (by decide), if_neg (by decide)]
              have HV2 := Lib.hid (HVN.out hve)
              clear hve
              go_wp2_with fail
              refine (CV.out _).mono ?_
              rintro e w3 ⟨rfl, rfl⟩
              go_wp2
              go_roundw
              case rel => exact ⟨j + 1, by go_num, hlj, HV2.out, HX6.out, HB6.out, HK6.out, (by rw [← HMT.out]; exact HK7.out), HBC6.out⟩
              case measure => simp [intOf]; omega
            · obtain rfl := HVJ.out 6 (by decide) (by rw [HVE.out, if_neg (by decide), if_pos rfl])
              go_wp2_with fail
              refine (CV.out _).mono ?_
              rintro e w3 ⟨rfl, rfl⟩
              go_wp2
              go_ret
              exact ⟨rfl, hxi⟩
          · obtain rfl : j = dv.length := by omega
            have hd0 := HV0.out HZ.out
            have HN2 := Lib.hid (HNX.out hd0)
            have hsz := HMS.out (d_size hd0)
            have hmul : IntKind.i64.wrap (((min M 1048576 : Nat) : Int) * ((dv.length : Int) + 1)) = ((min M 1048576 * (dv.length + 1) : Nat) : Int) := by
              rw [IntKind.wrap_i64]
              have h1 : min M 1048576 ≤ 1048576 := Nat.min_le_right _ _
              have h2 : min M 1048576 * (dv.length + 1) ≤ 1048576 * 21 := Nat.mul_le_mul h1 (by omega)
              have h3 : ((min M 1048576 : Nat) : Int) * ((dv.length : Int) + 1) = ((min M 1048576 * (dv.length + 1) : Nat) : Int) := by simp
              rw [h3]
              omega
            have HSZ := Lib.hid hsz
            obtain ⟨w6, hrun, hK6, hg6⟩ := HUP.out _ hK3
            have HX6 := Lib.hid (show Ext w w6 from Below.grown hxi hg6 hxi.size (fun i hi => by simp only [Option.some.injEq] at hi; omega))
            have bI6 : Blk w6 wo.heap.size 198 _ := (hg6.block _ bI.lt (fun e => by simp only [Option.some.injEq] at e; have := hxr0s; omega)).trans bI
            have c6 := bI6.cell; have l6 := bI6.lt
            have HBC6 := Lib.hid (show Blk w6 w.heap.size 61 _ from (hg6.block _ bC3.lt (fun e => by simp only [Option.some.injEq] at e; omega)).trans bC3)
            have HK7 := Lib.hid hK6
            clear hsz hd0 HV HV0 HNX HMS hK6 hg6 hK3 hK4 bI bI6 bC3
            generalize min M 1048576 = m0 at *
            go_wp2
            go_roundw
            case rel => exact ⟨k + 1, by go_num, by omega, by rw [← HSZ.out]; have hq : (m0 : Int) * ((dv.length : Int) + 1) = ((m0 * (dv.length + 1) : Nat) : Int) := (by simp); show Value.int .i64 _ = Value.int .i64 ((min (m0 * (dv.length + 1)) 1048576 : Nat) : Int); congr 1; (try rw [hq]); generalize m0 * (dv.length + 1) = q; omega, HN2.out, HX6.out, (by rw [← HNM.out]; exact HK7.out), HBC6.out⟩
            case measure => simp [intOf]; omega
end Go.Proofs.YtaobnifiengglaaGreatDoor
