/- Contract of outref2.CommonOf: the walk. -/
import Derived.Test.YtcmceeihdhcmnaaGreatDoorRm46
import Derived.RegionTactic

namespace Go.Proofs.YtcmceeihdhcmnaaGreatDoor
open Go.RowKit

theorem and_no : ∀ {a b : Bool}, (a && b) = false → a = false ∨ b = false
  | false, _, _ => .inl rfl
  | true, false, _ => .inr rfl
theorem and_yes : ∀ {a b : Bool}, (a && b) = true → a = true ∧ b = true
  | true, true, _ => ⟨rfl, rfl⟩
theorem last_get (q0 : List Sp) (s : Sp) (j : Nat) (u : Value) (h : (spC s)[j]? = some u) : ((q0 ++ [s]).flatMap spC)[q0.length * 10 + j]? = some u := by
  rw [List.flatMap_append, List.getElem?_append_right (by rw [flat_length]; omega), flat_length, Nat.add_sub_cancel_left]
  simpa using h
/-- what CommonOf gives -/
def ComPost (l : List Sp) (w : World) (e : Ending) (w' : World) : Prop := ∃ A c, e = .returned (.agg #[.slice A l.length c]) ∧ RdS w' A l ∧ Ext w w'
set_option maxHeartbeats 2000000 in
set_option maxRecDepth 100000 in
theorem CommonOf_any (A B : Option Addr) (n c m d : Nat) (la lb : List Sp) (w : World) (hg : GoodN w) (hn : la.length = n) (ra : RdS w A la) (sa : SmallS la) (hm : lb.length = m) (rb : RdS w B lb) (sb : SmallS lb) (oa : rngErr la = 0) (ob : rngErr lb = 0) :
    Calls Tryz.prog 54 #[.agg #[.slice A n c], .agg #[.slice B m d]] w (ComPost (commonS la lb) w) := by
  have CS := Lib.hid (fun W (h : Ext w W) => segments_any A B n c m d la lb W (hg.ext h) hn (ra.ext h) sa hm (rb.ext h) sb oa ob)
  have OA := Lib.hid oa; have OB := Lib.hid ob
  clear hn ra sa hm rb sb oa ob
  have bR := Blk.new ((w.alloc (.cells #[.slice A n c] 51)).alloc (.cells #[.slice B m d] 51)) 51 #[.slice none 0 0]
  rw [World.size_alloc, World.size_alloc] at bR
  have hx0 : Ext w (((w.alloc (.cells #[.slice A n c] 51)).alloc (.cells #[.slice B m d] 51)).alloc (.cells #[.slice none 0 0] 51)) := (((Ext.refl w).alloc _).alloc _).alloc _
  go_enter Tryz.func54, Tryz.ntmps54
  go_wp2_with fail
  refine (CS.out _ hx0).mono ?_
  rintro e w1 ⟨A', c', g, d', EN, E, rfl, hEN, hEb, hrE, hrB, hris, hma, hmb, _, hx1⟩
  have hsc := common_scan hris OA.out OB.out hma hmb
  rw [hEN] at hsc
  have HSC := Lib.hid hsc
  have HEN := Lib.hid hEN
  have hxw := hx0.trans hx1
  have bR1 := bR.ext hx1
  have HRE := Lib.hid hrE; have HRB := Lib.hid hrB
  have lR1 := bR1.lt
  clear hris hma hmb hrE hrB hEN hsc hx1 hx0 bR CS
  go_wp2
  go_loopg [8, 22] (EN + 1) (fun gg op i wr => ∃ (k : Nat) (sv : Value) (q : List Sp) (o : Bool), k ≤ EN + 1 ∧ EN + 1 - k ≤ gg ∧ i = .int .i64 k ∧ op = .bool o ∧ Hid ((q, o) = scanS E la lb k) ∧ q.length ≤ k ∧ Blk wr w1.heap.size 51 #[sv] ∧ wr.ownsRow (w1.heap.size + 1) 127 10 sv q.length (q.flatMap spC) ∧ Ext w1 wr)
  case atStart => exact ⟨0, .slice none 0 0, [], false, Nat.zero_le _, by omega, rfl, rfl, rfl, Nat.le_refl _, Blk.new w1 _ _, World.ownsRow_nil _ _ _ _, (Ext.refl w1).alloc _⟩
  case round =>
    obtain ⟨k, sv, q, o, hk, hgk, rfl, rfl, HQ, hql, bO, hown, hxr⟩ := hrel
    obtain ⟨wo, rfl⟩ : ∃ wo : World, wo = wr := ⟨_, rfl⟩
    have lO := bO.lt
    by_cases hlt : k < EN + 1
    · have x0 := (HRB.out.ext hxr).c0 k hlt; have x1 := (HRB.out.ext hxr).c1 k hlt
      have gl := lt_of_cell x0
      have hlz : (k : Int) < (EN : Int) + 1 := by omega
      have HSAME := Lib.hid (fun e => scan_same HQ.out e)
      have hboth : bothAt E la lb k = (hasAtL E la k && hasAtL E lb k) := rfl
      have HBOTH := Lib.hid hboth
      clear hboth
      generalize hasAtL E la k = pa at *
      generalize hasAtL E lb k = pb at *
      have bX := Blk.new wo 175 #[.bool pa, .bool pb]
      have cX := bX.cell; have lX := bX.lt
      have bO2 := bO.alloc (.cells #[.bool pa, .bool pb] 175)
      have hown2 := hown.alloc (.cells #[.bool pa, .bool pb] 175)
      have hx2 := hxr.alloc (.cells #[.bool pa, .bool pb] 175)
      cases hpp : pa && pb
      · -- not both
        rw [hpp] at HBOTH
        have hpab := and_no hpp
        cases o
        · have HF := Lib.hid (HSAME.out HBOTH.out)
          rcases hpab with rfl | rfl
          · go_wp2
            go_roundg (EN + 1 - (k + 1))
            case rel => exact ⟨k + 1, sv, q, false, by omega, Nat.le_refl _, by go_num, rfl, HF.out, by omega, bO2, hown2, hx2⟩
            case measure => omega
          · cases pa
            all_goals
              go_wp2
              go_roundg (EN + 1 - (k + 1))
              case rel => exact ⟨k + 1, sv, q, false, by omega, Nat.le_refl _, by go_num, rfl, HF.out, by omega, bO2, hown2, hx2⟩
              case measure => omega
        · have hne : q ≠ [] := fun e => scanS_open E la lb k (by rw [← HQ.out]) (by rw [← HQ.out]; exact e)
          obtain ⟨q0, s, rfl⟩ : ∃ q0 s, q = q0 ++ [s] := ⟨q.dropLast, q.getLast hne, (List.dropLast_concat_getLast hne).symm⟩
          have hk0 : k ≠ 0 := fun e => by subst e; have h := congrArg Prod.snd HQ.out; cases h
          obtain ⟨kp, rfl⟩ : ∃ kp, k = kp + 1 := ⟨k - 1, by omega⟩
          have hk1 : kp < E.length := by rw [HEN.out]; omega
          obtain ⟨gE, rfl, hrow⟩ := HRE.out (fun e => by rw [e] at hk1; exact absurd hk1 (Nat.not_lt_zero _))
          have R := hrow.ext hx2
          have e0 := R.c0 hk1; have e1 := R.c1 hk1; have e2 := R.c2 hk1; have e3 := R.c3 hk1
          have HF := Lib.hid (scan_closes HQ.out HBOTH.out)
          have hcl : clS E s (kp + 1) = ⟨s.hf, true, s.f, E[kp]⟩ := by
            unfold clS
            rw [Nat.add_sub_cancel, getD_ver hk1]
          rw [hcl] at HF
          rw [List.length_append, List.length_singleton] at hown2 hql
          obtain ⟨gR, cR, rfl, hgR, hgB, hgc, _⟩ := own_form hown2 (by omega)
          have y1 := own_cell hown2 (last_get q0 s 1 _ rfl); have y6 := own_cell hown2 (last_get q0 s 6 _ rfl); have y7 := own_cell hown2 (last_get q0 s 7 _ rfl); have y8 := own_cell hown2 (last_get q0 s 8 _ rfl); have y9 := own_cell hown2 (last_get q0 s 9 _ rfl)
          have z1 := own_free hown2 (q0.length * 10 + 1); have z6 := own_free hown2 (q0.length * 10 + 6); have z7 := own_free hown2 (q0.length * 10 + 7); have z8 := own_free hown2 (q0.length * 10 + 8); have z9 := own_free hown2 (q0.length * 10 + 9)
          have hll : q0.length * 10 + 9 < ((q0 ++ [s]).flatMap spC).length := by rw [flat_length, List.length_append, List.length_singleton]; omega
          have hown9 := own_setAt (own_setAt (own_setAt (own_setAt (own_setAt hown2 (i := q0.length * 10 + 1) (by omega) (.bool true)) (i := q0.length * 10 + 6) (by rw [List.length_set]; omega) (.int .i64 E[kp].a1)) (i := q0.length * 10 + 7) (by rw [List.length_set, List.length_set]; omega) (.int .i64 E[kp].a2)) (i := q0.length * 10 + 8) (by rw [List.length_set, List.length_set, List.length_set]; omega) (.int .i64 E[kp].a3)) (i := q0.length * 10 + 9) (by rw [List.length_set, List.length_set, List.length_set, List.length_set]; omega) (.string E[kp].a)
          rw [close_last] at hown9
          generalize E[kp] = v at *
          obtain ⟨v1, v2, v3, va⟩ := v
          dsimp only at e0 e1 e2 e3 hown9
          have HOWN9 := Lib.hid hown9
          have g1 := lt_of_cell e0
          have i1 : (kp : Int) < (EN : Int) := by omega
          have i2 : (0 : Int) ≤ (kp : Int) + 1 := by omega
          have i3 : ((kp : Int) + 1).toNat = kp + 1 := by omega
          have i4 : (q0.length : Int) ≤ 100 := by omega
          have cO2 := bO2.cell; have lO2 := bO2.lt
          clear hown hown9 R hrow hll bO hcl hne
          rcases hpab with rfl | rfl
          · go_wp2
            go_roundg (EN + 1 - (kp + 1 + 1))
            case rel => exact ⟨kp + 1 + 1, _, q0 ++ [(⟨s.hf, true, s.f, ⟨v1, v2, v3, va⟩⟩ : Sp)], false, by omega, Nat.le_refl _, by go_num, rfl, HF.out, by rw [List.length_append, List.length_singleton]; omega, ((((bO2.far (show w1.heap.size ≠ gR by omega) _).far (show w1.heap.size ≠ gR by omega) _).far (show w1.heap.size ≠ gR by omega) _).far (show w1.heap.size ≠ gR by omega) _).far (show w1.heap.size ≠ gR by omega) _, by rw [List.length_append, List.length_singleton]; exact HOWN9.out, ((((hx2.setCell (by show w1.heap.size ≤ gR; omega) _).setCell (by show w1.heap.size ≤ gR; omega) _).setCell (by show w1.heap.size ≤ gR; omega) _).setCell (by show w1.heap.size ≤ gR; omega) _).setCell (by show w1.heap.size ≤ gR; omega) _⟩
            case measure => omega
          · cases pa
            all_goals
              go_wp2
              go_roundg (EN + 1 - (kp + 1 + 1))
              case rel => exact ⟨kp + 1 + 1, _, q0 ++ [(⟨s.hf, true, s.f, ⟨v1, v2, v3, va⟩⟩ : Sp)], false, by omega, Nat.le_refl _, by go_num, rfl, HF.out, by rw [List.length_append, List.length_singleton]; omega, ((((bO2.far (show w1.heap.size ≠ gR by omega) _).far (show w1.heap.size ≠ gR by omega) _).far (show w1.heap.size ≠ gR by omega) _).far (show w1.heap.size ≠ gR by omega) _).far (show w1.heap.size ≠ gR by omega) _, by rw [List.length_append, List.length_singleton]; exact HOWN9.out, ((((hx2.setCell (by show w1.heap.size ≤ gR; omega) _).setCell (by show w1.heap.size ≤ gR; omega) _).setCell (by show w1.heap.size ≤ gR; omega) _).setCell (by show w1.heap.size ≤ gR; omega) _).setCell (by show w1.heap.size ≤ gR; omega) _⟩
              case measure => omega
      · rw [hpp] at HBOTH
        obtain ⟨rfl, rfl⟩ := and_yes hpp
        cases o
        · have HF := Lib.hid (scan_opens HQ.out HBOTH.out)
          have bS := Blk.new (wo.alloc (.cells #[.bool true, .bool true] 175)) 127 #[.bool false, .bool false, .int .i64 0, .int .i64 0, .int .i64 0, .string ⟨#[]⟩, .int .i64 0, .int .i64 0, .int .i64 0, .string ⟨#[]⟩]
          rw [World.size_alloc] at bS
          rcases Nat.eq_zero_or_pos k with hk0 | hk0
          · subst hk0
            have hop : opS E 0 = ⟨false, false, zeroV, zeroV⟩ := rfl
            rw [hop] at HF
            have hxA : Ext (wo.alloc (.cells #[.bool true, .bool true] 175)) ((wo.alloc (.cells #[.bool true, .bool true] 175)).alloc (.cells #[.bool false, .bool false, .int .i64 0, .int .i64 0, .int .i64 0, .string ⟨#[]⟩, .int .i64 0, .int .i64 0, .int .i64 0, .string ⟨#[]⟩] 127)) := (Ext.refl _).alloc _
            have bO3 := bO2.ext hxA
            have hown3 := own_ext hown2 hxA
            have hx3 := hx2.trans hxA
            have hsz3 : w1.heap.size + 1 ≤ ((wo.alloc (.cells #[.bool true, .bool true] 175)).alloc (.cells #[.bool false, .bool false, .int .i64 0, .int .i64 0, .int .i64 0, .string ⟨#[]⟩, .int .i64 0, .int .i64 0, .int .i64 0, .string ⟨#[]⟩] 127)).heap.size := by rw [World.size_alloc, World.size_alloc]; omega
            have cS := bS.cell; have lS := bS.lt
            have cO3 := bO3.cell; have lO3 := bO3.lt
            rw [Nat.zero_mul] at x0 x1
            rw [Nat.zero_add] at x1
            clear hown hown2 bO hop
            go_wp2_with (at_builtin; refine wpList_app1f _ _ _ rfl _ _ 49 rfl (.agg #[.bool false, .bool false, .int .i64 0, .int .i64 0, .int .i64 0, .string ⟨#[]⟩, .int .i64 0, .int .i64 0, .int .i64 0, .string ⟨#[]⟩]) 10 88 Tryz.underlying49 info_span rfl (by decide) (by decide) (w1.heap.size + 1) _ q.length _ rfl hown3 _ _ rfl (by simp) rfl (by simp [Value.oneCell']) (by omega) hsz3 ?_; intro v' w5 hown5 hx5 hb5 hn5; (obtain ⟨g5, c5, hv5, _, _, _, _⟩ := own_form hown5 (by omega)); clear hn5; subst hv5; have bO5 := hb5 _ _ _ bO3 (fun e => by have := (hown3.lt _ e).1; omega); have b5c := bO5.cell; have b5f := bO5.free; have b5l := bO5.lt)
            go_roundg (EN + 1 - (0 + 1))
            case rel => exact ⟨1, _, q ++ [(⟨false, false, zeroV, zeroV⟩ : Sp)], true, by omega, Nat.le_refl _, rfl, rfl, HF.out, by rw [List.length_append, List.length_singleton]; omega, bO5.set 0 _, by rw [List.length_append, List.flatMap_append]; exact ownsRow_setCell_below hown5 (by show w1.heap.size < w1.heap.size + 1; omega) _, (hx5 _ hx3 (by omega)).setCell (Nat.le_refl _) _⟩
            case measure => omega
          · obtain ⟨kp, rfl⟩ : ∃ kp, k = kp + 1 := ⟨k - 1, by omega⟩
            have hk1 : kp < E.length := by rw [HEN.out]; omega
            obtain ⟨gE, rfl, hrow⟩ := HRE.out (fun e => by rw [e] at hk1; exact absurd hk1 (Nat.not_lt_zero _))
            have R := hrow.ext hxr
            have e0 := R.c0 hk1; have e1 := R.c1 hk1; have e2 := R.c2 hk1; have e3 := R.c3 hk1
            have hop : opS E (kp + 1) = ⟨true, false, E[kp], zeroV⟩ := by
              unfold opS
              rw [if_pos (by omega), Nat.add_sub_cancel, getD_ver hk1, decide_eq_true (by omega : 0 < kp + 1)]
            rw [hop] at HF
            generalize E[kp] = v at *
            obtain ⟨v1, v2, v3, va⟩ := v
            dsimp only at e0 e1 e2 e3
            have g1 := lt_of_cell e0
            have i1 : (kp : Int) < (EN : Int) := by omega
            have i2 : (0 : Int) ≤ (kp : Int) + 1 := by omega
            have i3 : ((kp : Int) + 1).toNat = kp + 1 := by omega
            have hwp : IntKind.i64.wrap (kp : Int) = (kp : Int) := by rw [IntKind.wrap_i64]; omega
            have hpos : (0 : Int) < (kp : Int) + 1 := by omega
            have cS := bS.cell; have lS := bS.lt; have fS := bS.free
            have cO2 := bO2.cell; have lO2 := bO2.lt
            clear hown R hrow bO hop
            go_wp2
            go_region
            all_goals
              have bS6 := Blk.new (wo.alloc (.cells #[.bool true, .bool true] 175)) 127 #[.bool true, .bool false, .int .i64 v1, .int .i64 v2, .int .i64 v3, .string va, .int .i64 0, .int .i64 0, .int .i64 0, .string ⟨#[]⟩]
              rw [World.size_alloc] at bS6
              have hxA : Ext (wo.alloc (.cells #[.bool true, .bool true] 175)) (((wo.alloc (.cells #[.bool true, .bool true] 175)).alloc (.cells #[.bool true, .bool false, .int .i64 v1, .int .i64 v2, .int .i64 v3, .string va, .int .i64 0, .int .i64 0, .int .i64 0, .string ⟨#[]⟩] 127)).drew) := ((Ext.refl _).alloc _).drew
              have bS7 := Blk.drew bS6
              have bO3 := bO2.ext hxA
              have hown3 := own_ext hown2 hxA
              have hx3 := hx2.trans hxA
              have hsz3 := Nat.le_trans (show w1.heap.size + 1 ≤ (wo.alloc (.cells #[.bool true, .bool true] 175)).heap.size by rw [World.size_alloc]; omega) hxA.size
              have cS6 := bS7.cell; have lS6 := bS7.lt
              have cO3 := bO3.cell; have lO3 := bO3.lt
              clear hwp hown2 cS lS fS cO2 lO2 hxA e0 e1 e2 e3 g1 bS6 bS7 bS bO2 hx2 x0 x1 gl bX cX lX
              generalize ((wo.alloc (.cells #[.bool true, .bool true] 175)).alloc (.cells #[.bool true, .bool false, .int .i64 v1, .int .i64 v2, .int .i64 v3, .string va, .int .i64 0, .int .i64 0, .int .i64 0, .string ⟨#[]⟩] 127)).drew = W6 at *
              go_wp2_with (at_builtin; refine wpList_app1f _ _ _ rfl _ _ 49 rfl (.agg #[.bool false, .bool false, .int .i64 0, .int .i64 0, .int .i64 0, .string ⟨#[]⟩, .int .i64 0, .int .i64 0, .int .i64 0, .string ⟨#[]⟩]) 10 88 Tryz.underlying49 info_span rfl (by decide) (by decide) (w1.heap.size + 1) _ q.length _ rfl hown3 _ _ rfl (by first | rfl | simp) rfl (by simp [Value.oneCell']) (by omega) hsz3 ?_; intro v' w5 hown5 hx5 hb5 hn5; (obtain ⟨g5, c5, hv5, _, _, _, _⟩ := own_form hown5 (by omega)); clear hn5; subst hv5; have bO5 := hb5 _ _ _ bO3 (fun e => by have := (hown3.lt _ e).1; omega); have b5c := bO5.cell; have b5f := bO5.free; have b5l := bO5.lt)
              go_roundg (EN + 1 - (kp + 1 + 1))
              case rel => exact ⟨kp + 1 + 1, _, q ++ [(⟨true, false, ⟨v1, v2, v3, va⟩, zeroV⟩ : Sp)], true, by omega, Nat.le_refl _, by go_num, rfl, HF.out, by rw [List.length_append, List.length_singleton]; omega, bO5.set 0 _, by rw [List.length_append, List.flatMap_append]; exact ownsRow_setCell_below hown5 (by show w1.heap.size < w1.heap.size + 1; omega) _, (hx5 _ hx3 (by omega)).setCell (Nat.le_refl _) _⟩
              case measure => omega
        · have HF := Lib.hid (HSAME.out HBOTH.out)
          go_wp2
          go_roundg (EN + 1 - (k + 1))
          case rel => exact ⟨k + 1, sv, q, true, by omega, Nat.le_refl _, by go_num, rfl, HF.out, by omega, bO2, hown2, hx2⟩
          case measure => omega
    · obtain rfl : k = EN + 1 := by omega
      have hq : q = commonS la lb := by have h := congrArg Prod.fst HQ.out; rw [HSC.out] at h; exact h
      subst hq
      obtain ⟨A2, c2, rfl, hrd⟩ := rds_own hown rfl
      have HOWN := Lib.hid hown
      generalize commonS la lb = q at *
      have cO := bO.cell; have lO := bO.lt
      have bRr := bR1.ext hxr
      have cR := bRr.cell; have fR := bRr.free; have lR := bRr.lt
      have hxx := hxw.trans hxr
      clear hown hrd HQ HSC
      go_wp2
      refine bodyPost_ret (v := .agg #[.slice A2 q.length c2]) (by simp [results, Tryz.results54, go_sem, cR]) rfl ?_
      have hwl : w.heap.size + 1 + 1 < w1.heap.size + 1 := by omega
      refine ⟨A2, c2, rfl, ?_, (by repeat (first | with_reducible exact Ext.refl _ | with_reducible assumption | with_reducible apply Ext.drewN | with_reducible apply Ext.drew | with_reducible apply Ext.alloc | ((with_reducible refine Ext.setCell ?_ ?_ _); rotate_left; (first | (dsimp only; omega) | (simp; omega) | skip)) | exact Ext.refl _ | assumption | apply Ext.drewN | apply Ext.drew | apply Ext.alloc | refine Ext.setCell ?_ (by first | (dsimp only; omega) | (simp; omega)) _))⟩
      obtain ⟨A', c', e, hrd'⟩ := rds_own (ownsRow_setCell_below HOWN.out (a := ⟨w.heap.size + 1 + 1, 0, none⟩) hwl (.slice A2 q.length c2)) rfl
      injection e with e
      rw [← e] at hrd'
      exact hrd'
end Go.Proofs.YtcmceeihdhcmnaaGreatDoor
