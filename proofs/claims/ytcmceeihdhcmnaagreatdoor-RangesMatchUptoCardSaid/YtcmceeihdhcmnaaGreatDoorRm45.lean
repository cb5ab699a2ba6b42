/- Contract of outref2.segments: the walk. -/
import Derived.Deep.AppendLies
import Derived.Test.YtcmceeihdhcmnaaGreatDoorRm44

namespace Go.Proofs.YtcmceeihdhcmnaaGreatDoor
open Go.RowKit

abbrev inBk (g : Nat) (k : Nat) : Prop := k = g
set_option maxHeartbeats 16000000 in
set_option maxRecDepth 100000 in
theorem segments_any (A B : Option Addr) (n c m d : Nat) (la lb : List Sp) (w : World) (hg : GoodN w) (hn : la.length = n) (ra : RdS w A la) (sa : SmallS la) (hm : lb.length = m) (rb : RdS w B lb) (sb : SmallS lb) (oa : rngErr la = 0) (ob : rngErr lb = 0) :
    Calls Tryz.prog 119 #[.agg #[.slice A n c], .agg #[.slice B m d]] w (SegPost la lb w) := by
  have hn10 : n ≤ 10 := by rw [← hn]; exact (rng_ok oa).1
  have hm10 : m ≤ 10 := by rw [← hm]; exact (rng_ok ob).1
  have hright : Right (endsOf (la ++ lb)) := by
    rw [ends_append]
    intro v hv
    rcases List.mem_append.1 hv with h | h
    · exact ends_right oa sa v h
    · exact ends_right ob sb v h
  have hlen : (la ++ lb).length = n + m := by rw [List.length_append, hn, hm]
  have hel := ends_len (la ++ lb)
  have HRIGHT := Lib.hid hright
  have HLEN := Lib.hid hlen
  have HEND := Lib.hid (ends_append la lb)
  have CA := Lib.hid (fun ge (E : List V4) A2 c2 kk W (h : Ext w W) hE hk hkb hr ce => has_at A A2 n c c2 kk ge E la W (hg.ext h) hn (ra.ext h) sa (by omega) oa hE hk hkb hr ce)
  have CB := Lib.hid (fun ge (E : List V4) A2 c2 kk W (h : Ext w W) hE hk hkb hr ce => has_at B A2 m d c2 kk ge E lb W (hg.ext h) hm (rb.ext h) sb (by omega) ob hE hk hkb hr ce)
  have CC := Lib.hid (fun g W (h : Ext w W) c0 c1 => ConcatS_any A B n c m d la lb g 2 W hn (ra.ext h) (by omega) hm (rb.ext h) (by omega) c0 c1)
  clear hn hm ra rb sa sb oa ob hright
  have bL := Blk.new (((w.alloc (.cells #[.slice A n c] 51)).alloc (.cells #[.slice B m d] 51)).alloc (.cells #[.slice none 0 0] 81)) 49 #[.slice A n c, .slice B m d]
  have bA := (((Blk.new w 51 #[.slice A n c]).alloc (.cells #[.slice B m d] 51)).alloc (.cells #[.slice none 0 0] 81)).alloc (.cells #[.slice A n c, .slice B m d] 49)
  have bB := ((Blk.new (w.alloc (.cells #[.slice A n c] 51)) 51 #[.slice B m d]).alloc (.cells #[.slice none 0 0] 81)).alloc (.cells #[.slice A n c, .slice B m d] 49)
  have bE := (Blk.new ((w.alloc (.cells #[.slice A n c] 51)).alloc (.cells #[.slice B m d] 51)) 81 #[.slice none 0 0]).alloc (.cells #[.slice A n c, .slice B m d] 49)
  rw [World.size_alloc, World.size_alloc, World.size_alloc] at bL
  rw [World.size_alloc] at bB
  rw [World.size_alloc, World.size_alloc] at bE
  have hx0 : Ext w ((((w.alloc (.cells #[.slice A n c] 51)).alloc (.cells #[.slice B m d] 51)).alloc (.cells #[.slice none 0 0] 81)).alloc (.cells #[.slice A n c, .slice B m d] 49)) := ((((Ext.refl w).alloc _).alloc _).alloc _).alloc _
  have lL := bL.lt
  go_enter Tryz.func119, Tryz.ntmps119
  go_wp2_with fail
  refine (CC.out _ _ hx0 (by rw [bL.cell]; rfl) (by rw [bL.cell]; rfl)).mono ?_
  rintro e w1 ⟨C, cc, rfl, hrd, hbase, hx1⟩
  have hxw : Ext w w1 := hx0.trans hx1
  have bA1 := bA.ext hx1; have bB1 := bB.ext hx1; have bE1 := bE.ext hx1
  have HBASE := Lib.hid hbase
  have hge1 : w.heap.size + 1 + 1 < w1.heap.size := bE1.lt
  have hge2 : ∀ b o, C = some ⟨b, o, none⟩ → w.heap.size + 1 + 1 ≠ b := fun b o e => by
    have := hbase b o e
    omega
  have HGE2 := Lib.hid hge2
  generalize hL : la ++ lb = L at *
  have HL := Lib.hid hL
  have HRD := Lib.hid hrd
  clear bL bA bB bE hx0 hx1 CC lL hbase hge2 hL hrd
  have lE1 := bE1.lt
  go_wp2
  go_loopg [17] (n + m) (fun gg i wr => ∃ (k : Nat) (sv : Value) (q : List V4), k ≤ n + m ∧ n + m - k ≤ gg ∧ i = .int .i64 k ∧ Hid (q = endsOf (L.take k)) ∧ q.length ≤ 2 * k ∧ Blk wr (w.heap.size + 1 + 1) 81 #[sv] ∧ wr.ownsRow w1.heap.size 35 4 sv q.length (q.flatMap vC) ∧ ExtC (inBk (w.heap.size + 1 + 1)) w1 wr)
  case atStart => exact ⟨0, .slice none 0 0, [], Nat.zero_le _, by omega, rfl, rfl, Nat.le_refl _, bE1, World.ownsRow_nil _ _ _ _, ExtC.refl _ _⟩
  case round =>
    obtain ⟨k, sv, q, hk, hgk, rfl, HQ, hql, bEr, hown, hxc⟩ := hrel
    have hsz1 := hxc.size
    by_cases hlt : k < n + m
    · have hk1 : k < L.length := by rw [HLEN.out]; exact hlt
      obtain ⟨b, o, rfl, hX⟩ := HRD.out (fun e => by rw [e] at hk1; exact absurd hk1 (Nat.not_lt_zero _))
      have X := hX.extC hxc (fun e => HGE2.out b o rfl e.symm)
      have x0 := X.c0 k hk1; have x1 := X.c1 k hk1; have x2 := X.c2 k hk1; have x3 := X.c3 k hk1; have x4 := X.c4 k hk1
      have x5 := X.c5 k hk1; have x6 := X.c6 k hk1; have x7 := X.c7 k hk1; have x8 := X.c8 k hk1; have x9 := X.c9 k hk1
      have HNX := Lib.hid (ends_succ L k hk1)
      clear X hX
      generalize L[k] = s at *
      obtain ⟨hf, ht, ⟨f1, f2, f3, fa⟩, ⟨t1, t2, t3, ta⟩⟩ := s
      dsimp only at x0 x1 x2 x3 x4 x5 x6 x7 x8 x9 HNX
      have bS := Blk.new wr 127 #[.bool hf, .bool ht, .int .i64 f1, .int .i64 f2, .int .i64 f3, .string fa, .int .i64 t1, .int .i64 t2, .int .i64 t3, .string ta]
      have bEs := bEr.alloc (.cells #[.bool hf, .bool ht, .int .i64 f1, .int .i64 f2, .int .i64 f3, .string fa, .int .i64 t1, .int .i64 t2, .int .i64 t3, .string ta] 127)
      have hos := hown.alloc (.cells #[.bool hf, .bool ht, .int .i64 f1, .int .i64 f2, .int .i64 f3, .string fa, .int .i64 t1, .int .i64 t2, .int .i64 t3, .string ta] 127)
      have hxs := hxc.alloc (.cells #[.bool hf, .bool ht, .int .i64 f1, .int .i64 f2, .int .i64 f3, .string fa, .int .i64 t1, .int .i64 t2, .int .i64 t3, .string ta] 127)
      have HNE := Lib.hid (show sv.ownBlock ≠ some wr.heap.size from fun e => absurd (hown.lt _ e).2 (Nat.lt_irrefl _))
      have HNG := Lib.hid (show sv.ownBlock ≠ some (w.heap.size + 1 + 1) from fun e => by have := (hown.lt _ e).1; omega)
      have hszs : w1.heap.size ≤ (wr.alloc (.cells #[.bool hf, .bool ht, .int .i64 f1, .int .i64 f2, .int .i64 f3, .string fa, .int .i64 t1, .int .i64 t2, .int .i64 t3, .string ta] 127)).heap.size := by rw [World.size_alloc]; omega
      have cS := bS.cell; have lS := bS.lt
      have cE := bEs.cell; have lE := bEs.lt; have fE := bEs.free
      clear hown bEr
      cases hf
      · cases ht
        · simp only [Bool.false_eq_true, if_false, List.append_nil] at HNX
          go_wp2
          go_roundg (n + m - (k + 1))
          case rel => exact ⟨k + 1, sv, q, by omega, Nat.le_refl _, by go_num, by show q = _; rw [HNX.out]; exact HQ.out, by omega, bEs, hos, hxs⟩
          case measure => omega
        · simp only [Bool.false_eq_true, if_false, if_true, List.nil_append] at HNX
          go_wp2_with (at_builtin; refine wpList_app1f _ _ _ rfl _ _ 81 rfl (.agg #[.int .i64 0, .int .i64 0, .int .i64 0, .string ⟨#[]⟩]) 4 40 Tryz.underlying81 info_ver rfl (by decide) (by decide) w1.heap.size _ q.length _ rfl hos _ _ rfl (by simp) rfl (by simp [Value.oneCell']) (by omega) hszs ?_; intro v' w5 hown5 hx5 hb5 hn5; (obtain ⟨g5, c5, hv5, _, _, _, _⟩ := own_form hown5 (by omega)); have HN5 := Lib.hid hn5; clear hn5; subst hv5; have bE5 := hb5 _ _ _ bEs HNG.out; have hx5c := ext_low hx5 (Nat.le_refl _) hszs hxs; have cE5 := bE5.cell; have fE5 := bE5.free; have lE5 := bE5.lt)
          go_roundg (n + m - (k + 1))
          case rel => exact ⟨k + 1, _, q ++ [⟨t1, t2, t3, ta⟩], by omega, Nat.le_refl _, by go_num, by show _ = _; rw [HNX.out, ← HQ.out], by rw [List.length_append, List.length_singleton]; omega, bE5.set 0 _, by rw [List.length_append, List.flatMap_append]; exact ownsRow_setCell_below hown5 (by show w.heap.size + 1 + 1 < w1.heap.size; omega) _, hx5c.set (.inl rfl) _⟩
          case measure => omega
      · cases ht
        · simp only [Bool.false_eq_true, if_false, if_true, List.append_nil] at HNX
          go_wp2_with (at_builtin; refine wpList_app1f _ _ _ rfl _ _ 81 rfl (.agg #[.int .i64 0, .int .i64 0, .int .i64 0, .string ⟨#[]⟩]) 4 40 Tryz.underlying81 info_ver rfl (by decide) (by decide) w1.heap.size _ q.length _ rfl hos _ _ rfl (by simp) rfl (by simp [Value.oneCell']) (by omega) hszs ?_; intro v' w5 hown5 hx5 hb5 hn5; (obtain ⟨g5, c5, hv5, _, _, _, _⟩ := own_form hown5 (by omega)); have HN5 := Lib.hid hn5; clear hn5; subst hv5; have bE5 := hb5 _ _ _ bEs HNG.out; have bS5 := hb5 _ _ _ bS HNE.out; have hx5c := ext_low hx5 (Nat.le_refl _) hszs hxs; have cE5 := bE5.cell; have fE5 := bE5.free; have lE5 := bE5.lt; have bS6 := bS5.far (p := ⟨w.heap.size + 1 + 1, 0, none⟩) (show wr.heap.size ≠ w.heap.size + 1 + 1 by omega) (.slice (some ⟨g5, 0, none⟩) (q.length + 1) c5); have cS6 := bS6.cell; have lS6 := bS6.lt)
          go_roundg (n + m - (k + 1))
          case rel => exact ⟨k + 1, _, q ++ [⟨f1, f2, f3, fa⟩], by omega, Nat.le_refl _, by go_num, by show _ = _; rw [HNX.out, ← HQ.out], by rw [List.length_append, List.length_singleton]; omega, bE5.set 0 _, by rw [List.length_append, List.flatMap_append]; exact ownsRow_setCell_below hown5 (by show w.heap.size + 1 + 1 < w1.heap.size; omega) _, hx5c.set (.inl rfl) _⟩
          case measure => omega
        · simp only [if_true] at HNX
          go_wp2_with (first
            | (at_builtin; refine wpList_app1f _ _ _ rfl _ _ 81 rfl (.agg #[.int .i64 0, .int .i64 0, .int .i64 0, .string ⟨#[]⟩]) 4 40 Tryz.underlying81 info_ver rfl (by decide) (by decide) w1.heap.size _ q.length _ rfl hos _ _ rfl (by simp) rfl (by simp [Value.oneCell']) (by omega) hszs ?_; intro v' w5 hown5 hx5 hb5 hn5; (obtain ⟨g5, c5, hv5, _, _, _, _⟩ := own_form hown5 (by omega)); have HN5 := Lib.hid hn5; clear hn5; subst hv5; have bE5 := hb5 _ _ _ bEs HNG.out; have bS5 := hb5 _ _ _ bS HNE.out; have hx5c := ext_low hx5 (Nat.le_refl _) hszs hxs; have cE5 := bE5.cell; have fE5 := bE5.free; have lE5 := bE5.lt; have bS6 := bS5.far (p := ⟨w.heap.size + 1 + 1, 0, none⟩) (show wr.heap.size ≠ w.heap.size + 1 + 1 by omega) (.slice (some ⟨g5, 0, none⟩) (q.length + 1) c5); have cS6 := bS6.cell; have lS6 := bS6.lt; have bE6 := bE5.set 0 (.slice (some ⟨g5, 0, none⟩) (q.length + 1) c5); have hown6 := ownsRow_setCell_below hown5 (a := ⟨w.heap.size + 1 + 1, 0, none⟩) (show w.heap.size + 1 + 1 < w1.heap.size by omega) (.slice (some ⟨g5, 0, none⟩) (q.length + 1) c5); have hx6c := hx5c.set (p := ⟨w.heap.size + 1 + 1, 0, none⟩) (.inl rfl) (.slice (some ⟨g5, 0, none⟩) (q.length + 1) c5); have hsz6 := hx6c.size)
            | (at_builtin; refine wpList_app1f _ _ _ rfl _ _ 81 rfl (.agg #[.int .i64 0, .int .i64 0, .int .i64 0, .string ⟨#[]⟩]) 4 40 Tryz.underlying81 info_ver rfl (by decide) (by decide) w1.heap.size _ (q.length + 1) _ rfl hown6 _ _ rfl (by simp) rfl (by simp [Value.oneCell']) (by omega) hsz6 ?_; intro v' w7 hown7 hx7 hb7 hn7; (obtain ⟨g7, c7, hv7, _, _, _, _⟩ := own_form hown7 (by omega)); clear hn7; subst hv7; have bE7 := hb7 _ _ _ bE6 (fun e => by have := (hown6.lt _ e).1; omega); have hx7c := ext_low hx7 (Nat.le_refl _) hsz6 hx6c; have cE7 := bE7.cell; have fE7 := bE7.free; have lE7 := bE7.lt))
          go_roundg (n + m - (k + 1))
          case rel => exact ⟨k + 1, _, q ++ ([⟨f1, f2, f3, fa⟩] ++ [⟨t1, t2, t3, ta⟩]), by omega, Nat.le_refl _, by go_num, by show _ = _; rw [HNX.out, ← HQ.out], by simp; omega, bE7.set 0 _, by
            have h := ownsRow_setCell_below hown7 (a := ⟨w.heap.size + 1 + 1, 0, none⟩) (show w.heap.size + 1 + 1 < w1.heap.size by omega) (.slice (some ⟨g7, 0, none⟩) (q.length + 1 + 1) c7)
            rw [List.append_assoc] at h
            rw [List.length_append, List.flatMap_append]
            exact h, hx7c.set (.inl rfl) _⟩
          case measure => omega
    · obtain rfl : k = n + m := by omega
      have hq : q = endsOf L := by have h := HQ.out; rw [← HLEN.out, List.take_length] at h; exact h
      have HQP := Lib.hid (show Right q ∧ (∀ v ∈ endsOf la, v ∈ q) ∧ (∀ v ∈ endsOf lb, v ∈ q) by
        rw [hq]
        exact ⟨HRIGHT.out, fun v h => by rw [HEND.out]; exact List.mem_append_left _ h, fun v h => by rw [HEND.out]; exact List.mem_append_right _ h⟩)
      clear hq
      obtain ⟨A', c', rfl, hrq, hqc, hAb⟩ := rdr_own hown rfl
      have hxe : Ext w wr := ExtC.ext hxw hxc (fun i e => by rw [e]; omega)
      have hAw : ∀ g, InRow A' g → w.heap.size ≤ g := fun g h => Nat.le_trans hxw.size (hAb g h)
      have hAn : ¬ InRow A' (w.heap.size + 1 + 1) := fun h => by have := hAb _ h; omega
      have hAn0 : ¬ InRow A' w.heap.size := fun h => by have := hAb _ h; omega
      have hAn1 : ¬ InRow A' (w.heap.size + 1) := fun h => by have := hAb _ h; omega
      have hql4 : q.length ≤ 40 := by omega
      have CS := Lib.hid (SortR_any A' c' q w wr hg hxe hAw hrq (by omega) HQP.out.1)
      have bAr := bA1.extC hxc (show ¬ w.heap.size = w.heap.size + 1 + 1 by omega)
      have bBr := bB1.extC hxc (show ¬ w.heap.size + 1 = w.heap.size + 1 + 1 by omega)
      have HAW := Lib.hid hAw; have HAN := Lib.hid hAn; have HAN0 := Lib.hid hAn0; have HAN1 := Lib.hid hAn1
      have cE := bEr.cell; have lE := bEr.lt
      clear hrq hAb hown hAw hAn hAn0 hAn1 hxc HQ bE1 bA1 bB1
      obtain ⟨wo, rfl⟩ : ∃ wo : World, wo = wr := ⟨_, rfl⟩
      go_wp2_with fail
      refine CS.out.mono ?_
      rintro e w5 ⟨rfl, l', hp, hs, hr5, hx5⟩
      have hxe5 : Ext w w5 := ExtC.ext hxe hx5 HAW.out
      have bE5 := bEr.extC hx5 HAN.out; have bA5 := bAr.extC hx5 HAN0.out; have bB5 := bBr.extC hx5 HAN1.out
      have hr5r : Right l' := fun v h => HQP.out.1 v (hp.mem_iff.1 h)
      have cK := CompactR_any A' c' l' w w5 hg hxe5 HAW.out hr5 (by rw [hp.length_eq]; omega) (by rw [hp.length_eq]; exact hqc) hr5r
      have hris := cpt_rising hs l'.length (Nat.le_refl _)
      have hcl := cpt_length l' l'.length
      have HE := Lib.hid (show Rising (cptN l' l'.length) ∧ (∀ v ∈ endsOf la, v ∈ cptN l' l'.length) ∧ (∀ v ∈ endsOf lb, v ∈ cptN l' l'.length) ∧ Right (cptN l' l'.length) by
        obtain ⟨h1, h2, h3, _⟩ := hris
        rw [List.take_length] at h2
        exact ⟨h1, fun v h => h2 v (hp.mem_iff.2 (HQP.out.2.1 v h)), fun v h => h2 v (hp.mem_iff.2 (HQP.out.2.2 v h)), fun v h => hr5r v (h3 v h)⟩)
      generalize cptN l' l'.length = E at *
      rw [hp.length_eq] at cK hcl
      have CK := Lib.hid cK
      have cE5 := bE5.cell; have lE5 := bE5.lt
      clear cK hris hr5r hp hs hr5 hx5 cE lE CS HQP
      go_wp2_with fail
      refine CK.out.mono ?_
      rintro e w6 ⟨rfl, hr6, hx6⟩
      have hxe6 : Ext w w6 := ExtC.ext hxe5 hx6 HAW.out
      have bE6 := bE5.extC hx6 HAN.out; have bA6 := bA5.extC hx6 HAN0.out; have bB6 := bB5.extC hx6 HAN1.out
      obtain ⟨EN, hEN⟩ : ∃ EN, E.length = EN := ⟨_, rfl⟩
      have HEN := Lib.hid hEN
      rw [hEN] at hcl ⊢
      have bE7 := bE6.set 0 (.slice A' EN c')
      have bA7 := bA6.far (p := ⟨w.heap.size + 1 + 1, 0, none⟩) (show w.heap.size ≠ w.heap.size + 1 + 1 by omega) (.slice A' EN c')
      have bB7 := bB6.far (p := ⟨w.heap.size + 1 + 1, 0, none⟩) (show w.heap.size + 1 ≠ w.heap.size + 1 + 1 by omega) (.slice A' EN c')
      have hxe7 : Ext w (w6.setCell ⟨w.heap.size + 1 + 1, 0, none⟩ (.slice A' EN c')) := hxe6.setCell (by show w.heap.size ≤ w.heap.size + 1 + 1; omega) _
      have hr7 := hr6.far (a := ⟨w.heap.size + 1 + 1, 0, none⟩) (fun g h e => HAN.out (by have e : w.heap.size + 1 + 1 = g := e; rw [e]; exact h)) (.slice A' EN c')
      have cE6 := bE6.cell; have fE6 := bE6.free; have lE6 := bE6.lt
      have cE7 := bE7.cell; have lE7 := bE7.lt
      have HR7 := Lib.hid hr7
      have hENb : EN ≤ 40 := by omega
      clear hEN hr6 hr7 hx6 CK cE5 lE5 bE5 bA5 bB5
      have hszL : (w6.setCell ⟨w.heap.size + 1 + 1, 0, none⟩ (.slice A' EN c')).heap.size = w6.heap.size := by simp [World.setCell]
      have HSZL := Lib.hid hszL
      have e1 : (0 : Int) ≤ (EN : Int) + 1 := by omega
      clear hszL
      go_wp2
      go_loopg [5, 44] (EN + 1) (fun gg v i wr => ∃ k : Nat, k ≤ EN + 1 ∧ EN + 1 - k ≤ gg ∧ i = .int .i64 k ∧ wr.ownsRow w6.heap.size 175 2 v k (bitsC (hasAtL E la) (hasAtL E lb) k) ∧ Ext (w6.setCell ⟨w.heap.size + 1 + 1, 0, none⟩ (.slice A' EN c')) wr)
      case atStart => exact ⟨0, Nat.zero_le _, by omega, rfl, World.ownsRow_nil _ _ _ _, Ext.refl _⟩
      case round =>
        obtain ⟨k, hk, hgk2, rfl, hown, hxr⟩ := hrel
        have hxr2 := hxe7.trans hxr
        have bEr := bE7.ext hxr; have bAr2 := bA7.ext hxr; have bBr2 := bB7.ext hxr
        have cEr := bEr.cell; have lEr := bEr.lt; have fEr := bEr.free
        have cAr := bAr2.cell; have lAr := bAr2.lt; have cBr := bBr2.cell; have lBr := bBr2.lt
        by_cases hlt : k < EN + 1
        · have hce := bEr.cell 0
          simp at hce
          have cA := fun W (h : Ext wr W) => CA.out (w.heap.size + 1 + 1) E A' c' k W (hxr2.trans h) HE.out.2.2.2 (by rw [HEN.out]; omega) (by omega) ((HR7.out.ext hxr).ext h) (by rw [HEN.out]; exact h.cell hce)
          have cB := fun W (h : Ext wr W) => CB.out (w.heap.size + 1 + 1) E A' c' k W (hxr2.trans h) HE.out.2.2.2 (by rw [HEN.out]; omega) (by omega) ((HR7.out.ext hxr).ext h) (by rw [HEN.out]; exact h.cell hce)
          have HNX := Lib.hid (bits_succ (hasAtL E la) (hasAtL E lb) k)
          have hown0 := hown
          generalize hasAtL E la k = pa at *
          generalize hasAtL E lb k = pb at *
          have CA2 := Lib.hid cA; have CB2 := Lib.hid cB
          have hlt2 : (k : Int) < (EN : Int) + 1 := by omega
          clear cA cB hce
          go_wp2_with fail
          have sA := cAr 0; have sB := cBr 0
          simp at sA sB
          have hA7 := bA7.cell 0; have hB7 := bB7.cell 0
          simp at hA7 hB7
          obtain ⟨i0, hi0, hz0, hz1, hz2⟩ := info_parts info_two
          have xO : Ext wr wr.drew := (Ext.refl wr).drew
          go_region_held3 (fun w' => w'.cell? ⟨w.heap.size, 0, none⟩ = some (.slice A n c) ∧ w'.cell? ⟨w.heap.size + 1, 0, none⟩ = some (.slice B m d))
            (first | exact ⟨hx8.cell hA7, hx8.cell hB7⟩ | exact ⟨hxB.cell (hxA.cell sA), hxB.cell (hxA.cell sB)⟩ | exact ⟨hxA.cell (hxB.cell sA), hxA.cell (hxB.cell sB)⟩ | exact ⟨hxA.cell sA, hxA.cell sB⟩ | exact ⟨hxB.cell sA, hxB.cell sB⟩ | (go_keep; done))
            (first
              | (go_at_call 171; with_reducible refine (CA2.out _ ?_).mono ?_; (next => first | exact xO | exact xO.trans hxB); rintro e wA ⟨rfl, hxA⟩)
              | (go_at_call 171; with_reducible refine (CB2.out _ ?_).mono ?_; (next => first | exact xO | exact xO.trans hxA); rintro e wB ⟨rfl, hxB⟩)
              | (refine step_append_lies _ (by rfl) _ _ _ (by rfl) w6.heap.size 175 i0 _ 2 2 Tryz.underlying172 hi0 hz0 hz1 hz2 rfl (by omega) _ k _ (by rfl) ((own_ext hown ((xO.trans hxA).trans hxB)).alloc _) ⟨wB.heap.size, 0, none⟩ 1 1 [.bool pa, .bool pb] (by rfl) (by rfl) (World.news_of_block (cs := #[.bool pa, .bool pb]) (t := 175) (fr := (0, 0)) (heap_alloc_new wB _)) (by simp [Value.oneCell']) (by omega) (by simp only [maxLen]; omega) (by omega) (by rw [World.size_alloc]; have h1 := ((xO.trans hxA).trans hxB).size; have h2 := hxr.size; rw [HSZL.out] at h2; omega) (wB.heap.size + 1) (by simp) ?_; intro gN cN w8 hown8 hgrow hat hlt8; have hx8 := ((((hxr.trans xO).trans hxA).trans hxB).alloc (.cells #[.bool pa, .bool pb] 175)).grown ((own_ext hown ((xO.trans hxA).trans hxB)).alloc (.cells #[.bool pa, .bool pb] 175)) (by rw [HSZL.out]; exact Nat.le_refl _) hgrow))
          clear hgrow hat hA7 hB7
          go_wp2
          go_roundg (EN + 1 - (k + 1))
          case rel => exact ⟨k + 1, by omega, Nat.le_refl _, by go_num, by rw [HNX.out]; exact hown8, hx8⟩
          case measure => omega
        · obtain rfl : k = EN + 1 := by omega
          obtain ⟨g2, d2, rfl, hg2, hrow⟩ := rowB_own hown (by omega)
          have HROW := Lib.hid hrow
          clear hown hrow
          have hl6 : w.heap.size + 1 + 1 < g2 := by omega
          go_wp2
          refine bodyPost_ret (v := .tuple #[.slice A' EN c', .slice (some ⟨g2, 0, none⟩) (EN + 1) d2]) (by simp [results, Tryz.results119, go_sem, cEr]) rfl ?_
          refine ⟨A', c', g2, d2, EN, E, rfl, HEN.out, by omega, (HR7.out.ext hxr).far (a := ⟨w.heap.size + 1 + 1, 0, none⟩) (fun g h e => HAN.out (by have e : w.heap.size + 1 + 1 = g := e; rw [e]; exact h)) _, HROW.out.far (a := ⟨w.heap.size + 1 + 1, 0, none⟩) (show w.heap.size + 1 + 1 ≠ g2 by omega) _, HE.out.1, HE.out.2.1, HE.out.2.2.1, HE.out.2.2.2, hxr2.setCell (by show w.heap.size ≤ w.heap.size + 1 + 1; omega) _⟩
end Go.Proofs.YtcmceeihdhcmnaaGreatDoor
