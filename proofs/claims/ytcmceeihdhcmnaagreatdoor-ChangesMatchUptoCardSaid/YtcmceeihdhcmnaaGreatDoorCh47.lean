/- Contracts of migrate.Changes and outref2.ChangesOf. Printed by gen/chga.py. slices.Equal over changes. -/
import Derived.Test.YtcmceeihdhcmnaaGreatDoorCh46

namespace Go.Proofs.YtcmceeihdhcmnaaGreatDoor
open Go.RowKit

theorem info_change : (Tryz.prog.info? 78).map (fun i => (i.zero, i.size, i.bytes)) = some (some (.agg #[.int .i64 0, .string ⟨#[]⟩, .string ⟨#[]⟩, .bool false, .string ⟨#[]⟩, .string ⟨#[]⟩, .string ⟨#[]⟩, .string ⟨#[]⟩, .bool false, .bool false]), 10, 120) := by kernel_rfl
theorem own_base {w : World} {B B' : Nat} {e : TypeId} {size n : Nat} {v : Value} {xs : List Value} (h : w.ownsRow B e size v n xs) (hb : B' ≤ B) : w.ownsRow B' e size v n xs :=
  ⟨h.1, h.2.imp id fun ⟨g, cap, cur, a, b, r⟩ => ⟨g, cap, cur, a, Nat.le_trans hb b, r⟩⟩
/-- what both return: changes in new memory -/
def ChgOwn (B : Nat) (l : List Ch) (v : Value) (w' : World) : Prop := w'.ownsRow B 78 10 v l.length (rowsC l)
theorem ChgOwn.nil (B : Nat) (w : World) : ChgOwn B [] (.slice none 0 0) w := World.ownsRow_nil _ _ _ _
theorem ChgOwn.ext {B : Nat} {l : List Ch} {v : Value} {w w' : World} (h : ChgOwn B l v w) (hx : Ext w w') : ChgOwn B l v w' := own_ext h hx
theorem ChgOwn.snoc {B K : Nat} {l : List Ch} {c : Ch} {v : Value} {w : World} {xs : List Value} (h : w.ownsRow B 78 10 v (K + 1) (rowsC l ++ xs)) (hK : K = l.length) (hx : xs = chV c.kind c.k c.v) : ChgOwn B (l ++ [c]) v w := by
  subst hK hx
  unfold ChgOwn
  rw [List.length_append, rowsC_snoc]
  exact h

set_option maxHeartbeats 8000000 in
set_option maxRecDepth 100000 in
theorem ChangesOf_any (A A2 : Option Addr) (n m c c2 : Nat) (old new : List Se) (w : World) (hn : old.length = n) (hm : new.length = m) (hr : RdE w A old) (hr2 : RdE w A2 new) (hs : SmallE old) (hs2 : SmallE new) (hl : n ≤ 1048576) (hl2 : m ≤ 1048576) :
    Calls Tryz.prog 48 #[.slice A n c, .slice A2 m c2] w fun e w' => ∃ v, e = .returned v ∧ ChgOwn w.heap.size (chgL old new) v w' ∧ Ext w w' := by
  have cT1 := fun W (hx : Ext w W) => Facts_any A n c old W hn (hr.ext hx) hs (by omega)
  have cT2 := fun W (hx : Ext w W) => Facts_any A2 m c2 new W hm (hr2.ext hx) hs2 (by omega)
  have hfin : chgL old new = goneL (tbl new) old ++ putL (tbl old) new := rfl

  have HN := Lib.hid hn; have HM := Lib.hid hm
  have HR := Lib.hid hr; have HR2 := Lib.hid hr2
  generalize tbl old = F1 at *
  generalize tbl new = F2 at *
  have HFIN := Lib.hid hfin
  have CT1 := Lib.hid cT1; have CT2 := Lib.hid cT2
  clear cT1 cT2 hfin hn hm hr hr2
  go_enter Tryz.func48, Tryz.ntmps48
  go_wp2_with fail
  refine (CT1.out _ (by repeat (first | with_reducible exact Ext.refl _ | with_reducible assumption | with_reducible apply Ext.drewN | with_reducible apply Ext.drew | with_reducible apply Ext.alloc | exact Ext.refl _ | assumption | apply Ext.drewN | apply Ext.drew | apply Ext.alloc))).mono ?_
  rintro e w1 ⟨rfl, hM1, hx1⟩
  go_wp2_with fail
  refine (CT2.out _ hx1).mono ?_
  rintro e wB ⟨rfl, hM2, hx2⟩
  have hxB := hx1.trans hx2
  have hM1 := hM1.ext hx2
  have hBB := hxB.size
  go_wp2

  go_loopw [22, 7] (fun i v wr => ∃ k : Nat, k ≤ n ∧ i = .int .i64 k ∧ ChgOwn wB.heap.size (goneL F2 (old.take k)) v wr ∧ Ext wB wr) (fun i _ _ => n - (intOf i).toNat)
  case atStart => exact ⟨0, Nat.zero_le _, rfl, ChgOwn.nil _ _, Ext.refl _⟩
  case round =>
    obtain ⟨k, hk, rfl, hown, hxr⟩ := hrel
    by_cases hlt : k < n
    · have hk1 : k < old.length := by rw [HN.out]; exact hlt
      obtain ⟨b, o, hA, hX⟩ := HR.out (fun e => by rw [e] at hk1; simp at hk1)
      subst hA
      have X := hX.ext (hxB.trans hxr)
      have x0 := X.c0 k hk1
      have x1 := X.c1 k hk1
      have hz1 := hs old[k] (List.getElem_mem hk1)
      have HNO := Lib.hid (fun v h => goneL_no (f := F2) hk1 (v := v) h)
      have HYES := Lib.hid (goneL_yes (f := F2) hk1)
      have hGl : (goneL F2 (old.take k)).length ≤ n := Nat.le_trans (goneL_length _ _) (by rw [List.length_take]; omega)
      generalize goneL F2 (old.take k) = G at *
      generalize old[k] = s at *
      obtain ⟨sk, sv⟩ := s
      dsimp only at x0 x1 hz1 HNO HYES
      obtain ⟨hz1, hz2⟩ := hz1
      clear X hX
      have hlook := (hM2.ext (hxr.alloc (.cells #[.string sk, .string sv] 74))).look (t := 160) Tryz.underlying160 sk hz1
      have hsz : wB.heap.size ≤ (wr.alloc (.cells #[.string sk, .string sv] 74)).heap.size := (hxr.alloc _).size
      have hw5 := hxr.alloc (.cells #[.string sk, .string sv] 74)
      cases hf : F2 (bs sk) with
      | some u =>
        have HU := Lib.hid (HNO.out u hf)
        rw [hf] at hlook
        simp only [Option.isSome_some, Option.getD_some] at hlook
        clear hf
        go_wp2
        go_roundw
        case rel => exact ⟨k + 1, by omega, by go_num, by rw [HU.out]; exact ChgOwn.ext hown ((Ext.refl wr).alloc _), hw5⟩
        case measure => simp [intOf]; omega
      | none =>
        have HU := Lib.hid (HYES.out hf)
        rw [hf] at hlook
        simp only [Option.isSome_none, Option.getD_none] at hlook
        clear hf
        go_wp2_with (at_builtin; refine wpList_app1g _ _ _ rfl _ _ 66 rfl (.agg #[.int .i64 0, .string ⟨#[]⟩, .string ⟨#[]⟩, .bool false, .string ⟨#[]⟩, .string ⟨#[]⟩, .string ⟨#[]⟩, .string ⟨#[]⟩, .bool false, .bool false]) 10 120 Tryz.underlying66 info_change rfl (by decide) (by decide) wB.heap.size _ G.length _ rfl (hown.alloc _) _ _ rfl (by simp) rfl (by simp [Value.oneCell']) (by omega) hsz ?_; intro v' w5 hown5 hx5 _)
        go_roundw
        case rel => exact ⟨k + 1, by omega, by go_num, by rw [HU.out]; exact ChgOwn.snoc hown5 rfl rfl, hx5 _ hw5 (Nat.le_refl _)⟩
        case measure => simp [intOf]; omega
    · obtain rfl : k = n := by omega
      have hG : goneL F2 (old.take k) = goneL F2 old := by rw [← HN.out, goneL_all]
      rw [hG] at hown
      have hGl : (goneL F2 old).length ≤ k := by rw [← HN.out]; exact goneL_length _ _
      clear hG
      obtain ⟨wo, rfl⟩ : ∃ wo : World, wo = wr := ⟨_, rfl⟩
      go_wp2
      go_loopw [45, 7] (fun i v wr => ∃ j : Nat, j ≤ m ∧ i = .int .i64 j ∧ ChgOwn wB.heap.size (goneL F2 old ++ putL F1 (new.take j)) v wr ∧ Ext wB wr) (fun i _ _ => m - (intOf i).toNat)
      case atStart => exact ⟨0, Nat.zero_le _, rfl, by simpa [putL] using hown, hxr⟩
      case round =>
        clear hown hxr hk hlt
        obtain ⟨j, hj, rfl, hown, hxr⟩ := hrel
        by_cases hlt : j < m
        · have hk1 : j < new.length := by rw [HM.out]; exact hlt
          obtain ⟨b, o, hA, hX⟩ := HR2.out (fun e => by rw [e] at hk1; simp at hk1)
          subst hA
          have X := hX.ext (hxB.trans hxr)
          have x0 := X.c0 j hk1
          have x1 := X.c1 j hk1
          have hz1 := hs2 new[j] (List.getElem_mem hk1)
          have HNO := Lib.hid (putL_no (f := F1) hk1)
          have HYES := Lib.hid (putL_yes (f := F1) hk1)
          have hGl : (goneL F2 old ++ putL F1 (new.take j)).length ≤ k + m := by
            have := putL_length F1 (new.take j)
            rw [List.length_take] at this
            rw [List.length_append]
            omega
          have HASS := Lib.hid (fun c : Ch => (List.append_assoc (goneL F2 old) (putL F1 (new.take j)) [c]))
          obtain ⟨G, hG⟩ : ∃ G, goneL F2 old ++ putL F1 (new.take j) = G := ⟨_, rfl⟩
          rw [hG] at hown hGl
          have HG := Lib.hid hG
          clear hG
          generalize new[j] = s at *
          obtain ⟨sk, sv⟩ := s
          dsimp only at x0 x1 hz1 HNO HYES
          obtain ⟨hz1, hz2⟩ := hz1
          clear X hX
          have hlook := (hM1.ext (hxr.alloc (.cells #[.string sk, .string sv] 74))).look (t := 160) Tryz.underlying160 sk hz1
          have hsz : wB.heap.size ≤ (wr.alloc (.cells #[.string sk, .string sv] 74)).heap.size := (hxr.alloc _).size
          have hw5 := hxr.alloc (.cells #[.string sk, .string sv] 74)
          cases hf : F1 (bs sk) with
          | some u =>
            rw [hf] at hlook HNO HYES
            obtain ⟨ub, rfl⟩ : ∃ ub : ByteArray, u = bs ub := ⟨⟨u.toArray⟩, (bs_mk u).symm⟩
            simp only [Option.isSome_some, Option.getD_some, S_bs] at hlook
            clear hf
            by_cases he : ub = sv
            · subst he
              have HU := Lib.hid (HNO.out rfl)
              go_wp2
              go_roundw
              case rel => exact ⟨j + 1, by omega, by go_num, by rw [HU.out, HG.out]; exact ChgOwn.ext hown ((Ext.refl wr).alloc _), hw5⟩
              case measure => simp [intOf]; omega
            · have HU := Lib.hid (HYES.out (fun e => he (bs_inj (Option.some.inj e))))
              have he1 : ¬ ub.toList = sv.toList := by rw [str_eq]; exact he
              have he2 : (ub.toList == sv.toList) = false := beq_eq_false_iff_ne.2 he1
              go_wp2_with (at_builtin; refine wpList_app1g _ _ _ rfl _ _ 66 rfl (.agg #[.int .i64 0, .string ⟨#[]⟩, .string ⟨#[]⟩, .bool false, .string ⟨#[]⟩, .string ⟨#[]⟩, .string ⟨#[]⟩, .string ⟨#[]⟩, .bool false, .bool false]) 10 120 Tryz.underlying66 info_change rfl (by decide) (by decide) wB.heap.size _ G.length _ rfl (hown.alloc _) _ _ rfl (by simp) rfl (by simp [Value.oneCell']) (by omega) hsz ?_; intro v' w5 hown5 hx5 _)
              go_roundw
              case rel => exact ⟨j + 1, by omega, by go_num, by rw [HU.out, ← HASS.out, HG.out]; exact ChgOwn.snoc hown5 rfl rfl, hx5 _ hw5 (Nat.le_refl _)⟩
              case measure => simp [intOf]; omega
          | none =>
            have HU := Lib.hid (HYES.out (by rw [hf]; simp))
            rw [hf] at hlook
            simp only [Option.isSome_none, Option.getD_none] at hlook
            clear hf
            go_wp2_with (at_builtin; refine wpList_app1g _ _ _ rfl _ _ 66 rfl (.agg #[.int .i64 0, .string ⟨#[]⟩, .string ⟨#[]⟩, .bool false, .string ⟨#[]⟩, .string ⟨#[]⟩, .string ⟨#[]⟩, .string ⟨#[]⟩, .bool false, .bool false]) 10 120 Tryz.underlying66 info_change rfl (by decide) (by decide) wB.heap.size _ G.length _ rfl (hown.alloc _) _ _ rfl (by simp) rfl (by simp [Value.oneCell']) (by omega) hsz ?_; intro v' w5 hown5 hx5 _)
            go_roundw
            case rel => exact ⟨j + 1, by omega, by go_num, by rw [HU.out, ← HASS.out, HG.out]; exact ChgOwn.snoc hown5 rfl rfl, hx5 _ hw5 (Nat.le_refl _)⟩
            case measure => simp [intOf]; omega
        · obtain rfl : j = m := by omega
          have hP : putL F1 (new.take j) = putL F1 new := by rw [← HM.out, putL_all]
          rw [hP] at hown
          clear hP
          go_wp2
          go_ret
          exact ⟨_, rfl, by rw [HFIN.out]; exact own_base hown hBB, hxB.trans hxr⟩

def chgE (old new : List Se) : Int := firstI [seErr pathL old, seErr pathL new]
def chgR (old new : List Se) : List Ch := if chgE old new = 0 then chgL old new else []
theorem chgR_err {old new : List Se} (h : chgE old new ≠ 0) : chgR old new = [] := by rw [chgR, if_neg h]
theorem chgR_ok {old new : List Se} (h : chgE old new = 0) : chgR old new = chgL old new := by rw [chgR, if_pos h]
theorem chgE_a {old new : List Se} (h : seErr pathL old ≠ 0) : chgE old new = seErr pathL old := by rw [chgE, firstI, if_neg h]
theorem chgE_b {old new : List Se} (h : seErr pathL old = 0) : chgE old new = seErr pathL new := by rw [chgE, firstI, if_pos h]; by_cases h2 : seErr pathL new = 0 <;> simp [firstI, h2]
set_option maxHeartbeats 8000000 in
set_option maxRecDepth 100000 in
theorem Changes_any (A A2 : Option Addr) (n m c c2 : Nat) (old new : List Se) (w : World) (hg : GoodN w) (hn : old.length = n) (hm : new.length = m) (hr : RdE w A old) (hr2 : RdE w A2 new) (hs : SmallE old) (hs2 : SmallE new) (hl : n ≤ 1048576) (hl2 : m ≤ 1048576) :
    Calls Tryz.prog 45 #[.slice A n c, .slice A2 m c2] w fun e w' => ∃ v, e = .returned (.tuple #[v, .int .i64 (chgE old new)]) ∧ ChgOwn w.heap.size (chgR old new) v w' ∧ Ext w w' := by
  have cT1 := fun W (hx : Ext w W) => tableOf_any A n c old W hn (hr.ext hx) hs (by omega)
  have cT2 := fun W (hx : Ext w W) => tableOf_any A2 m c2 new W hm (hr2.ext hx) hs2 (by omega)
  have cE1 := fun W (hx : Ext w W) => mFault_any A n c old W (hg.ext hx) hn (hr.ext hx) hs (by omega)
  have cE2 := fun W (hx : Ext w W) => mFault_any A2 m c2 new W (hg.ext hx) hm (hr2.ext hx) hs2 (by omega)
  have hERR := chgR_err (old := old) (new := new)
  have hOK := chgR_ok (old := old) (new := new)
  have hEA := chgE_a (old := old) (new := new)
  have hEB := chgE_b (old := old) (new := new)
  have hfin : chgL old new = goneL (tbl new) old ++ putL (tbl old) new := rfl

  have HN := Lib.hid hn; have HM := Lib.hid hm
  have HR := Lib.hid hr; have HR2 := Lib.hid hr2
  generalize tbl old = F1 at *
  generalize tbl new = F2 at *
  generalize seErr pathL old = E1 at *
  generalize seErr pathL new = E2 at *
  generalize chgE old new = E at *
  generalize chgR old new = R at *
  have HFIN := Lib.hid hfin
  have HERR := Lib.hid hERR; have HOK := Lib.hid hOK; have HEA := Lib.hid hEA; have HEB := Lib.hid hEB
  have CT1 := Lib.hid cT1; have CT2 := Lib.hid cT2; have CE1 := Lib.hid cE1; have CE2 := Lib.hid cE2
  clear cT1 cT2 cE1 cE2 hfin hn hm hr hr2 hERR hOK hEA hEB
  have i0 : ∀ w, (Instr.index 158 (.agg #[.slice A n c, .slice A2 m c2]) (.int .i64 0)).run Tryz.prog w = .ok (.slice A n c) w := fun _ => by kernel_rfl
  have i1 : ∀ w, (Instr.index 158 (.agg #[.slice A n c, .slice A2 m c2]) (.int .i64 1)).run Tryz.prog w = .ok (.slice A2 m c2) w := fun _ => by kernel_rfl
  go_enter Tryz.func45, Tryz.ntmps45
  go_wp2
  go_loopw [23] (fun i wr => (i = .int .i64 0 ∨ (i = .int .i64 1 ∧ E1 = 0) ∨ (i = .int .i64 2 ∧ E1 = 0 ∧ E2 = 0)) ∧ Ext w wr) (fun i _ => 2 - (intOf i).toNat)
  case atStart => exact ⟨.inl rfl, Ext.refl _⟩
  case round =>
    obtain ⟨hi, hxr⟩ := hrel
    rcases hi with rfl | ⟨rfl, h1⟩ | ⟨rfl, h1, h2⟩
    · go_wp2_with fail
      refine (CE1.out _ hxr).mono ?_
      rintro e w1 ⟨rfl, hx1⟩
      by_cases h1 : E1 = 0
      · have H1 := Lib.hid h1
        rw [h1]
        clear h1
        go_wp2
        go_roundw
        case rel => exact ⟨.inr (.inl ⟨rfl, H1.out⟩), hxr.trans hx1⟩
        case measure => decide
      · have HE := Lib.hid (HEA.out h1)
        have HR0 := Lib.hid (HERR.out (by rw [HE.out]; exact h1))
        have hne : (E1 != 0) = true := by rw [bne_iff_ne]; exact h1
        go_wp2
        go_ret2
        exact ⟨.slice none 0 0, by rw [HE.out]; first | done | rfl, by rw [HR0.out]; exact ChgOwn.nil _ _, hxr.trans hx1⟩
    · have H1 := Lib.hid h1
      clear h1
      go_wp2_with fail
      refine (CE2.out _ hxr).mono ?_
      rintro e w1 ⟨rfl, hx1⟩
      by_cases h2 : E2 = 0
      · have H2 := Lib.hid h2
        rw [h2]
        clear h2
        go_wp2
        go_roundw
        case rel => exact ⟨.inr (.inr ⟨rfl, H1.out, H2.out⟩), hxr.trans hx1⟩
        case measure => decide
      · have HE := Lib.hid (HEB.out H1.out)
        have HR0 := Lib.hid (HERR.out (by rw [HE.out]; exact h2))
        have hne : (E2 != 0) = true := by rw [bne_iff_ne]; exact h2
        go_wp2
        go_ret2
        exact ⟨.slice none 0 0, by rw [HE.out]; first | done | rfl, by rw [HR0.out]; exact ChgOwn.nil _ _, hxr.trans hx1⟩
    have HE := Lib.hid ((HEB.out h1).trans h2)
    have HR0 := Lib.hid (HOK.out HE.out)
    clear h1 h2 i0 i1
    obtain ⟨wz, rfl⟩ : ∃ wz : World, wz = wr := ⟨_, rfl⟩
    have hxz := hxr
    clear hxr
    go_wp2_with fail
    refine (CT1.out _ hxz).mono ?_
    rintro e w1 ⟨rfl, hM1, hx1⟩
    go_wp2_with fail
    refine (CT2.out _ (hxz.trans hx1)).mono ?_
    rintro e wB ⟨rfl, hM2, hx2⟩
    have hxB := (hxz.trans hx1).trans hx2
    have hM1 := hM1.ext hx2
    have hBB := hxB.size
    go_wp2

    go_loopw [38, 11] (fun i v wr => ∃ k : Nat, k ≤ n ∧ i = .int .i64 k ∧ ChgOwn wB.heap.size (goneL F2 (old.take k)) v wr ∧ Ext wB wr) (fun i _ _ => n - (intOf i).toNat)
    case atStart => exact ⟨0, Nat.zero_le _, rfl, ChgOwn.nil _ _, Ext.refl _⟩
    case round =>
      obtain ⟨k, hk, rfl, hown, hxr⟩ := hrel
      by_cases hlt : k < n
      · have hk1 : k < old.length := by rw [HN.out]; exact hlt
        obtain ⟨b, o, hA, hX⟩ := HR.out (fun e => by rw [e] at hk1; simp at hk1)
        subst hA
        have X := hX.ext (hxB.trans hxr)
        have x0 := X.c0 k hk1
        have x1 := X.c1 k hk1
        have hz1 := hs old[k] (List.getElem_mem hk1)
        have HNO := Lib.hid (fun v h => goneL_no (f := F2) hk1 (v := v) h)
        have HYES := Lib.hid (goneL_yes (f := F2) hk1)
        have hGl : (goneL F2 (old.take k)).length ≤ n := Nat.le_trans (goneL_length _ _) (by rw [List.length_take]; omega)
        generalize goneL F2 (old.take k) = G at *
        generalize old[k] = s at *
        obtain ⟨sk, sv⟩ := s
        dsimp only at x0 x1 hz1 HNO HYES
        obtain ⟨hz1, hz2⟩ := hz1
        clear X hX
        have hlook := (hM2.ext (hxr.alloc (.cells #[.string sk, .string sv] 74))).look (t := 161) Tryz.underlying161 sk hz1
        have hsz : wB.heap.size ≤ (wr.alloc (.cells #[.string sk, .string sv] 74)).heap.size := (hxr.alloc _).size
        have hw5 := hxr.alloc (.cells #[.string sk, .string sv] 74)
        cases hf : F2 (bs sk) with
        | some u =>
          have HU := Lib.hid (HNO.out u hf)
          rw [hf] at hlook
          simp only [Option.isSome_some, Option.getD_some] at hlook
          clear hf
          go_wp2
          go_roundw
          case rel => exact ⟨k + 1, by omega, by go_num, by rw [HU.out]; exact ChgOwn.ext hown ((Ext.refl wr).alloc _), hw5⟩
          case measure => simp [intOf]; omega
        | none =>
          have HU := Lib.hid (HYES.out hf)
          rw [hf] at hlook
          simp only [Option.isSome_none, Option.getD_none] at hlook
          clear hf
          go_wp2_with (at_builtin; refine wpList_app1g _ _ _ rfl _ _ 66 rfl (.agg #[.int .i64 0, .string ⟨#[]⟩, .string ⟨#[]⟩, .bool false, .string ⟨#[]⟩, .string ⟨#[]⟩, .string ⟨#[]⟩, .string ⟨#[]⟩, .bool false, .bool false]) 10 120 Tryz.underlying66 info_change rfl (by decide) (by decide) wB.heap.size _ G.length _ rfl (hown.alloc _) _ _ rfl (by simp) rfl (by simp [Value.oneCell']) (by omega) hsz ?_; intro v' w5 hown5 hx5 _)
          go_roundw
          case rel => exact ⟨k + 1, by omega, by go_num, by rw [HU.out]; exact ChgOwn.snoc hown5 rfl rfl, hx5 _ hw5 (Nat.le_refl _)⟩
          case measure => simp [intOf]; omega
      · obtain rfl : k = n := by omega
        have hG : goneL F2 (old.take k) = goneL F2 old := by rw [← HN.out, goneL_all]
        rw [hG] at hown
        have hGl : (goneL F2 old).length ≤ k := by rw [← HN.out]; exact goneL_length _ _
        clear hG
        obtain ⟨wo, rfl⟩ : ∃ wo : World, wo = wr := ⟨_, rfl⟩
        go_wp2
        go_loopw [61, 11] (fun i v wr => ∃ j : Nat, j ≤ m ∧ i = .int .i64 j ∧ ChgOwn wB.heap.size (goneL F2 old ++ putL F1 (new.take j)) v wr ∧ Ext wB wr) (fun i _ _ => m - (intOf i).toNat)
        case atStart => exact ⟨0, Nat.zero_le _, rfl, by simpa [putL] using hown, hxr⟩
        case round =>
          clear hown hxr hk hlt
          obtain ⟨j, hj, rfl, hown, hxr⟩ := hrel
          by_cases hlt : j < m
          · have hk1 : j < new.length := by rw [HM.out]; exact hlt
            obtain ⟨b, o, hA, hX⟩ := HR2.out (fun e => by rw [e] at hk1; simp at hk1)
            subst hA
            have X := hX.ext (hxB.trans hxr)
            have x0 := X.c0 j hk1
            have x1 := X.c1 j hk1
            have hz1 := hs2 new[j] (List.getElem_mem hk1)
            have HNO := Lib.hid (putL_no (f := F1) hk1)
            have HYES := Lib.hid (putL_yes (f := F1) hk1)
            have hGl : (goneL F2 old ++ putL F1 (new.take j)).length ≤ k + m := by
              have := putL_length F1 (new.take j)
              rw [List.length_take] at this
              rw [List.length_append]
              omega
            have HASS := Lib.hid (fun c : Ch => (List.append_assoc (goneL F2 old) (putL F1 (new.take j)) [c]))
            obtain ⟨G, hG⟩ : ∃ G, goneL F2 old ++ putL F1 (new.take j) = G := ⟨_, rfl⟩
            rw [hG] at hown hGl
            have HG := Lib.hid hG
            clear hG
            generalize new[j] = s at *
            obtain ⟨sk, sv⟩ := s
            dsimp only at x0 x1 hz1 HNO HYES
            obtain ⟨hz1, hz2⟩ := hz1
            clear X hX
            have hlook := (hM1.ext (hxr.alloc (.cells #[.string sk, .string sv] 74))).look (t := 161) Tryz.underlying161 sk hz1
            have hsz : wB.heap.size ≤ (wr.alloc (.cells #[.string sk, .string sv] 74)).heap.size := (hxr.alloc _).size
            have hw5 := hxr.alloc (.cells #[.string sk, .string sv] 74)
            cases hf : F1 (bs sk) with
            | some u =>
              rw [hf] at hlook HNO HYES
              obtain ⟨ub, rfl⟩ : ∃ ub : ByteArray, u = bs ub := ⟨⟨u.toArray⟩, (bs_mk u).symm⟩
              simp only [Option.isSome_some, Option.getD_some, S_bs] at hlook
              clear hf
              by_cases he : ub = sv
              · subst he
                have HU := Lib.hid (HNO.out rfl)
                go_wp2
                go_roundw
                case rel => exact ⟨j + 1, by omega, by go_num, by rw [HU.out, HG.out]; exact ChgOwn.ext hown ((Ext.refl wr).alloc _), hw5⟩
                case measure => simp [intOf]; omega
              · have HU := Lib.hid (HYES.out (fun e => he (bs_inj (Option.some.inj e))))
                have he1 : ¬ ub.toList = sv.toList := by rw [str_eq]; exact he
                have he2 : (ub.toList == sv.toList) = false := beq_eq_false_iff_ne.2 he1
                go_wp2_with (at_builtin; refine wpList_app1g _ _ _ rfl _ _ 66 rfl (.agg #[.int .i64 0, .string ⟨#[]⟩, .string ⟨#[]⟩, .bool false, .string ⟨#[]⟩, .string ⟨#[]⟩, .string ⟨#[]⟩, .string ⟨#[]⟩, .bool false, .bool false]) 10 120 Tryz.underlying66 info_change rfl (by decide) (by decide) wB.heap.size _ G.length _ rfl (hown.alloc _) _ _ rfl (by simp) rfl (by simp [Value.oneCell']) (by omega) hsz ?_; intro v' w5 hown5 hx5 _)
                go_roundw
                case rel => exact ⟨j + 1, by omega, by go_num, by rw [HU.out, ← HASS.out, HG.out]; exact ChgOwn.snoc hown5 rfl rfl, hx5 _ hw5 (Nat.le_refl _)⟩
                case measure => simp [intOf]; omega
            | none =>
              have HU := Lib.hid (HYES.out (by rw [hf]; simp))
              rw [hf] at hlook
              simp only [Option.isSome_none, Option.getD_none] at hlook
              clear hf
              go_wp2_with (at_builtin; refine wpList_app1g _ _ _ rfl _ _ 66 rfl (.agg #[.int .i64 0, .string ⟨#[]⟩, .string ⟨#[]⟩, .bool false, .string ⟨#[]⟩, .string ⟨#[]⟩, .string ⟨#[]⟩, .string ⟨#[]⟩, .bool false, .bool false]) 10 120 Tryz.underlying66 info_change rfl (by decide) (by decide) wB.heap.size _ G.length _ rfl (hown.alloc _) _ _ rfl (by simp) rfl (by simp [Value.oneCell']) (by omega) hsz ?_; intro v' w5 hown5 hx5 _)
              go_roundw
              case rel => exact ⟨j + 1, by omega, by go_num, by rw [HU.out, ← HASS.out, HG.out]; exact ChgOwn.snoc hown5 rfl rfl, hx5 _ hw5 (Nat.le_refl _)⟩
              case measure => simp [intOf]; omega
          · obtain rfl : j = m := by omega
            have hP : putL F1 (new.take j) = putL F1 new := by rw [← HM.out, putL_all]
            rw [hP] at hown
            clear hP
            go_wp2
            go_ret2
            exact ⟨_, by rw [HE.out]; first | done | rfl, by rw [HR0.out, HFIN.out]; exact own_base hown hBB, hxB.trans hxr⟩
end Go.Proofs.YtcmceeihdhcmnaaGreatDoor

namespace Go.Proofs.YtcmceeihdhcmnaaGreatDoor
open Go.RowKit

theorem own_slice {w : World} {B n size : Nat} {e : TypeId} {v : Value} {xs : List Value} (h : w.ownsRow B e size v n xs) : ∃ A c, v = .slice A n c ∧ (0 < n → ∃ g o, A = some ⟨g, o, none⟩ ∧ ∀ j u, xs[j]? = some u → w.cell? ⟨g, o + j, none⟩ = some u) := by
  rcases Nat.eq_zero_or_pos n with h0 | h0
  · rcases h.2 with ⟨rfl, h1⟩ | ⟨g, cap, cur, rfl, _⟩
    · exact ⟨none, 0, by rw [h1], fun h => by omega⟩
    · exact ⟨_, cap, rfl, fun h => by omega⟩
  · obtain ⟨g, c, rfl, _, _, _, hc⟩ := own_form h h0
    exact ⟨_, c, rfl, fun _ => ⟨g, 0, rfl, fun j u hu => by rw [Nat.zero_add]; exact hc j u hu⟩⟩
set_option maxRecDepth 100000 in
theorem run_eqch (k : Int) (a b : ByteArray) (w : World) : (Op.equalIn 10000 78 (.agg #[.int .i64 k, .string ⟨#[]⟩, .string ⟨#[]⟩, .bool false, .string a, .string b, .string ⟨#[]⟩, .string ⟨#[]⟩, .bool false, .bool false]) (.agg #[.int .i64 k, .string ⟨#[]⟩, .string ⟨#[]⟩, .bool false, .string a, .string b, .string ⟨#[]⟩, .string ⟨#[]⟩, .bool false, .bool false])).run Tryz.prog w = .ok true w := by
  rw [run_equalIn_agg w 9999 78 _ _ (by kernel_rfl) (by kernel_rfl)]
  go_simp
theorem run_neqch (k : Int) (a b : ByteArray) (w : World) : (binOp .neq 78 (.agg #[.int .i64 k, .string ⟨#[]⟩, .string ⟨#[]⟩, .bool false, .string a, .string b, .string ⟨#[]⟩, .string ⟨#[]⟩, .bool false, .bool false]) (.agg #[.int .i64 k, .string ⟨#[]⟩, .string ⟨#[]⟩, .bool false, .string a, .string b, .string ⟨#[]⟩, .string ⟨#[]⟩, .bool false, .bool false])).run Tryz.prog w = .ok (.bool false) w := by
  rw [run_neq_struct, run_eqch]
  rfl
theorem chg_cell {w : World} {g o : Nat} {l : List Ch} (h : ∀ j u, (rowsC l)[j]? = some u → w.cell? ⟨g, o + j, none⟩ = some u) (k : Nat) (hk : k < l.length) (j : Nat) (hj : j < 10) {u : Value} (hu : (chRow l[k])[j]? = some u) : w.cell? ⟨g, o + k * 10 + j, none⟩ = some u := by
  rw [Nat.add_assoc]
  exact h _ _ ((rowsC_get l k j hk hj).trans hu)
set_option maxHeartbeats 4000000 in
set_option maxRecDepth 100000 in
theorem EqualCh_any (B1 B2 : Nat) (v1 v2 : Value) (l : List Ch) (w : World) (h1 : ChgOwn B1 l v1 w) (h2 : ChgOwn B2 l v2 w) (hl : l.length ≤ 2097152) :
    Calls Tryz.prog 47 #[v1, v2] w fun e w' => e = .returned (.bool true) ∧ Ext w w' := by
  obtain ⟨A1, c1, rfl, hX⟩ := own_slice h1
  obtain ⟨A2, c2, rfl, hY⟩ := own_slice h2
  clear h1 h2
  obtain ⟨n, hn⟩ : ∃ n, l.length = n := ⟨_, rfl⟩
  rw [hn] at hX hY hl
  have HN := Lib.hid hn
  rw [hn]
  clear hn
  rcases Nat.eq_zero_or_pos n with h0 | h0
  · subst h0
    clear hX hY
    go_enter Tryz.func47, Tryz.ntmps47
    go_wp2
    go_loop [13] (fun i => i = .int .i64 0) (fun i => 0)
    case atStart => rfl
    case round =>
      subst hrel
      go_wp2
      go_ret
      exact ⟨rfl, Ext.refl _⟩
  obtain ⟨g1, o1, rfl, hX2⟩ := hX h0
  obtain ⟨g2, o2, rfl, hY2⟩ := hY h0
  have HX := Lib.hid hX2; have HY := Lib.hid hY2
  clear hX hY hX2 hY2
  go_enter Tryz.func47, Tryz.ntmps47
  go_wp2
  go_loopw [13] (fun i wr => ∃ k : Nat, k ≤ n ∧ i = .int .i64 k ∧ Ext w wr) (fun i _ => n - (intOf i).toNat)
  case atStart => exact ⟨0, Nat.zero_le _, rfl, Ext.refl _⟩
  case round =>
    obtain ⟨k, hk, rfl, hxr⟩ := hrel
    by_cases hlt : k < n
    · have hk1 : k < l.length := by rw [HN.out]; exact hlt
      have gx := fun j (hj : j < 10) u (hu : (chRow l[k])[j]? = some u) => hxr.cell (chg_cell HX.out k hk1 j hj hu)
      have gy := fun j (hj : j < 10) u (hu : (chRow l[k])[j]? = some u) => hxr.cell (chg_cell HY.out k hk1 j hj hu)
      generalize l[k] = ch at *
      obtain ⟨ck, ca, cb⟩ := ch
      have x0 := gx 0 (by decide) _ rfl; have x1 := gx 1 (by decide) _ rfl; have x2 := gx 2 (by decide) _ rfl; have x3 := gx 3 (by decide) _ rfl; have x4 := gx 4 (by decide) _ rfl
      have x5 := gx 5 (by decide) _ rfl; have x6 := gx 6 (by decide) _ rfl; have x7 := gx 7 (by decide) _ rfl; have x8 := gx 8 (by decide) _ rfl; have x9 := gx 9 (by decide) _ rfl
      have y0 := gy 0 (by decide) _ rfl; have y1 := gy 1 (by decide) _ rfl; have y2 := gy 2 (by decide) _ rfl; have y3 := gy 3 (by decide) _ rfl; have y4 := gy 4 (by decide) _ rfl
      have y5 := gy 5 (by decide) _ rfl; have y6 := gy 6 (by decide) _ rfl; have y7 := gy 7 (by decide) _ rfl; have y8 := gy 8 (by decide) _ rfl; have y9 := gy 9 (by decide) _ rfl
      rw [Nat.add_zero] at x0 y0
      clear gx gy
      have hq := run_neqch ck ca cb
      go_wp2
      go_quiet (fail)
      go_wp2
      go_roundw
      case rel => exact ⟨k + 1, by omega, by go_num, hxr.drewN _⟩
      case measure => simp [intOf]; omega
    · obtain rfl : k = n := by omega
      go_wp2
      go_ret
      exact ⟨rfl, hxr⟩
end Go.Proofs.YtcmceeihdhcmnaaGreatDoor
