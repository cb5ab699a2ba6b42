/- Contracts of migrate.Changes and outref2.ChangesOf. Printed by gen/chga.py. -/
import Derived.Test.YtghhjlcbcojcnaaGreatDoorRn24

namespace Go.Proofs.YtghhjlcbcojcnaaGreatDoor
open Go.RowKit

theorem info_change : (Tryz.prog.info? 78).map (fun i => (i.zero, i.size, i.bytes)) = some (some (.agg #[.int .i64 0, .string ⟨#[]⟩, .string ⟨#[]⟩, .bool false, .string ⟨#[]⟩, .string ⟨#[]⟩, .string ⟨#[]⟩, .string ⟨#[]⟩, .bool false, .bool false]), 10, 120) := by kernel_rfl
theorem own_base {w : World} {B B' : Nat} {e : TypeId} {size n : Nat} {v : Value} {xs : List Value} (h : w.ownsRow B e size v n xs) (hb : B' ≤ B) : w.ownsRow B' e size v n xs :=
  ⟨h.1, h.2.imp id fun ⟨g, cap, cur, a, b, r⟩ => ⟨g, cap, cur, a, Nat.le_trans hb b, r⟩⟩
/-- what both return: changes in new memory -/
def ChgOwn (B : Nat) (l : List Ch) (v : Value) (w' : World) : Prop := w'.ownsRow B 78 10 v l.length (rowsC l)
theorem ChgOwn.nil (B : Nat) (w : World) : ChgOwn B [] (.slice none 0 0) w := World.ownsRow_nil _ _ _ _
theorem ChgOwn.ext {B : Nat} {l : List Ch} {v : Value} {w w' : World} (h : ChgOwn B l v w) (hx : Ext w w') : ChgOwn B l v w' := own_ext h hx
theorem ChgOwn.snoc {B K : Nat} {l : List Ch} {c : Ch} {v : Value} {w : World} {xs : List Value} (h : w.ownsRow B 78 10 v (K + 1) (rowsC l ++ xs)) (hK : K = l.length) (hx : xs = chV c.kind c.k c.v) : ChgOwn B (l ++ [c]) v w := by
  subst hK hx
  unfold ChgOwn
  rw [List.length_append, rowsC_snoc]
  exact h

set_option maxHeartbeats 8000000 in
set_option maxRecDepth 100000 in
theorem ChangesOf_any (A A2 : Option Addr) (n m c c2 : Nat) (old new : List Se) (w : World) (hn : old.length = n) (hm : new.length = m) (hr : RdE w A old) (hr2 : RdE w A2 new) (hs : SmallE old) (hs2 : SmallE new) (hl : n ≤ 1048576) (hl2 : m ≤ 1048576) :
    Calls Tryz.prog 51 #[.slice A n c, .slice A2 m c2] w fun e w' => ∃ v, e = .returned v ∧ ChgOwn w.heap.size (chgL old new) v w' ∧ Ext w w' := by
  have cT1 := fun W (hx : Ext w W) => Facts_any A n c old W hn (hr.ext hx) hs (by omega)
  have cT2 := fun W (hx : Ext w W) => Facts_any A2 m c2 new W hm (hr2.ext hx) hs2 (by omega)
  have hfin : chgL old new = goneL (tbl new) old ++ putL (tbl old) new := rfl

  have HN := Lib.hid hn; have HM := Lib.hid hm
  have HR := Lib.hid hr; have HR2 := Lib.hid hr2
  generalize tbl old = F1 at *
  generalize tbl new = F2 at *
  have HFIN := Lib.hid hfin
  have CT1 := Lib.hid cT1; have CT2 := Lib.hid cT2
  clear cT1 cT2 hfin hn hm hr hr2
  go_enter Tryz.func51, Tryz.ntmps51
  go_wp2_with fail
  refine (CT1.out _ (by repeat (first | with_reducible exact Ext.refl _ | with_reducible assumption | with_reducible apply Ext.drewN | with_reducible apply Ext.drew | with_reducible apply Ext.alloc | exact Ext.refl _ | assumption | apply Ext.drewN | apply Ext.drew | apply Ext.alloc))).mono ?_
  rintro e w1 ⟨rfl, hM1, hx1⟩
  go_wp2_with fail
  refine (CT2.out _ hx1).mono ?_
  rintro e wB ⟨rfl, hM2, hx2⟩
  have hxB := hx1.trans hx2
  have hM1 := hM1.ext hx2
  have hBB := hxB.size
  go_wp2

  go_loopw [22, 7] (fun i v wr => ∃ k : Nat, k ≤ n ∧ i = .int .i64 k ∧ ChgOwn wB.heap.size (goneL F2 (old.take k)) v wr ∧ Ext wB wr) (fun i _ _ => n - (intOf i).toNat)
  case atStart => exact ⟨0, Nat.zero_le _, rfl, ChgOwn.nil _ _, Ext.refl _⟩
  case round =>
    obtain ⟨k, hk, rfl, hown, hxr⟩ := hrel
    by_cases hlt : k < n
    · have hk1 : k < old.length := by rw [HN.out]; exact hlt
      obtain ⟨b, o, hA, hX⟩ := HR.out (fun e => by rw [e] at hk1; simp at hk1)
      subst hA
      have X := hX.ext (hxB.trans hxr)
      have x0 := X.c0 k hk1
      have x1 := X.c1 k hk1
      have hz1 := hs old[k] (List.getElem_mem hk1)
      have HNO := Lib.hid (fun v h => goneL_no (f := F2) hk1 (v := v) h)
      have HYES := Lib.hid (goneL_yes (f := F2) hk1)
      have hGl : (goneL F2 (old.take k)).length ≤ n := Nat.le_trans (goneL_length _ _) (by rw [List.length_take]; omega)
      generalize goneL F2 (old.take k) = G at *
      generalize old[k] = s at *
      obtain ⟨sk, sv⟩ := s
      dsimp only at x0 x1 hz1 HNO HYES
      obtain ⟨hz1, hz2⟩ := hz1
      clear X hX
      have hlook := (hM2.ext (hxr.alloc (.cells #[.string sk, .string sv] 74))).look (t := 178) Tryz.underlying178 sk hz1
      have hsz : wB.heap.size ≤ (wr.alloc (.cells #[.string sk, .string sv] 74)).heap.size := (hxr.alloc _).size
      have hw5 := hxr.alloc (.cells #[.string sk, .string sv] 74)
      cases hf : F2 (bs sk) with
      | some u =>
        have HU := Lib.hid (HNO.out u hf)
        rw [hf] at hlook
        simp only [Option.isSome_some, Option.getD_some] at hlook
        clear hf
        go_wp2
        go_roundw
        case rel => exact ⟨k + 1, by omega, by go_num, by rw [HU.out]; exact ChgOwn.ext hown ((Ext.refl wr).alloc _), hw5⟩
        case measure => simp [intOf]; omega
      | none =>
        have HU := Lib.hid (HYES.out hf)
        rw [hf] at hlook
        simp only [Option.isSome_none, Option.getD_none] at hlook
        clear hf
        go_wp2_with (at_builtin; refine wpList_app1g _ _ _ rfl _ _ 66 rfl (.agg #[.int .i64 0, .string ⟨#[]⟩, .string ⟨#[]⟩, .bool false, .string ⟨#[]⟩, .string ⟨#[]⟩, .string ⟨#[]⟩, .string ⟨#[]⟩, .bool false, .bool false]) 10 120 Tryz.underlying66 info_change rfl (by decide) (by decide) wB.heap.size _ G.length _ rfl (hown.alloc _) _ _ rfl (by simp) rfl (by simp [Value.oneCell']) (by omega) hsz ?_; intro v' w5 hown5 hx5 _)
        go_roundw
        case rel => exact ⟨k + 1, by omega, by go_num, by rw [HU.out]; exact ChgOwn.snoc hown5 rfl rfl, hx5 _ hw5 (Nat.le_refl _)⟩
        case measure => simp [intOf]; omega
    · obtain rfl : k = n := by omega
      have hG : goneL F2 (old.take k) = goneL F2 old := by rw [← HN.out, goneL_all]
      rw [hG] at hown
      have hGl : (goneL F2 old).length ≤ k := by rw [← HN.out]; exact goneL_length _ _
      clear hG
      obtain ⟨wo, rfl⟩ : ∃ wo : World, wo = wr := ⟨_, rfl⟩
      go_wp2
      go_loopw [45, 7] (fun i v wr => ∃ j : Nat, j ≤ m ∧ i = .int .i64 j ∧ ChgOwn wB.heap.size (goneL F2 old ++ putL F1 (new.take j)) v wr ∧ Ext wB wr) (fun i _ _ => m - (intOf i).toNat)
      case atStart => exact ⟨0, Nat.zero_le _, rfl, by simpa [putL] using hown, hxr⟩
      case round =>
        clear hown hxr hk hlt
        obtain ⟨j, hj, rfl, hown, hxr⟩ := hrel
        by_cases hlt : j < m
        · have hk1 : j < new.length := by rw [HM.out]; exact hlt
          obtain ⟨b, o, hA, hX⟩ := HR2.out (fun e => by rw [e] at hk1; simp at hk1)
          subst hA
          have X := hX.ext (hxB.trans hxr)
          have x0 := X.c0 j hk1
          have x1 := X.c1 j hk1
          have hz1 := hs2 new[j] (List.getElem_mem hk1)
          have HNO := Lib.hid (putL_no (f := F1) hk1)
          have HYES := Lib.hid (putL_yes (f := F1) hk1)
          have hGl : (goneL F2 old ++ putL F1 (new.take j)).length ≤ k + m := by
            have := putL_length F1 (new.take j)
            rw [List.length_take] at this
            rw [List.length_append]
            omega
          have HASS := Lib.hid (fun c : Ch => (List.append_assoc (goneL F2 old) (putL F1 (new.take j)) [c]))
          obtain ⟨G, hG⟩ : ∃ G, goneL F2 old ++ putL F1 (new.take j) = G := ⟨_, rfl⟩
          rw [hG] at hown hGl
          have HG := Lib.hid hG
          clear hG
          generalize new[j] = s at *
          obtain ⟨sk, sv⟩ := s
          dsimp only at x0 x1 hz1 HNO HYES
          obtain ⟨hz1, hz2⟩ := hz1
          clear X hX
          have hlook := (hM1.ext (hxr.alloc (.cells #[.string sk, .string sv] 74))).look (t := 178) Tryz.underlying178 sk hz1
          have hsz : wB.heap.size ≤ (wr.alloc (.cells #[.string sk, .string sv] 74)).heap.size := (hxr.alloc _).size
          have hw5 := hxr.alloc (.cells #[.string sk, .string sv] 74)
          cases hf : F1 (bs sk) with
          | some u =>
            rw [hf] at hlook HNO HYES
            obtain ⟨ub, rfl⟩ : ∃ ub : ByteArray, u = bs ub := ⟨⟨u.toArray⟩, (bs_mk u).symm⟩
            simp only [Option.isSome_some, Option.getD_some, S_bs] at hlook
            clear hf
            by_cases he : ub = sv
            · subst he
              have HU := Lib.hid (HNO.out rfl)
              go_wp2
              go_roundw
              case rel => exact ⟨j + 1, by omega, by go_num, by rw [HU.out, HG.out]; exact ChgOwn.ext hown ((Ext.refl wr).alloc _), hw5⟩
              case measure => simp [intOf]; omega
            · have HU := Lib.hid (HYES.out (fun e => he (bs_inj (Option.some.inj e))))
              have he1 : ¬ ub.toList = sv.toList := by rw [str_eq]; exact he
              have he2 : (ub.toList == sv.toList) = false := beq_eq_false_iff_ne.2 he1
              go_wp2_with (at_builtin; refine wpList_app1g _ _ _ rfl _ _ 66 rfl (.agg #[.int .i64 0, .string ⟨#[]⟩, .string ⟨#[]⟩, .bool false, .string ⟨#[]⟩, .string ⟨#[]⟩, .string ⟨#[]⟩, .string ⟨#[]⟩, .bool false, .bool false]) 10 120 Tryz.underlying66 info_change rfl (by decide) (by decide) wB.heap.size _ G.length _ rfl (hown.alloc _) _ _ rfl (by simp) rfl (by simp [Value.oneCell']) (by omega) hsz ?_; intro v' w5 hown5 hx5 _)
              go_roundw
              case rel => exact ⟨j + 1, by omega, by go_num, by rw [HU.out, ← HASS.out, HG.out]; exact ChgOwn.snoc hown5 rfl rfl, hx5 _ hw5 (Nat.le_refl _)⟩
              case measure => simp [intOf]; omega
          | none =>
            have HU := Lib.hid (HYES.out (by rw [hf]; simp))
            rw [hf] at hlook
            simp only [Option.isSome_none, Option.getD_none] at hlook
            clear hf
            go_wp2_with (at_builtin; refine wpList_app1g _ _ _ rfl _ _ 66 rfl (.agg #[.int .i64 0, .string ⟨#[]⟩, .string ⟨#[]⟩, .bool false, .string ⟨#[]⟩, .string ⟨#[]⟩, .string ⟨#[]⟩, .string ⟨#[]⟩, .bool false, .bool false]) 10 120 Tryz.underlying66 info_change rfl (by decide) (by decide) wB.heap.size _ G.length _ rfl (hown.alloc _) _ _ rfl (by simp) rfl (by simp [Value.oneCell']) (by omega) hsz ?_; intro v' w5 hown5 hx5 _)
            go_roundw
            case rel => exact ⟨j + 1, by omega, by go_num, by rw [HU.out, ← HASS.out, HG.out]; exact ChgOwn.snoc hown5 rfl rfl, hx5 _ hw5 (Nat.le_refl _)⟩
            case measure => simp [intOf]; omega
        · obtain rfl : j = m := by omega
          have hP : putL F1 (new.take j) = putL F1 new := by rw [← HM.out, putL_all]
          rw [hP] at hown
          clear hP
          go_wp2
          go_ret
          exact ⟨_, rfl, by rw [HFIN.out]; exact own_base hown hBB, hxB.trans hxr⟩

def chgE (old new : List Se) : Int := firstI [seErr pathL old, seErr pathL new]
def chgR (old new : List Se) : List Ch := if chgE old new = 0 then chgL old new else []
theorem chgR_err {old new : List Se} (h : chgE old new ≠ 0) : chgR old new = [] := by rw [chgR, if_neg h]
theorem chgR_ok {old new : List Se} (h : chgE old new = 0) : chgR old new = chgL old new := by rw [chgR, if_pos h]
theorem chgE_a {old new : List Se} (h : seErr pathL old ≠ 0) : chgE old new = seErr pathL old := by rw [chgE, firstI, if_neg h]
theorem chgE_b {old new : List Se} (h : seErr pathL old = 0) : chgE old new = seErr pathL new := by rw [chgE, firstI, if_pos h]; by_cases h2 : seErr pathL new = 0 <;> simp [firstI, h2]
set_option maxHeartbeats 8000000 in
set_option maxRecDepth 100000 in
theorem Changes_any (A A2 : Option Addr) (n m c c2 : Nat) (old new : List Se) (w : World) (hg : GoodN w) (hn : old.length = n) (hm : new.length = m) (hr : RdE w A old) (hr2 : RdE w A2 new) (hs : SmallE old) (hs2 : SmallE new) (hl : n ≤ 1048576) (hl2 : m ≤ 1048576) :
    Calls Tryz.prog 48 #[.slice A n c, .slice A2 m c2] w fun e w' => ∃ v, e = .returned (.tuple #[v, .int .i64 (chgE old new)]) ∧ ChgOwn w.heap.size (chgR old new) v w' ∧ Ext w w' := by
  have cT1 := fun W (hx : Ext w W) => tableOf_any A n c old W hn (hr.ext hx) hs (by omega)
  have cT2 := fun W (hx : Ext w W) => tableOf_any A2 m c2 new W hm (hr2.ext hx) hs2 (by omega)
  have cE1 := fun W (hx : Ext w W) => mFault_any A n c old W (hg.ext hx) hn (hr.ext hx) hs (by omega)
  have cE2 := fun W (hx : Ext w W) => mFault_any A2 m c2 new W (hg.ext hx) hm (hr2.ext hx) hs2 (by omega)
  have hERR := chgR_err (old := old) (new := new)
  have hOK := chgR_ok (old := old) (new := new)
  have hEA := chgE_a (old := old) (new := new)
  have hEB := chgE_b (old := old) (new := new)
  have hfin : chgL old new = goneL (tbl new) old ++ putL (tbl old) new := rfl

  have HN := Lib.hid hn; have HM := Lib.hid hm
  have HR := Lib.hid hr; have HR2 := Lib.hid hr2
  generalize tbl old = F1 at *
  generalize tbl new = F2 at *
  generalize seErr pathL old = E1 at *
  generalize seErr pathL new = E2 at *
  generalize chgE old new = E at *
  generalize chgR old new = R at *
  have HFIN := Lib.hid hfin
  have HERR := Lib.hid hERR; have HOK := Lib.hid hOK; have HEA := Lib.hid hEA; have HEB := Lib.hid hEB
  have CT1 := Lib.hid cT1; have CT2 := Lib.hid cT2; have CE1 := Lib.hid cE1; have CE2 := Lib.hid cE2
  clear cT1 cT2 cE1 cE2 hfin hn hm hr hr2 hERR hOK hEA hEB
  have i0 : ∀ w, (Instr.index 176 (.agg #[.slice A n c, .slice A2 m c2]) (.int .i64 0)).run Tryz.prog w = .ok (.slice A n c) w := fun _ => by kernel_rfl
  have i1 : ∀ w, (Instr.index 176 (.agg #[.slice A n c, .slice A2 m c2]) (.int .i64 1)).run Tryz.prog w = .ok (.slice A2 m c2) w := fun _ => by kernel_rfl
  go_enter Tryz.func48, Tryz.ntmps48
  go_wp2
  go_loopw [23] (fun i wr => (i = .int .i64 0 ∨ (i = .int .i64 1 ∧ E1 = 0) ∨ (i = .int .i64 2 ∧ E1 = 0 ∧ E2 = 0)) ∧ Ext w wr) (fun i _ => 2 - (intOf i).toNat)
  case atStart => exact ⟨.inl rfl, Ext.refl _⟩
  case round =>
    obtain ⟨hi, hxr⟩ := hrel
    rcases hi with rfl | ⟨rfl, h1⟩ | ⟨rfl, h1, h2⟩
    · go_wp2_with fail
      refine (CE1.out _ hxr).mono ?_
      rintro e w1 ⟨rfl, hx1⟩
      by_cases h1 : E1 = 0
      · have H1 := Lib.hid h1
        rw [h1]
        clear h1
        go_wp2
        go_roundw
        case rel => exact ⟨.inr (.inl ⟨rfl, H1.out⟩), hxr.trans hx1⟩
        case measure => decide
      · have HE := Lib.hid (HEA.out h1)
        have HR0 := Lib.hid (HERR.out (by rw [HE.out]; exact h1))
        have hne : (E1 != 0) = true := by rw [bne_iff_ne]; exact h1
        go_wp2
        go_ret2
        exact ⟨.slice none 0 0, by rw [HE.out]; first | done | rfl, by rw [HR0.out]; exact ChgOwn.nil _ _, hxr.trans hx1⟩
    · have H1 := Lib.hid h1
      clear h1
      go_wp2_with fail
      refine (CE2.out _ hxr).mono ?_
      rintro e w1 ⟨rfl, hx1⟩
      by_cases h2 : E2 = 0
      · have H2 := Lib.hid h2
        rw [h2]
        clear h2
        go_wp2
        go_roundw
        case rel => exact ⟨.inr (.inr ⟨rfl, H1.out, H2.out⟩), hxr.trans hx1⟩
        case measure => decide
      · have HE := Lib.hid (HEB.out H1.out)
        have HR0 := Lib.hid (HERR.out (by rw [HE.out]; exact h2))
        have hne : (E2 != 0) = true := by rw [bne_iff_ne]; exact h2
        go_wp2
        go_ret2
        exact ⟨.slice none 0 0, by rw [HE.out]; first | done | rfl, by rw [HR0.out]; exact ChgOwn.nil _ _, hxr.trans hx1⟩
    have HE := Lib.hid ((HEB.out h1).trans h2)
    have HR0 := Lib.hid (HOK.out HE.out)
    clear h1 h2 i0 i1
    obtain ⟨wz, rfl⟩ : ∃ wz : World, wz = wr := ⟨_, rfl⟩
    have hxz := hxr
    clear hxr
    go_wp2_with fail
    refine (CT1.out _ hxz).mono ?_
    rintro e w1 ⟨rfl, hM1, hx1⟩
    go_wp2_with fail
    refine (CT2.out _ (hxz.trans hx1)).mono ?_
    rintro e wB ⟨rfl, hM2, hx2⟩
    have hxB := (hxz.trans hx1).trans hx2
    have hM1 := hM1.ext hx2
    have hBB := hxB.size
    go_wp2

    go_loopw [38, 11] (fun i v wr => ∃ k : Nat, k ≤ n ∧ i = .int .i64 k ∧ ChgOwn wB.heap.size (goneL F2 (old.take k)) v wr ∧ Ext wB wr) (fun i _ _ => n - (intOf i).toNat)
    case atStart => exact ⟨0, Nat.zero_le _, rfl, ChgOwn.nil _ _, Ext.refl _⟩
    case round =>
      obtain ⟨k, hk, rfl, hown, hxr⟩ := hrel
      by_cases hlt : k < n
      · have hk1 : k < old.length := by rw [HN.out]; exact hlt
        obtain ⟨b, o, hA, hX⟩ := HR.out (fun e => by rw [e] at hk1; simp at hk1)
        subst hA
        have X := hX.ext (hxB.trans hxr)
        have x0 := X.c0 k hk1
        have x1 := X.c1 k hk1
        have hz1 := hs old[k] (List.getElem_mem hk1)
        have HNO := Lib.hid (fun v h => goneL_no (f := F2) hk1 (v := v) h)
        have HYES := Lib.hid (goneL_yes (f := F2) hk1)
        have hGl : (goneL F2 (old.take k)).length ≤ n := Nat.le_trans (goneL_length _ _) (by rw [List.length_take]; omega)
        generalize goneL F2 (old.take k) = G at *
        generalize old[k] = s at *
        obtain ⟨sk, sv⟩ := s
        dsimp only at x0 x1 hz1 HNO HYES
        obtain ⟨hz1, hz2⟩ := hz1
        clear X hX
        have hlook := (hM2.ext (hxr.alloc (.cells #[.string sk, .string sv] 74))).look (t := 179) Tryz.underlying179 sk hz1
        have hsz : wB.heap.size ≤ (wr.alloc (.cells #[.string sk, .string sv] 74)).heap.size := (hxr.alloc _).size
        have hw5 := hxr.alloc (.cells #[.string sk, .string sv] 74)
        cases hf : F2 (bs sk) with
        | some u =>
          have HU := Lib.hid (HNO.out u hf)
          rw [hf] at hlook
          simp only [Option.isSome_some, Option.getD_some] at hlook
          clear hf
          go_wp2
          go_roundw
          case rel => exact ⟨k + 1, by omega, by go_num, by rw [HU.out]; exact ChgOwn.ext hown ((Ext.refl wr).alloc _), hw5⟩
          case measure => simp [intOf]; omega
        | none =>
          have HU := Lib.hid (HYES.out hf)
          rw [hf] at hlook
          simp only [Option.isSome_none, Option.getD_none] at hlook
          clear hf
          go_wp2_with (at_builtin; refine wpList_app1g _ _ _ rfl _ _ 66 rfl (.agg #[.int .i64 0, .string ⟨#[]⟩, .string ⟨#[]⟩, .bool false, .string ⟨#[]⟩, .string ⟨#[]⟩, .string ⟨#[]⟩, .string ⟨#[]⟩, .bool false, .bool false]) 10 120 Tryz.underlying66 info_change rfl (by decide) (by decide) wB.heap.size _ G.length _ rfl (hown.alloc _) _ _ rfl (by simp) rfl (by simp [Value.oneCell']) (by omega) hsz ?_; intro v' w5 hown5 hx5 _)
          go_roundw
          case rel => exact ⟨k + 1, by omega, by go_num, by rw [HU.out]; exact ChgOwn.snoc hown5 rfl rfl, hx5 _ hw5 (Nat.le_refl _)⟩
          case measure => simp [intOf]; omega
      · obtain rfl : k = n := by omega
        have hG : goneL F2 (old.take k) = goneL F2 old := by rw [← HN.out, goneL_all]
        rw [hG] at hown
        have hGl : (goneL F2 old).length ≤ k := by rw [← HN.out]; exact goneL_length _ _
        clear hG
        obtain ⟨wo, rfl⟩ : ∃ wo : World, wo = wr := ⟨_, rfl⟩
        go_wp2
        go_loopw [61, 11] (fun i v wr => ∃ j : Nat, j ≤ m ∧ i = .int .i64 j ∧ ChgOwn wB.heap.size (goneL F2 old ++ putL F1 (new.take j)) v wr ∧ Ext wB wr) (fun i _ _ => m - (intOf i).toNat)
        case atStart => exact ⟨0, Nat.zero_le _, rfl, by simpa [putL] using hown, hxr⟩
        case round =>
          clear hown hxr hk hlt
          obtain ⟨j, hj, rfl, hown, hxr⟩ := hrel
          by_cases hlt : j < m
          · have hk1 : j < new.length := by rw [HM.out]; exact hlt
            obtain ⟨b, o, hA, hX⟩ := HR2.out (fun e => by rw [e] at hk1; simp at hk1)
            subst hA
            have X := hX.ext (hxB.trans hxr)
            have x0 := X.c0 j hk1
            have x1 := X.c1 j hk1
            have hz1 := hs2 new[j] (List.getElem_mem hk1)
            have HNO := Lib.hid (putL_no (f := F1) hk1)
            have HYES := Lib.hid (putL_yes (f := F1) hk1)
            have hGl : (goneL F2 old ++ putL F1 (new.take j)).length ≤ k + m := by
              have := putL_length F1 (new.take j)
              rw [List.length_take] at this
              rw [List.length_append]
              omega
            have HASS := Lib.hid (fun c : Ch => (List.append_assoc (goneL F2 old) (putL F1 (new.take j)) [c]))
            obtain ⟨G, hG⟩ : ∃ G, goneL F2 old ++ putL F1 (new.take j) = G := ⟨_, rfl⟩
            rw [hG] at hown hGl
            have HG := Lib.hid hG
            clear hG
            generalize new[j] = s at *
            obtain ⟨sk, sv⟩ := s
            dsimp only at x0 x1 hz1 HNO HYES
            obtain ⟨hz1, hz2⟩ := hz1
            clear X hX
            have hlook := (hM1.ext (hxr.alloc (.cells #[.string sk, .string sv] 74))).look (t := 179) Tryz.underlying179 sk hz1
            have hsz : wB.heap.size ≤ (wr.alloc (.cells #[.string sk, .string sv] 74)).heap.size := (hxr.alloc _).size
            have hw5 := hxr.alloc (.cells #[.string sk, .string sv] 74)
            cases hf : F1 (bs sk) with
            | some u =>
              rw [hf] at hlook HNO HYES
              obtain ⟨ub, rfl⟩ : ∃ ub : ByteArray, u = bs ub := ⟨⟨u.toArray⟩, (bs_mk u).symm⟩
              simp only [Option.isSome_some, Option.getD_some, S_bs] at hlook
              clear hf
              by_cases he : ub = sv
              · subst he
                have HU := Lib.hid (HNO.out rfl)
                go_wp2
                go_roundw
                case rel => exact ⟨j + 1, by omega, by go_num, by rw [HU.out, HG.out]; exact ChgOwn.ext hown ((Ext.refl wr).alloc _), hw5⟩
                case measure => simp [intOf]; omega
              · have HU := Lib.hid (HYES.out (fun e => he (bs_inj (Option.some.inj e))))
                have he1 : ¬ ub.toList = sv.toList := by rw [str_eq]; exact he
                have he2 : (ub.toList == sv.toList) = false := beq_eq_false_iff_ne.2 he1
                go_wp2_with (at_builtin; refine wpList_app1g _ _ _ rfl _ _ 66 rfl (.agg #[.int .i64 0, .string ⟨#[]⟩, .string ⟨#[]⟩, .bool false, .string ⟨#[]⟩, .string ⟨#[]⟩, .string ⟨#[]⟩, .string ⟨#[]⟩, .bool false, .bool false]) 10 120 Tryz.underlying66 info_change rfl (by decide) (by decide) wB.heap.size _ G.length _ rfl (hown.alloc _) _ _ rfl (by simp) rfl (by simp [Value.oneCell']) (by omega) hsz ?_; intro v' w5 hown5 hx5 _)
                go_roundw
                case rel => exact ⟨j + 1, by omega, by go_num, by rw [HU.out, ← HASS.out, HG.out]; exact ChgOwn.snoc hown5 rfl rfl, hx5 _ hw5 (Nat.le_refl _)⟩
                case measure => simp [intOf]; omega
            | none =>
              have HU := Lib.hid (HYES.out (by rw [hf]; simp))
              rw [hf] at hlook
              simp only [Option.isSome_none, Option.getD_none] at hlook
              clear hf
              go_wp2_with (at_builtin; refine wpList_app1g _ _ _ rfl _ _ 66 rfl (.agg #[.int .i64 0, .string ⟨#[]⟩, .string ⟨#[]⟩, .bool false, .string ⟨#[]⟩, .string ⟨#[]⟩, .string ⟨#[]⟩, .string ⟨#[]⟩, .bool false, .bool false]) 10 120 Tryz.underlying66 info_change rfl (by decide) (by decide) wB.heap.size _ G.length _ rfl (hown.alloc _) _ _ rfl (by simp) rfl (by simp [Value.oneCell']) (by omega) hsz ?_; intro v' w5 hown5 hx5 _)
              go_roundw
              case rel => exact ⟨j + 1, by omega, by go_num, by rw [HU.out, ← HASS.out, HG.out]; exact ChgOwn.snoc hown5 rfl rfl, hx5 _ hw5 (Nat.le_refl _)⟩
              case measure => simp [intOf]; omega
          · obtain rfl : j = m := by omega
            have hP : putL F1 (new.take j) = putL F1 new := by rw [← HM.out, putL_all]
            rw [hP] at hown
            clear hP
            go_wp2
            go_ret2
            exact ⟨_, by rw [HE.out]; first | done | rfl, by rw [HR0.out, HFIN.out]; exact own_base hown hBB, hxB.trans hxr⟩
end Go.Proofs.YtghhjlcbcojcnaaGreatDoor
