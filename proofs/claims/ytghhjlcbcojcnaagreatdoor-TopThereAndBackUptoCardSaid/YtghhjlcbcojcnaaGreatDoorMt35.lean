/- Moves in memory; contracts of migrate.rulesOf and of outref2.RulesOf. (Printed by gen/mova.py.) Contracts of migrate.CheckMove and of outref2.MoveError. Ways in memory: lists of numbers, stops; slices.Clone over numbers; what Way tells, in plain words. -/
import Derived.Test.YtghhjlcbcojcnaaGreatDoorMt34
import Derived.Test.YtghhjlcbcojcnaaGreatDoorMt32
import Derived.Test.YtghhjlcbcojcnaaGreatDoorMt19
import Derived.Test.YtghhjlcbcojcnaaGreatDoorMt24
import Derived.Test.YtghhjlcbcojcnaaGreatDoorMt23
import Derived.Test.YtghhjlcbcojcnaaGreatDoorMt09
import Derived.Test.YtghhjlcbcojcnaaGreatDoorMt12
import Derived.Test.YtghhjlcbcojcnaaGreatDoorMt06
import Derived.Deep.RegionHeld3
import Derived.Test.YtghhjlcbcojcnaaGreatDoorMt33
import Derived.Test.YtghhjlcbcojcnaaGreatDoorShelfH

namespace Go.Proofs.YtghhjlcbcojcnaaGreatDoor
open Go.RowKit

/-! ### Moves -/
/-- the rules of a move, read; their errors -/
def mvR (m : Mv) : List Ru := m.rules.map fun s => (parseRu (bs s)).1
def mvE (m : Mv) : List Int := m.rules.map fun s => (parseRu (bs s)).2
theorem mvR_length (m : Mv) : (mvR m).length = m.rules.length := by simp [mvR]
theorem mvE_length (m : Mv) : (mvE m).length = m.rules.length := by simp [mvE]
theorem mvR_get (m : Mv) (k : Nat) (h : k < m.rules.length) : (mvR m)[k]? = some (parseRu (bs m.rules[k])).1 := by simp [mvR, List.getElem?_eq_getElem h]
theorem mvE_get (m : Mv) (k : Nat) (h : k < m.rules.length) : (mvE m)[k]? = some (parseRu (bs m.rules[k])).2 := by simp [mvE, List.getElem?_eq_getElem h]
/-- what rulesOf returns -/
def mvQ (m : Mv) : List Ru := if firstI (mvE m) = 0 then mvR m else []
/-- the error of a move -/
def mvErr (m : Mv) : Int := firstI [rngErr m.fr, m.tt.err, (if 100 < m.rules.length then 4 else 0), firstI (mvE m)]
theorem own_rdU {w : World} {B : Nat} {X : List Ru} {v : Value} (h : w.ownsRow B 23 5 v X.length (rowsU X)) : ∃ A c, v = .slice A X.length c ∧ RdU w A (X.map Ru.b) := by
  obtain ⟨A, c, rfl, hc⟩ := own_slice h
  refine ⟨A, c, rfl, fun hne => ?_⟩
  have hpos : 0 < X.length := by
    rcases Nat.eq_zero_or_pos X.length with h0 | h0
    · exact absurd (by rw [List.eq_nil_of_length_eq_zero h0]; rfl) hne
    · exact h0
  obtain ⟨g, o, rfl, hcell⟩ := hc hpos
  have key : ∀ k (hk : k < (X.map Ru.b).length) j, j < 5 → w.cell? ⟨g, o + k * 5 + j, none⟩ = (ru5 (X.map Ru.b)[k])[j]? := fun k hk j hj => by
    have hk2 : k < X.length := by simpa using hk
    have hr := rowsU_get X k j hk2 hj
    rw [List.getElem_map, Nat.add_assoc]
    cases hu : (ru5 X[k].b)[j]? with
    | none => rw [List.getElem?_eq_none_iff] at hu; simp [ru5] at hu; omega
    | some u => exact hcell _ u (hr.trans hu)
  exact ⟨g, o, rfl, fun k hk => key k hk 0 (by decide), fun k hk => key k hk 1 (by decide), fun k hk => key k hk 2 (by decide), fun k hk => key k hk 3 (by decide), fun k hk => key k hk 4 (by decide)⟩
set_option maxHeartbeats 16000000 in
set_option maxRecDepth 100000 in
theorem rulesOf_any (m : Mv) (A1 A2 : Option Addr) (c c2 : Nat) (w : World) (hg : Good w) (hm : MvIn w m A1 A2) (hs : SmallM m) :
    Calls Tryz.prog 146 #[mvV m A1 c A2 c2] w fun e w' => ∃ A c, e = .returned (.tuple #[.slice A (mvQ m).length c, .int .i64 (firstI (mvE m))]) ∧ RdU w' A ((mvQ m).map Ru.b) ∧ Ext w w' := by
  have CI := Lib.hid (fun W (h : Ext w W) k (hk : k < m.rules.length) => ParseRule_any m.rules[k] W (hg.ext h) (hs.rules _ (List.getElem_mem hk)))
  have HXG := Lib.hid (mvR_get m)
  have HEG := Lib.hid (mvE_get m)
  have HXL := Lib.hid (mvR_length m)
  have HEL := Lib.hid (mvE_length m)
  have HR := Lib.hid hm.2
  have hnum := hs.num
  have HQ := Lib.hid (show mvQ m = if firstI (mvE m) = 0 then mvR m else [] from rfl)
  generalize mvQ m = Q at *
  generalize mvR m = X at *
  generalize mvE m = L at *
  obtain ⟨fr, ⟨t1, t2, t3, ta⟩, rules⟩ := m
  dsimp only [mvV] at *
  obtain ⟨n, hn⟩ : ∃ n, fr.length = n := ⟨_, rfl⟩
  obtain ⟨p, hp⟩ : ∃ p, rules.length = p := ⟨_, rfl⟩
  rw [hn, hp]
  rw [hp] at hnum
  have HP := Lib.hid hp
  clear hn hp hm hs hg
  have b0 := Blk.new w 104 #[.slice A1 n c, .int .i64 t1, .int .i64 t2, .int .i64 t3, .string ta, .slice A2 p c2]
  have hc0 := b0.cell; have hf0 := b0.free; have hz0 := b0.lt
  have hx0 : Ext w (w.alloc (.cells #[.slice A1 n c, .int .i64 t1, .int .i64 t2, .int .i64 t3, .string ta, .slice A2 p c2] 104)) := (Ext.refl w).alloc _
  have hsz0 := hx0.size
  obtain ⟨E, hE⟩ : ∃ E, firstI L = E := ⟨_, rfl⟩
  rw [hE] at HQ ⊢
  have HE := Lib.hid hE
  clear hE
  go_enter Tryz.func146, Tryz.ntmps146
  go_wp2
  clear hc0 hf0 hz0
  go_loopw [12, 4] (fun i v wr => ∃ k : Nat, k ≤ p ∧ i = .int .i64 k ∧ (∀ x ∈ L.take k, x = 0) ∧ wr.ownsRow w.heap.size 23 5 v k (rowsU (X.take k)) ∧ Ext w wr) (fun i _ _ => p - (intOf i).toNat)
  case atStart => exact ⟨0, Nat.zero_le _, rfl, by simp, World.ownsRow_nil _ _ _ _, hx0⟩
  case round =>
    clear hx0 hsz0 b0
    obtain ⟨k, hk, rfl, hall, hown, hxr⟩ := hrel
    have HALL := Lib.hid hall
    clear hall
    by_cases hlt : k < p
    · have hk1 : k < rules.length := by rw [HP.out]; exact hlt
      obtain ⟨b, o, rfl, hX⟩ := (HR.out.ext hxr) (fun e => by rw [e] at hk1; exact absurd hk1 (Nat.not_lt_zero _))
      have x0 := hX k hk1
      have CR := Lib.hid (fun W (h : Ext w W) => CI.out W h k hk1)
      have HXT := Lib.hid (show X.take (k + 1) = X.take k ++ [(parseRu (bs rules[k])).1] from take_next (HXG.out k hk1))
      obtain ⟨HKL, hge⟩ := List.getElem?_eq_some_iff.1 (HEG.out k hk1)
      have HGE := Lib.hid hge
      clear hge
      generalize (parseRu (bs rules[k])).2 = ek at *
      obtain ⟨q, hq⟩ : ∃ q : RB, (parseRu (bs rules[k])).1 = q.l := ⟨(parseRu (bs rules[k])).1.b, (Ru.b_l _).symm⟩
      rw [hq, ruX_l] at CR
      rw [hq] at HXT
      clear hq
      generalize rules[k] = r at *
      obtain ⟨q0, q1, q2, q3, q4⟩ := q
      have HROW := Lib.hid (show [.int .i64 q0, .string q1, .string q2, .string q3, .string q4] = row5 (RB.l ⟨q0, q1, q2, q3, q4⟩) from by simp [row5, ru5, Ru.b, RB.l])
      clear hX
      have hsz := hxr.size
      by_cases he : ek = 0
      · subst he
        go_wp2_with fail
        refine (CR.out _ hxr).mono ?_
        rintro e w2 ⟨rfl, hx2⟩
        have hxw2 := hxr.trans hx2
        have hsz2 := hxw2.size
        have hown2 := (own_ext hown hx2).alloc (.cells #[.int .i64 q0, .string q1, .string q2, .string q3, .string q4] 23)
        have b2 := Blk.new w2 23 #[.int .i64 q0, .string q1, .string q2, .string q3, .string q4]
        have hc2 := b2.cell
        clear b2
        go_wp2_with (at_builtin; refine wpList_app1g _ _ _ rfl _ _ 91 rfl (.agg #[.int .i64 0, .string ⟨#[]⟩, .string ⟨#[]⟩, .string ⟨#[]⟩, .string ⟨#[]⟩]) 5 72 Tryz.underlying91 info_rule rfl (by decide) (by decide) w.heap.size _ k _ rfl hown2 _ _ rfl (World.size_alloc _ _) rfl (by simp [Value.oneCell']) (by omega) (by simp; omega) ?_; intro v' w5 hown5 hx5 _)
        go_wp2
        go_roundw
        case rel => exact ⟨k + 1, by omega, by go_num, take_zero_succ HKL HALL.out HGE.out, by rw [HXT.out]; exact own_snocU hown5 HROW.out, hx5 _ (hxw2.alloc _) (Nat.le_refl _)⟩
        case measure => simp [intOf]; omega
      · have HE1 := Lib.hid (show E = ek from by
          rw [← HE.out, firstI_at HKL HALL.out (by rw [HGE.out]; exact he)]
          exact HGE.out)
        have HS0 := Lib.hid (show Q = [] from by rw [HQ.out, HE1.out, if_neg he])
        have hne : (ek != 0) = true := by rw [bne_iff_ne]; exact he
        clear he
        go_wp2_with fail
        refine (CR.out _ hxr).mono ?_
        rintro e w2 ⟨rfl, hx2⟩
        go_wp2
        go_ret2
        exact ⟨none, 0, by rw [HE1.out, HS0.out] <;> rfl, by rw [HS0.out]; exact (fun h => absurd rfl h), (hxr.trans hx2).alloc _⟩
    · obtain rfl : k = p := by omega
      have HE1 := Lib.hid (show E = 0 from by
        rw [← HE.out]
        refine firstI_zero fun x hx => HALL.out x ?_
        rw [List.take_of_length_le (by rw [HEL.out, HP.out]; exact Nat.le_refl _)]
        exact hx)
      have HS0 := Lib.hid (show Q = X from by rw [HQ.out, HE1.out, if_pos rfl])
      have HXM := Lib.hid (show X.length = k from by rw [HXL.out, HP.out])
      have hxt : X.take k = X := List.take_of_length_le (by rw [HXM.out]; exact Nat.le_refl _)
      rw [hxt] at hown
      clear hxt
      rw [← HXM.out] at hown
      obtain ⟨A, cc, rfl, hrd⟩ := own_rdU hown
      have HRD := Lib.hid hrd
      clear hown hrd
      go_wp2
      go_ret2
      exact ⟨A, cc, by rw [HE1.out, HS0.out] <;> rfl, by rw [HS0.out]; exact HRD.out, hxr⟩
set_option maxHeartbeats 16000000 in
set_option maxRecDepth 100000 in
theorem RulesOf_any (m : Mv) (A1 A2 : Option Addr) (c c2 : Nat) (w : World) (hg : Good w) (hm : MvIn w m A1 A2) (hs : SmallM m) :
    Calls Tryz.prog 152 #[mvV m A1 c A2 c2] w fun e w' => ∃ A c, e = .returned (.slice A (mvR m).length c) ∧ RdU w' A ((mvR m).map Ru.b) ∧ Ext w w' := by
  have CI := Lib.hid (fun W (h : Ext w W) k (hk : k < m.rules.length) => ReadRule_any m.rules[k] W (hg.ext h) (hs.rules _ (List.getElem_mem hk)))
  have HXG := Lib.hid (mvR_get m)
  have HEG := Lib.hid (mvE_get m)
  have HXL := Lib.hid (mvR_length m)
  have HEL := Lib.hid (mvE_length m)
  have HR := Lib.hid hm.2
  have hnum := hs.num
  generalize mvR m = X at *
  generalize mvE m = L at *
  obtain ⟨fr, ⟨t1, t2, t3, ta⟩, rules⟩ := m
  dsimp only [mvV] at *
  obtain ⟨n, hn⟩ : ∃ n, fr.length = n := ⟨_, rfl⟩
  obtain ⟨p, hp⟩ : ∃ p, rules.length = p := ⟨_, rfl⟩
  rw [hn, hp]
  rw [hp] at hnum
  have HP := Lib.hid hp
  clear hn hp hm hs hg
  have b0 := Blk.new w 104 #[.slice A1 n c, .int .i64 t1, .int .i64 t2, .int .i64 t3, .string ta, .slice A2 p c2]
  have hc0 := b0.cell; have hf0 := b0.free; have hz0 := b0.lt
  have hx0 : Ext w (w.alloc (.cells #[.slice A1 n c, .int .i64 t1, .int .i64 t2, .int .i64 t3, .string ta, .slice A2 p c2] 104)) := (Ext.refl w).alloc _
  have hsz0 := hx0.size
  go_enter Tryz.func152, Tryz.ntmps152
  go_wp2
  clear hc0 hf0 hz0
  go_loopw [11, 3] (fun i v wr => ∃ k : Nat, k ≤ p ∧ i = .int .i64 k ∧ wr.ownsRow w.heap.size 23 5 v k (rowsU (X.take k)) ∧ Ext w wr) (fun i _ _ => p - (intOf i).toNat)
  case atStart => exact ⟨0, Nat.zero_le _, rfl, World.ownsRow_nil _ _ _ _, hx0⟩
  case round =>
    clear hx0 hsz0 b0
    obtain ⟨k, hk, rfl, hown, hxr⟩ := hrel
    by_cases hlt : k < p
    · have hk1 : k < rules.length := by rw [HP.out]; exact hlt
      obtain ⟨b, o, rfl, hX⟩ := (HR.out.ext hxr) (fun e => by rw [e] at hk1; exact absurd hk1 (Nat.not_lt_zero _))
      have x0 := hX k hk1
      have CR := Lib.hid (fun W (h : Ext w W) => CI.out W h k hk1)
      have HXT := Lib.hid (show X.take (k + 1) = X.take k ++ [(parseRu (bs rules[k])).1] from take_next (HXG.out k hk1))
      generalize (parseRu (bs rules[k])).2 = ek at *
      obtain ⟨q, hq⟩ : ∃ q : RB, (parseRu (bs rules[k])).1 = q.l := ⟨(parseRu (bs rules[k])).1.b, (Ru.b_l _).symm⟩
      rw [hq, ruX_l] at CR
      rw [hq] at HXT
      clear hq
      generalize rules[k] = r at *
      obtain ⟨q0, q1, q2, q3, q4⟩ := q
      have HROW := Lib.hid (show [.int .i64 q0, .string q1, .string q2, .string q3, .string q4] = row5 (RB.l ⟨q0, q1, q2, q3, q4⟩) from by simp [row5, ru5, Ru.b, RB.l])
      clear hX
      have hsz := hxr.size
      go_wp2_with fail
      refine (CR.out _ hxr).mono ?_
      rintro e w2 ⟨rfl, hx2⟩
      have hxw2 := hxr.trans hx2
      have hsz2 := hxw2.size
      have hown2 := (own_ext hown hx2).alloc (.cells #[.int .i64 q0, .string q1, .string q2, .string q3, .string q4] 23)
      have b2 := Blk.new w2 23 #[.int .i64 q0, .string q1, .string q2, .string q3, .string q4]
      have hc2 := b2.cell
      clear b2
      go_wp2_with (at_builtin; refine wpList_app1g _ _ _ rfl _ _ 91 rfl (.agg #[.int .i64 0, .string ⟨#[]⟩, .string ⟨#[]⟩, .string ⟨#[]⟩, .string ⟨#[]⟩]) 5 72 Tryz.underlying91 info_rule rfl (by decide) (by decide) w.heap.size _ k _ rfl hown2 _ _ rfl (World.size_alloc _ _) rfl (by simp [Value.oneCell']) (by omega) (by simp; omega) ?_; intro v' w5 hown5 hx5 _)
      go_wp2
      go_roundw
      case rel => exact ⟨k + 1, by omega, by go_num, by rw [HXT.out]; exact own_snocU hown5 HROW.out, hx5 _ (hxw2.alloc _) (Nat.le_refl _)⟩
      case measure => simp [intOf]; omega
    · obtain rfl : k = p := by omega
      have HXM := Lib.hid (show X.length = k from by rw [HXL.out, HP.out])
      have hxt : X.take k = X := List.take_of_length_le (by rw [HXM.out]; exact Nat.le_refl _)
      rw [hxt] at hown
      clear hxt
      rw [← HXM.out] at hown
      obtain ⟨A, cc, rfl, hrd⟩ := own_rdU hown
      have HRD := Lib.hid hrd
      clear hown hrd
      go_wp2
      go_ret
      exact ⟨A, cc, rfl, HRD.out, hxr⟩
end Go.Proofs.YtghhjlcbcojcnaaGreatDoor

namespace Go.Proofs.YtghhjlcbcojcnaaGreatDoor
open Go.RowKit

set_option maxHeartbeats 16000000 in
set_option maxRecDepth 100000 in
theorem CheckMove_any (m : Mv) (A1 A2 : Option Addr) (c c2 : Nat) (w : World) (hg : Good w) (hm : MvIn w m A1 A2) (hs : SmallM m) :
    Calls Tryz.prog 72 #[mvV m A1 c A2 c2] w fun e w' => e = .returned (.int .i64 (mvErr m)) ∧ Ext w w' := by
  have CR := Lib.hid (fun W (h : Ext w W) => CheckRange_any A1 m.fr.length c m.fr W (hg.ext h) rfl (hm.1.ext h) hs.fr hs.len)
  have CV := Lib.hid (show ∀ W, Ext w W → Calls Tryz.prog 28 #[verV m.tt] W fun e w' => e = .returned (.int .i64 m.tt.err) ∧ Ext W w' from fun W h => Check_any m.tt.a1 m.tt.a2 m.tt.a3 m.tt.a W (hg.ext h) hs.tt)
  have CU := Lib.hid (fun W (h : Ext w W) => rulesOf_any m A1 A2 c c2 W (hg.ext h) (hm.ext h) hs)
  have HE := Lib.hid (show mvErr m = firstI [rngErr m.fr, m.tt.err, (if 100 < m.rules.length then 4 else 0), firstI (mvE m)] from rfl)
  generalize mvErr m = E at *
  generalize firstI (mvE m) = E3 at *
  generalize rngErr m.fr = E1 at *
  generalize m.tt.err = E2 at *
  generalize mvQ m = Q at *
  obtain ⟨fr, ⟨t1, t2, t3, ta⟩, rules⟩ := m
  dsimp only [mvV, verV] at *
  obtain ⟨n, hn⟩ : ∃ n, fr.length = n := ⟨_, rfl⟩
  obtain ⟨p, hp⟩ : ∃ p, rules.length = p := ⟨_, rfl⟩
  rw [hn] at CR
  rw [hp] at HE
  rw [hn, hp] at CU
  rw [hn, hp]
  clear hn hp hm hs hg
  have b0 := Blk.new w 104 #[.slice A1 n c, .int .i64 t1, .int .i64 t2, .int .i64 t3, .string ta, .slice A2 p c2]
  have hc0 := b0.cell; have hf0 := b0.free; have hz0 := b0.lt
  have hx0 : Ext w (w.alloc (.cells #[.slice A1 n c, .int .i64 t1, .int .i64 t2, .int .i64 t3, .string ta, .slice A2 p c2] 104)) := (Ext.refl w).alloc _
  generalize hW : w.alloc (.cells #[.slice A1 n c, .int .i64 t1, .int .i64 t2, .int .i64 t3, .string ta, .slice A2 p c2] 104) = W0 at *
  have HW := Lib.hid hW
  clear hW
  by_cases h1 : E1 = 0
  rotate_left
  · have HF := Lib.hid (show E = E1 from by rw [HE.out, firstI, if_neg h1])
    have hne : (E1 != 0) = true := by rw [bne_iff_ne]; exact h1
    clear h1
    go_enter Tryz.func72, Tryz.ntmps72
    go_wp2_with fail
    rw [HW.out]
    refine (CR.out _ hx0).mono ?_
    rintro e w1 ⟨rfl, hx1⟩
    go_wp2
    go_ret
    exact ⟨ret_int HF.out.symm, hx0.trans hx1⟩
  subst h1
  by_cases h2 : E2 = 0
  rotate_left
  · have HF := Lib.hid (show E = E2 from by rw [HE.out, firstI, if_pos rfl, firstI, if_neg h2])
    have hne : (E2 != 0) = true := by rw [bne_iff_ne]; exact h2
    clear h2
    go_enter Tryz.func72, Tryz.ntmps72
    go_wp2_with fail
    rw [HW.out]
    refine (CR.out _ hx0).mono ?_
    rintro e w1 ⟨rfl, hx1⟩
    have b1 := b0.ext hx1
    have hc1 := b1.cell; have hf1 := b1.free; have hz1 := b1.lt
    go_wp2_with fail
    refine (CV.out _ (hx0.trans hx1)).mono ?_
    rintro e w2 ⟨rfl, hx2⟩
    go_wp2
    go_ret
    exact ⟨ret_int HF.out.symm, (hx0.trans hx1).trans hx2⟩
  subst h2
  by_cases h3 : 100 < p
  · have HF := Lib.hid (show E = 4 from by rw [HE.out, firstI, if_pos rfl, firstI, if_pos rfl, if_pos h3, firstI, if_neg (by decide)])
    go_enter Tryz.func72, Tryz.ntmps72
    go_wp2_with fail
    rw [HW.out]
    refine (CR.out _ hx0).mono ?_
    rintro e w1 ⟨rfl, hx1⟩
    have b1 := b0.ext hx1
    have hc1 := b1.cell; have hf1 := b1.free; have hz1 := b1.lt
    go_wp2_with fail
    refine (CV.out _ (hx0.trans hx1)).mono ?_
    rintro e w2 ⟨rfl, hx2⟩
    have b2 := b1.ext hx2
    have hc2 := b2.cell; have hf2 := b2.free; have hz2 := b2.lt
    go_wp2
    go_ret
    exact ⟨ret_int HF.out.symm, (hx0.trans hx1).trans hx2⟩
  have HF := Lib.hid (show E = E3 from by
    rw [HE.out, firstI, if_pos rfl, firstI, if_pos rfl, if_neg h3, firstI, if_pos rfl]
    by_cases h : E3 = 0 <;> simp [firstI, h])
  go_enter Tryz.func72, Tryz.ntmps72
  go_wp2_with fail
  rw [HW.out]
  refine (CR.out _ hx0).mono ?_
  rintro e w1 ⟨rfl, hx1⟩
  have b1 := b0.ext hx1
  have hc1 := b1.cell; have hf1 := b1.free; have hz1 := b1.lt
  go_wp2_with fail
  refine (CV.out _ (hx0.trans hx1)).mono ?_
  rintro e w2 ⟨rfl, hx2⟩
  have b2 := b1.ext hx2
  have hc2 := b2.cell; have hf2 := b2.free; have hz2 := b2.lt
  go_wp2_with fail
  refine (CU.out _ ((hx0.trans hx1).trans hx2)).mono ?_
  rintro e w3 ⟨A, cc, rfl, hrd, hx3⟩
  go_wp2
  go_ret
  exact ⟨ret_int HF.out.symm, ((hx0.trans hx1).trans hx2).trans hx3⟩

set_option maxHeartbeats 16000000 in
set_option maxRecDepth 100000 in
theorem MoveError_any (m : Mv) (A1 A2 : Option Addr) (c c2 : Nat) (w : World) (hg : GoodN w) (hm : MvIn w m A1 A2) (hs : SmallM m) :
    Calls Tryz.prog 73 #[mvV m A1 c A2 c2] w fun e w' => e = .returned (.int .i64 (mvErr m)) ∧ Ext w w' := by
  have CRE := Lib.hid (fun W (h : Ext w W) => (RangeError_any A1 m.fr.length c m.fr W (hg.ext h) rfl (hm.1.ext h) hs.fr hs.len).mono (fun e w' hh => (show e = _ ∧ Ext W w' ∧ Ext w w' from ⟨hh.1, hh.2, h.trans hh.2⟩)))
  have CVE := Lib.hid (show ∀ b cp W, Ext w W → VerS W b [m.tt] → Calls Tryz.prog 21 #[.slice (some ⟨b, 0, none⟩) 1 cp] W fun e w' => e = .returned (.int .i64 m.tt.err) ∧ Ext W w' ∧ Ext w w' from fun b cp W h hv => by
    have := VersionError_any b cp [m.tt] W (hg.toGood.ext h) hv (by intro v hv; rw [List.mem_singleton] at hv; subst hv; exact hs.tt) (by simp)
    have e : firstI ([m.tt].map V4.err) = m.tt.err := by
      simp only [List.map_cons, List.map_nil, firstI]
      split <;> simp_all
    rw [e] at this
    exact this.mono fun e w' hh => ⟨hh.1, hh.2, h.trans hh.2⟩)
  have CWH := Lib.hid (fun W => When_any (decide ((100 : Int) < (m.rules.length : Int))) 4 W)
  have CI := Lib.hid (fun W (h : Ext w W) k (hk : k < m.rules.length) => ReadRule_any m.rules[k] W (hg.toGood.ext h) (hs.rules _ (List.getElem_mem hk)))
  have HEG := Lib.hid (mvE_get m)
  have HEL := Lib.hid (mvE_length m)
  have HR := Lib.hid hm.2
  have hnum := hs.num
  have HE := Lib.hid (show mvErr m = firstI (firstI [rngErr m.fr, m.tt.err, (if decide ((100 : Int) < (m.rules.length : Int)) = true then 4 else 0)] :: mvE m) from by
    rw [show decide ((100 : Int) < (m.rules.length : Int)) = decide (100 < m.rules.length) from by rw [decide_eq_decide]; omega]
    unfold mvErr
    by_cases h1 : rngErr m.fr = 0
    · by_cases h2 : m.tt.err = 0
      · by_cases h3 : 100 < m.rules.length
        · simp [firstI, h1, h2, h3]
        · by_cases h4 : firstI (mvE m) = 0
          · simp [firstI, h1, h2, h3, h4]
          · simp [firstI, h1, h2, h3, h4]
      · simp [firstI, h1, h2]
    · simp [firstI, h1])
  generalize mvErr m = E at *
  generalize mvE m = L at *
  generalize rngErr m.fr = E1 at *
  generalize m.tt.err = E2 at *
  obtain ⟨fr, ⟨t1, t2, t3, ta⟩, rules⟩ := m
  dsimp only [mvV] at *
  obtain ⟨n, hn⟩ : ∃ n, fr.length = n := ⟨_, rfl⟩
  obtain ⟨p, hp⟩ : ∃ p, rules.length = p := ⟨_, rfl⟩
  rw [hn] at CRE
  rw [hp] at CWH HE hnum
  rw [hn, hp]
  have HP := Lib.hid hp
  clear hn hp hm hs hg
  obtain ⟨E3, hE3⟩ : ∃ E3, (if decide ((100 : Int) < (p : Int)) = true then (4 : Int) else 0) = E3 := ⟨_, rfl⟩
  rw [hE3] at CWH HE
  obtain ⟨F, hF⟩ : ∃ F, firstI [E1, E2, E3] = F := ⟨_, rfl⟩
  rw [hF] at HE
  have HF := Lib.hid hF
  clear hE3 hF
  have b0 := Blk.new w 104 #[.slice A1 n c, .int .i64 t1, .int .i64 t2, .int .i64 t3, .string ta, .slice A2 p c2]
  have hx0 : Ext w (w.alloc (.cells #[.slice A1 n c, .int .i64 t1, .int .i64 t2, .int .i64 t3, .string ta, .slice A2 p c2] 104)) := (Ext.refl w).alloc _
  generalize hW : w.alloc (.cells #[.slice A1 n c, .int .i64 t1, .int .i64 t2, .int .i64 t3, .string ta, .slice A2 p c2] 104) = W0 at *
  have HW := Lib.hid hW
  clear hW
  have d0 : W0.cell? ⟨w.heap.size, 0, none⟩ = some (.slice A1 n c) := b0.cell 0
  have d1 : W0.cell? ⟨w.heap.size, 1, none⟩ = some (.int .i64 t1) := b0.cell 1
  have d2 : W0.cell? ⟨w.heap.size, 2, none⟩ = some (.int .i64 t2) := b0.cell 2
  have d3 : W0.cell? ⟨w.heap.size, 3, none⟩ = some (.int .i64 t3) := b0.cell 3
  have d4 : W0.cell? ⟨w.heap.size, 4, none⟩ = some (.string ta) := b0.cell 4
  have d5 : W0.cell? ⟨w.heap.size, 5, none⟩ = some (.slice A2 p c2) := b0.cell 5
  have dl := b0.lt
  have CFI := Lib.hid (fun b cp W (h : ∀ k (hk : k < [E1, E2, E3].length), World.cell? W ⟨b, k, none⟩ = some (.int .i64 [E1, E2, E3][k])) => First_any b cp [E1, E2, E3] W h (by simp))
  rw [HF.out] at CFI
  clear b0
  go_enter Tryz.func73, Tryz.ntmps73
  go_wp2_with fail
  rw [HW.out]
  go_region_held3 (fun w' => w'.cell? ⟨w.heap.size, 0, none⟩ = some (.slice A1 n c) ∧ w'.cell? ⟨w.heap.size, 1, none⟩ = some (.int .i64 t1) ∧ w'.cell? ⟨w.heap.size, 2, none⟩ = some (.int .i64 t2) ∧ w'.cell? ⟨w.heap.size, 3, none⟩ = some (.int .i64 t3) ∧ w'.cell? ⟨w.heap.size, 4, none⟩ = some (.string ta) ∧ w'.cell? ⟨w.heap.size, 5, none⟩ = some (.slice A2 p c2)) (first | (go_keep; done) | ((try go_split_ands); (try dsimp only); (repeat' apply And.intro); all_goals (first | (go_keep; done) | (with_reducible exact hxh.cell (by assumption)) | (refine hxh.cell ?_; go_simp))))
    (first
    | (go_at_call 40; with_reducible refine (CRE.out _ (by repeat (first | with_reducible exact Ext.refl _ | with_reducible assumption | with_reducible apply Ext.drewN | with_reducible apply Ext.drew | with_reducible apply Ext.alloc | exact Ext.refl _ | assumption | apply Ext.drewN | apply Ext.drew | apply Ext.alloc))).mono ?_; rintro e w' ⟨rfl, hxh, hab⟩)
    | (go_at_call 21; with_reducible refine (CVE.out _ _ _ (by repeat (first | with_reducible exact Ext.refl _ | with_reducible assumption | with_reducible apply Ext.drewN | with_reducible apply Ext.drew | with_reducible apply Ext.alloc | exact Ext.refl _ | assumption | apply Ext.drewN | apply Ext.drew | apply Ext.alloc)) (VerS.one (by first | (go_simp; done) | (refine Ext.cell hxh ?_; go_simp; done)) (by first | (go_simp; done) | (refine Ext.cell hxh ?_; go_simp; done)) (by first | (go_simp; done) | (refine Ext.cell hxh ?_; go_simp; done)) (by first | (go_simp; done) | (refine Ext.cell hxh ?_; go_simp; done)))).mono ?_; rintro e w' ⟨rfl, hxh, hab⟩)
    | (go_at_call 60; with_reducible refine (CWH.out _).mono ?_; rintro e w' ⟨rfl, rfl⟩)
    | (go_at_call 22; refine (CFI.out _ _ _ (by intro k hk; rw [World.cell?_alloc_at _ _ _ _ rfl]; match k, hk with | 0, _ => rfl | 1, _ => rfl | 2, _ => rfl)).mono ?_; rintro e w' ⟨rfl, rfl⟩))
  all_goals
    rename_i hHeld
    obtain ⟨k0, k1, k2, k3, k4, k5⟩ := hHeld
    have hxW := hab.alloc (.cells #[.int .i64 E1, .int .i64 E2, .int .i64 E3] 24)
    clear hxh hab d0 d1 d2 d3 d4 d5 dl hx0 CRE CVE CWH CFI k0 k1 k2 k3 k4
    generalize (w'.alloc (.cells #[.int .i64 E1, .int .i64 E2, .int .i64 E3] 24)) = W at *
    go_wp2
    clear k5
    go_loopw [25, 3] (fun i v wr => ∃ k : Nat, k ≤ p ∧ i = .int .i64 k ∧ v = .int .i64 (firstI (F :: L.take k)) ∧ Ext w wr) (fun i _ _ => p - (intOf i).toNat)
    case atStart => exact ⟨0, Nat.zero_le _, rfl, by by_cases h : F = 0 <;> simp [firstI, h], hxW⟩
    case round =>
      clear hxW
      obtain ⟨k, hk, rfl, rfl, hxr⟩ := hrel
      by_cases hlt : k < p
      · have hk1 : k < rules.length := by rw [HP.out]; exact hlt
        obtain ⟨b, o, rfl, hX⟩ := (HR.out.ext hxr) (fun e => by rw [e] at hk1; exact absurd hk1 (Nat.not_lt_zero _))
        have x0 := hX k hk1
        have hgk := HEG.out k hk1
        have HST := Lib.hid (show firstI (F :: L.take (k + 1)) = firstI [firstI (F :: L.take k), (parseRu (bs rules[k])).2] from by
          rw [← snocI, List.cons_append, ← take_next hgk])
        have CR := Lib.hid (fun W (h : Ext w W) => CI.out W h k hk1)
        clear hgk hX
        generalize (parseRu (bs rules[k])).2 = ek at *
        generalize (parseRu (bs rules[k])).1 = q at *
        generalize rules[k] = r at *
        generalize firstI (F :: L.take k) = G at *
        go_wp2_with fail
        refine (CR.out _ hxr).mono ?_
        rintro e w2 ⟨rfl, hx2⟩
        go_wp2_with fail
        refine (First_any _ _ [G, ek] _ ?_ (by simp)).mono ?_
        · intro k hk
          rw [World.cell?_alloc_at _ _ _ _ (by simp)]
          match k, hk with
          | 0, _ => rfl
          | 1, _ => rfl
        rw [← HST.out]
        rintro e w' ⟨rfl, rfl⟩
        go_wp2
        go_roundw
        case rel => exact ⟨k + 1, by omega, by go_num, rfl, ((hxr.trans hx2).alloc _).alloc _⟩
        case measure => simp [intOf]; omega
      · obtain rfl : k = p := by omega
        have HFE := Lib.hid (show L.take k = L from List.take_of_length_le (by rw [HEL.out, HP.out]; exact Nat.le_refl _))
        go_wp2
        go_ret
        exact ⟨ret_int (by rw [HFE.out, HE.out]), hxr⟩
end Go.Proofs.YtghhjlcbcojcnaaGreatDoor

namespace Go.Proofs.YtghhjlcbcojcnaaGreatDoor
open Go.RowKit

/-! ### Lists of numbers -/
def intsN (p : List Nat) : List Value := p.map fun (i : Nat) => Value.int .i64 (i : Int)
/-- u is a slice of these numbers -/
def LstAt (w : World) (p : List Nat) (u : Value) : Prop := (p = [] ∧ u = .slice none 0 0) ∨ (p ≠ [] ∧ ∃ g c, u = .slice (some ⟨g, 0, none⟩) p.length c ∧ ∀ k (h : k < p.length), w.cell? ⟨g, k, none⟩ = some (.int .i64 (p[k] : Int)))
namespace LstAt
variable {w w' : World} {p : List Nat} {u : Value}
theorem nil (w : World) : LstAt w [] (.slice none 0 0) := .inl ⟨rfl, rfl⟩
theorem kept (h : LstAt w p u) {row : Option Nat} (hg : w.grownBy w' row) (hne : u.ownBlock ≠ row ∨ u.ownBlock = none) : LstAt w' p u := by
  rcases h with h | ⟨h1, g, c, rfl, h2⟩
  · exact .inl h
  · refine .inr ⟨h1, g, c, rfl, fun k hk => ?_⟩
    have hlt : g < w.heap.size := lt_of_cell (h2 k hk)
    have hne : some g ≠ row := by
      rcases hne with h | h
      · exact h
      · cases h
    rw [World.cell?_of_block (a := ⟨g, k, none⟩) (hg.block g hlt hne)]
    exact h2 k hk
theorem ext (h : LstAt w p u) (hx : Ext w w') : LstAt w' p u := by
  refine h.kept (hx.by none) ?_
  cases hu : u.ownBlock with
  | none => exact .inr rfl
  | some g => exact .inl (by simp)
theorem lt (h : LstAt w p u) {g : Nat} (hg : u.ownBlock = some g) : g < w.heap.size := by
  rcases h with ⟨_, rfl⟩ | ⟨h1, g2, c, rfl, h2⟩
  · cases hg
  · have : 0 < p.length := List.length_pos_iff.2 h1
    have e : g2 = g := by simpa [Value.ownBlock] using hg
    rw [← e]
    exact lt_of_cell (h2 0 this)
theorem own {B : Nat} (hp : p ≠ []) (h : w.ownsRow B 3 1 u p.length (intsN p)) : LstAt w p u := by
  obtain ⟨g, c, rfl, _, _, _, hc⟩ := own_form h (List.length_pos_iff.2 hp)
  exact .inr ⟨hp, g, c, rfl, fun k hk => hc k _ (by rw [intsN, List.getElem?_map, List.getElem?_eq_getElem hk]; rfl)⟩
/-- as a slice that is read -/
theorem form (h : LstAt w p u) : ∃ A c, u = .slice A p.length c ∧ (p ≠ [] → ∃ g, A = some ⟨g, 0, none⟩ ∧ ∀ k (h : k < p.length), w.cell? ⟨g, k, none⟩ = some (.int .i64 (p[k] : Int))) := by
  rcases h with ⟨rfl, rfl⟩ | ⟨h1, g, c, rfl, h2⟩
  · exact ⟨none, 0, rfl, fun h => absurd rfl h⟩
  · exact ⟨_, c, rfl, fun _ => ⟨g, rfl, h2⟩⟩
end LstAt
set_option maxHeartbeats 400000 in
theorem Clone_any (p : List Nat) (u : Value) (w : World) (h : LstAt w p u) (hl : p.length ≤ 1000000) :
    Calls Tryz.prog 145 #[u] w fun e w' => ∃ v, e = .returned v ∧ w'.ownsRow w.heap.size 3 1 v p.length (intsN p) ∧ Ext w w' := by
  rcases h with ⟨rfl, rfl⟩ | ⟨h1, g, c, rfl, h2⟩
  · refine (Tryz.slices_Clone_int_nil 0 0 w).mono ?_
    rintro e w' ⟨rfl, rfl⟩
    exact ⟨_, rfl, World.ownsRow_nil _ _ _ _, Ext.refl _⟩
  · refine (Tryz.slices_Clone_int g 0 p.length c (p.map fun (i : Nat) => (i : Int)) w (by simp) (by omega) (fun j hj => ?_)).mono ?_
    · have hj2 : j < p.length := by simpa using hj
      rw [Nat.zero_add, h2 j hj2]
      simp [List.getD, List.getElem?_eq_getElem hj2]
    · rintro e w' ⟨v, rfl, ho, _, hx⟩
      refine ⟨v, rfl, ?_, hx⟩
      have e1 : ((p.map fun (i : Nat) => (i : Int)).take p.length).map (Value.int .i64) = intsN p := by
        rw [List.take_of_length_le (by simp), List.map_map]; rfl
      rw [← e1]
      exact ho

/-! ### Stops -/
structure Stp where
  v : V4
  p : List Nat
  u : Value
def Stp.vp (t : Stp) : V4 × List Nat := (t.v, t.p)
def rowQ (t : Stp) : List Value := [.int .i64 t.v.a1, .int .i64 t.v.a2, .int .i64 t.v.a3, .string t.v.a, t.u]
def rowsQ (l : List Stp) : List Value := l.flatMap rowQ
theorem rowsQ_cons (t : Stp) (l : List Stp) : rowsQ (t :: l) = rowQ t ++ rowsQ l := by simp [rowsQ]
theorem rowsQ_snoc (l : List Stp) (t : Stp) : rowsQ (l ++ [t]) = rowsQ l ++ rowQ t := by simp [rowsQ]
theorem rowsQ_drop (t : Stp) (l : List Stp) : (rowsQ (t :: l)).drop 5 = rowsQ l := by rw [rowsQ_cons]; rfl

/-! ### What Way tells -/
def hasF (ms : List Mv) (i : Nat) (v : V4) : Bool := match ms[i]? with | some m => hasL m.fr v | none => false
def tgtF (ms : List Mv) (i : Nat) : V4 := match ms[i]? with | some m => m.tt | none => ⟨0, 0, 0, ⟨#[]⟩⟩
theorem hasF_at {ms : List Mv} {i : Nat} (h : i < ms.length) (v : V4) : hasF ms i v = hasL ms[i].fr v := by unfold hasF; rw [List.getElem?_eq_getElem h]
theorem tgtF_at {ms : List Mv} {i : Nat} (h : i < ms.length) : tgtF ms i = ms[i].tt := by unfold tgtF; rw [List.getElem?_eq_getElem h]
abbrev BestW (ms : List Mv) (v0 v : V4) (p : List Nat) : Prop := Best ms.length (hasF ms) (tgtF ms) v0 v p
open Classical in
noncomputable def wayP (ms : List Mv) (v0 vt : V4) : Option (List Nat) := if h : ∃ p, BestW ms v0 vt p then some h.choose else none
theorem wayP_some {ms : List Mv} {v0 vt : V4} {p : List Nat} (h : BestW ms v0 vt p) : wayP ms v0 vt = some p := by
  have he : ∃ p, BestW ms v0 vt p := ⟨p, h⟩
  unfold wayP
  rw [dif_pos he, he.choose_spec.same h]
theorem wayP_none {ms : List Mv} {v0 vt : V4} (h : ∀ q, okP ms.length (hasF ms) (tgtF ms) v0 q → endP (tgtF ms) v0 q ≠ vt) : wayP ms v0 vt = none := by
  unfold wayP
  rw [dif_neg]
  rintro ⟨p, hp⟩
  exact h p hp.ok hp.fin
/-- the error of moves and versions -/
def wayE (ms : List Mv) (v0 vt : V4) : Int := firstI [(if 200 < ms.length then 4 else 0), firstI (ms.map mvErr), v0.err, vt.err]
noncomputable def wayR (ms : List Mv) (v0 vt : V4) : Int := if wayE ms v0 vt = 0 then (if (wayP ms v0 vt).isSome = true then 0 else 10) else wayE ms v0 vt
noncomputable def wayL (ms : List Mv) (v0 vt : V4) : List Nat := if wayR ms v0 vt = 0 then (wayP ms v0 vt).getD [] else []
theorem way_bad {ms : List Mv} {v0 vt : V4} (h : ¬ wayE ms v0 vt = 0) : wayR ms v0 vt = wayE ms v0 vt ∧ wayL ms v0 vt = [] := by
  have e : wayR ms v0 vt = wayE ms v0 vt := by rw [wayR, if_neg h]
  exact ⟨e, by rw [wayL, e, if_neg h]⟩
theorem way_found {ms : List Mv} {v0 vt : V4} {p : List Nat} (h : wayE ms v0 vt = 0) (hp : BestW ms v0 vt p) : wayR ms v0 vt = 0 ∧ wayL ms v0 vt = p := by
  have e : wayR ms v0 vt = 0 := by rw [wayR, if_pos h, wayP_some hp]; rfl
  exact ⟨e, by rw [wayL, if_pos e, wayP_some hp]; rfl⟩
theorem way_none {ms : List Mv} {v0 vt : V4} (h : wayE ms v0 vt = 0) (hq : ∀ q, okP ms.length (hasF ms) (tgtF ms) v0 q → endP (tgtF ms) v0 q ≠ vt) : wayR ms v0 vt = 10 ∧ wayL ms v0 vt = [] := by
  have e : wayR ms v0 vt = 10 := by rw [wayR, if_pos h, wayP_none hq]; rfl
  exact ⟨e, by rw [wayL, e, if_neg (by decide)]⟩
theorem wayE_parts {ms : List Mv} {v0 vt : V4} (h : wayE ms v0 vt = 0) : ms.length ≤ 200 ∧ (∀ m ∈ ms, mvErr m = 0) ∧ v0.err = 0 ∧ vt.err = 0 := by
  have h1 := firstI_all h
  have h2 := h1 (if 200 < ms.length then 4 else 0) (by simp)
  refine ⟨?_, fun m hm => firstI_all (h1 (firstI (ms.map mvErr)) (by simp)) _ (List.mem_map.2 ⟨m, hm, rfl⟩), h1 _ (by simp), h1 _ (by simp)⟩
  by_cases h3 : 200 < ms.length
  · rw [if_pos h3] at h2; cases h2
  · omega
theorem mvErr_parts {m : Mv} (h : mvErr m = 0) : rngErr m.fr = 0 ∧ m.tt.err = 0 ∧ m.rules.length ≤ 100 ∧ firstI (mvE m) = 0 := by
  have h1 := firstI_all h
  have h2 := h1 (if 100 < m.rules.length then 4 else 0) (by simp)
  refine ⟨h1 _ (by simp), h1 _ (by simp), ?_, h1 _ (by simp)⟩
  by_cases h3 : 100 < m.rules.length
  · rw [if_pos h3] at h2; cases h2
  · omega
end Go.Proofs.YtghhjlcbcojcnaaGreatDoor
