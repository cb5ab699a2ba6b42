/- Contracts of migrate.InverseAll and of outref2.InverseAllOf. (Printed by gen/runc.py.) -/
import Derived.Test.YtghhjlcbcojcnaaGreatDoorRn27
import Derived.Test.YtghhjlcbcojcnaaGreatDoorRn36
import Derived.Test.YtghhjlcbcojcnaaGreatDoorRn17
import Derived.Test.YtghhjlcbcojcnaaGreatDoorRn35

namespace Go.Proofs.YtghhjlcbcojcnaaGreatDoor
open Go.RowKit

/-! ### Rules that a call makes -/
def row5 (r : Ru) : List Value := ru5 r.b
def rowsU (l : List Ru) : List Value := l.flatMap row5
theorem row5_length (r : Ru) : (row5 r).length = 5 := rfl
theorem rowsU_snoc (l : List Ru) (r : Ru) : rowsU (l ++ [r]) = rowsU l ++ row5 r := by simp [rowsU]
theorem rowsU_get : ∀ (l : List Ru) (k j : Nat) (h : k < l.length) (_ : j < 5), (rowsU l)[k * 5 + j]? = (row5 l[k])[j]?
  | c :: l, 0, j, _, hj => by
    simp only [rowsU, List.flatMap_cons, Nat.zero_mul, Nat.zero_add, List.getElem_cons_zero]
    rw [List.getElem?_append_left (by rw [row5_length]; exact hj)]
  | c :: l, k + 1, j, h, hj => by
    have ih := rowsU_get l k j (by simpa using h) hj
    simp only [rowsU, List.flatMap_cons, List.getElem_cons_succ] at ih ⊢
    rw [List.getElem?_append_right (by rw [row5_length]; omega), row5_length, show (k + 1) * 5 + j - 5 = k * 5 + j by omega]
    exact ih
theorem info_rule : (Tryz.prog.info? 23).map (fun i => (i.zero, i.size, i.bytes)) = some (some (.agg #[.int .i64 0, .string ⟨#[]⟩, .string ⟨#[]⟩, .string ⟨#[]⟩, .string ⟨#[]⟩]), 5, 72) := by kernel_rfl
theorem own_snocU {w : World} {B K : Nat} {l : List Ru} {r : Ru} {v : Value} {xs : List Value} (h : w.ownsRow B 23 5 v (K + 1) (rowsU l ++ xs)) (hx : xs = row5 r) : w.ownsRow B 23 5 v (K + 1) (rowsU (l ++ [r])) := by
  rw [rowsU_snoc, ← hx]; exact h
/-- the inverses of rules, and their errors -/
def invsL (rs : List RB) : List Ru := rs.map fun r => (invL r.l).1
def invsE (rs : List RB) : List Int := rs.map fun r => (invL r.l).2
theorem invE_map (rs : List RB) : invE (rs.map RB.l) = if 100 < rs.length then 4 else firstI (invsE rs) := by simp [invE, invsE]; rfl
theorem invS_map {rs : List RB} (h : invE (rs.map RB.l) = 0) : invS (rs.map RB.l) = (invsL rs).reverse := by rw [invS, if_pos h]; simp [invsL]
theorem invS_bad {rs : List Ru} (h : ¬ invE rs = 0) : invS rs = [] := by rw [invS, if_neg h]
/-- turned round: what is read -/
theorem turned_rd {w : World} {g : Nat} {cs : Array Value} {X : List Ru} (h : Blk w g 23 cs) (hc : HoldU cs X.length (fun k => (X.getD (X.length - 1 - k) zeroR).b)) : RdU w (some ⟨g, 0, none⟩) (X.reverse.map Ru.b) := by
  intro _
  have key : ∀ k (hk : k < (X.reverse.map Ru.b).length) j, j < 5 → w.cell? ⟨g, 0 + k * 5 + j, none⟩ = (ru5 (X.reverse.map Ru.b)[k])[j]? := fun k hk j hj => by
    have hk2 : k < X.length := by simpa using hk
    rw [Nat.zero_add, h.cell, hc k hk2 j hj, List.getElem_map, List.getElem_reverse]
    simp [List.getD, List.getElem?_eq_getElem (show X.length - 1 - k < X.length by omega)]
  exact ⟨g, 0, rfl, fun k hk => key k hk 0 (by decide), fun k hk => key k hk 1 (by decide), fun k hk => key k hk 2 (by decide), fun k hk => key k hk 3 (by decide), fun k hk => key k hk 4 (by decide)⟩
theorem hold_of {w : World} {B : Nat} {X : List Ru} {v : Value} (h : w.ownsRow B 23 5 v X.length (rowsU X)) :
    (v = .slice none 0 0 ∧ X.length = 0) ∨ ∃ g c cs, v = .slice (some ⟨g, 0, none⟩) X.length c ∧ B ≤ g ∧ Blk w g 23 cs ∧ HoldU cs X.length (fun k => (X.getD k zeroR).b) := by
  rcases h.2 with h1 | ⟨g, cap, cur, e1, e2, e3, e4, e5, e6, e7⟩
  · exact .inl h1
  · refine .inr ⟨g, cap, cur, e1, e2, e3, fun k hk j hj => ?_⟩
    have := rowsU_get X k j hk hj
    rw [← e7, List.getElem?_take, if_pos (by omega), Array.getElem?_toList] at this
    rw [this]
    simp [List.getD, List.getElem?_eq_getElem hk, row5]
set_option maxHeartbeats 400000 in
theorem Reverse_nil (w : World) : Calls Tryz.prog 144 #[.slice none 0 0] w fun e w' => e = .returned (.tuple #[]) ∧ w = w' := by
  go_enter Tryz.func144, Tryz.ntmps144
  go_wp2
  go_loop [2, 3] (fun s2 s3 => s2 = .int .i64 0 ∧ s3 = .int .i64 (-1)) (fun _ _ => 0)
  case atStart => exact ⟨rfl, rfl⟩
  case round =>
    obtain ⟨rfl, rfl⟩ := hrel
    go_wp2
    go_end0
    exact ⟨rfl, rfl⟩

set_option maxHeartbeats 16000000 in
set_option maxRecDepth 100000 in
theorem InverseAll_any (A2 : Option Addr) (m c2 : Nat) (rs : List RB) (w : World) (hg : Good w) (hm : rs.length = m) (hr2 : RdU w A2 rs) (hs2 : SmallU rs) (hl2 : m ≤ 2097152) :
    Calls Tryz.prog 64 #[.slice A2 m c2] w fun e w' => ∃ A c, e = .returned (.tuple #[.slice A (invS (rs.map RB.l)).length c, .int .i64 (invE (rs.map RB.l))]) ∧ RdU w' A ((invS (rs.map RB.l)).map Ru.b) ∧ Ext w w' := by
  have HN0 := Lib.hid (fun W => (fun h => absurd rfl h : RdU W none (([] : List Ru).map Ru.b)))
  have HSB := Lib.hid (invS_bad (rs := rs.map RB.l))
  have HSO := Lib.hid (invS_map (rs := rs))
  have HE0 := Lib.hid (invE_map rs)
  rw [hm] at HE0
  have CI := Lib.hid (fun W (h : Ext w W) k (hk : k < rs.length) => Inverse_any rs[k] W (hg.ext h) (hs2 _ (List.getElem_mem hk)))
  have HXG := Lib.hid (fun k (hk : k < rs.length) => (show (invsL rs)[k]? = some (invL rs[k].l).1 by simp [invsL, List.getElem?_eq_getElem hk]))
  have HEG := Lib.hid (fun k (hk : k < rs.length) => (show (invsE rs)[k]? = some (invL rs[k].l).2 by simp [invsE, List.getElem?_eq_getElem hk]))
  have HXL := Lib.hid (show (invsL rs).length = rs.length by simp [invsL])
  have HEL := Lib.hid (show (invsE rs).length = rs.length by simp [invsE])
  have HR := Lib.hid hr2
  have HM := Lib.hid hm
  generalize invS (rs.map RB.l) = S' at *
  generalize invE (rs.map RB.l) = E at *
  generalize invsL rs = X at *
  generalize invsE rs = L at *
  clear hm hr2 hs2 hg
  by_cases h1 : 100 < m
  · have HE := Lib.hid (show E = 4 from by rw [HE0.out, if_pos h1])
    have HS0 := Lib.hid (HSB.out (by rw [HE.out]; decide))
    go_enter Tryz.func64, Tryz.ntmps64
    go_wp2
    go_ret2
    exact ⟨none, 0, by rw [HE.out, HS0.out] <;> rfl, by rw [HS0.out]; exact HN0.out _, Ext.refl _⟩
  have HE1 := Lib.hid (show E = firstI L from by rw [HE0.out, if_neg h1])
  go_enter Tryz.func64, Tryz.ntmps64
  go_wp2
  go_loopw [14, 4] (fun i v wr => ∃ k : Nat, k ≤ m ∧ i = .int .i64 k ∧ (∀ x ∈ L.take k, x = 0) ∧ wr.ownsRow w.heap.size 23 5 v k (rowsU (X.take k)) ∧ Ext w wr) (fun i _ _ => m - (intOf i).toNat)
  case atStart => exact ⟨0, Nat.zero_le _, rfl, by simp, World.ownsRow_nil _ _ _ _, Ext.refl _⟩
  case round =>
    obtain ⟨k, hk, rfl, hall, hown, hxr⟩ := hrel
    have HALL := Lib.hid hall
    clear hall
    by_cases hlt : k < m
    · have hk1 : k < rs.length := by rw [HM.out]; exact hlt
      obtain ⟨b, o, rfl, hX⟩ := (HR.out.ext hxr) (fun e => by rw [e] at hk1; exact absurd hk1 (Nat.not_lt_zero _))
      have x0 := hX.c0 k hk1; have x1 := hX.c1 k hk1; have x2 := hX.c2 k hk1; have x3 := hX.c3 k hk1; have x4 := hX.c4 k hk1
      have CR := Lib.hid (fun W (h : Ext w W) => CI.out W h k hk1)
      obtain ⟨HKL, hge⟩ := List.getElem?_eq_some_iff.1 (HEG.out k hk1)
      have HGE := Lib.hid hge
      clear hge
      have HXT := Lib.hid (show X.take (k + 1) = X.take k ++ [(invL rs[k].l).1] from take_next (HXG.out k hk1))
      generalize (invL rs[k].l).2 = ek at *
      obtain ⟨q, hq⟩ : ∃ q : RB, (invL rs[k].l).1 = q.l := ⟨(invL rs[k].l).1.b, (Ru.b_l _).symm⟩
      rw [hq, ruX_l] at CR
      rw [hq] at HXT
      clear hq
      generalize rs[k] = r at *
      obtain ⟨r0, r1, r2, r3, r4⟩ := r
      obtain ⟨q0, q1, q2, q3, q4⟩ := q
      dsimp only at x0 x1 x2 x3 x4 CR
      have HROW := Lib.hid (show [.int .i64 q0, .string q1, .string q2, .string q3, .string q4] = row5 (RB.l ⟨q0, q1, q2, q3, q4⟩) from by simp [row5, ru5, Ru.b, RB.l])
      clear hX
      have b1 := Blk.new wr 23 #[.int .i64 r0, .string r1, .string r2, .string r3, .string r4]
      have hc1 := b1.cell
      clear b1
      have hsz := hxr.size
      by_cases he : ek = 0
      · subst he
        go_wp2_with fail
        refine (CR.out _ (hxr.alloc _)).mono ?_
        rintro e w2 ⟨rfl, hx2⟩
        have hxw2 := (hxr.alloc _).trans hx2
        have hsz2 := hxw2.size
        have hown2 := (own_ext hown (((Ext.refl wr).alloc (.cells #[.int .i64 r0, .string r1, .string r2, .string r3, .string r4] 23)).trans hx2)).alloc (.cells #[.int .i64 q0, .string q1, .string q2, .string q3, .string q4] 23)
        have b2 := Blk.new w2 23 #[.int .i64 q0, .string q1, .string q2, .string q3, .string q4]
        have hc2 := b2.cell
        clear b2 hc1
        go_wp2_with (at_builtin; refine wpList_app1g _ _ _ rfl _ _ 91 rfl (.agg #[.int .i64 0, .string ⟨#[]⟩, .string ⟨#[]⟩, .string ⟨#[]⟩, .string ⟨#[]⟩]) 5 72 Tryz.underlying91 info_rule rfl (by decide) (by decide) w.heap.size _ k _ rfl hown2 _ _ rfl (World.size_alloc _ _) rfl (by simp [Value.oneCell']) (by omega) (by simp; omega) ?_; intro v' w5 hown5 hx5 _)
        go_wp2
        go_roundw
        case rel => exact ⟨k + 1, by omega, by go_num, take_zero_succ HKL HALL.out HGE.out, by rw [HXT.out]; exact own_snocU hown5 HROW.out, hx5 _ (hxw2.alloc _) (Nat.le_refl _)⟩
        case measure => simp [intOf]; omega
      · have HE := Lib.hid (show E = ek from by
          rw [HE1.out, firstI_at HKL HALL.out (by rw [HGE.out]; exact he)]
          exact HGE.out)
        have HS0 := Lib.hid (HSB.out (by rw [HE.out]; exact he))
        have hne : (ek != 0) = true := by rw [bne_iff_ne]; exact he
        clear he
        go_wp2_with fail
        refine (CR.out _ (hxr.alloc _)).mono ?_
        rintro e w2 ⟨rfl, hx2⟩
        go_wp2
        go_ret2
        exact ⟨none, 0, by rw [HE.out, HS0.out] <;> rfl, by rw [HS0.out]; exact HN0.out _, ((hxr.alloc _).trans hx2).alloc _⟩
    · obtain rfl : k = m := by omega
      have HE := Lib.hid (show E = 0 from by
        rw [HE1.out]
        refine firstI_zero fun x hx => HALL.out x ?_
        rw [List.take_of_length_le (by rw [HEL.out, HM.out]; exact Nat.le_refl _)]
        exact hx)
      have HS0 := Lib.hid (HSO.out HE.out)
      have HXM := Lib.hid (show X.length = k from by rw [HXL.out, HM.out])
      have hxt : X.take k = X := List.take_of_length_le (by rw [HXM.out]; exact Nat.le_refl _)
      rw [hxt] at hown
      clear hxt
      rw [← HXM.out] at hown
      rcases hold_of hown with ⟨rfl, h0⟩ | ⟨g, cp, cs, rfl, hgB, hb, hH⟩
      · have HX0 := Lib.hid (List.eq_nil_of_length_eq_zero h0)
        clear hown h0
        go_wp2_with fail
        refine (Reverse_nil _).mono ?_
        rintro e w' ⟨rfl, rfl⟩
        go_wp2
        go_ret2
        exact ⟨none, 0, by rw [HE.out, HS0.out, HX0.out]; rfl, by rw [HS0.out, HX0.out]; exact HN0.out _, hxr⟩
      · have CV := Reverse_any g X.length cp cs _ wr hb hH (by rw [HXM.out]; omega)
        have HLR := Lib.hid (show S'.length = X.length from by rw [HS0.out, List.length_reverse])
        clear hown hH
        go_wp2_with fail
        refine CV.mono ?_
        rintro e w3 ⟨rfl, cs2, hb2, hH2, hg3⟩
        have HB2 := Lib.hid hb2
        have HH2 := Lib.hid hH2
        clear hb2 hH2
        go_wp2
        go_ret2
        exact ⟨some ⟨g, 0, none⟩, cp, by rw [HE.out, HLR.out] <;> rfl, by rw [HS0.out]; exact turned_rd HB2.out HH2.out, hxr.row hg3 hgB⟩

set_option maxHeartbeats 16000000 in
set_option maxRecDepth 100000 in
theorem InverseAllOf_any (A2 : Option Addr) (m c2 : Nat) (rs : List RB) (w : World) (hg : Good w) (hm : rs.length = m) (hr2 : RdU w A2 rs) (hs2 : SmallU rs) (hl2 : m ≤ 2097152) :
    Calls Tryz.prog 69 #[.slice A2 m c2] w fun e w' => ∃ A c, e = .returned (.tuple #[.slice A (invS (rs.map RB.l)).length c, .int .i64 (invE (rs.map RB.l))]) ∧ RdU w' A ((invS (rs.map RB.l)).map Ru.b) ∧ Ext w w' := by
  have HN0 := Lib.hid (fun W => (fun h => absurd rfl h : RdU W none (([] : List Ru).map Ru.b)))
  have HSB := Lib.hid (invS_bad (rs := rs.map RB.l))
  have HSO := Lib.hid (invS_map (rs := rs))
  have HE0 := Lib.hid (invE_map rs)
  rw [hm] at HE0
  have CI := Lib.hid (fun W (h : Ext w W) k (hk : k < rs.length) => InverseOf_any rs[k] W (hg.ext h) (hs2 _ (List.getElem_mem hk)))
  have HXG := Lib.hid (fun k (hk : k < rs.length) => (show (invsL rs)[k]? = some (invL rs[k].l).1 by simp [invsL, List.getElem?_eq_getElem hk]))
  have HEG := Lib.hid (fun k (hk : k < rs.length) => (show (invsE rs)[k]? = some (invL rs[k].l).2 by simp [invsE, List.getElem?_eq_getElem hk]))
  have HXL := Lib.hid (show (invsL rs).length = rs.length by simp [invsL])
  have HEL := Lib.hid (show (invsE rs).length = rs.length by simp [invsE])
  have HR := Lib.hid hr2
  have HM := Lib.hid hm
  generalize invS (rs.map RB.l) = S' at *
  generalize invE (rs.map RB.l) = E at *
  generalize invsL rs = X at *
  generalize invsE rs = L at *
  clear hm hr2 hs2 hg
  by_cases h1 : 100 < m
  · have HE := Lib.hid (show E = 4 from by rw [HE0.out, if_pos h1])
    have HS0 := Lib.hid (HSB.out (by rw [HE.out]; decide))
    go_enter Tryz.func69, Tryz.ntmps69
    go_wp2
    go_ret2
    exact ⟨none, 0, by rw [HE.out, HS0.out] <;> rfl, by rw [HS0.out]; exact HN0.out _, Ext.refl _⟩
  have HE1 := Lib.hid (show E = firstI L from by rw [HE0.out, if_neg h1])
  go_enter Tryz.func69, Tryz.ntmps69
  go_wp2
  go_loopw [14, 4] (fun i v wr => ∃ k : Nat, k ≤ m ∧ i = .int .i64 k ∧ (∀ x ∈ L.take k, x = 0) ∧ wr.ownsRow w.heap.size 23 5 v k (rowsU (X.take k)) ∧ Ext w wr) (fun i _ _ => m - (intOf i).toNat)
  case atStart => exact ⟨0, Nat.zero_le _, rfl, by simp, World.ownsRow_nil _ _ _ _, Ext.refl _⟩
  case round =>
    obtain ⟨k, hk, rfl, hall, hown, hxr⟩ := hrel
    have HALL := Lib.hid hall
    clear hall
    by_cases hlt : k < m
    · have hk1 : k < rs.length := by rw [HM.out]; exact hlt
      obtain ⟨b, o, rfl, hX⟩ := (HR.out.ext hxr) (fun e => by rw [e] at hk1; exact absurd hk1 (Nat.not_lt_zero _))
      have x0 := hX.c0 k hk1; have x1 := hX.c1 k hk1; have x2 := hX.c2 k hk1; have x3 := hX.c3 k hk1; have x4 := hX.c4 k hk1
      have CR := Lib.hid (fun W (h : Ext w W) => CI.out W h k hk1)
      obtain ⟨HKL, hge⟩ := List.getElem?_eq_some_iff.1 (HEG.out k hk1)
      have HGE := Lib.hid hge
      clear hge
      have HXT := Lib.hid (show X.take (k + 1) = X.take k ++ [(invL rs[k].l).1] from take_next (HXG.out k hk1))
      generalize (invL rs[k].l).2 = ek at *
      obtain ⟨q, hq⟩ : ∃ q : RB, (invL rs[k].l).1 = q.l := ⟨(invL rs[k].l).1.b, (Ru.b_l _).symm⟩
      rw [hq, ruX_l] at CR
      rw [hq] at HXT
      clear hq
      generalize rs[k] = r at *
      obtain ⟨r0, r1, r2, r3, r4⟩ := r
      obtain ⟨q0, q1, q2, q3, q4⟩ := q
      dsimp only at x0 x1 x2 x3 x4 CR
      have HROW := Lib.hid (show [.int .i64 q0, .string q1, .string q2, .string q3, .string q4] = row5 (RB.l ⟨q0, q1, q2, q3, q4⟩) from by simp [row5, ru5, Ru.b, RB.l])
      clear hX
      have b1 := Blk.new wr 23 #[.int .i64 r0, .string r1, .string r2, .string r3, .string r4]
      have hc1 := b1.cell
      clear b1
      have hsz := hxr.size
      by_cases he : ek = 0
      · subst he
        go_wp2_with fail
        refine (CR.out _ (hxr.alloc _)).mono ?_
        rintro e w2 ⟨rfl, hx2⟩
        have hxw2 := (hxr.alloc _).trans hx2
        have hsz2 := hxw2.size
        have hown2 := (own_ext hown (((Ext.refl wr).alloc (.cells #[.int .i64 r0, .string r1, .string r2, .string r3, .string r4] 23)).trans hx2)).alloc (.cells #[.int .i64 q0, .string q1, .string q2, .string q3, .string q4] 23)
        have b2 := Blk.new w2 23 #[.int .i64 q0, .string q1, .string q2, .string q3, .string q4]
        have hc2 := b2.cell
        clear b2 hc1
        go_wp2_with (at_builtin; refine wpList_app1g _ _ _ rfl _ _ 91 rfl (.agg #[.int .i64 0, .string ⟨#[]⟩, .string ⟨#[]⟩, .string ⟨#[]⟩, .string ⟨#[]⟩]) 5 72 Tryz.underlying91 info_rule rfl (by decide) (by decide) w.heap.size _ k _ rfl hown2 _ _ rfl (World.size_alloc _ _) rfl (by simp [Value.oneCell']) (by omega) (by simp; omega) ?_; intro v' w5 hown5 hx5 _)
        go_wp2
        go_roundw
        case rel => exact ⟨k + 1, by omega, by go_num, take_zero_succ HKL HALL.out HGE.out, by rw [HXT.out]; exact own_snocU hown5 HROW.out, hx5 _ (hxw2.alloc _) (Nat.le_refl _)⟩
        case measure => simp [intOf]; omega
      · have HE := Lib.hid (show E = ek from by
          rw [HE1.out, firstI_at HKL HALL.out (by rw [HGE.out]; exact he)]
          exact HGE.out)
        have HS0 := Lib.hid (HSB.out (by rw [HE.out]; exact he))
        have hne : (ek != 0) = true := by rw [bne_iff_ne]; exact he
        clear he
        go_wp2_with fail
        refine (CR.out _ (hxr.alloc _)).mono ?_
        rintro e w2 ⟨rfl, hx2⟩
        go_wp2
        go_ret2
        exact ⟨none, 0, by rw [HE.out, HS0.out] <;> rfl, by rw [HS0.out]; exact HN0.out _, ((hxr.alloc _).trans hx2).alloc _⟩
    · obtain rfl : k = m := by omega
      have HE := Lib.hid (show E = 0 from by
        rw [HE1.out]
        refine firstI_zero fun x hx => HALL.out x ?_
        rw [List.take_of_length_le (by rw [HEL.out, HM.out]; exact Nat.le_refl _)]
        exact hx)
      have HS0 := Lib.hid (HSO.out HE.out)
      have HXM := Lib.hid (show X.length = k from by rw [HXL.out, HM.out])
      have hxt : X.take k = X := List.take_of_length_le (by rw [HXM.out]; exact Nat.le_refl _)
      rw [hxt] at hown
      clear hxt
      rw [← HXM.out] at hown
      rcases hold_of hown with ⟨rfl, h0⟩ | ⟨g, cp, cs, rfl, hgB, hb, hH⟩
      · have HX0 := Lib.hid (List.eq_nil_of_length_eq_zero h0)
        clear hown h0
        go_wp2_with fail
        refine (Reverse_nil _).mono ?_
        rintro e w' ⟨rfl, rfl⟩
        go_wp2
        go_ret2
        exact ⟨none, 0, by rw [HE.out, HS0.out, HX0.out]; rfl, by rw [HS0.out, HX0.out]; exact HN0.out _, hxr⟩
      · have CV := Reverse_any g X.length cp cs _ wr hb hH (by rw [HXM.out]; omega)
        have HLR := Lib.hid (show S'.length = X.length from by rw [HS0.out, List.length_reverse])
        clear hown hH
        go_wp2_with fail
        refine CV.mono ?_
        rintro e w3 ⟨rfl, cs2, hb2, hH2, hg3⟩
        have HB2 := Lib.hid hb2
        have HH2 := Lib.hid hH2
        clear hb2 hH2
        go_wp2
        go_ret2
        exact ⟨some ⟨g, 0, none⟩, cp, by rw [HE.out, HLR.out] <;> rfl, by rw [HS0.out]; exact turned_rd HB2.out HH2.out, hxr.row hg3 hgB⟩
end Go.Proofs.YtghhjlcbcojcnaaGreatDoor
