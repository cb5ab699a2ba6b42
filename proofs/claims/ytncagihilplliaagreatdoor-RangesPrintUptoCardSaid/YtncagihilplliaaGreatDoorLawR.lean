/- The law outlaw2.RangesPrint: its walk. -/
import Derived.Test.YtncagihilplliaaGreatDoorRngN
import Derived.Test.YtncagihilplliaaGreatDoorRngK
import Derived.Test.YtncagihilplliaaGreatDoorLawV
namespace Go.Proofs.YtncagihilplliaaGreatDoor
open Go.RowKit

theorem sameRange_any (A B : Option Addr) (n m c d : Nat) (xs ys : List Sp) (w : World) (hn : xs.length = n) (hm : ys.length = m) (hx : RdS w A xs) (hy : RdS w B ys) (hl : n ≤ 2097152) (hl2 : m ≤ 2097152) :
    Calls Tryz.prog 38 #[.agg #[.slice A n c], .agg #[.slice B m d]] w fun e w' => e = .returned (.bool (decide (xs = ys))) ∧ Ext w w' := by
  go_enter Tryz.func38, Tryz.ntmps38
  go_wp2_with fail
  refine (EqualS_any A B n m c d xs ys _ hn hm (hx.ext (by repeat (first | with_reducible exact Ext.refl _ | with_reducible assumption | with_reducible apply Ext.drewN | with_reducible apply Ext.drew | with_reducible apply Ext.alloc | exact Ext.refl _ | assumption | apply Ext.drewN | apply Ext.drew | apply Ext.alloc))) (hy.ext (by repeat (first | with_reducible exact Ext.refl _ | with_reducible assumption | with_reducible apply Ext.drewN | with_reducible apply Ext.drew | with_reducible apply Ext.alloc | exact Ext.refl _ | assumption | apply Ext.drewN | apply Ext.drew | apply Ext.alloc))) hl hl2).mono ?_
  rintro e w1 ⟨rfl, hx1⟩
  go_wp2
  go_ret
  exact ⟨rfl, Ext.trans (by repeat (first | with_reducible exact Ext.refl _ | with_reducible assumption | with_reducible apply Ext.drewN | with_reducible apply Ext.drew | with_reducible apply Ext.alloc | exact Ext.refl _ | assumption | apply Ext.drewN | apply Ext.drew | apply Ext.alloc)) hx1⟩
/-- the two readings of a text -/
theorem Read_same (s : ByteArray) (w : World) (hg : GoodN w) (hs : s.size ≤ 2097152) : Calls Tryz.prog 39 #[.string s] w (RangePost (parseR (bs s)) w) := by
  rw [← read_same]
  exact ReadRange_any s w hg hs
theorem spans_len (q : List (Sp × Int)) : (spansOf q).1.length ≤ 10 := by
  unfold spansOf
  split
  · exact Nat.zero_le _
  · split
    · exact Nat.zero_le _
    · rename_i h
      exact (rng_ok (Classical.not_not.1 h)).1
theorem parse_len (s : Str) : (parseR s).1.length ≤ 10 := by
  unfold parseR
  split
  · exact Nat.zero_le _
  · split
    · exact Nat.zero_le _
    · split
      · exact Nat.zero_le _
      · exact spans_len _
set_option maxHeartbeats 8000000 in
set_option maxRecDepth 100000 in
theorem RangesPrint_bad (A : Option Addr) (n c : Nat) (l : List Sp) (s : ByteArray) (w : World) (hg : GoodN w) (hn : l.length = n) (hr : RdS w A l) (hsm : SmallS l) (hl : n ≤ 1048576) (hs : s.size ≤ 1048576) (h0 : ¬ rngErr l = 0) :
    Calls Tryz.prog 5 #[.agg #[.slice A n c], .string s] w fun e w' => e = .returned (.bool true) ∧ Ext w w' := by
  have hp : prR l = [] := by rw [prR, if_neg h0]
  have cP : ∀ W, Ext w W → Calls Tryz.prog 34 #[.agg #[.slice A n c]] W fun e w' => e = .returned (.tuple #[.string ⟨#[]⟩, .int .i64 (rngErr l)]) ∧ Ext W w' := fun W hx =>
    (PrintRange_any A n c l W (hg.ext hx) hn (hr.ext hx) hsm (by omega)).mono fun _ _ ⟨h, k⟩ => ⟨by rw [h, hp], k⟩
  have cE : ∀ W, Ext w W → Calls Tryz.prog 35 #[.agg #[.slice A n c]] W fun e w' => e = .returned (.int .i64 (rngErr l)) ∧ Ext W w' := fun W hx =>
    RangeError_any A n c l W (hg.ext hx) hn (hr.ext hx) hsm (by omega)
  have k1 : (rngErr l != 0) = true := by rw [bne_iff_ne]; exact h0
  have k2 : (rngErr l == 0) = false := by rw [beq_eq_false_iff_ne]; exact h0
  generalize rngErr l = E at *
  have CP := Lib.hid cP
  have CE := Lib.hid cE
  clear cP cE hp h0
  have hpl := parse_len (bs s)
  generalize hq : parseR (bs s) = q at *
  obtain ⟨pl, pe⟩ := q
  have hpl : pl.length ≤ 2097152 := Nat.le_trans hpl (by decide)
  have cQ : ∀ W, Ext w W → Calls Tryz.prog 37 #[.string s] W (RangePost (pl, pe) W) := fun W hx => hq ▸ ParseRange_any s W (hg.ext hx) (by omega)
  have cR : ∀ W, Ext w W → Calls Tryz.prog 39 #[.string s] W (RangePost (pl, pe) W) := fun W hx => hq ▸ Read_same s W (hg.ext hx) (by omega)
  have CQ := Lib.hid cQ
  have CR := Lib.hid cR
  clear cQ cR hq
  go_enter Tryz.func5, Tryz.ntmps5
  go_wp2_with fail
  refine (CP.out _ (by repeat (first | with_reducible exact Ext.refl _ | with_reducible assumption | with_reducible apply Ext.drewN | with_reducible apply Ext.drew | with_reducible apply Ext.alloc | exact Ext.refl _ | assumption | apply Ext.drewN | apply Ext.drew | apply Ext.alloc))).mono ?_
  rintro e w1 ⟨rfl, hx1⟩
  have bP := (Blk.new w 51 #[.slice A n c]).ext hx1
  have hx : Ext w w1 := Ext.trans (by repeat (first | with_reducible exact Ext.refl _ | with_reducible assumption | with_reducible apply Ext.drewN | with_reducible apply Ext.drew | with_reducible apply Ext.alloc | exact Ext.refl _ | assumption | apply Ext.drewN | apply Ext.drew | apply Ext.alloc)) hx1
  have pc := bP.cell
  clear hx1
  go_wp2_with fail
  refine (CE.out _ hx).mono ?_
  rintro e w2 ⟨rfl, hx2⟩
  have hxx := hx.trans hx2
  go_wp2_with fail
  refine (versions_any _ (hg.ext hxx)).mono ?_
  rintro e w3 ⟨rfl, hx3⟩
  have hxy := hxx.trans hx3
  go_wp2_with fail
  refine (CQ.out _ hxy).mono ?_
  rintro e w4 ⟨A1, c1, rfl, hr1, hs1, hx4⟩
  have hxz := hxy.trans hx4
  dsimp only at hr1 hs1
  have b1 := Blk.new w4 51 #[.slice A1 pl.length c1]
  go_wp2_with fail
  refine (CR.out _ (hxz.trans (by repeat (first | with_reducible exact Ext.refl _ | with_reducible assumption | with_reducible apply Ext.drewN | with_reducible apply Ext.drew | with_reducible apply Ext.alloc | exact Ext.refl _ | assumption | apply Ext.drewN | apply Ext.drew | apply Ext.alloc)))).mono ?_
  rintro e w5 ⟨A2, c2, rfl, hr2, hs2, hx5⟩
  dsimp only at hr2 hs2
  have b15 := b1.ext hx5
  have qc := b15.cell; have ql := b15.lt
  have hx45 : Ext w4 w5 := Ext.trans (by repeat (first | with_reducible exact Ext.refl _ | with_reducible assumption | with_reducible apply Ext.drewN | with_reducible apply Ext.drew | with_reducible apply Ext.alloc | exact Ext.refl _ | assumption | apply Ext.drewN | apply Ext.drew | apply Ext.alloc)) hx5
  go_wp2_with fail
  refine (sameRange_any A1 A2 pl.length pl.length c1 c2 pl pl _ rfl rfl ((hr1.ext hx45).ext (by repeat (first | with_reducible exact Ext.refl _ | with_reducible assumption | with_reducible apply Ext.drewN | with_reducible apply Ext.drew | with_reducible apply Ext.alloc | exact Ext.refl _ | assumption | apply Ext.drewN | apply Ext.drew | apply Ext.alloc))) (hr2.ext (by repeat (first | with_reducible exact Ext.refl _ | with_reducible assumption | with_reducible apply Ext.drewN | with_reducible apply Ext.drew | with_reducible apply Ext.alloc | exact Ext.refl _ | assumption | apply Ext.drewN | apply Ext.drew | apply Ext.alloc))) hpl hpl).mono ?_
  rintro e w6 ⟨rfl, hx6⟩
  have ht : decide (pl = pl) = true := by simp
  rw [ht]
  go_wp2
  go_ret
  exact ⟨rfl, (hxz.trans hx45).trans (Ext.trans (by repeat (first | with_reducible exact Ext.refl _ | with_reducible assumption | with_reducible apply Ext.drewN | with_reducible apply Ext.drew | with_reducible apply Ext.alloc | exact Ext.refl _ | assumption | apply Ext.drewN | apply Ext.drew | apply Ext.alloc)) hx6)⟩
set_option maxHeartbeats 8000000 in
set_option maxRecDepth 100000 in
theorem RangesPrint_ok (A : Option Addr) (n c : Nat) (l : List Sp) (s : ByteArray) (w : World) (hg : GoodN w) (hn : l.length = n) (hr : RdS w A l) (hsm : SmallS l) (hl : n ≤ 1048576) (hs : s.size ≤ 1048576) (h0 : rngErr l = 0) :
    Calls Tryz.prog 5 #[.agg #[.slice A n c], .string s] w fun e w' => e = .returned (.bool true) ∧ Ext w w' := by
  have hp : prR l = rngText l := by rw [prR, if_pos h0]
  have cP : ∀ W, Ext w W → Calls Tryz.prog 34 #[.agg #[.slice A n c]] W fun e w' => e = .returned (.tuple #[S (rngText l), .int .i64 0]) ∧ Ext W w' := fun W hx =>
    (PrintRange_any A n c l W (hg.ext hx) hn (hr.ext hx) hsm (by omega)).mono fun _ _ ⟨h, k⟩ => ⟨by rw [h, hp, h0], k⟩
  have cE : ∀ W, Ext w W → Calls Tryz.prog 35 #[.agg #[.slice A n c]] W fun e w' => e = .returned (.int .i64 0) ∧ Ext W w' := fun W hx =>
    (RangeError_any A n c l W (hg.ext hx) hn (hr.ext hx) hsm (by omega)).mono fun _ _ ⟨h, k⟩ => ⟨by rw [h, h0], k⟩
  have cT : ∀ W, Ext w W → Calls Tryz.prog 36 #[.agg #[.slice A n c]] W fun e w' => e = .returned (S (rngText l)) ∧ Ext W w' := fun W hx =>
    RangeText_any A n c l W (hg.ext hx) hn (hr.ext hx) hsm (by omega) h0
  have hRT := fun h => parse_rngText (l := l) h0 h
  have hlt : (rngText l).length ≤ 3010 := by
    unfold rngText
    split
    · decide
    · exact Nat.le_trans (join_sp_len h0) (by decide)
  generalize rngText l = X at *
  have CT := Lib.hid cT
  have HRT := Lib.hid hRT
  have HN := Lib.hid hn
  clear cT hRT
  have CP := Lib.hid cP
  have CE := Lib.hid cE
  clear cP cE hp h0 hn
  have hpl := parse_len (bs s)
  generalize hq : parseR (bs s) = q at *
  obtain ⟨pl, pe⟩ := q
  have hpl : pl.length ≤ 2097152 := Nat.le_trans hpl (by decide)
  have cQ : ∀ W, Ext w W → Calls Tryz.prog 37 #[.string s] W (RangePost (pl, pe) W) := fun W hx => hq ▸ ParseRange_any s W (hg.ext hx) (by omega)
  have cR : ∀ W, Ext w W → Calls Tryz.prog 39 #[.string s] W (RangePost (pl, pe) W) := fun W hx => hq ▸ Read_same s W (hg.ext hx) (by omega)
  have CQ := Lib.hid cQ
  have CR := Lib.hid cR
  clear cQ cR hq
  go_enter Tryz.func5, Tryz.ntmps5
  go_wp2_with fail
  refine (CP.out _ (by repeat (first | with_reducible exact Ext.refl _ | with_reducible assumption | with_reducible apply Ext.drewN | with_reducible apply Ext.drew | with_reducible apply Ext.alloc | exact Ext.refl _ | assumption | apply Ext.drewN | apply Ext.drew | apply Ext.alloc))).mono ?_
  rintro e w1 ⟨rfl, hx1⟩
  have bP := (Blk.new w 51 #[.slice A n c]).ext hx1
  have hx : Ext w w1 := Ext.trans (by repeat (first | with_reducible exact Ext.refl _ | with_reducible assumption | with_reducible apply Ext.drewN | with_reducible apply Ext.drew | with_reducible apply Ext.alloc | exact Ext.refl _ | assumption | apply Ext.drewN | apply Ext.drew | apply Ext.alloc)) hx1
  have pc := bP.cell
  clear hx1
  go_wp2_with fail
  refine (CE.out _ hx).mono ?_
  rintro e w2 ⟨rfl, hx2⟩
  have hxx := hx.trans hx2
  go_wp2_with fail
  refine (versions_any _ (hg.ext hxx)).mono ?_
  rintro e w3 ⟨rfl, hx3⟩
  have hxy := hxx.trans hx3
  have bP3 := bP.ext (hx2.trans hx3)
  have pc3 := bP3.cell; have pl3 := bP3.lt
  go_wp2_with fail
  refine (CT.out _ hxy).mono ?_
  rintro e w31 ⟨rfl, hx31⟩
  have hxy := hxy.trans hx31
  by_cases hlen : X.length ≤ 1000
  · have hl2 : ((X.length : Nat) : Int) ≤ 1000 := by omega
    go_wp2_with fail
    refine (ParseRange_any ⟨X.toArray⟩ _ (hg.ext hxy) (by rw [← bs_length, bs_mk]; omega)).mono ?_
    rw [bs_mk, HRT.out hlen]
    rintro e w32 ⟨A0, c0, rfl, hr0, hs0, hx32⟩
    dsimp only at hr0 hs0
    have hx33 := hxy.trans hx32
    have bP2 := bP.ext (((hx2.trans hx3).trans hx31).trans hx32)
    have pc2 := bP2.cell; have pl2 := bP2.lt
    go_wp2_with fail
    refine (sameRange_any A0 A l.length n c0 c l l _ rfl HN.out (hr0.ext (by repeat (first | with_reducible exact Ext.refl _ | with_reducible assumption | with_reducible apply Ext.drewN | with_reducible apply Ext.drew | with_reducible apply Ext.alloc | exact Ext.refl _ | assumption | apply Ext.drewN | apply Ext.drew | apply Ext.alloc))) (hr.ext (hx33.trans (by repeat (first | with_reducible exact Ext.refl _ | with_reducible assumption | with_reducible apply Ext.drewN | with_reducible apply Ext.drew | with_reducible apply Ext.alloc | exact Ext.refl _ | assumption | apply Ext.drewN | apply Ext.drew | apply Ext.alloc)))) (by have := HN.out; omega) (by omega)).mono ?_
    rintro e w34 ⟨rfl, hx34⟩
    have ht0 : decide (l = l) = true := by simp
    rw [ht0]
    have hxy := hx33.trans (Ext.trans (by repeat (first | with_reducible exact Ext.refl _ | with_reducible assumption | with_reducible apply Ext.drewN | with_reducible apply Ext.drew | with_reducible apply Ext.alloc | exact Ext.refl _ | assumption | apply Ext.drewN | apply Ext.drew | apply Ext.alloc)) hx34)
    go_wp2_with fail
    refine (CQ.out _ hxy).mono ?_
    rintro e w4 ⟨A1, c1, rfl, hr1, hs1, hx4⟩
    have hxz := hxy.trans hx4
    dsimp only at hr1 hs1
    have b1 := Blk.new w4 51 #[.slice A1 pl.length c1]
    go_wp2_with fail
    refine (CR.out _ (hxz.trans (by repeat (first | with_reducible exact Ext.refl _ | with_reducible assumption | with_reducible apply Ext.drewN | with_reducible apply Ext.drew | with_reducible apply Ext.alloc | exact Ext.refl _ | assumption | apply Ext.drewN | apply Ext.drew | apply Ext.alloc)))).mono ?_
    rintro e w5 ⟨A2, c2, rfl, hr2, hs2, hx5⟩
    dsimp only at hr2 hs2
    have b15 := b1.ext hx5
    have qc := b15.cell; have ql := b15.lt
    have hx45 : Ext w4 w5 := Ext.trans (by repeat (first | with_reducible exact Ext.refl _ | with_reducible assumption | with_reducible apply Ext.drewN | with_reducible apply Ext.drew | with_reducible apply Ext.alloc | exact Ext.refl _ | assumption | apply Ext.drewN | apply Ext.drew | apply Ext.alloc)) hx5
    go_wp2_with fail
    refine (sameRange_any A1 A2 pl.length pl.length c1 c2 pl pl _ rfl rfl ((hr1.ext hx45).ext (by repeat (first | with_reducible exact Ext.refl _ | with_reducible assumption | with_reducible apply Ext.drewN | with_reducible apply Ext.drew | with_reducible apply Ext.alloc | exact Ext.refl _ | assumption | apply Ext.drewN | apply Ext.drew | apply Ext.alloc))) (hr2.ext (by repeat (first | with_reducible exact Ext.refl _ | with_reducible assumption | with_reducible apply Ext.drewN | with_reducible apply Ext.drew | with_reducible apply Ext.alloc | exact Ext.refl _ | assumption | apply Ext.drewN | apply Ext.drew | apply Ext.alloc))) hpl hpl).mono ?_
    rintro e w6 ⟨rfl, hx6⟩
    have ht : decide (pl = pl) = true := by simp
    rw [ht]
    go_wp2
    go_ret
    exact ⟨rfl, (hxz.trans hx45).trans (Ext.trans (by repeat (first | with_reducible exact Ext.refl _ | with_reducible assumption | with_reducible apply Ext.drewN | with_reducible apply Ext.drew | with_reducible apply Ext.alloc | exact Ext.refl _ | assumption | apply Ext.drewN | apply Ext.drew | apply Ext.alloc)) hx6)⟩
  · have hl2 : ¬ ((X.length : Nat) : Int) ≤ 1000 := by omega
    go_wp2_with fail
    refine (CQ.out _ hxy).mono ?_
    rintro e w4 ⟨A1, c1, rfl, hr1, hs1, hx4⟩
    have hxz := hxy.trans hx4
    dsimp only at hr1 hs1
    have b1 := Blk.new w4 51 #[.slice A1 pl.length c1]
    go_wp2_with fail
    refine (CR.out _ (hxz.trans (by repeat (first | with_reducible exact Ext.refl _ | with_reducible assumption | with_reducible apply Ext.drewN | with_reducible apply Ext.drew | with_reducible apply Ext.alloc | exact Ext.refl _ | assumption | apply Ext.drewN | apply Ext.drew | apply Ext.alloc)))).mono ?_
    rintro e w5 ⟨A2, c2, rfl, hr2, hs2, hx5⟩
    dsimp only at hr2 hs2
    have b15 := b1.ext hx5
    have qc := b15.cell; have ql := b15.lt
    have hx45 : Ext w4 w5 := Ext.trans (by repeat (first | with_reducible exact Ext.refl _ | with_reducible assumption | with_reducible apply Ext.drewN | with_reducible apply Ext.drew | with_reducible apply Ext.alloc | exact Ext.refl _ | assumption | apply Ext.drewN | apply Ext.drew | apply Ext.alloc)) hx5
    go_wp2_with fail
    refine (sameRange_any A1 A2 pl.length pl.length c1 c2 pl pl _ rfl rfl ((hr1.ext hx45).ext (by repeat (first | with_reducible exact Ext.refl _ | with_reducible assumption | with_reducible apply Ext.drewN | with_reducible apply Ext.drew | with_reducible apply Ext.alloc | exact Ext.refl _ | assumption | apply Ext.drewN | apply Ext.drew | apply Ext.alloc))) (hr2.ext (by repeat (first | with_reducible exact Ext.refl _ | with_reducible assumption | with_reducible apply Ext.drewN | with_reducible apply Ext.drew | with_reducible apply Ext.alloc | exact Ext.refl _ | assumption | apply Ext.drewN | apply Ext.drew | apply Ext.alloc))) hpl hpl).mono ?_
    rintro e w6 ⟨rfl, hx6⟩
    have ht : decide (pl = pl) = true := by simp
    rw [ht]
    go_wp2
    go_ret
    exact ⟨rfl, (hxz.trans hx45).trans (Ext.trans (by repeat (first | with_reducible exact Ext.refl _ | with_reducible assumption | with_reducible apply Ext.drewN | with_reducible apply Ext.drew | with_reducible apply Ext.alloc | exact Ext.refl _ | assumption | apply Ext.drewN | apply Ext.drew | apply Ext.alloc)) hx6)⟩
theorem RangesPrint_any (A : Option Addr) (n c : Nat) (l : List Sp) (s : ByteArray) (w : World) (hg : GoodN w) (hn : l.length = n) (hr : RdS w A l) (hsm : SmallS l) (hl : n ≤ 1048576) (hs : s.size ≤ 1048576) :
    Calls Tryz.prog 5 #[.agg #[.slice A n c], .string s] w fun e w' => e = .returned (.bool true) ∧ Ext w w' := by
  by_cases h0 : rngErr l = 0
  · exact RangesPrint_ok A n c l s w hg hn hr hsm hl hs h0
  · exact RangesPrint_bad A n c l s w hg hn hr hsm hl hs h0
end Go.Proofs.YtncagihilplliaaGreatDoor
