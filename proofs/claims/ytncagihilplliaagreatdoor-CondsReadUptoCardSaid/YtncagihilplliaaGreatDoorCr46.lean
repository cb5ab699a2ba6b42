/- Contract of ver.ParseCond. (Printed by gen/cneb.py.) Contract of outref2.ReadCond. (Printed by gen/cneb.py.) The law outlaw2.CondsRead: its walk. -/
import Derived.Test.YtncagihilplliaaGreatDoorCr45
import Derived.Test.YtncagihilplliaaGreatDoorCr37
import Derived.Test.YtncagihilplliaaGreatDoorCr44
import Derived.Test.YtncagihilplliaaGreatDoorCr14

namespace Go.Proofs.YtncagihilplliaaGreatDoor
open Go.RowKit

/-- what a reading of a whole text leaves -/
def CnPost (w : World) (r : Cd × Int × Int) (e : Ending) (w' : World) : Prop := ∃ v, e = .returned (.tuple #[v, .int .i64 r.2.1, .int .i64 r.2.2]) ∧ CdIn (fun _ => True) w' r.1 v ∧ Ext w w'
set_option maxRecDepth 100000 in
set_option maxHeartbeats 16000000 in
theorem ParseCond_any (s : ByteArray) (w : World) (hg : GoodN w) (hs : s.size ≤ 2097152) :
    Calls Tryz.prog 40 #[.string s] w (CnPost w (parseC s)) := by
  unfold parseC
  by_cases hbig : 4000 < s.size
  · rw [if_pos hbig]
    have hb : (4000 : Int) < (s.size : Int) := by omega
    go_enter Tryz.func40, Tryz.ntmps40
    go_wp2
    exact bodyPost_ret (v := .tuple #[.agg #[.int .i64 0, .string ⟨#[]⟩, .string ⟨#[]⟩, .slice none 0 0], .int .i64 0, .int .i64 4]) (by simp [results, Tryz.results40, go_sem]) rfl ⟨_, rfl, CdIn.leaf _ _ _ _ _, (Ext.refl w).alloc _⟩
  rw [if_neg hbig]
  have hb : ¬ (4000 : Int) < (s.size : Int) := by omega
  have hnw : w.heap.size ≤ w.heap.size := Nat.le_refl _
  have hsz := condF_size 100 _ (start_ok (s := s)) hs
  have hrd0 : Rd ((w.alloc (.cells #[.int .i64 0, .string ⟨#[]⟩, .string ⟨#[]⟩, .slice none 0 0] 61)).alloc (.cells #[.string s, .int .i64 0, .int .i64 0, .int .i64 0, .string ⟨#[]⟩, .int .i64 (-1)] 121)) (w.heap.size + 1) s (at0 0) := by
    have := Blk.new (w.alloc (.cells #[.int .i64 0, .string ⟨#[]⟩, .string ⟨#[]⟩, .slice none 0 0] 61)) 121 #[.string s, .int .i64 0, .int .i64 0, .int .i64 0, .string ⟨#[]⟩, .int .i64 (-1)]
    rw [World.size_alloc] at this
    exact this
  have b0 := (Blk.new w 61 #[.int .i64 0, .string ⟨#[]⟩, .string ⟨#[]⟩, .slice none 0 0]).alloc (.cells #[.string s, .int .i64 0, .int .i64 0, .int .i64 0, .string ⟨#[]⟩, .int .i64 (-1)] 121)
  have hx0 : Ext w ((w.alloc (.cells #[.int .i64 0, .string ⟨#[]⟩, .string ⟨#[]⟩, .slice none 0 0] 61)).alloc (.cells #[.string s, .int .i64 0, .int .i64 0, .int .i64 0, .string ⟨#[]⟩, .int .i64 (-1)] 121)) := ((Ext.refl w).alloc _).alloc _
  have HAV := Lib.hid (advance_any (w.heap.size + 1) s (at0 0) _ hrd0 hs at0_ok.p)
  have hok1 := start_ok (s := s)
  have hcn := cond_all (w.heap.size + 1) s hs 100 0 rfl (advF s (at0 0))
  rw [show ((0 : Nat) : Int) = 0 from rfl] at hcn
  generalize advF s (at0 0) = σ1 at *
  obtain ⟨R, hR⟩ : ∃ R, R = (if ¬ (condF s 100 σ1).2.wr < 0 then (zeroC, (condF s 100 σ1).2.wr, 8) else if (condF s 100 σ1).2.k ≠ 0 then (zeroC, ((condF s 100 σ1).2.a : Int), 8) else if checkC (condF s 100 σ1).1 ≠ 0 then (zeroC, 0, checkC (condF s 100 σ1).1) else ((condF s 100 σ1).1, 0, 0)) := ⟨_, rfl⟩
  rw [← hR]
  generalize condF s 100 σ1 = r at *
  obtain ⟨c, σ⟩ := r
  dsimp only at hsz hcn hR
  obtain ⟨hsm, hcnt⟩ := hsz
  have HCN := Lib.hid hcn
  have HR := Lib.hid hR
  clear hR hcn hrd0 hbig
  go_enter Tryz.func40, Tryz.ntmps40
  go_wp2_with fail
  refine HAV.out.mono ?_
  rintro e w1 ⟨rfl, hrd1, hx1⟩
  have hN2 := (HCN.out _ hrd1 hok1)
  have HN2 := Lib.hid hN2
  clear hN2 HAV HCN
  go_wp2_with fail
  refine HN2.out.mono ?_
  rintro e w2 ⟨v, rfl, hcd, hrd, hx2⟩
  obtain ⟨ck, cn, cx, cA, cm, ccp, rfl⟩ := hcd.cells
  have hxx := hx1.trans hx2
  have b1 := b0.extX hxx (by omega)
  have hx2w : Ext w w2 := ExtX.ext hx0 hxx (by omega)
  have bc := b1.cell; have bf := b1.free; have bz := b1.lt
  have rc := hrd.cell; have rf := hrd.free; have rz := hrd.lt
  have HFL := Lib.hid (fail_any (w.heap.size + 1) s σ σ.a _ (hrd.alloc (.cells #[.int .i64 ck, .string cn, .string cx, .slice cA cm ccp] 61)))
  have hz1 : w.heap.size + 1 ≤ w1.heap.size := by have := hx1.size; rw [World.size_alloc, World.size_alloc] at this; omega
  have hcd2 : CdAt (w.heap.size + 1) w2 c (.agg #[.int .i64 ck, .string cn, .string cx, .slice cA cm ccp]) := hcd.low hz1
  clear hrd1 hrd hx1 hx2 hxx b0 hx0 HN2 hok1 hcd
  by_cases hw : σ.wr < 0
  rotate_left
  · have hR := HR.out
    rw [if_pos (show (0 : Int) ≤ σ.wr by omega)] at hR
    have HRz := Lib.hid hR
    clear hR HR HFL
    go_wp2
    go_region
    all_goals
      go_wp2
      obtain rfl := HRz.out
      exact bodyPost_ret (v := .tuple #[.agg #[.int .i64 0, .string ⟨#[]⟩, .string ⟨#[]⟩, .slice none 0 0], .int .i64 σ.wr, .int .i64 8]) (by simp [results, Tryz.results40, go_sem, bc, bz]) rfl ⟨_, rfl, CdIn.leaf _ _ _ _ _, (by repeat (first | with_reducible exact Ext.refl _ | with_reducible assumption | with_reducible apply Ext.drewN | with_reducible apply Ext.drew | with_reducible apply Ext.alloc | ((with_reducible refine Ext.setCell ?_ ?_ _); rotate_left; (first | (dsimp only; omega) | (simp; omega) | skip)) | exact Ext.refl _ | assumption | apply Ext.drewN | apply Ext.drew | apply Ext.alloc | refine Ext.setCell ?_ (by first | (dsimp only; omega) | (simp; omega)) _))⟩
  have hnn : ¬ (0 : Int) ≤ σ.wr := by omega
  by_cases hk : σ.k = 0
  rotate_left
  · have hR := HR.out
    rw [if_neg hnn, if_pos hk] at hR
    have hkb : (σ.k != 0) = true := bne_iff_ne.2 hk
    have HRz := Lib.hid hR
    have HFF : failF σ σ.a = { σ with wr := (σ.a : Int) } := by unfold failF; rw [if_pos hw]
    rw [HFF] at HFL
    have b1c := b1.alloc (.cells #[.int .i64 ck, .string cn, .string cx, .slice cA cm ccp] 61)
    clear hR HR hk HFF hnn
    go_wp2_with fail
    refine HFL.out.mono ?_
    clear rc rf
    rintro e w3 ⟨rfl, hrd3, hx3⟩
    have b3 := b1c.extX hx3 (by omega)
    have hx3w : Ext w w3 := ExtX.ext (hx2w.alloc _) hx3 (by omega)
    clear bc bf bz b1c HFL
    have bc := b3.cell; have bf := b3.free; have bz := b3.lt
    have rc := hrd3.cell; have rf := hrd3.free; have rz3 := hrd3.lt
    clear hrd3
    go_wp2
    go_region
    all_goals
      go_wp2
      obtain rfl := HRz.out
      exact bodyPost_ret (v := .tuple #[.agg #[.int .i64 0, .string ⟨#[]⟩, .string ⟨#[]⟩, .slice none 0 0], .int .i64 σ.a, .int .i64 8]) (by simp [results, Tryz.results40, go_sem, bc]) rfl ⟨_, rfl, CdIn.leaf _ _ _ _ _, (by repeat (first | with_reducible exact Ext.refl _ | with_reducible assumption | with_reducible apply Ext.drewN | with_reducible apply Ext.drew | with_reducible apply Ext.alloc | ((with_reducible refine Ext.setCell ?_ ?_ _); rotate_left; (first | (dsimp only; omega) | (simp; omega) | skip)) | exact Ext.refl _ | assumption | apply Ext.drewN | apply Ext.drew | apply Ext.alloc | refine Ext.setCell ?_ (by first | (dsimp only; omega) | (simp; omega)) _))⟩
  have hkb : (σ.k != 0) = false := by rw [hk]; rfl
  have hR := HR.out
  rw [if_neg hnn, if_neg (show ¬ σ.k ≠ 0 from fun x => x hk)] at hR
  have HRz := Lib.hid hR
  have hxc : Ext w (w2.alloc (.cells #[.int .i64 ck, .string cn, .string cx, .slice cA cm ccp] 61)) := hx2w.alloc _
  have HCC := Lib.hid (CheckCond_any c _ _ _ (hg.ext hxc) (hcd2.ext ((Ext.refl w2).alloc (.cells #[.int .i64 ck, .string cn, .string cx, .slice cA cm ccp] 61))) hsm hcnt)
  have b1c := b1.alloc (.cells #[.int .i64 ck, .string cn, .string cx, .slice cA cm ccp] 61)
  have bl := Blk.new w2 61 #[.int .i64 ck, .string cn, .string cx, .slice cA cm ccp]
  have hnl : w.heap.size ≠ w2.heap.size := by omega
  clear hR HR hk HFL hnn
  go_wp2_with fail
  refine HCC.out.mono ?_
  clear HCC
  rintro e w3 ⟨rfl, hx3⟩
  have b3 := b1c.ext hx3
  have bl3 := bl.ext hx3
  have hx3w := hxc.trans hx3
  have hcd3 := (hcd2.ext ((Ext.refl w2).alloc (.cells #[.int .i64 ck, .string cn, .string cx, .slice cA cm ccp] 61))).ext hx3
  clear bc bf bz rc rf
  have bc := b3.cell; have bf := b3.free; have bz := b3.lt
  have lc := bl3.cell; have lf := bl3.free; have lz := bl3.lt
  generalize checkC c = E at *
  have hx4 := fun a b c d => (((hx3w.setCell (p := ⟨w.heap.size, 0, none⟩) (Nat.le_refl _) a).setCell (p := ⟨w.heap.size, 1, none⟩) (Nat.le_refl _) b).setCell (p := ⟨w.heap.size, 2, none⟩) (Nat.le_refl _) c).setCell (p := ⟨w.heap.size, 3, none⟩) (Nat.le_refl _) d
  have hR := HRz.out
  clear HRz
  by_cases hE : E = 0
  rotate_left
  · rw [if_pos hE] at hR
    have hEb : (E != 0) = true := bne_iff_ne.2 hE
    have HRz := Lib.hid hR
    have HX4 := Lib.hid hx4
    clear hR hE hcd2 hx4 hx3w hx2w hxc
    go_wp2
    obtain rfl := HRz.out
    exact bodyPost_ret (v := .tuple #[.agg #[.int .i64 0, .string ⟨#[]⟩, .string ⟨#[]⟩, .slice none 0 0], .int .i64 0, .int .i64 E]) (by simp [results, Tryz.results40, go_sem, bc]) rfl ⟨_, rfl, CdIn.leaf _ _ _ _ _, HX4.out _ _ _ _⟩
  · rw [if_neg (show ¬ E ≠ 0 from fun x => x hE)] at hR
    have hEb : (E != 0) = false := by rw [hE]; rfl
    have HRz := Lib.hid hR
    have hcd4 := ((((hcd3.set (p := ⟨w.heap.size, 0, none⟩) (Nat.lt_succ_self _) (.int .i64 ck)).set (p := ⟨w.heap.size, 1, none⟩) (Nat.lt_succ_self _) (.string cn)).set (p := ⟨w.heap.size, 2, none⟩) (Nat.lt_succ_self _) (.string cx)).set (p := ⟨w.heap.size, 3, none⟩) (Nat.lt_succ_self _) (.slice cA cm ccp)).imp (P' := fun _ => True) (fun _ _ _ => trivial)
    have HCD4 := Lib.hid hcd4
    have HX4 := Lib.hid hx4
    clear hR hE hcd2 hcd4 hcd3 hx4 hx3w hx2w hxc
    go_wp2
    obtain rfl := HRz.out
    exact bodyPost_ret (v := .tuple #[.agg #[.int .i64 ck, .string cn, .string cx, .slice cA cm ccp], .int .i64 0, .int .i64 0]) (by simp [results, Tryz.results40, go_sem, bc]) rfl ⟨_, rfl, HCD4.out, HX4.out _ _ _ _⟩
end Go.Proofs.YtncagihilplliaaGreatDoor

namespace Go.Proofs.YtncagihilplliaaGreatDoor
open Go.RowKit

theorem words_last (s : ByteArray) : LastE (wordsT s 0) := by
  have : ∀ (m i : Nat), s.size - i = m → i ≤ s.size → ∃ P, wordsT s i = P ++ [endW s] := by
    intro m
    induction m using Nat.strongRecOn with
    | _ m ih =>
      intro i hm hi
      by_cases h0 : (advF s (at0 i)).k = 0
      · exact ⟨[], by rw [wordsT_eq]; exact if_pos h0⟩
      by_cases h4 : (advF s (at0 i)).k = 4
      · exact ⟨[badW (advF s (at0 i)).a], by rw [wordsT_eq]; dsimp only; rw [if_neg h0, if_pos h4]; rfl⟩
      obtain ⟨d, r, hw, _, _, _, _, hrest⟩ := tok_word hi
      obtain ⟨_, hr, hp⟩ := hrest h0 h4
      have hlt := advF_lt h0 h4
      dsimp only at hlt
      obtain ⟨P, hP⟩ := ih (s.size - (advF s (at0 i)).p) (by omega) _ rfl hp
      exact ⟨d :: P, by rw [hw, hr, hP]; rfl⟩
  obtain ⟨P, hP⟩ := this _ 0 rfl (Nat.zero_le _)
  exact ⟨P, endW s, hP, rfl⟩
theorem words_len (s : ByteArray) : ∀ (i : Nat), i ≤ s.size → (wordsT s i).length ≤ s.size - i + 2 := by
  have : ∀ (m i : Nat), s.size - i = m → i ≤ s.size → (wordsT s i).length ≤ m + 2 := by
    intro m
    induction m using Nat.strongRecOn with
    | _ m ih =>
      intro i hm hi
      by_cases h0 : (advF s (at0 i)).k = 0
      · rw [show wordsT s i = [endW s] from by rw [wordsT_eq]; exact if_pos h0]
        simp
      by_cases h4 : (advF s (at0 i)).k = 4
      · rw [show wordsT s i = [badW (advF s (at0 i)).a, endW s] from by rw [wordsT_eq]; dsimp only; rw [if_neg h0, if_pos h4]]
        simp
      obtain ⟨d, r, hw, _, _, _, _, hrest⟩ := tok_word hi
      obtain ⟨_, hr, hp⟩ := hrest h0 h4
      have hlt := advF_lt h0 h4
      dsimp only at hlt
      have := ih (s.size - (advF s (at0 i)).p) (by omega) _ rfl hp
      rw [hw, hr, List.length_cons]
      omega
  exact fun i hi => this _ i rfl hi
set_option maxRecDepth 100000 in
set_option maxHeartbeats 16000000 in
theorem ReadCond_any (s : ByteArray) (w : World) (hg : GoodN w) (hs : s.size ≤ 2097152) :
    Calls Tryz.prog 41 #[.string s] w (CnPost w (readC s)) := by
  unfold readC
  by_cases hbig : 4000 < s.size
  · rw [if_pos hbig]
    have hb : (4000 : Int) < (s.size : Int) := by omega
    go_enter Tryz.func41, Tryz.ntmps41
    go_wp2
    exact bodyPost_ret (v := .tuple #[.agg #[.int .i64 0, .string ⟨#[]⟩, .string ⟨#[]⟩, .slice none 0 0], .int .i64 0, .int .i64 4]) (by simp [results, Tryz.results41, go_sem]) rfl ⟨_, rfl, CdIn.leaf _ _ _ _ _, (Ext.refl w).alloc _⟩
  rw [if_neg hbig]
  have hb : ¬ (4000 : Int) < (s.size : Int) := by omega
  have hnw : w.heap.size ≤ w.heap.size := Nat.le_refl _
  have HCW := Lib.hid (condWords_any s (w.alloc (.cells #[.int .i64 0, .string ⟨#[]⟩, .string ⟨#[]⟩, .slice none 0 0] 61)) hs)
  have b00 := Blk.new w 61 #[.int .i64 0, .string ⟨#[]⟩, .string ⟨#[]⟩, .slice none 0 0]
  obtain ⟨R, hR⟩ : ∃ R, R = (if ¬ (nextR (condRF 100 ⟨wordsT s 0, -1⟩).2 101 []).2.bad < 0 then (zeroC, (nextR (condRF 100 ⟨wordsT s 0, -1⟩).2 101 []).2.bad, 8) else if checkC (condRF 100 ⟨wordsT s 0, -1⟩).1 ≠ 0 then (zeroC, 0, checkC (condRF 100 ⟨wordsT s 0, -1⟩).1) else ((condRF 100 ⟨wordsT s 0, -1⟩).1, 0, 0)) := ⟨_, rfl⟩
  rw [← hR]
  have hsz : (nextR (condRF 100 ⟨wordsT s 0, -1⟩).2 101 []).2.bad < 0 → SmallC (condRF 100 ⟨wordsT s 0, -1⟩).1 ∧ cnt (condRF 100 ⟨wordsT s 0, -1⟩).1 ≤ 100000000 := fun hb => by
    obtain ⟨h1, h2⟩ := cond_sim 100 _ _ (start_sim (s := s))
    have hb1 : (condRF 100 ⟨wordsT s 0, -1⟩).2.bad < 0 := by
      apply Classical.byContradiction
      intro hn
      rw [nextR_bad hn] at hb
      exact hn hb
    rw [← h2 (h1.neg.2 hb1)]
    exact condF_size 100 _ (start_ok (s := s)) hs
  have hlast := words_last s
  have hnil := wordsT s 0
  have hwl : (wordsT s 0).length ≤ 3000000 := by have := words_len s 0 (Nat.zero_le _); omega
  generalize wordsT s 0 = W at *
  have HR := Lib.hid hR
  have HSZ := Lib.hid hsz
  clear hR hsz hbig
  go_enter Tryz.func41, Tryz.ntmps41
  go_wp2_with fail
  refine HCW.out.mono ?_
  rintro e w1 ⟨b, m, cp, rfl, hlen, hmc, hwb, hwds, hx1⟩
  have hz1 := hx1.size
  rw [World.size_alloc] at hz1
  have hx1w : Ext w w1 := Ext.trans ((Ext.refl w).alloc _) hx1
  have b01 := (b00.ext hx1).alloc (.cells #[.slice (some ⟨b, 0, none⟩) m cp, .int .i64 (-1)] 129)
  have hbl := hwds.lt
  have hbg : b ≠ w1.heap.size := by omega
  have hrd0 : RdR (w1.alloc (.cells #[.slice (some ⟨b, 0, none⟩) m cp, .int .i64 (-1)] 129)) w1.heap.size b W ⟨W, -1⟩ :=
    ⟨hbg, hwds.ext ((Ext.refl w1).alloc _), 0, cp, List.length_pos_iff.2 (by rintro rfl; obtain ⟨P, e, h, _⟩ := hlast; simp at h), rfl, by omega, by rw [Nat.zero_mul, Nat.sub_zero, hlen]; exact Blk.new w1 _ _⟩
  have hcn := condR_all w1.heap.size b W hlast hwl 100 0 rfl ⟨W, -1⟩ _ hrd0
  rw [show ((0 : Nat) : Int) = 0 from rfl] at hcn
  have HR0 := HR.out
  have HSZ0 := HSZ.out
  generalize condRF 100 ⟨W, -1⟩ = r at *
  obtain ⟨c, τ⟩ := r
  have HCN := Lib.hid hcn
  clear hcn hrd0 hwds b00 HR0 HSZ0 HCW
  go_wp2_with fail
  refine HCN.out.mono ?_
  rintro e w2 ⟨v, rfl, hcd, hrd, hx2⟩
  obtain ⟨ck, cn, cx, cA, cm, ccp, rfl⟩ := hcd.cells
  clear HCN
  dsimp only at hcd hrd
  have hzg : (w1.alloc (.cells #[.slice (some ⟨b, 0, none⟩) m cp, .int .i64 (-1)] 129)).heap.size = w1.heap.size + 1 := World.size_alloc _ _
  have hz2 := hx2.size
  have b1 := b01.extX hx2 (by omega)
  have hx2w : Ext w w2 := ExtX.ext (hx1w.alloc _) hx2 (by omega)
  have hgw2 := hrd.lt
  have hcdB : CdAt (w1.heap.size + 1) w2 c _ := hcd.low (Nat.le_of_eq hzg.symm)
  have bl := Blk.new w2 61 #[.int .i64 ck, .string cn, .string cx, .slice cA cm ccp]
  have hnx := nextR_any w1.heap.size b W hlast τ 101 ⟨#[]⟩ _ (hrd.alloc (.cells #[.int .i64 ck, .string cn, .string cx, .slice cA cm ccp] 61))
  rw [show bs (⟨#[]⟩ : ByteArray) = [] from rfl] at hnx
  have HR0 := HR.out
  have HSZ0 := HSZ.out
  (try dsimp only at HR0); (try dsimp only at HSZ0)
  generalize nextR τ 101 [] = X at *
  obtain ⟨d, υ⟩ := X
  (try dsimp only at hnx); (try dsimp only at HR0); (try dsimp only at HSZ0)
  have HNX := Lib.hid hnx
  have HRR := Lib.hid HR0
  have HSS := Lib.hid HSZ0
  have b1c := b1.alloc (.cells #[.int .i64 ck, .string cn, .string cx, .slice cA cm ccp] 61)
  clear hnx HR0 HSZ0 HR HSZ b01 hx2 hcd hrd hx1
  go_wp2_with fail
  refine HNX.out.mono ?_
  clear HNX
  rintro e w3 ⟨rfl, hrd3, hx3⟩
  have b3 := b1c.extX hx3 (by omega)
  have bl3 := bl.extX hx3 (by omega)
  have hx3w : Ext w w3 := ExtX.ext (hx2w.alloc _) hx3 (by omega)
  have hcd3 := (hcdB.ext ((Ext.refl w2).alloc (.cells #[.int .i64 ck, .string cn, .string cx, .slice cA cm ccp] 61))).extX hx3 (Nat.lt_succ_self w1.heap.size)
  obtain ⟨j, cpR, mR, _, _, _, hm, hmcR, hbR, q0, q1, q2, q3⟩ := hrd3.opened
  have rc := hbR.cell; have rf := hbR.free; have rz := hbR.lt
  have bc := b3.cell; have bf := b3.free; have bz := b3.lt
  have lc := bl3.cell; have lf := bl3.free; have lz := bl3.lt
  have hx4 := fun a b c d => (((hx3w.setCell (p := ⟨w.heap.size, 0, none⟩) (Nat.le_refl _) a).setCell (p := ⟨w.heap.size, 1, none⟩) (Nat.le_refl _) b).setCell (p := ⟨w.heap.size, 2, none⟩) (Nat.le_refl _) c).setCell (p := ⟨w.heap.size, 3, none⟩) (Nat.le_refl _) d
  have HX4 := Lib.hid hx4
  clear q0 q1 q2 q3 hrd3 hbR bl b1c b1 hx3 hx2w hx1w hx4
  have hR := HRR.out
  by_cases hw : υ.bad < 0
  rotate_left
  · rw [if_pos (show (0 : Int) ≤ υ.bad by omega)] at hR
    have HRz := Lib.hid hR
    clear hR HRR HSS hx3w
    go_wp2
    go_region
    all_goals
      go_wp2
      obtain rfl := HRz.out
      exact bodyPost_ret (v := .tuple #[.agg #[.int .i64 0, .string ⟨#[]⟩, .string ⟨#[]⟩, .slice none 0 0], .int .i64 υ.bad, .int .i64 8]) (by simp [results, Tryz.results41, go_sem, bc]) rfl ⟨_, rfl, CdIn.leaf _ _ _ _ _, (HX4.out _ _ _ _).drew⟩
  have hnn : ¬ (0 : Int) ≤ υ.bad := by omega
  rw [if_neg hnn] at hR
  have hsz := HSS.out hw
  have HCC := Lib.hid (CondError_any c _ _ _ (hg.ext hx3w) hcd3 hsz.1 hsz.2)
  have HRz := Lib.hid hR
  clear hR HRR HSS hsz
  go_wp2_with fail
  refine HCC.out.mono ?_
  clear HCC
  rintro e w4 ⟨rfl, hx4⟩
  have b4 := b3.ext hx4
  have bl4 := bl3.ext hx4
  have hx4w := hx3w.trans hx4
  have hcd4 := (hcd3.ext hx4).low (show w.heap.size + 1 ≤ w1.heap.size + 1 by omega)
  clear bc bf bz rc rf lc lf lz HX4
  have bc := b4.cell; have bf := b4.free; have bz := b4.lt
  have lc := bl4.cell; have lf := bl4.free; have lz := bl4.lt
  generalize checkC c = E at *
  have hx5 := fun a b c d => (((hx4w.setCell (p := ⟨w.heap.size, 0, none⟩) (Nat.le_refl _) a).setCell (p := ⟨w.heap.size, 1, none⟩) (Nat.le_refl _) b).setCell (p := ⟨w.heap.size, 2, none⟩) (Nat.le_refl _) c).setCell (p := ⟨w.heap.size, 3, none⟩) (Nat.le_refl _) d
  have HX5 := Lib.hid hx5
  have hR := HRz.out
  clear HRz hx5 hx4w hx3w hx4 bl3 b3
  by_cases hE : E = 0
  rotate_left
  · rw [if_pos hE] at hR
    have hEb : (E != 0) = true := bne_iff_ne.2 hE
    have HRz := Lib.hid hR
    clear hR hE
    go_wp2
    obtain rfl := HRz.out
    exact bodyPost_ret (v := .tuple #[.agg #[.int .i64 0, .string ⟨#[]⟩, .string ⟨#[]⟩, .slice none 0 0], .int .i64 0, .int .i64 E]) (by simp [results, Tryz.results41, go_sem, bc]) rfl ⟨_, rfl, CdIn.leaf _ _ _ _ _, HX5.out _ _ _ _⟩
  · rw [if_neg (show ¬ E ≠ 0 from fun x => x hE)] at hR
    have hEb : (E != 0) = false := by rw [hE]; rfl
    have HRz := Lib.hid hR
    have hcd5 := ((((hcd4.set (p := ⟨w.heap.size, 0, none⟩) (Nat.lt_succ_self _) (.int .i64 ck)).set (p := ⟨w.heap.size, 1, none⟩) (Nat.lt_succ_self _) (.string cn)).set (p := ⟨w.heap.size, 2, none⟩) (Nat.lt_succ_self _) (.string cx)).set (p := ⟨w.heap.size, 3, none⟩) (Nat.lt_succ_self _) (.slice cA cm ccp)).imp (P' := fun _ => True) (fun _ _ _ => trivial)
    have HCD5 := Lib.hid hcd5
    clear hR hE hcd5 hcd4
    go_wp2
    obtain rfl := HRz.out
    exact bodyPost_ret (v := .tuple #[.agg #[.int .i64 ck, .string cn, .string cx, .slice cA cm ccp], .int .i64 0, .int .i64 0]) (by simp [results, Tryz.results41, go_sem, bc]) rfl ⟨_, rfl, HCD5.out, HX5.out _ _ _ _⟩
end Go.Proofs.YtncagihilplliaaGreatDoor

namespace Go.Proofs.YtncagihilplliaaGreatDoor
open Go.RowKit

theorem parseC_size (s : ByteArray) (hs : s.size ≤ 2097152) : cnt (parseC s).1 ≤ 100000000 := by
  have hz : cnt zeroC ≤ 100000000 := by rw [show cnt zeroC = 1 from cnt_leaf _ _ _]; decide
  unfold parseC
  split
  · exact hz
  split
  · exact hz
  split
  · exact hz
  split
  · exact hz
  · exact (condF_size 100 _ (start_ok (s := s)) hs).2
set_option maxRecDepth 100000 in
set_option maxHeartbeats 8000000 in
theorem CondsRead_any (s : ByteArray) (w : World) (hg : GoodN w) (hs : s.size ≤ 2097152) :
    Calls Tryz.prog 6 #[.string s] w fun e w' => e = .returned (.bool true) ∧ Ext w w' := by
  have hp := ParseCond_any s w hg hs
  have hq : ∀ W, Ext w W → Calls Tryz.prog 41 #[.string s] W (CnPost W (parseC s)) := fun W hW => by
    rw [← read_parse]; exact ReadCond_any s W (hg.ext hW) hs
  have hz := parseC_size s hs
  generalize parseC s = r at *
  obtain ⟨c, a, e⟩ := r
  dsimp only at hz
  have HP := Lib.hid hp
  have HQ := Lib.hid hq
  have ea : (a == a) = true := beq_iff_eq.2 rfl
  have ee : (e == e) = true := beq_iff_eq.2 rfl
  clear hp hq
  go_enter Tryz.func6, Tryz.ntmps6
  go_wp2_with fail
  refine HP.out.mono ?_
  rintro e w1 ⟨v, rfl, hc1, hx1⟩
  obtain ⟨k1, n1, x1, A1, m1, p1, rfl⟩ := hc1.cells
  dsimp only at hc1
  have hx1c : Ext w (w1.alloc (.cells #[.int .i64 k1, .string n1, .string x1, .slice A1 m1 p1] 61)) := hx1.alloc _
  go_wp2_with fail
  refine (HQ.out _ hx1c).mono ?_
  rintro e' w2 ⟨v, rfl, hc2, hx2⟩
  obtain ⟨k2, n2, x2, A2, m2, p2, rfl⟩ := hc2.cells
  dsimp only at hc2
  have b1 := (Blk.new w1 61 #[.int .i64 k1, .string n1, .string x1, .slice A1 m1 p1]).ext hx2
  have hx2w := hx1c.trans hx2
  have hc12 := (hc1.ext ((Ext.refl w1).alloc (.cells #[.int .i64 k1, .string n1, .string x1, .slice A1 m1 p1] 61))).ext hx2
  have hxc2 : Ext w2 (w2.alloc (.cells #[.int .i64 k2, .string n2, .string x2, .slice A2 m2 p2] 61)) := (Ext.refl w2).alloc _
  have bc := b1.cell; have bz := b1.lt
  have HV := Lib.hid (versions_any _ (hg.ext (hx2w.trans hxc2)))
  have b2 := Blk.new w2 61 #[.int .i64 k2, .string n2, .string x2, .slice A2 m2 p2]
  have b1c := b1.ext hxc2
  clear HP HQ
  go_wp2_with fail
  refine HV.out.mono ?_
  rintro e' w3 ⟨rfl, hx3⟩
  have b13 := b1c.ext hx3
  have b23 := b2.ext hx3
  have d1 := b13.cell; have d2 := b23.cell
  have HS := Lib.hid (SameCond_refl _ _ (cnt c) c (Nat.le_refl _) hz _ _ w3 ((hc12.ext hxc2).ext hx3) ((hc2.ext hxc2).ext hx3))
  have hx3w := (hx2w.trans hxc2).trans hx3
  clear bc bz HV
  go_wp2_with fail
  refine HS.out.mono ?_
  rintro e' w4 ⟨rfl, hx4⟩
  go_wp2
  go_ret
  exact ⟨rfl, hx3w.trans hx4⟩
end Go.Proofs.YtncagihilplliaaGreatDoor
