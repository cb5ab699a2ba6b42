/- Plain law: what both readers make of a text. Contract of ver.ParseCond. (Printed by gen/cneb.py.) Settings: plain words, and settings in memory. Maps of strings that the call itself has made. -/
import Derived.Test.YtaobnifiengglaaGreatDoorCe28
import Derived.Test.YtaobnifiengglaaGreatDoorCe30
import Derived.Test.YtaobnifiengglaaGreatDoorCe12
import Derived.Maps.OwnSet
import Derived.Maps.StringElems

namespace Go.Proofs.YtaobnifiengglaaGreatDoor

/-- ver.ParseCond -/
def parseC (s : ByteArray) : Cd × Int × Int :=
  if 4000 < s.size then (zeroC, 0, 4)
  else if ¬ (condF s 100 (advF s (at0 0))).2.wr < 0 then (zeroC, (condF s 100 (advF s (at0 0))).2.wr, 8)
  else if (condF s 100 (advF s (at0 0))).2.k ≠ 0 then (zeroC, (condF s 100 (advF s (at0 0))).2.a, 8)
  else if checkC (condF s 100 (advF s (at0 0))).1 ≠ 0 then (zeroC, 0, checkC (condF s 100 (advF s (at0 0))).1)
  else ((condF s 100 (advF s (at0 0))).1, 0, 0)
/-- outref2.ReadCond -/
def readC (s : ByteArray) : Cd × Int × Int :=
  if 4000 < s.size then (zeroC, 0, 4)
  else if ¬ (nextR (condRF 100 ⟨wordsT s 0, -1⟩).2 101 []).2.bad < 0 then (zeroC, (nextR (condRF 100 ⟨wordsT s 0, -1⟩).2 101 []).2.bad, 8)
  else if checkC (condRF 100 ⟨wordsT s 0, -1⟩).1 ≠ 0 then (zeroC, 0, checkC (condRF 100 ⟨wordsT s 0, -1⟩).1)
  else ((condRF 100 ⟨wordsT s 0, -1⟩).1, 0, 0)
section
variable {s : ByteArray}
theorem at0_ok : OkS s (at0 0) := ⟨Nat.zero_le _, Nat.zero_le _, Nat.zero_le _⟩
theorem start_ok : OkS s (advF s (at0 0)) := advF_ok at0_ok
theorem start_sim : Sim s (advF s (at0 0)) ⟨wordsT s 0, -1⟩ :=
  .inl ⟨by rw [show (advF s (at0 0)).wr = (at0 0).wr from tokF_wr s _ _]; decide, (by show (-1 : Int) < 0; decide), 0, Nat.zero_le _, ⟨rfl, rfl, rfl, rfl⟩, rfl⟩
theorem tok_end {i : Nat} (hi : i ≤ s.size) : (advF s (at0 i)).k = 0 ↔ ((wordsT s i).headD zeroW).k = 101 := by
  constructor
  · intro h
    rw [wordsT_eq]
    dsimp only
    rw [if_pos h]
    rfl
  · intro h
    apply Classical.byContradiction
    intro h0
    obtain ⟨d, r, hw, _, _, _, _, hrest⟩ := tok_word hi
    by_cases h4 : (advF s (at0 i)).k = 4
    · rw [wordsT_eq] at h
      dsimp only at h
      rw [if_neg h0, if_pos h4] at h
      exact absurd h (by show ¬ (33 : UInt8) = 101; decide)
    · rw [hw] at h
      exact (hrest h0 h4).1 h
theorem read_parse : readC s = parseC s := by
  unfold readC parseC
  by_cases hbig : 4000 < s.size
  · rw [if_pos hbig, if_pos hbig]
  rw [if_neg hbig, if_neg hbig]
  obtain ⟨h1, h2⟩ := cond_sim 100 _ _ (start_sim (s := s))
  have hcs := (condF_on (s := s) 100 (advF s (at0 0)))
  generalize condF s 100 (advF s (at0 0)) = r at *
  generalize condRF 100 ⟨wordsT s 0, -1⟩ = q at *
  obtain ⟨c, σ⟩ := r
  obtain ⟨d, τ⟩ := q
  dsimp only at *
  by_cases hw : σ.wr < 0
  rotate_left
  · have hb : ¬ τ.bad < 0 := by rw [← h1.neg]; exact hw
    have he : τ.bad = σ.wr := by
      rcases h1 with ⟨x, _⟩ | ⟨_, x⟩
      · exact absurd x hw
      · exact x
    rw [nextR_bad hb, if_pos hw, if_pos hb, he]
  have hb := h1.neg.1 hw
  have hcd := h2 hw
  subst hcd
  have hpl := hd_place h1 hw
  have hend : σ.k = 0 ↔ τ.hd.k = 101 := by
    rcases h1 with ⟨_, _, i, hi, ⟨ek, _⟩, hl⟩ | ⟨x, _⟩
    · rw [ek, tok_end hi]
      unfold Rs.hd
      rw [hl]
    · exact absurd hw x
  have nw : ¬ ¬ σ.wr < 0 := fun x => x hw
  have nb : ¬ ¬ τ.bad < 0 := fun x => x hb
  rw [if_neg nw]
  by_cases hk : σ.k = 0
  · have h101 := hend.1 hk
    have hnx : (nextR τ 101 []).2 = τ := by
      unfold nextR
      rw [if_neg nb, if_neg (by rintro (x | x); exact x h101; exact x.1 rfl)]
      exact if_neg (fun x => x h101)
    have nk : ¬ σ.k ≠ 0 := fun x => x hk
    rw [hnx, if_neg nb, if_neg nk]
  · have h101 : τ.hd.k ≠ 101 := fun e => hk (hend.2 e)
    have hnx : (nextR τ 101 []).2 = ⟨τ.l, τ.hd.a⟩ := by
      unfold nextR
      rw [if_neg nb, if_pos (.inl h101)]
    rw [hnx, if_pos (show ¬ (τ.hd.a : Int) < 0 by omega), if_pos hk]
    show (zeroC, (τ.hd.a : Int), (8 : Int)) = _
    rw [hpl]
end
end Go.Proofs.YtaobnifiengglaaGreatDoor

namespace Go.Proofs.YtaobnifiengglaaGreatDoor
open Go.RowKit

/-- what a reading of a whole text leaves -/
def CnPost (w : World) (r : Cd × Int × Int) (e : Ending) (w' : World) : Prop := ∃ v, e = .returned (.tuple #[v, .int .i64 r.2.1, .int .i64 r.2.2]) ∧ CdIn (fun _ => True) w' r.1 v ∧ Ext w w'
set_option maxRecDepth 100000 in
set_option maxHeartbeats 16000000 in
theorem ParseCond_any (s : ByteArray) (w : World) (hg : GoodN w) (hs : s.size ≤ 2097152) :
    Calls Tryz.prog 44 #[.string s] w (CnPost w (parseC s)) := by
  unfold parseC
  by_cases hbig : 4000 < s.size
  · rw [if_pos hbig]
    have hb : (4000 : Int) < (s.size : Int) := by omega
    go_enter Tryz.func44, Tryz.ntmps44
    go_wp2
    exact bodyPost_ret (v := .tuple #[.agg #[.int .i64 0, .string ⟨#[]⟩, .string ⟨#[]⟩, .slice none 0 0], .int .i64 0, .int .i64 4]) (by simp [results, Tryz.results44, go_sem]) rfl ⟨_, rfl, CdIn.leaf _ _ _ _ _, (Ext.refl w).alloc _⟩
  rw [if_neg hbig]
  have hb : ¬ (4000 : Int) < (s.size : Int) := by omega
  have hnw : w.heap.size ≤ w.heap.size := Nat.le_refl _
  have hsz := condF_size 100 _ (start_ok (s := s)) hs
  have hrd0 : Rd ((w.alloc (.cells #[.int .i64 0, .string ⟨#[]⟩, .string ⟨#[]⟩, .slice none 0 0] 61)).alloc (.cells #[.string s, .int .i64 0, .int .i64 0, .int .i64 0, .string ⟨#[]⟩, .int .i64 (-1)] 164)) (w.heap.size + 1) s (at0 0) := by
    have := Blk.new (w.alloc (.cells #[.int .i64 0, .string ⟨#[]⟩, .string ⟨#[]⟩, .slice none 0 0] 61)) 164 #[.string s, .int .i64 0, .int .i64 0, .int .i64 0, .string ⟨#[]⟩, .int .i64 (-1)]
    rw [World.size_alloc] at this
    exact this
  have b0 := (Blk.new w 61 #[.int .i64 0, .string ⟨#[]⟩, .string ⟨#[]⟩, .slice none 0 0]).alloc (.cells #[.string s, .int .i64 0, .int .i64 0, .int .i64 0, .string ⟨#[]⟩, .int .i64 (-1)] 164)
  have hx0 : Ext w ((w.alloc (.cells #[.int .i64 0, .string ⟨#[]⟩, .string ⟨#[]⟩, .slice none 0 0] 61)).alloc (.cells #[.string s, .int .i64 0, .int .i64 0, .int .i64 0, .string ⟨#[]⟩, .int .i64 (-1)] 164)) := ((Ext.refl w).alloc _).alloc _
  have HAV := Lib.hid (advance_any (w.heap.size + 1) s (at0 0) _ hrd0 hs at0_ok.p)
  have hok1 := start_ok (s := s)
  have hcn := cond_all (w.heap.size + 1) s hs 100 0 rfl (advF s (at0 0))
  rw [show ((0 : Nat) : Int) = 0 from rfl] at hcn
  generalize advF s (at0 0) = σ1 at *
  obtain ⟨R, hR⟩ : ∃ R, R = (if ¬ (condF s 100 σ1).2.wr < 0 then (zeroC, (condF s 100 σ1).2.wr, 8) else if (condF s 100 σ1).2.k ≠ 0 then (zeroC, ((condF s 100 σ1).2.a : Int), 8) else if checkC (condF s 100 σ1).1 ≠ 0 then (zeroC, 0, checkC (condF s 100 σ1).1) else ((condF s 100 σ1).1, 0, 0)) := ⟨_, rfl⟩
  rw [← hR]
  generalize condF s 100 σ1 = r at *
  obtain ⟨c, σ⟩ := r
  dsimp only at hsz hcn hR
  obtain ⟨hsm, hcnt⟩ := hsz
  have HCN := Lib.hid hcn
  have HR := Lib.hid hR
  clear hR hcn hrd0 hbig
  go_enter Tryz.func44, Tryz.ntmps44
  go_wp2_with fail
  refine HAV.out.mono ?_
  rintro e w1 ⟨rfl, hrd1, hx1⟩
  have hN2 := (HCN.out _ hrd1 hok1)
  have HN2 := Lib.hid hN2
  clear hN2 HAV HCN
  go_wp2_with fail
  refine HN2.out.mono ?_
  rintro e w2 ⟨v, rfl, hcd, hrd, hx2⟩
  obtain ⟨ck, cn, cx, cA, cm, ccp, rfl⟩ := hcd.cells
  have hxx := hx1.trans hx2
  have b1 := b0.extX hxx (by omega)
  have hx2w : Ext w w2 := ExtX.ext hx0 hxx (by omega)
  have bc := b1.cell; have bf := b1.free; have bz := b1.lt
  have rc := hrd.cell; have rf := hrd.free; have rz := hrd.lt
  have HFL := Lib.hid (fail_any (w.heap.size + 1) s σ σ.a _ (hrd.alloc (.cells #[.int .i64 ck, .string cn, .string cx, .slice cA cm ccp] 61)))
  have hz1 : w.heap.size + 1 ≤ w1.heap.size := by have := hx1.size; rw [World.size_alloc, World.size_alloc] at this; omega
  have hcd2 : CdAt (w.heap.size + 1) w2 c (.agg #[.int .i64 ck, .string cn, .string cx, .slice cA cm ccp]) := hcd.low hz1
  clear hrd1 hrd hx1 hx2 hxx b0 hx0 HN2 hok1 hcd
  by_cases hw : σ.wr < 0
  rotate_left
  · have hR := HR.out
    rw [if_pos (show (0 : Int) ≤ σ.wr by omega)] at hR
    have HRz := Lib.hid hR
    clear hR HR HFL
    go_wp2
    go_region
    all_goals
      go_wp2
      obtain rfl := HRz.out
      exact bodyPost_ret (v := .tuple #[.agg #[.int .i64 0, .string ⟨#[]⟩, .string ⟨#[]⟩, .slice none 0 0], .int .i64 σ.wr, .int .i64 8]) (by simp [results, Tryz.results44, go_sem, bc, bz]) rfl ⟨_, rfl, CdIn.leaf _ _ _ _ _, (by repeat (first | with_reducible exact Ext.refl _ | with_reducible assumption | with_reducible apply Ext.drewN | with_reducible apply Ext.drew | with_reducible apply Ext.alloc | ((with_reducible refine Ext.setCell ?_ ?_ _); rotate_left; (first | (dsimp only; omega) | (simp; omega) | skip)) | exact Ext.refl _ | assumption | apply Ext.drewN | apply Ext.drew | apply Ext.alloc | refine Ext.setCell ?_ (by first | (dsimp only; omega) | (simp; omega)) _))⟩
  have hnn : ¬ (0 : Int) ≤ σ.wr := by omega
  by_cases hk : σ.k = 0
  rotate_left
  · have hR := HR.out
    rw [if_neg hnn, if_pos hk] at hR
    have hkb : (σ.k != 0) = true := bne_iff_ne.2 hk
    have HRz := Lib.hid hR
    have HFF : failF σ σ.a = { σ with wr := (σ.a : Int) } := by unfold failF; rw [if_pos hw]
    rw [HFF] at HFL
    have b1c := b1.alloc (.cells #[.int .i64 ck, .string cn, .string cx, .slice cA cm ccp] 61)
    clear hR HR hk HFF hnn
    go_wp2_with fail
    refine HFL.out.mono ?_
    clear rc rf
    rintro e w3 ⟨rfl, hrd3, hx3⟩
    have b3 := b1c.extX hx3 (by omega)
    have hx3w : Ext w w3 := ExtX.ext (hx2w.alloc _) hx3 (by omega)
    clear bc bf bz b1c HFL
    have bc := b3.cell; have bf := b3.free; have bz := b3.lt
    have rc := hrd3.cell; have rf := hrd3.free; have rz3 := hrd3.lt
    clear hrd3
    go_wp2
    go_region
    all_goals
      go_wp2
      obtain rfl := HRz.out
      exact bodyPost_ret (v := .tuple #[.agg #[.int .i64 0, .string ⟨#[]⟩, .string ⟨#[]⟩, .slice none 0 0], .int .i64 σ.a, .int .i64 8]) (by simp [results, Tryz.results44, go_sem, bc]) rfl ⟨_, rfl, CdIn.leaf _ _ _ _ _, (by repeat (first | with_reducible exact Ext.refl _ | with_reducible assumption | with_reducible apply Ext.drewN | with_reducible apply Ext.drew | with_reducible apply Ext.alloc | ((with_reducible refine Ext.setCell ?_ ?_ _); rotate_left; (first | (dsimp only; omega) | (simp; omega) | skip)) | exact Ext.refl _ | assumption | apply Ext.drewN | apply Ext.drew | apply Ext.alloc | refine Ext.setCell ?_ (by first | (dsimp only; omega) | (simp; omega)) _))⟩
  have hkb : (σ.k != 0) = false := by rw [hk]; rfl
  have hR := HR.out
  rw [if_neg hnn, if_neg (show ¬ σ.k ≠ 0 from fun x => x hk)] at hR
  have HRz := Lib.hid hR
  have hxc : Ext w (w2.alloc (.cells #[.int .i64 ck, .string cn, .string cx, .slice cA cm ccp] 61)) := hx2w.alloc _
  have HCC := Lib.hid (CheckCond_any c _ _ _ (hg.ext hxc) (hcd2.ext ((Ext.refl w2).alloc (.cells #[.int .i64 ck, .string cn, .string cx, .slice cA cm ccp] 61))) hsm hcnt)
  have b1c := b1.alloc (.cells #[.int .i64 ck, .string cn, .string cx, .slice cA cm ccp] 61)
  have bl := Blk.new w2 61 #[.int .i64 ck, .string cn, .string cx, .slice cA cm ccp]
  have hnl : w.heap.size ≠ w2.heap.size := by omega
  clear hR HR hk HFL hnn
  go_wp2_with fail
  refine HCC.out.mono ?_
  clear HCC
  rintro e w3 ⟨rfl, hx3⟩
  have b3 := b1c.ext hx3
  have bl3 := bl.ext hx3
  have hx3w := hxc.trans hx3
  have hcd3 := (hcd2.ext ((Ext.refl w2).alloc (.cells #[.int .i64 ck, .string cn, .string cx, .slice cA cm ccp] 61))).ext hx3
  clear bc bf bz rc rf
  have bc := b3.cell; have bf := b3.free; have bz := b3.lt
  have lc := bl3.cell; have lf := bl3.free; have lz := bl3.lt
  generalize checkC c = E at *
  have hx4 := fun a b c d => (((hx3w.setCell (p := ⟨w.heap.size, 0, none⟩) (Nat.le_refl _) a).setCell (p := ⟨w.heap.size, 1, none⟩) (Nat.le_refl _) b).setCell (p := ⟨w.heap.size, 2, none⟩) (Nat.le_refl _) c).setCell (p := ⟨w.heap.size, 3, none⟩) (Nat.le_refl _) d
  have hR := HRz.out
  clear HRz
  by_cases hE : E = 0
  rotate_left
  · rw [if_pos hE] at hR
    have hEb : (E != 0) = true := bne_iff_ne.2 hE
    have HRz := Lib.hid hR
    have HX4 := Lib.hid hx4
    clear hR hE hcd2 hx4 hx3w hx2w hxc
    go_wp2
    obtain rfl := HRz.out
    exact bodyPost_ret (v := .tuple #[.agg #[.int .i64 0, .string ⟨#[]⟩, .string ⟨#[]⟩, .slice none 0 0], .int .i64 0, .int .i64 E]) (by simp [results, Tryz.results44, go_sem, bc]) rfl ⟨_, rfl, CdIn.leaf _ _ _ _ _, HX4.out _ _ _ _⟩
  · rw [if_neg (show ¬ E ≠ 0 from fun x => x hE)] at hR
    have hEb : (E != 0) = false := by rw [hE]; rfl
    have HRz := Lib.hid hR
    have hcd4 := ((((hcd3.set (p := ⟨w.heap.size, 0, none⟩) (Nat.lt_succ_self _) (.int .i64 ck)).set (p := ⟨w.heap.size, 1, none⟩) (Nat.lt_succ_self _) (.string cn)).set (p := ⟨w.heap.size, 2, none⟩) (Nat.lt_succ_self _) (.string cx)).set (p := ⟨w.heap.size, 3, none⟩) (Nat.lt_succ_self _) (.slice cA cm ccp)).imp (P' := fun _ => True) (fun _ _ _ => trivial)
    have HCD4 := Lib.hid hcd4
    have HX4 := Lib.hid hx4
    clear hR hE hcd2 hcd4 hcd3 hx4 hx3w hx2w hxc
    go_wp2
    obtain rfl := HRz.out
    exact bodyPost_ret (v := .tuple #[.agg #[.int .i64 ck, .string cn, .string cx, .slice cA cm ccp], .int .i64 0, .int .i64 0]) (by simp [results, Tryz.results44, go_sem, bc]) rfl ⟨_, rfl, HCD4.out, HX4.out _ _ _ _⟩
end Go.Proofs.YtaobnifiengglaaGreatDoor

namespace Go.Proofs.YtaobnifiengglaaGreatDoor
open Go.RowKit

structure Se where
  k : ByteArray
  v : ByteArray
deriving DecidableEq
def zeroSe : Se := ⟨⟨#[]⟩, ⟨#[]⟩⟩
def seOne (is : Str → Bool) (s : Se) : Int := if is (bs s.k) = false then 5 else if valueL (bs s.v) = false then 2 else 0
def seGap (p s : Se) : Int := if (Op.bytesLess s.k.toList p.k.toList || s.k.toList == p.k.toList) = true then 7 else 0
def seAt (is : Str → Bool) (l : List Se) (i : Nat) : Int :=
  if seOne is (l.getD i zeroSe) ≠ 0 then seOne is (l.getD i zeroSe) else if i = 0 then 0 else seGap (l.getD (i - 1) zeroSe) (l.getD i zeroSe)
def seErrs (is : Str → Bool) (l : List Se) : List Int := (List.range l.length).map (seAt is l)
/-- the error of settings -/
def seErr (is : Str → Bool) (l : List Se) : Int := firstI (seErrs is l)
theorem seErrs_length (is : Str → Bool) (l : List Se) : (seErrs is l).length = l.length := by simp [seErrs]
theorem seErrs_get (is : Str → Bool) (l : List Se) (k : Nat) (h : k < (seErrs is l).length) : (seErrs is l)[k] = seAt is l k := by simp [seErrs]
theorem seAt_0 {is : Str → Bool} {l : List Se} (h : 0 < l.length) : seAt is l 0 = seOne is l[0] := by
  unfold seAt
  have e : l.getD 0 zeroSe = l[0] := by simp [List.getD, List.getElem?_eq_getElem h]
  rw [e]
  by_cases h1 : seOne is l[0] = 0
  · rw [if_neg (by simpa using h1), if_pos rfl, h1]
  · rw [if_pos h1]
theorem seAt_bad {is : Str → Bool} {l : List Se} {k : Nat} (h : k < l.length) (h1 : ¬ seOne is l[k] = 0) : seAt is l k = seOne is l[k] := by
  unfold seAt
  have e : l.getD k zeroSe = l[k] := by simp [List.getD, List.getElem?_eq_getElem h]
  rw [e, if_pos h1]
theorem seAt_gap {is : Str → Bool} {l : List Se} {k : Nat} (h : k + 1 < l.length) (h1 : seOne is l[k + 1] = 0) : seAt is l (k + 1) = seGap l[k] l[k + 1] := by
  unfold seAt
  have e : l.getD (k + 1) zeroSe = l[k + 1] := by simp [List.getD, List.getElem?_eq_getElem h]
  have e2 : l.getD k zeroSe = l[k] := by simp [List.getD, List.getElem?_eq_getElem (by omega : k < l.length)]
  rw [Nat.add_sub_cancel, e, e2, if_neg (by simpa using h1), if_neg (by omega)]
theorem seErr_at {is : Str → Bool} {l : List Se} {k : Nat} (h : k < l.length) (h0 : ∀ x ∈ (seErrs is l).take k, x = 0) (h1 : ¬ seAt is l k = 0) : seErr is l = seAt is l k := by
  have hk : k < (seErrs is l).length := by rw [seErrs_length]; exact h
  rw [seErr, firstI_at hk h0 (by rw [seErrs_get]; exact h1), seErrs_get]
theorem seErr_next {is : Str → Bool} {l : List Se} {k : Nat} (h : k < l.length) (h0 : ∀ x ∈ (seErrs is l).take k, x = 0) (h1 : seAt is l k = 0) : ∀ x ∈ (seErrs is l).take (k + 1), x = 0 := by
  have hk : k < (seErrs is l).length := by rw [seErrs_length]; exact h
  exact take_zero_succ hk h0 (by rw [seErrs_get]; exact h1)
theorem seErr_all {is : Str → Bool} {l : List Se} (h0 : ∀ x ∈ (seErrs is l).take l.length, x = 0) : seErr is l = 0 := by
  rw [List.take_of_length_le (by rw [seErrs_length]; exact Nat.le_refl _)] at h0
  exact firstI_zero h0
theorem seOne_name {is : Str → Bool} {s : Se} (h : is (bs s.k) = false) : seOne is s = 5 := by rw [seOne, if_pos h]
theorem seOne_value {is : Str → Bool} {s : Se} (h : is (bs s.k) = true) (h2 : valueL (bs s.v) = false) : seOne is s = 2 := by rw [seOne, if_neg (by rw [h]; decide), if_pos h2]
theorem seOne_ok {is : Str → Bool} {s : Se} (h : is (bs s.k) = true) (h2 : valueL (bs s.v) = true) : seOne is s = 0 := by rw [seOne, if_neg (by rw [h]; decide), if_neg (by rw [h2]; decide)]

/-! ### In memory -/
structure SeS (w : World) (b o : Nat) (l : List Se) : Prop where
  c0 : ∀ k (h : k < l.length), w.cell? ⟨b, o + k * 2, none⟩ = some (.string l[k].k)
  c1 : ∀ k (h : k < l.length), w.cell? ⟨b, o + k * 2 + 1, none⟩ = some (.string l[k].v)
theorem SeS.ext {w w' : World} {b o : Nat} {l : List Se} (h : SeS w b o l) (hx : Ext w w') : SeS w' b o l := ⟨fun k hk => hx.cell (h.c0 k hk), fun k hk => hx.cell (h.c1 k hk)⟩
/-- a slice of settings: its address where it has any -/
def RdE (w : World) (A : Option Addr) (l : List Se) : Prop := l ≠ [] → ∃ b o, A = some ⟨b, o, none⟩ ∧ SeS w b o l
theorem RdE.ext {w w' : World} {A : Option Addr} {l : List Se} (h : RdE w A l) (hx : Ext w w') : RdE w' A l := fun hn => by
  obtain ⟨b, o, e, k⟩ := h hn
  exact ⟨b, o, e, k.ext hx⟩
def SmallE (l : List Se) : Prop := ∀ s ∈ l, s.k.size ≤ 2097152 ∧ s.v.size ≤ 2097152
end Go.Proofs.YtaobnifiengglaaGreatDoor

namespace Go.Proofs.YtaobnifiengglaaGreatDoor
open Go.RowKit
open Go.Maps (Keyed)

theorem str_under : Tryz.prog.underlying 9 = some .string := by kernel_rfl
theorem str_zero (w : World) : (zeroValue 9).run Tryz.prog w = .ok (.string ⟨#[]⟩) w := by go_simp
/-- block b is a map of strings, of at most n entries, that holds f -/
def StrMap (w : World) (b n : Nat) (f : Str → Option Str) : Prop :=
  ∃ D : DataW PUnit, w.ownsMap Tryz.prog 9 (plainElem Tryz.prog 9) b n D ∧ (∀ s, f s = none → Maps.has D (.string s) = false) ∧ ∀ s v, f s = some v → Maps.has D (.string s) = true ∧ ∀ z, D.atKey (.string s) z = .lit (.string v)
namespace StrMap
variable {w w' : World} {b n : Nat} {f : Str → Option Str}
theorem made (w : World) : StrMap (w.alloc (.map #[] 0)) w.heap.size 0 (fun _ => none) :=
  ⟨.map [], World.ownsMap_made w _ _ _, fun _ _ => rfl, fun _ _ h => by cases h⟩
theorem ext (h : StrMap w b n f) (hx : Ext w w') : StrMap w' b n f := by
  obtain ⟨D, h, r⟩ := h
  exact ⟨D, h.kept (row := none) ⟨hx.os, hx.tape, hx.output, hx.size, fun k hk _ => hx.block k hk⟩ (by simp), r⟩
theorem lt (h : StrMap w b n f) : b < w.heap.size := by
  obtain ⟨D, h, _⟩ := h
  exact h.lt
theorem mono (h : StrMap w b n f) {m : Nat} (hm : n ≤ m) : StrMap w b m f := by
  obtain ⟨D, h, r⟩ := h
  exact ⟨D, h.mono hm, r⟩
theorem look (h : StrMap w b n f) {t : TypeId} (ht : Tryz.prog.underlying t = some (.map 9 9)) (k : ByteArray) (hk : k.size ≤ 2097152) :
    (Instr.lookup t (.map (some b)) (.string k) true).run Tryz.prog w = .ok (.tuple #[S ((f (bs k)).getD []), .bool (f (bs k)).isSome]) w := by
  obtain ⟨D, h, r1, r2⟩ := h
  obtain ⟨v, ps, hrun, hv⟩ := h.look_ok (Maps.string_keyed str_under) ht (str_zero w) (plainElem_string str_under (by decide)) (WideMaps.keyOf_string_mk str_under (s := k) (by simp only [maxLen]; omega))
  rw [hrun]
  obtain ⟨s, rfl, hs, _⟩ := plainElem_string_inv str_under hv
  have hs := congrArg Prod.fst hs
  cases hf : f (bs k) with
  | none =>
    have h0 := r1 _ hf
    have e : (DataW.lit (.string []) : DataW PUnit) = .lit (.string s.data.toList) := (Maps.atKey_of_not_has h0 _).symm.trans hs
    have e := Lit.string.inj (DataW.lit.inj e)
    have e2 : s = ⟨#[]⟩ := bs_inj (show bs s = bs ⟨#[]⟩ from e.symm)
    subst e2
    have h0 : Maps.has D (Lit.string k.data.toList) = false := h0
    simp only [h0]
    rfl
  | some u =>
    obtain ⟨h0, h1⟩ := r2 _ _ hf
    have e : (DataW.lit (.string u) : DataW PUnit) = .lit (.string s.data.toList) := (h1 _).symm.trans hs
    have e := Lit.string.inj (DataW.lit.inj e)
    have h0 : Maps.has D (Lit.string k.data.toList) = true := h0
    have e2 : S u = .string s := by rw [show u = bs s from e, S_bs]
    simp only [h0, Option.getD_some, Option.isSome_some, e2]
theorem upd (h : StrMap w b n f) {t : TypeId} (ht : Tryz.prog.underlying t = some (.map 9 9)) (k v : ByteArray) (hk : k.size ≤ 2097152) (hv : v.size ≤ 2097152) (hn : n ≤ 2097152) :
    ∃ w', (Instr.mapUpdate t (.map (some b)) (.string k) (.string v)).run Tryz.prog w = .ok () w' ∧ StrMap w' b (n + 1) (fun x => if x = bs k then some (bs v) else f x) ∧ w.grownBy w' (some b) := by
  obtain ⟨D, h, r1, r2⟩ := h
  have hkey : keyOf Tryz.prog 9 (.string k) = some (.string (bs k)) := WideMaps.keyOf_string_mk str_under (by simp only [maxLen]; omega)
  have hval : plainElem (H := PUnit) Tryz.prog 9 (.string v) = some (.lit (.string (bs v)), []) := plainElem_string str_under (by simp only [maxLen]; omega)
  obtain ⟨w', hrun, h', hg⟩ := h.update (Maps.string_keyed str_under) ht (by simp only [maxLen]; omega) hkey hval
  refine ⟨w', hrun, ⟨_, h', fun s hs => ?_, fun s u hs => ?_⟩, hg⟩ <;> dsimp only at hs
  · by_cases e : s = bs k
    · rw [if_pos e] at hs; cases hs
    · rw [if_neg e] at hs
      rw [Maps.has_put_other (by intro e2; injection e2 with e2; exact e e2)]
      exact r1 s hs
  · by_cases e : s = bs k
    · rw [if_pos e] at hs
      cases hs
      subst e
      exact ⟨Maps.has_put_same h.isMap (by trivial) _, fun z => Maps.atKey_put_same h.isMap (by trivial) _ _⟩
    · rw [if_neg e] at hs
      have hne : (Lit.string s : Lit) ≠ .string (bs k) := by intro e2; injection e2 with e2; exact e e2
      obtain ⟨h1, h2⟩ := r2 s u hs
      exact ⟨by rw [Maps.has_put_other hne]; exact h1, fun z => by rw [Maps.atKey_put_other hne]; exact h2 z⟩
end StrMap

/-- what a table of the first k settings holds -/
def tblN (l : List Se) (k : Nat) : Str → Option Str := (l.take k).foldl (fun f s x => if x = bs s.k then some (bs s.v) else f x) (fun _ => none)
def tbl (l : List Se) : Str → Option Str := tblN l l.length
theorem tblN_zero (l : List Se) : tblN l 0 = fun _ => none := rfl
theorem tblN_succ {l : List Se} {k : Nat} (h : k < l.length) : tblN l (k + 1) = fun x => if x = bs l[k].k then some (bs l[k].v) else tblN l k x := by
  unfold tblN
  rw [List.take_add_one, List.getElem?_eq_getElem h, Option.toList_some, List.foldl_append]
  rfl
end Go.Proofs.YtaobnifiengglaaGreatDoor
