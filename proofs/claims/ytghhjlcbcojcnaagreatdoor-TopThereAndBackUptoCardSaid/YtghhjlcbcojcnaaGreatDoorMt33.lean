/- Contracts of migrate.Clean and of outref2.CleanOf. Contract of outref2.CleanOf. (Printed by gen/rune.py.) The law outlaw2.RunsMatch: its walk. Plain law: shortest ways, the least of them; breadth first, and length by length. -/
import Derived.Test.YtghhjlcbcojcnaaGreatDoorMt32
import Derived.Test.YtghhjlcbcojcnaaGreatDoorMt29
import Derived.Test.YtghhjlcbcojcnaaGreatDoorMt31
import Derived.Test.YtghhjlcbcojcnaaGreatDoorMt23
import Derived.Test.YtghhjlcbcojcnaaGreatDoorMt20

namespace Go.Proofs.YtghhjlcbcojcnaaGreatDoor
open Go.RowKit

/-- whether the rules from the k-th on can be gone back -/
noncomputable def clnT (rs : List RB) (f : Tb) (k : Nat) : Bool := cleanB ((rs.map RB.l).drop k) (runG rs f k)
theorem clnT_succ {rs : List RB} {f : Tb} {k : Nat} (h : k < rs.length) : clnT rs f k = true ↔ ¬ losesT rs[k].l (runG rs f k) ∧ clnT rs f (k + 1) = true := by
  unfold clnT
  rw [List.drop_eq_getElem_cons (by rw [List.length_map]; exact h), List.getElem_map, cleanB, runG_succ h]
  by_cases hl : losesT rs[k].l (runG rs f k)
  · rw [if_pos hl]; simp [hl]
  · rw [if_neg hl]; simp [hl]
theorem clnT_all {rs : List RB} {f : Tb} : clnT rs f rs.length = true := by
  unfold clnT
  rw [List.drop_of_length_le (by rw [List.length_map]; exact Nat.le_refl _), cleanB]
noncomputable def cleanV (es : List Se) (rs : List Ru) : Bool := if cleanE es rs = 0 then cleanB rs (tbl es) else false
theorem cleanE_run {es : List Se} {rs : List Ru} (h : ¬ runR es rs = 0) : cleanE es rs = runR es rs ∧ cleanV es rs = false := by
  have e : cleanE es rs = runR es rs := by rw [cleanE, if_neg h]
  exact ⟨e, by rw [cleanV, e, if_neg h]⟩
theorem cleanE_inv {es : List Se} {rs : List Ru} (h : runR es rs = 0) : cleanE es rs = invE rs := by rw [cleanE, if_pos h]
theorem cleanV_ok {es : List Se} {rs : List RB} (h : runR es (rs.map RB.l) = 0) (h2 : invE (rs.map RB.l) = 0) : cleanV es (rs.map RB.l) = clnT rs (tbl es) 0 := by
  rw [cleanV, cleanE_inv h, if_pos h2]; rfl
theorem runT_ok {rs : List RB} {f : Tb} {k : Nat} (h : k < rs.length) (h0 : runT rs f k = 0) : doE rs[k].l (runG rs f k) = 0 ∧ runT rs f (k + 1) = 0 := by
  rw [runT_succ h] at h0
  by_cases h1 : doE rs[k].l (runG rs f k) = 0
  · rw [if_pos h1] at h0; exact ⟨h1, h0⟩
  · rw [if_neg h1] at h0; exact absurd h0 h1
theorem runR_zero {es : List Se} {rs : List Ru} (h : runR es rs = 0) : runErr es rs = 0 := by
  rcases Classical.em (runErr es rs = 0) with h1 | h1
  · exact h1
  · rw [(runR_bad h1).1] at h; exact h

set_option maxHeartbeats 16000000 in
set_option maxRecDepth 100000 in
theorem Clean_any (A A2 : Option Addr) (n m c c2 : Nat) (es : List Se) (rs : List RB) (w : World) (hg : GoodN w) (hn : es.length = n) (hm : rs.length = m) (hr : RdE w A es) (hr2 : RdU w A2 rs) (hs : SmallE es) (hs2 : SmallU rs) (hl : n ≤ 2097152) (hl2 : m ≤ 2097152) :
    Calls Tryz.prog 62 #[.slice A n c, .slice A2 m c2] w fun e w' => e = .returned (.tuple #[.bool (cleanV es (rs.map RB.l)), .int .i64 (cleanE es (rs.map RB.l))]) ∧ Ext w w' := by
  have CR := Lib.hid (Run_any A A2 n m c c2 es rs w hg hn hm hr hr2 hs hs2 hl hl2)
  have CV := Lib.hid (fun W (h : Ext w W) => InverseAll_any A2 m c2 rs W (hg.toGood.ext h) hm (hr2.ext h) hs2 hl2)
  have CT := Lib.hid (fun W (h : Ext w W) => tableOf_any A n c es W hn (hr.ext h) hs hl)
  by_cases h0 : runR es (rs.map RB.l) = 0
  rotate_left
  · obtain ⟨e1, e2⟩ := cleanE_run h0
    rw [e1, e2]
    clear e1 e2
    generalize runR es (rs.map RB.l) = R at *
    have hne : (R != 0) = true := by rw [bne_iff_ne]; exact h0
    clear h0 CT hn hm hr hr2 hs hs2 hg
    go_enter Tryz.func62, Tryz.ntmps62
    go_wp2_with fail
    refine CR.out.mono ?_
    rintro e w1 ⟨v, rfl, hown, hx1⟩
    go_wp2
    go_ret2
    exact ⟨rfl, hx1⟩
  rw [cleanE_inv h0]
  by_cases h1 : invE (rs.map RB.l) = 0
  rotate_left
  · have e2 : cleanV es (rs.map RB.l) = false := by rw [cleanV, cleanE_inv h0, if_neg h1]
    rw [e2]
    clear e2
    rw [h0] at CR
    generalize invE (rs.map RB.l) = R at *
    have hne : (R != 0) = true := by rw [bne_iff_ne]; exact h1
    clear h0 h1 CT hn hm hr hr2 hs hs2 hg
    go_enter Tryz.func62, Tryz.ntmps62
    go_wp2_with fail
    refine CR.out.mono ?_
    rintro e w1 ⟨v, rfl, hown, hx1⟩
    go_wp2_with fail
    refine (CV.out _ hx1).mono ?_
    rintro e w2 ⟨A3, c3, rfl, hrd, hx2⟩
    go_wp2
    go_ret2
    exact ⟨rfl, hx1.trans hx2⟩
  rw [cleanV_ok h0 h1, h1]
  obtain ⟨z1, z2, z3, z4⟩ := runErr_zero (runR_zero h0)
  rw [List.length_map] at z3
  rw [hn] at z2
  rw [hm] at z3
  have HRR := Lib.hid (fun k (h : k < rs.length) => z4 rs[k].l (List.mem_map.2 ⟨_, List.getElem_mem h, rfl⟩))
  have HOK := Lib.hid (okt_tbl z1)
  have HT0 := Lib.hid (show runT rs (tbl es) 0 = 0 from by rw [runT_zero, ← runR_good (runR_zero h0), h0])
  have HG0 := Lib.hid (runG_zero rs (tbl es))
  have HGS := Lib.hid (fun k (h : k < rs.length) => runG_succ (f := tbl es) h)
  have HTS := Lib.hid (fun k (h : k < rs.length) => runT_ok (f := tbl es) h)
  have HCS := Lib.hid (fun k (h : k < rs.length) => clnT_succ (f := tbl es) h)
  have HCA := Lib.hid (clnT_all (rs := rs) (f := tbl es))
  rw [hm] at HCA
  have HR := Lib.hid hr2
  have HM := Lib.hid hm
  have HGD := Lib.hid hg
  rw [h0] at CR
  rw [h1] at CV
  generalize runT rs (tbl es) = T at *
  generalize clnT rs (tbl es) = CB at *
  generalize runG rs (tbl es) = G at *
  generalize tbl es = F0 at *
  obtain ⟨V, hV⟩ : ∃ V, CB 0 = V := ⟨_, rfl⟩
  rw [hV]
  have HV := Lib.hid hV
  clear z1 z4 h0 h1 hn hm hr hr2 hs hs2 hg hV
  go_enter Tryz.func62, Tryz.ntmps62
  go_wp2_with fail
  refine CR.out.mono ?_
  rintro e w1 ⟨v, rfl, hown, hx1⟩
  clear hown
  go_wp2_with fail
  refine (CV.out _ hx1).mono ?_
  rintro e w2 ⟨A3, c3, rfl, hrd, hx2⟩
  clear hrd
  have hx12 := hx1.trans hx2
  go_wp2_with fail
  refine (CT.out _ hx12).mono ?_
  rintro e w3 ⟨rfl, hm3, hx3⟩
  have hsz := hx12.size
  go_wp2
  go_loopw [34] (fun i wr => ∃ k : Nat, k ≤ m ∧ i = .int .i64 k ∧ StrMap wr w2.heap.size 2000 (G k) ∧ Okt (G k) ∧ Hid (T k = 0) ∧ Hid (V = CB k) ∧ Ext w wr) (fun i _ => m - (intOf i).toNat)
  case atStart => exact ⟨0, Nat.zero_le _, rfl, by rw [HG0.out]; exact hm3.mono z2, by rw [HG0.out]; exact HOK.out, HT0.out, HV.out.symm, hx12.trans hx3⟩
  case round =>
    clear hm3 hx3
    obtain ⟨k, hk, rfl, hmk, hok, HTK, HVK, hxr⟩ := hrel
    by_cases hlt : k < m
    · have hk1 : k < rs.length := by rw [HM.out]; exact hlt
      obtain ⟨b, o, rfl, hX⟩ := (HR.out.ext hxr) (fun e => by rw [e] at hk1; exact absurd hk1 (Nat.not_lt_zero _))
      have x0 := hX.c0 k hk1; have x1 := hX.c1 k hk1; have x2 := hX.c2 k hk1; have x3 := hX.c3 k hk1; have x4 := hX.c4 k hk1
      have hrr := HRR.out k hk1
      have hgs := HGS.out k hk1
      obtain ⟨hd0, ht1⟩ := HTS.out k hk1 HTK.out
      have CL := Lib.hid (fun W (h : Ext wr W) => loses_any rs[k] w2.heap.size 2000 (G k) W (hmk.ext h) hok hrr)
      have CD := Lib.hid (fun W (h : Ext wr W) => do_any rs[k] w2.heap.size 2000 (G k) W (HGD.out.toGood.ext (hxr.trans h)) (hmk.ext h) hok (by omega) hrr)
      have HO := Lib.hid (okt_next hok hrr hd0)
      have HLS := Lib.hid (HCS.out k hk1)
      rw [← HVK.out] at HLS
      rw [← hgs, hd0] at CD
      rw [← hgs] at HO
      have HT1 := Lib.hid ht1
      clear hrr hgs hd0 ht1
      generalize losesT rs[k].l (G k) = P at *
      generalize rs[k] = r at *
      obtain ⟨r0, r1, r2, r3, r4⟩ := r
      dsimp only at x0 x1 x2 x3 x4
      clear hX
      have b1 := Blk.new wr 23 #[.int .i64 r0, .string r1, .string r2, .string r3, .string r4]
      have hbx : ∀ w', Ext (wr.alloc (.cells #[.int .i64 r0, .string r1, .string r2, .string r3, .string r4] 23)) w' → Blk w' wr.heap.size 23 #[.int .i64 r0, .string r1, .string r2, .string r3, .string r4] := fun w' h => b1.ext h
      have HBX := Lib.hid hbx
      have hc1 := b1.cell
      clear b1 hbx
      go_wp2_with fail
      refine (CL.out _ ((Ext.refl wr).alloc _)).mono ?_
      rintro e w4 ⟨v, rfl, hvP, hx4⟩
      have hxw4 := (hxr.alloc _).trans hx4
      have HVP := Lib.hid hvP
      have b2 := HBX.out _ hx4
      have hc2 := b2.cell
      clear b2 hc1 hvP
      cases v with
      | true =>
        have HE := Lib.hid (show V = false from by
          cases V with
          | false => rfl
          | true => exact absurd (HVP.out.1 rfl) (HLS.out.1 rfl).1)
        go_wp2
        go_ret2
        exact ⟨by rw [HE.out] <;> rfl, hxw4⟩
      | false =>
        have HE := Lib.hid (show V = CB (k + 1) from by
          have hnp : ¬ P := fun h => by cases HVP.out.2 h
          rw [Bool.eq_iff_iff, HLS.out]
          exact ⟨fun h => h.2, fun h => ⟨hnp, h⟩⟩)
        go_wp2_with fail
        refine (CD.out _ (Ext.trans ((Ext.refl wr).alloc _) hx4)).mono ?_
        rintro e w5 ⟨rfl, hm5, hg5⟩
        have hx5 : Ext w w5 := hxw4.row hg5 hsz
        have HM5 := Lib.hid (hm5 (by trivial))
        clear hm5
        go_wp2
        go_roundw
        case rel => exact ⟨k + 1, by omega, by go_num, HM5.out, HO.out, HT1.out, HE.out, hx5⟩
        case measure => simp [intOf]; omega
    · obtain rfl : k = m := by omega
      have HE := Lib.hid (show V = true from by rw [HVK.out, HCA.out])
      go_wp2
      go_ret2
      exact ⟨by rw [HE.out] <;> rfl, hxr⟩
end Go.Proofs.YtghhjlcbcojcnaaGreatDoor

namespace Go.Proofs.YtghhjlcbcojcnaaGreatDoor
open Go.RowKit

end Go.Proofs.YtghhjlcbcojcnaaGreatDoor

namespace Go.Proofs.YtghhjlcbcojcnaaGreatDoor
open Go.RowKit

theorem SeOwn.eq {w : World} {B1 B2 : Nat} {l : List Se} {v1 v2 : Value} (h1 : SeOwn B1 l v1 w) (h2 : SeOwn B2 l v2 w) (hl : l.length ≤ 2097152) :
    Calls Tryz.prog 65 #[v1, v2] w fun e w' => e = .returned (.bool true) ∧ Ext w w' := by
  obtain ⟨A1, c1, rfl, _, r1⟩ := h1.rd
  obtain ⟨A2, c2, rfl, _, r2⟩ := h2.rd
  exact EqualSe_any A1 A2 c1 c2 l.length l w rfl r1 r2 hl
end Go.Proofs.YtghhjlcbcojcnaaGreatDoor

namespace Go.Proofs.YtghhjlcbcojcnaaGreatDoor

/-! ### Lists of numbers by length, and then by their first difference -/
def lexle : List Nat → List Nat → Prop
  | [], _ => True
  | _ :: _, [] => False
  | a :: x, b :: y => a < b ∨ (a = b ∧ lexle x y)
theorem lexle_refl : ∀ a : List Nat, lexle a a
  | [] => trivial
  | _ :: x => .inr ⟨rfl, lexle_refl x⟩
theorem lexle_trans : ∀ {a b c : List Nat}, lexle a b → lexle b c → lexle a c
  | [], _, _, _, _ => trivial
  | _ :: _, [], _, h, _ => h.elim
  | _ :: _, _ :: _, [], _, h => h.elim
  | a :: x, b :: y, c :: z, h1, h2 => by
    rcases h1 with h1 | ⟨rfl, h1⟩
    · rcases h2 with h2 | ⟨rfl, h2⟩
      · exact .inl (by omega)
      · exact .inl h1
    · rcases h2 with h2 | ⟨rfl, h2⟩
      · exact .inl h2
      · exact .inr ⟨rfl, lexle_trans h1 h2⟩
theorem lexle_anti : ∀ {a b : List Nat}, lexle a b → lexle b a → a = b
  | [], [], _, _ => rfl
  | [], _ :: _, _, h => h.elim
  | _ :: _, [], h, _ => h.elim
  | a :: x, b :: y, h1, h2 => by
    rcases h1 with h1 | ⟨rfl, h1⟩
    · rcases h2 with h2 | ⟨h2, _⟩ <;> omega
    · rcases h2 with h2 | ⟨_, h2⟩
      · omega
      · rw [lexle_anti h1 h2]
theorem lexle_total : ∀ a b : List Nat, lexle a b ∨ lexle b a
  | [], _ => .inl trivial
  | _ :: _, [] => .inr trivial
  | a :: x, b :: y => by
    rcases Nat.lt_trichotomy a b with h | rfl | h
    · exact .inl (.inl h)
    · rcases lexle_total x y with h | h
      · exact .inl (.inr ⟨rfl, h⟩)
      · exact .inr (.inr ⟨rfl, h⟩)
    · exact .inr (.inl h)
theorem lexle_app : ∀ {a b : List Nat} (x y : List Nat), a.length = b.length → lexle a b → a ≠ b → lexle (a ++ x) (b ++ y)
  | [], [], _, _, _, _, h => absurd rfl h
  | [], _ :: _, _, _, h, _, _ => by simp at h
  | _ :: _, [], _, _, h, _, _ => by simp at h
  | a :: r, b :: s, x, y, hl, h, hn => by
    rcases h with h | ⟨rfl, h⟩
    · exact .inl h
    · exact .inr ⟨rfl, lexle_app x y (by simpa using hl) h (fun e => hn (by rw [e]))⟩
theorem lexle_pre : ∀ (a : List Nat) {x y : List Nat}, lexle x y → lexle (a ++ x) (a ++ y)
  | [], _, _, h => h
  | _ :: r, _, _, h => .inr ⟨rfl, lexle_pre r h⟩
theorem lexle_one {i j : Nat} (h : i ≤ j) : lexle [i] [j] := by
  rcases Nat.lt_or_eq_of_le h with h | rfl
  · exact .inl h
  · exact lexle_refl _
/-- shorter, or as long and not behind -/
def sl (a b : List Nat) : Prop := a.length < b.length ∨ (a.length = b.length ∧ lexle a b)
theorem sl_refl (a : List Nat) : sl a a := .inr ⟨rfl, lexle_refl a⟩
theorem sl_nil (a : List Nat) : sl [] a := by
  cases a with
  | nil => exact sl_refl _
  | cons x r => exact .inl (by simp)
theorem sl_trans {a b c : List Nat} (h1 : sl a b) (h2 : sl b c) : sl a c := by
  rcases h1 with h1 | ⟨e1, h1⟩ <;> rcases h2 with h2 | ⟨e2, h2⟩
  · exact .inl (by omega)
  · exact .inl (by omega)
  · exact .inl (by omega)
  · exact .inr ⟨by omega, lexle_trans h1 h2⟩
theorem sl_anti {a b : List Nat} (h1 : sl a b) (h2 : sl b a) : a = b := by
  rcases h1 with h1 | ⟨e1, h1⟩ <;> rcases h2 with h2 | ⟨e2, h2⟩
  · omega
  · omega
  · omega
  · exact lexle_anti h1 h2
theorem sl_app {a b : List Nat} (i j : Nat) (h : sl a b) (hn : a ≠ b) : sl (a ++ [i]) (b ++ [j]) := by
  rcases h with h | ⟨e, h⟩
  · exact .inl (by simp; omega)
  · exact .inr ⟨by simp [e], lexle_app _ _ e h hn⟩
theorem sl_one (a : List Nat) {i j : Nat} (h : i ≤ j) : sl (a ++ [i]) (a ++ [j]) := .inr ⟨by simp, lexle_pre a (lexle_one h)⟩
theorem sl_longer {a b c : List Nat} (i : Nat) (h : sl a b) (h2 : 1 < c.length) : sl (a ++ [i]) (b ++ c) := by
  refine .inl ?_
  simp only [List.length_append, List.length_cons, List.length_nil]
  rcases h with h | ⟨h, _⟩ <;> omega

/-! ### Ways -/
section
variable {V : Type} (n : Nat) (has : Nat → V → Bool) (tgt : Nat → V)
def okP : V → List Nat → Prop
  | _, [] => True
  | v, i :: p => i < n ∧ has i v = true ∧ okP (tgt i) p
def endP : V → List Nat → V
  | v, [] => v
  | _, i :: p => endP (tgt i) p
theorem endP_app (tgt : Nat → V) : ∀ (v : V) (p q : List Nat), endP tgt v (p ++ q) = endP tgt (endP tgt v p) q
  | _, [], _ => rfl
  | _, i :: p, q => endP_app tgt (tgt i) p q
theorem endP_snoc (tgt : Nat → V) (v : V) (p : List Nat) (i : Nat) : endP tgt v (p ++ [i]) = tgt i := by rw [endP_app]; rfl
variable {n has tgt}
theorem okP_app : ∀ {v : V} {p q : List Nat}, okP n has tgt v (p ++ q) ↔ okP n has tgt v p ∧ okP n has tgt (endP tgt v p) q
  | _, [], _ => by simp [okP, endP]
  | _, i :: p, q => by
    simp only [List.cons_append, okP, endP, okP_app (v := tgt i) (p := p) (q := q)]
    exact ⟨fun h => ⟨⟨h.1, h.2.1, h.2.2.1⟩, h.2.2.2⟩, fun h => ⟨h.1.1, h.1.2.1, h.1.2.2, h.2⟩⟩
theorem okP_snoc {v : V} {p : List Nat} {i : Nat} : okP n has tgt v (p ++ [i]) ↔ okP n has tgt v p ∧ i < n ∧ has i (endP tgt v p) = true := by
  rw [okP_app]; simp [okP]
variable (n has tgt)
/-- the least of the shortest ways -/
structure Best (v0 v : V) (p : List Nat) : Prop where
  ok : okP n has tgt v0 p
  fin : endP tgt v0 p = v
  least : ∀ q, okP n has tgt v0 q → endP tgt v0 q = v → sl p q
variable {n has tgt}
theorem Best.same {v0 v : V} {p q : List Nat} (h : Best n has tgt v0 v p) (k : Best n has tgt v0 v q) : p = q := sl_anti (h.least q k.ok k.fin) (k.least p h.ok h.fin)
theorem best_nil (v0 : V) : Best n has tgt v0 v0 [] := ⟨trivial, rfl, fun q _ _ => sl_nil q⟩
/-- a way begins where one knows, and ends where one does not: there is a last place that one knows -/
theorem last_known (S : V → Bool) : ∀ (q : List Nat) (v0 : V), okP n has tgt v0 q → S v0 = true → S (endP tgt v0 q) = false →
    ∃ q1 i q2, q = q1 ++ i :: q2 ∧ S (endP tgt v0 q1) = true ∧ S (tgt i) = false
  | [], v0, _, h1, h2 => by rw [endP, h1] at h2; cases h2
  | i :: q, v0, h, h1, h2 => by
    cases hs : S (tgt i) with
    | false => exact ⟨[], i, q, rfl, h1, hs⟩
    | true =>
      obtain ⟨q1, j, q2, rfl, k1, k2⟩ := last_known S q (tgt i) h.2.2 hs h2
      exact ⟨i :: q1, j, q2, rfl, k1, k2⟩

/-! ### Breadth first -/
variable (n has tgt)
/-- while the way's head is looked at, its first k edges -/
structure Bfs (v0 : V) (Pr : List V) (Q : List (V × List Nat)) (S : V → Bool) : Prop where
  start : S v0 = true
  split : ∀ v, S v = true ↔ v ∈ Pr ∨ v ∈ Q.map Prod.fst
  clos : ∀ v ∈ Pr, ∀ i, i < n → has i v = true → S (tgt i) = true
  best : ∀ e ∈ Q, Best n has tgt v0 e.1 e.2
  sorted : Q.Pairwise fun a b => sl a.2 b.2
  last : ∀ e ∈ Q, e.2 = [] ∨ ∃ r j, e.2 = r ++ [j] ∧ endP tgt v0 r ∈ Pr ∧ ∀ h ∈ Q.head?, sl r h.2
  one : (Pr ++ Q.map Prod.fst).Nodup
  mem : ∀ v ∈ Pr, v = v0 ∨ ∃ i, i < n ∧ tgt i = v
structure Scan (v0 v : V) (p : List Nat) (Pr : List V) (Q : List (V × List Nat)) (S : V → Bool) (k : Nat) : Prop where
  start : S v0 = true
  split : ∀ u, S u = true ↔ u ∈ Pr ∨ u = v ∨ u ∈ Q.map Prod.fst
  clos : ∀ u ∈ Pr, ∀ i, i < n → has i u = true → S (tgt i) = true
  mine : ∀ i, i < k → has i v = true → S (tgt i) = true
  head : Best n has tgt v0 v p
  best : ∀ e ∈ Q, Best n has tgt v0 e.1 e.2
  lead : ∀ e ∈ Q, sl p e.2
  sorted : Q.Pairwise fun a b => sl a.2 b.2
  last : ∀ e ∈ Q, e.2 = [] ∨ ∃ r j, e.2 = r ++ [j] ∧ ((endP tgt v0 r ∈ Pr ∧ sl r p) ∨ (r = p ∧ j < k))
  one : (Pr ++ v :: Q.map Prod.fst).Nodup
  mem : ∀ v ∈ Pr, v = v0 ∨ ∃ i, i < n ∧ tgt i = v
variable {n has tgt}
theorem Best.mem {v0 v : V} {p : List Nat} (h : Best n has tgt v0 v p) : v = v0 ∨ ∃ i, i < n ∧ tgt i = v := by
  rcases List.eq_nil_or_concat p with rfl | ⟨q, i, rfl⟩
  · exact .inl h.fin.symm
  · have h1 := h.ok
    have h2 := h.fin
    rw [List.concat_eq_append] at h1 h2
    rw [endP_snoc] at h2
    exact .inr ⟨i, (okP_snoc.1 h1).2.1, h2⟩
theorem Bfs.init [DecidableEq V] (v0 : V) : Bfs n has tgt v0 [] [(v0, [])] (fun v => decide (v = v0)) :=
  ⟨by simp, fun v => by simp, fun _ h => by simp at h, fun e he => by simp at he; subst he; exact best_nil v0, by simp, fun e he => by simp at he; subst he; exact .inl rfl, by simp, fun _ h => by simp at h⟩
theorem Bfs.scan {v0 v : V} {p : List Nat} {Pr : List V} {Q : List (V × List Nat)} {S : V → Bool} (h : Bfs n has tgt v0 Pr ((v, p) :: Q) S) : Scan n has tgt v0 v p Pr Q S 0 where
  start := h.start
  split := fun u => by rw [h.split u]; simp
  clos := h.clos
  mine := fun i hi => absurd hi (Nat.not_lt_zero _)
  head := h.best (v, p) (by simp)
  best := fun e he => h.best e (by simp [he])
  lead := fun e he => (List.pairwise_cons.1 h.sorted).1 e he
  sorted := (List.pairwise_cons.1 h.sorted).2
  last := fun e he => by
    rcases h.last e (by simp [he]) with h0 | ⟨r, j, e1, e2, e3⟩
    · exact .inl h0
    · exact .inr ⟨r, j, e1, .inl ⟨e2, e3 (v, p) (by simp)⟩⟩
  one := h.one
  mem := h.mem
theorem Scan.pop {v0 v : V} {p : List Nat} {Pr : List V} {Q : List (V × List Nat)} {S : V → Bool} (h : Scan n has tgt v0 v p Pr Q S n) : Bfs n has tgt v0 (Pr ++ [v]) Q S where
  start := h.start
  split := fun u => by rw [h.split u]; simp [or_assoc]
  clos := fun u hu i hi hh => by
    rcases List.mem_append.1 hu with hu | hu
    · exact h.clos u hu i hi hh
    · obtain rfl : u = v := by simpa using hu
      exact h.mine i hi hh
  best := h.best
  sorted := h.sorted
  last := fun e he => by
    rcases h.last e he with h0 | ⟨r, j, e1, h1⟩
    · exact .inl h0
    · refine .inr ⟨r, j, e1, ?_, fun x hx => ?_⟩
      · rcases h1 with ⟨h1, _⟩ | ⟨rfl, _⟩
        · exact List.mem_append.2 (.inl h1)
        · rw [h.head.fin]; simp
      · have hx : x ∈ Q := List.mem_of_mem_head? hx
        rcases h1 with ⟨_, h1⟩ | ⟨rfl, _⟩
        · exact sl_trans h1 (h.lead x hx)
        · exact h.lead x hx
  one := by simpa using h.one
  mem := fun u hu => by
    rcases List.mem_append.1 hu with hu | hu
    · exact h.mem u hu
    · obtain rfl : u = v := by simpa using hu
      exact h.head.mem
theorem Scan.skip {v0 v : V} {p : List Nat} {Pr : List V} {Q : List (V × List Nat)} {S : V → Bool} {k : Nat} (h : Scan n has tgt v0 v p Pr Q S k) (hk : has k v = true → S (tgt k) = true) : Scan n has tgt v0 v p Pr Q S (k + 1) where
  start := h.start
  split := h.split
  clos := h.clos
  mine := fun i hi hh => by
    rcases Nat.lt_or_eq_of_le (Nat.le_of_lt_succ hi) with h1 | rfl
    · exact h.mine i h1 hh
    · exact hk hh
  head := h.head
  best := h.best
  lead := h.lead
  sorted := h.sorted
  last := fun e he => by
    rcases h.last e he with h0 | ⟨r, j, e1, h1⟩
    · exact .inl h0
    · refine .inr ⟨r, j, e1, ?_⟩
      rcases h1 with h1 | ⟨h1, h2⟩
      · exact .inl h1
      · exact .inr ⟨h1, by omega⟩
  one := h.one
  mem := h.mem
theorem Scan.add [DecidableEq V] {v0 v : V} {p : List Nat} {Pr : List V} {Q : List (V × List Nat)} {S : V → Bool} {k : Nat} (h : Scan n has tgt v0 v p Pr Q S k) (hkn : k < n) (hk : has k v = true) (hs : S (tgt k) = false) :
    Scan n has tgt v0 v p Pr (Q ++ [(tgt k, p ++ [k])]) (fun u => decide (u = tgt k) || S u) (k + 1) := by
  have hvP : v ∉ Pr := fun hv => by
    have := List.nodup_append.1 h.one
    exact this.2.2 v hv v (by simp) rfl
  -- the new one is behind all that wait
  have hbeh : ∀ e ∈ Q, sl e.2 (p ++ [k]) := fun e he => by
    rcases h.last e he with h0 | ⟨r, j, e1, h1⟩
    · rw [h0]; exact sl_nil _
    · rw [e1]
      rcases h1 with ⟨h1, h2⟩ | ⟨rfl, h2⟩
      · exact sl_app _ _ h2 (fun e => hvP (by rw [← h.head.fin, ← e]; exact h1))
      · exact sl_one _ (by omega)
  have hnew : Best n has tgt v0 (tgt k) (p ++ [k]) := by
    refine ⟨okP_snoc.2 ⟨h.head.ok, hkn, by rw [h.head.fin]; exact hk⟩, endP_snoc _ _ _ _, fun q hq hqe => ?_⟩
    obtain ⟨q1, i, q2, rfl, k1, k2⟩ := last_known S q v0 hq h.start (by rw [hqe]; exact hs)
    obtain ⟨o1, o2⟩ := okP_app.1 hq
    obtain ⟨hin, hhi, o3⟩ := o2
    -- the last known place waits, or is the head
    have hp : sl p q1 := by
      rcases (h.split _).1 k1 with hP | hv | hQ
      · rw [h.clos _ hP i hin hhi] at k2; cases k2
      · exact h.head.least q1 o1 hv
      · obtain ⟨e, he, hee⟩ := List.mem_map.1 hQ
        exact sl_trans (h.lead e he) ((h.best e he).least q1 o1 hee.symm)
    cases q2 with
    | nil =>
      by_cases hpq : p = q1
      · subst hpq
        refine sl_one _ ?_
        rcases Nat.lt_or_ge i k with hik | hik
        · rw [h.head.fin] at hhi
          rw [h.mine i hik hhi] at k2; cases k2
        · exact hik
      · exact sl_app _ _ hp hpq
    | cons x r => exact sl_longer _ hp (by simp)
  have hfst : (Q ++ [(tgt k, p ++ [k])]).map Prod.fst = Q.map Prod.fst ++ [tgt k] := by simp
  refine ⟨by simp [h.start], fun u => ?_, fun u hu i hi hh => by simp [h.clos u hu i hi hh], fun i hi hh => ?_, h.head, fun e he => ?_, fun e he => ?_, ?_, fun e he => ?_, ?_, h.mem⟩
  · rw [hfst, Bool.or_eq_true, decide_eq_true_eq, h.split u]
    simp only [List.mem_append, List.mem_singleton]
    exact ⟨fun hh => by rcases hh with rfl | hh | hh | hh <;> simp [*], fun hh => by rcases hh with hh | hh | hh | hh <;> simp [*]⟩
  · rcases Nat.lt_or_eq_of_le (Nat.le_of_lt_succ hi) with h1 | rfl
    · simp [h.mine i h1 hh]
    · simp
  · rcases List.mem_append.1 he with he | he
    · exact h.best e he
    · obtain rfl : e = _ := by simpa using he
      exact hnew
  · rcases List.mem_append.1 he with he | he
    · exact h.lead e he
    · obtain rfl : e = _ := by simpa using he
      exact .inl (by simp)
  · refine List.pairwise_append.2 ⟨h.sorted, by simp, fun a ha b hb => ?_⟩
    obtain rfl : b = _ := by simpa using hb
    exact hbeh a ha
  · rcases List.mem_append.1 he with he | he
    · rcases h.last e he with h0 | ⟨r, j, e1, h1⟩
      · exact .inl h0
      · refine .inr ⟨r, j, e1, ?_⟩
        rcases h1 with h1 | ⟨h1, h2⟩
        · exact .inl h1
        · exact .inr ⟨h1, by omega⟩
    · obtain rfl : e = _ := by simpa using he
      exact .inr ⟨p, k, rfl, .inr ⟨rfl, by omega⟩⟩
  · rw [hfst]
    have hnot : tgt k ∉ Pr ++ v :: Q.map Prod.fst := fun hm => by
      have : S (tgt k) = true := (h.split _).2 (by simpa using hm)
      rw [this] at hs; cases hs
    have : Pr ++ v :: (Q.map Prod.fst ++ [tgt k]) = (Pr ++ v :: Q.map Prod.fst) ++ [tgt k] := by simp
    rw [this]
    refine List.nodup_append.2 ⟨h.one, by simp, fun a ha b hb => ?_⟩
    obtain rfl : b = tgt k := by simpa using hb
    exact fun e => hnot (e ▸ ha)
/-- all is seen: what is reached has been processed -/
theorem Bfs.all {v0 : V} {Pr : List V} {S : V → Bool} (h : Bfs n has tgt v0 Pr [] S) {q : List Nat} (hq : okP n has tgt v0 q) : endP tgt v0 q ∈ Pr := by
  cases hs : S (endP tgt v0 q) with
  | true =>
    rcases (h.split _).1 hs with h1 | h1
    · exact h1
    · simp at h1
  | false =>
    obtain ⟨q1, i, q2, rfl, k1, k2⟩ := last_known S q v0 hq h.start hs
    obtain ⟨_, hin, hhi, _⟩ := okP_app.1 hq
    rcases (h.split _).1 k1 with h1 | h1
    · rw [h.clos _ h1 i hin hhi] at k2; cases k2
    · simp at h1
/-- no more than one place for each edge, and the first -/
theorem nodup_sub {α : Type} [DecidableEq α] : ∀ {l m : List α}, l.Nodup → (∀ x ∈ l, x ∈ m) → l.length ≤ m.length
  | [], _, _, _ => Nat.zero_le _
  | a :: l, m, hd, hs => by
    obtain ⟨h1, h2⟩ := List.nodup_cons.1 hd
    have := nodup_sub (l := l) (m := m.erase a) h2 (fun x hx => (List.mem_erase_of_ne (fun e => h1 (by rw [← e]; exact hx))).2 (hs x (by simp [hx])))
    have hm := List.length_erase_of_mem (hs a (by simp))
    have hpos : 0 < m.length := List.length_pos_of_mem (hs a (by simp))
    simp only [List.length_cons]
    omega

/-- no more places than edges, and the first -/
theorem Bfs.count [DecidableEq V] {v0 : V} {Pr : List V} {Q : List (V × List Nat)} {S : V → Bool} (h : Bfs n has tgt v0 Pr Q S) : Pr.length + Q.length ≤ n + 1 := by
  have := nodup_sub (m := v0 :: (List.range n).map tgt) h.one (fun x hx => by
    have : x = v0 ∨ ∃ i, i < n ∧ tgt i = x := by
      rcases List.mem_append.1 hx with hx | hx
      · exact h.mem x hx
      · obtain ⟨e, he, rfl⟩ := List.mem_map.1 hx
        exact (h.best e he).mem
    rcases this with rfl | ⟨i, hi, rfl⟩
    · simp
    · exact List.mem_cons_of_mem _ (List.mem_map.2 ⟨i, List.mem_range.2 hi, rfl⟩))
  simpa using this

theorem Scan.count [DecidableEq V] {v0 v : V} {p : List Nat} {Pr : List V} {Q : List (V × List Nat)} {S : V → Bool} {k : Nat} (h : Scan n has tgt v0 v p Pr Q S k) : Pr.length + (Q.length + 1) ≤ n + 1 := by
  have := nodup_sub (m := v0 :: (List.range n).map tgt) h.one (fun x hx => by
    have : x = v0 ∨ ∃ i, i < n ∧ tgt i = x := by
      rcases List.mem_append.1 hx with hx | hx
      · exact h.mem x hx
      · rcases List.mem_cons.1 hx with rfl | hx
        · exact h.head.mem
        · obtain ⟨e, he, rfl⟩ := List.mem_map.1 hx
          exact (h.best e he).mem
    rcases this with rfl | ⟨i, hi, rfl⟩
    · simp
    · exact List.mem_cons_of_mem _ (List.mem_map.2 ⟨i, List.mem_range.2 hi, rfl⟩))
  simpa using this

/-! ### Length by length -/
variable (n has tgt)
/-- f tells, for each place, the least way of a length -/
structure Lvl (v0 : V) (k : Nat) (f : V → Option (List Nat)) : Prop where
  got : ∀ v p, f v = some p → okP n has tgt v0 p ∧ endP tgt v0 p = v ∧ p.length = k
  full : ∀ q, okP n has tgt v0 q → q.length = k → ∃ p, f (endP tgt v0 q) = some p ∧ lexle p q
/-- the next length, while it is made: D tells what has been looked at -/
structure Nxt (f : V → Option (List Nat)) (D : V → Nat → Prop) (g : V → Option (List Nat)) : Prop where
  got : ∀ u p, g u = some p → ∃ v q i, f v = some q ∧ i < n ∧ has i v = true ∧ tgt i = u ∧ p = q ++ [i]
  full : ∀ v q i, D v i → f v = some q → i < n → has i v = true → ∃ p, g (tgt i) = some p ∧ lexle p (q ++ [i])
variable {n has tgt}
theorem Lvl.init [DecidableEq V] (v0 : V) : Lvl n has tgt v0 0 (fun v => if v = v0 then some [] else none) :=
  ⟨(fun v p h => by
    by_cases e : v = v0
    · rw [if_pos e] at h; cases h; exact ⟨trivial, e.symm, rfl⟩
    · rw [if_neg e] at h; cases h),
   (fun q _ hl => by
    obtain rfl : q = [] := List.eq_nil_of_length_eq_zero hl
    exact ⟨[], by simp [endP], trivial⟩)⟩
theorem Nxt.init (f : V → Option (List Nat)) : Nxt n has tgt f (fun _ _ => False) (fun _ => none) := ⟨(fun _ _ h => by cases h), (fun _ _ _ h => h.elim)⟩
theorem Nxt.congr {f g : V → Option (List Nat)} {D D' : V → Nat → Prop} (h : Nxt n has tgt f D g) (hd : ∀ v i, D' v i → i < n → (f v).isSome = true → has i v = true → D v i) : Nxt n has tgt f D' g :=
  ⟨h.got, fun v q i h1 h2 h3 h4 => h.full v q i (hd v i h1 h3 (by rw [h2]; rfl) h4) h2 h3 h4⟩
/-- one edge is looked at; it does better -/
theorem Nxt.put [DecidableEq V] {f g : V → Option (List Nat)} {D D' : V → Nat → Prop} {v : V} {q : List Nat} {i : Nat} (h : Nxt n has tgt f D g) (hf : f v = some q) (hi : i < n) (hh : has i v = true)
    (hd : ∀ u j, D' u j → D u j ∨ (u = v ∧ j = i)) (hg : ∀ p, g (tgt i) = some p → lexle (q ++ [i]) p) : Nxt n has tgt f D' (fun u => if u = tgt i then some (q ++ [i]) else g u) := by
  refine ⟨fun u p hp => ?_, fun u r j hj h1 h2 h3 => ?_⟩
  · by_cases e : u = tgt i
    · rw [if_pos e] at hp; cases hp; exact ⟨v, q, i, hf, hi, hh, e.symm, rfl⟩
    · rw [if_neg e] at hp; exact h.got u p hp
  · rcases hd u j hj with hj | ⟨rfl, rfl⟩
    · obtain ⟨p, hp, hl⟩ := h.full u r j hj h1 h2 h3
      by_cases e : tgt j = tgt i
      · rw [if_pos e]
        rw [e] at hp
        exact ⟨_, rfl, lexle_trans (hg p hp) hl⟩
      · rw [if_neg e]; exact ⟨p, hp, hl⟩
    · rw [if_pos rfl]
      rw [hf] at h1; cases h1
      exact ⟨_, rfl, lexle_refl _⟩
/-- one edge is looked at; what was is as good -/
theorem Nxt.keep {f g : V → Option (List Nat)} {D D' : V → Nat → Prop} {v : V} {q p0 : List Nat} {i : Nat} (h : Nxt n has tgt f D g) (hf : f v = some q)
    (hd : ∀ u j, D' u j → D u j ∨ (u = v ∧ j = i)) (hg : g (tgt i) = some p0) (hl0 : lexle p0 (q ++ [i])) : Nxt n has tgt f D' g :=
  ⟨h.got, fun u r j hj h1 h2 h3 => by
    rcases hd u j hj with hj | ⟨rfl, rfl⟩
    · exact h.full u r j hj h1 h2 h3
    · rw [hf] at h1; cases h1
      exact ⟨_, hg, hl0⟩⟩
theorem Nxt.lvl {v0 : V} {k : Nat} {f g : V → Option (List Nat)} (hf : Lvl n has tgt v0 k f) (h : Nxt n has tgt f (fun v i => (f v).isSome = true ∧ i < n) g) : Lvl n has tgt v0 (k + 1) g := by
  refine ⟨fun u p hp => ?_, fun q hq hl => ?_⟩
  · obtain ⟨v, r, i, h1, h2, h3, h4, rfl⟩ := h.got u p hp
    obtain ⟨o1, o2, o3⟩ := hf.got v r h1
    exact ⟨okP_snoc.2 ⟨o1, h2, by rw [o2]; exact h3⟩, by rw [endP_snoc]; exact h4, by simp [o3]⟩
  · obtain ⟨r, i, rfl⟩ : ∃ r i, q = r ++ [i] := by
      have hne : q ≠ [] := fun e => by rw [e] at hl; simp at hl
      exact ⟨q.dropLast, q.getLast hne, (List.dropLast_concat_getLast hne).symm⟩
    obtain ⟨o1, o2, o3⟩ := okP_snoc.1 hq
    have hl : r.length = k := by simpa using hl
    obtain ⟨p, hp, hle⟩ := hf.full r o1 hl
    obtain ⟨p2, hp2, hle2⟩ := h.full _ p i ⟨by rw [hp]; rfl, o2⟩ hp o2 o3
    rw [endP_snoc]
    refine ⟨p2, hp2, lexle_trans hle2 ?_⟩
    by_cases e : p = r
    · rw [e]; exact lexle_refl _
    · exact lexle_app _ _ (by rw [(hf.got _ _ hp).2.2, hl]) hle e
/-- the first length at which there is a way -/
theorem Lvl.best {v0 tv : V} {k : Nat} {f : V → Option (List Nat)} {p : List Nat} (hf : Lvl n has tgt v0 k f) (hp : f tv = some p) (hno : ∀ q, okP n has tgt v0 q → endP tgt v0 q = tv → k ≤ q.length) : Best n has tgt v0 tv p := by
  obtain ⟨o1, o2, o3⟩ := hf.got _ _ hp
  refine ⟨o1, o2, fun q hq he => ?_⟩
  rcases Nat.lt_or_eq_of_le (hno q hq he) with h | h
  · exact .inl (by omega)
  · obtain ⟨p2, hp2, hl⟩ := hf.full q hq h.symm
    rw [he, hp] at hp2
    cases hp2
    exact .inr ⟨by omega, hl⟩
theorem Lvl.no {v0 tv : V} {k : Nat} {f : V → Option (List Nat)} (hf : Lvl n has tgt v0 k f) (hp : f tv = none) (hno : ∀ q, okP n has tgt v0 q → endP tgt v0 q = tv → k ≤ q.length) : ∀ q, okP n has tgt v0 q → endP tgt v0 q = tv → k + 1 ≤ q.length := fun q hq he => by
  have := hno q hq he
  rcases Nat.lt_or_eq_of_le this with h | h
  · exact h
  · obtain ⟨p2, hp2, _⟩ := hf.full q hq h.symm
    rw [he, hp] at hp2; cases hp2
/-- a way that is left out goes round -/
theorem shorter {v0 : V} : ∀ (q : List Nat), okP n has tgt v0 q → ∃ p, okP n has tgt v0 p ∧ endP tgt v0 p = endP tgt v0 q ∧ p.length ≤ n := fun q => by
  suffices ∀ m (q : List Nat), q.length = m → okP n has tgt v0 q → ∃ p, okP n has tgt v0 p ∧ endP tgt v0 p = endP tgt v0 q ∧ p.length ≤ n from this _ q rfl
  intro m
  induction m using Nat.strongRecOn with
  | _ m ih =>
    intro q hm hq
    by_cases hd : q.Nodup
    · refine ⟨q, hq, rfl, ?_⟩
      have hlt : ∀ (q : List Nat) (v : V), okP n has tgt v q → ∀ i ∈ q, i < n := by
        intro q
        induction q with
        | nil => intro _ _ i hi; cases hi
        | cons a r ih =>
          intro v h i hi
          rcases List.mem_cons.1 hi with rfl | hi
          · exact h.1
          · exact ih _ h.2.2 i hi
      have := nodup_sub (m := List.range n) hd (fun i hi => List.mem_range.2 (hlt q v0 hq i hi))
      simpa using this
    · have : ∃ a i b c, q = a ++ i :: (b ++ i :: c) := by
        clear hq hm ih
        induction q with
        | nil => simp at hd
        | cons x r ih =>
          by_cases hx : x ∈ r
          · obtain ⟨b, c, rfl⟩ := List.append_of_mem hx
            exact ⟨[], x, b, c, rfl⟩
          · obtain ⟨a, i, b, c, rfl⟩ := ih (fun h => hd (List.nodup_cons.2 ⟨hx, h⟩))
            exact ⟨x :: a, i, b, c, rfl⟩
      obtain ⟨a, i, b, c, rfl⟩ := this
      obtain ⟨o1, o2, o3, o4⟩ := okP_app.1 hq
      obtain ⟨_, _, _, o5⟩ := okP_app.1 o4
      obtain ⟨p, p1, p2, p3⟩ := ih (a ++ i :: c).length (by simp at hm ⊢; omega) (a ++ i :: c) rfl (okP_app.2 ⟨o1, o2, o3, o5⟩)
      refine ⟨p, p1, ?_, p3⟩
      rw [p2, endP_app, endP_app]
      simp only [endP, endP_app]
theorem Best.len {v0 v : V} {p : List Nat} (h : Best n has tgt v0 v p) : p.length ≤ n := by
  obtain ⟨q, q1, q2, q3⟩ := shorter p h.ok
  rcases h.least q q1 (q2.trans h.fin) with h1 | ⟨h1, _⟩ <;> omega
end
end Go.Proofs.YtghhjlcbcojcnaaGreatDoor
