/- Bytes as cells; texts compared. strings.NewReplacer(..).Replace at quotes: the parts of sync.Once's slow road; NewReplacer. strings.NewReplacer(..).Replace at quotes: sync.Once's Do, first time, over whatever the Replacer's building does. strings.NewReplacer(..).Replace at quotes: NewReplacer; the building of its table. strings.NewReplacer(..).Replace at quotes: the replacing. Contracts of strings.(*Replacer).Replace at quotes, and of ver.Quoted. Reading a text in quotes, byte by byte; contract of outref2.quotedAt. Contracts of migrate.uses, ruleWords, below, CheckRule, and of outref2.ruleWord, RuleError. Contracts of migrate.CheckRule and of outref2.RuleError. (Printed by gen/rulb.py.) -/
import Derived.Test.YtghhjlcbcojcnaaGreatDoorMt01
import Derived.Laws.AppendOwn
import Derived.Laws.OwnMore
import Derived.Laws.LoneSync
import Derived.Laws.Pointers
import Derived.Defers
import Derived.RegionCalls
import Derived.RegionTactic
import Derived.Tactics
import Derived.Tactics2
import Derived.OwnWalk
import Derived.Test.YtghhjlcbcojcnaaGreatDoorMt10
import Derived.Deep.LoopGhost
import Derived.Deep.DeepCutAuto
import Derived.Deep.WholeRow
import Derived.Laws.BytesArg
import Derived.Test.YtghhjlcbcojcnaaGreatDoorMt13
import Derived.Test.YtghhjlcbcojcnaaGreatDoorMt02
import Derived.Laws.CopyOwn
import Derived.Deep.RegionLaw
import Derived.Deep.CutBlock
import Derived.Test.YtghhjlcbcojcnaaGreatDoorMt06

namespace Go.Proofs.YtghhjlcbcojcnaaGreatDoor
open Go.RowKit

theorem isE (x : ByteArray) : x.toList.isEmpty = (bs x).isEmpty := by rw [ByteArray.toList_eq]
theorem eqE (x y : ByteArray) : (x.toList == y.toList) = decide (bs x = bs y) := by
  rw [ByteArray.toList_eq, ByteArray.toList_eq]
  by_cases h : bs x = bs y
  · rw [decide_eq_true h, beq_iff_eq]; exact h
  · rw [decide_eq_false h, beq_eq_false_iff_ne]; exact h
theorem take_snocB (s : ByteArray) (k : Nat) (h : k < s.size) : (bs s).take (k + 1) = (bs s).take k ++ [s[k]] := by
  rw [List.take_succ_eq_append_getElem (by rw [bs_length]; exact h)]; rfl
/-- the bytes as cells -/
def u8s (l : Str) : List Value := l.map fun c => Value.int .u8 c.toNat
theorem u8s_append (a b : Str) : u8s (a ++ b) = u8s a ++ u8s b := List.map_append
@[simp] theorem u8s_length (a : Str) : (u8s a).length = a.length := List.length_map _
theorem info_u8 : (Tryz.prog.info? 5).map (fun i => (i.zero, i.size, i.bytes)) = some (some (.int .u8 0), 1, 1) := by kernel_rfl
end Go.Proofs.YtghhjlcbcojcnaaGreatDoor

namespace Go.Proofs.YtghhjlcbcojcnaaGreatDoor
open Go.RowKit

end Go.Proofs.YtghhjlcbcojcnaaGreatDoor

namespace Go.Proofs.YtghhjlcbcojcnaaGreatDoor
open Go.RowKit

/-- bytes at an address, in a block from n on -/
def BytesAt (w : World) (n : Nat) (v : Value) (l : List UInt8) : Prop := ∃ q c cur fz, v = .slice (some ⟨q, 0, none⟩) l.length c ∧ n ≤ q ∧ w.heap[q]? = some (.cells cur 5 fz) ∧ ∀ (j : Nat) x, l[j]? = some x → w.cell? ⟨q, j, none⟩ = some (.int .u8 x.toNat)
theorem heap_lt {w : World} {q : Nat} {o : Obj} (h : w.heap[q]? = some o) : q < w.heap.size := by
  rcases Nat.lt_or_ge q w.heap.size with hlt | hge
  · exact hlt
  · rw [Array.getElem?_eq_none hge] at h; cases h
theorem BytesAt.ext {w w' : World} {n : Nat} {v : Value} {l : List UInt8} (h : BytesAt w n v l) (hx : Ext w w') : BytesAt w' n v l := by
  obtain ⟨q, c, cur, fz, e, hn, h1, h2⟩ := h
  exact ⟨q, c, cur, fz, e, hn, (Below.block hx q (heap_lt h1)).trans h1, fun j x hj => hx.cell (h2 j x hj)⟩
theorem BytesAt.far {w : World} {n : Nat} {v : Value} {l : List UInt8} (h : BytesAt w n v l) {k : Nat} (hk : k < n) (o : Nat) (u : Value) : BytesAt (w.setCell ⟨k, o, none⟩ u) n v l := by
  obtain ⟨q, c, cur, fz, e, hn, h1, h2⟩ := h
  exact ⟨q, c, cur, fz, e, hn, (Below.heap_setCell w ⟨k, o, none⟩ u q (show q ≠ k by omega)).trans h1, fun j x hj => (World.cell?_setCell_other _ _ _ _ (fun e => by injection e with e _; omega)).trans (h2 j x hj)⟩
theorem BytesAt.mono {w : World} {n m : Nat} {v : Value} {l : List UInt8} (h : BytesAt w n v l) (hm : m ≤ n) : BytesAt w m v l := by
  obtain ⟨q, c, cur, fz, e, hn, h1, h2⟩ := h
  exact ⟨q, c, cur, fz, e, Nat.le_trans hm hn, h1, h2⟩
/-- the replacer that quotes: a table of 256 rows, and the two bytes that it replaces; in blocks from n on -/
structure BSR (w : World) (n p : Nat) : Prop where
  ex : ∃ cs : Array Value, n ≤ p ∧ Blk w p 347 cs ∧ (∀ i : Nat, i < 256 → ¬ i = 34 → ¬ i = 92 → cs[i]? = some (.slice none 0 0)) ∧
    (∃ v, cs[34]? = some v ∧ BytesAt w n v [92, 34]) ∧ (∃ v, cs[92]? = some v ∧ BytesAt w n v [92, 92]) ∧
    ∃ q c, cs[256]? = some (.slice (some ⟨q, 0, none⟩) 2 c) ∧ n ≤ q ∧ w.cell? ⟨q, 0, none⟩ = some (.string ⟨#[34]⟩) ∧ w.cell? ⟨q, 1, none⟩ = some (.string ⟨#[92]⟩)
theorem BSR.ext {w w' : World} {n p : Nat} (h : BSR w n p) (hx : Ext w w') : BSR w' n p := by
  obtain ⟨cs, hn, h1, h2, ⟨v, h3, h4⟩, ⟨u, h5, h6⟩, q, c, h7, hq, h8, h9⟩ := h.ex
  exact ⟨cs, hn, h1.ext hx, h2, ⟨v, h3, h4.ext hx⟩, ⟨u, h5, h6.ext hx⟩, q, c, h7, hq, hx.cell h8, hx.cell h9⟩
theorem BSR.far {w : World} {n p : Nat} (h : BSR w n p) {k : Nat} (hk : k < n) (o : Nat) (u : Value) : BSR (w.setCell ⟨k, o, none⟩ u) n p := by
  obtain ⟨cs, hn, h1, h2, ⟨v, h3, h4⟩, ⟨u', h5, h6⟩, q, c, h7, hq, h8, h9⟩ := h.ex
  exact ⟨cs, hn, h1.far (show p ≠ k by omega) u, h2, ⟨v, h3, h4.far hk o u⟩, ⟨u', h5, h6.far hk o u⟩, q, c, h7, hq, (World.cell?_setCell_other _ _ _ _ (fun e => by injection e with e _; omega)).trans h8, (World.cell?_setCell_other _ _ _ _ (fun e => by injection e with e _; omega)).trans h9⟩
theorem blk_drew {w : World} {g : Nat} {t : TypeId} {cs : Array Value} (h : Blk w g t cs) : Blk w.drew g t cs := h.ext ((Ext.refl w).drew)
end Go.Proofs.YtghhjlcbcojcnaaGreatDoor

namespace Go.Proofs.YtghhjlcbcojcnaaGreatDoor
open Go.RowKit

/-- the four texts: what is replaced, and by what -/
structure OldNew (w : World) (q : Nat) : Prop where
  lt : q < w.heap.size
  s0 : w.cell? ⟨q, 0, none⟩ = some (.string ⟨#[92]⟩)
  s1 : w.cell? ⟨q, 1, none⟩ = some (.string ⟨#[92, 92]⟩)
  s2 : w.cell? ⟨q, 2, none⟩ = some (.string ⟨#[34]⟩)
  s3 : w.cell? ⟨q, 3, none⟩ = some (.string ⟨#[92, 34]⟩)
theorem OldNew.ext {w w' : World} {q : Nat} (h : OldNew w q) (hx : Ext w w') : OldNew w' q := ⟨Nat.lt_of_lt_of_le h.lt hx.size, hx.cell h.s0, hx.cell h.s1, hx.cell h.s2, hx.cell h.s3⟩
section
variable {w wr w' : World} {B k p : Nat} {v : Value} {xs : List Value} {cs : Array Value}
end
end Go.Proofs.YtghhjlcbcojcnaaGreatDoor

namespace Go.Proofs.YtghhjlcbcojcnaaGreatDoor
open Go.RowKit

end Go.Proofs.YtghhjlcbcojcnaaGreatDoor

namespace Go.Proofs.YtghhjlcbcojcnaaGreatDoor
open Go.RowKit

theorem BSR.mono {w : World} {n m p : Nat} (h : BSR w n p) (hm : m ≤ n) : BSR w m p := by
  obtain ⟨cs, hn, h1, h2, ⟨v, h3, h4⟩, ⟨u, h5, h6⟩, q, c, h7, hq, h8, h9⟩ := h.ex
  exact ⟨cs, Nat.le_trans hm hn, h1, h2, ⟨v, h3, h4.mono hm⟩, ⟨u, h5, h6.mono hm⟩, q, c, h7, Nat.le_trans hm hq, h8, h9⟩
theorem quoteL_eq (l : Str) : quoteL l = [34] ++ esc l ++ [34] := rfl
end Go.Proofs.YtghhjlcbcojcnaaGreatDoor

namespace Go.Proofs.YtghhjlcbcojcnaaGreatDoor
open Go.RowKit

/-! ### Reading on, byte by byte -/
def InvQ (L : Str) (R : Option (Str × Str)) (k : Nat) (done : Str) : Prop := R = (unq (L.drop k)).map fun x => (done ++ x.1, x.2)
theorem drop_cons (s : ByteArray) (k : Nat) (h : k < s.size) : (bs s).drop k = s[k] :: (bs s).drop (k + 1) := by
  rw [List.drop_eq_getElem_cons (by rw [bs_length]; exact h)]; rfl
theorem invQ_start (L : Str) (i : Nat) : InvQ L (unq (L.drop i)) i [] := by
  unfold InvQ
  cases unq (L.drop i) <;> rfl
section
variable {s : ByteArray} {R : Option (Str × Str)} {k : Nat} {done : Str}
theorem invQ_out (h : InvQ (bs s) R k done) (hk : s.size ≤ k) : R = none := by
  rw [h, List.drop_of_length_le (by rw [bs_length]; exact hk), unq_nil]; rfl
theorem invQ_end (h : InvQ (bs s) R k done) (hk : k < s.size) (h1 : s[k] = 34) : R = some (done, (bs s).drop (k + 1)) := by
  rw [h, drop_cons s k hk, h1, unq_end]; simp
theorem invQ_one (h : InvQ (bs s) R k done) (hk : k < s.size) (h1 : ¬ s[k] = 34) (h2 : ¬ s[k] = 92) : InvQ (bs s) R (k + 1) (done ++ [s[k]]) := by
  unfold InvQ at h ⊢
  rw [h, drop_cons s k hk, unq_one h1 h2, Option.map_map]
  congr 1
  funext x
  simp
theorem invQ_last (h : InvQ (bs s) R k done) (hk : k + 1 = s.size) (h1 : s[k] = 92) : R = none := by
  rw [h, drop_cons s k (by omega), h1, List.drop_of_length_le (by rw [bs_length]; omega), unq_back0]; rfl
theorem invQ_bad (h : InvQ (bs s) R k done) (hk : k + 1 < s.size) (h1 : s[k] = 92) (h2 : ¬ s[k + 1] = 34) (h3 : ¬ s[k + 1] = 92) : R = none := by
  rw [h, drop_cons s k (by omega), h1, drop_cons s (k + 1) hk, unq_bad (fun e => e.elim h2 h3)]; rfl
theorem invQ_two (h : InvQ (bs s) R k done) (hk : k + 1 < s.size) (h1 : s[k] = 92) (h2 : s[k + 1] = 34 ∨ s[k + 1] = 92) : InvQ (bs s) R (k + 1 + 1) (done ++ [s[k + 1]]) := by
  unfold InvQ at h ⊢
  rw [h, drop_cons s k (by omega), h1, drop_cons s (k + 1) hk, unq_two h2, Option.map_map]
  congr 1
  funext x
  simp
end
theorem byte_no {c : UInt8} {n : UInt8} (h : ¬ c = n) (z : Int) (hz : z = n.toNat) : ((c.toNat : Int) == z) = false := by
  rw [beq_eq_false_iff_ne]
  intro e
  exact h (UInt8.toNat_inj.1 (by omega))
theorem byte_ne {c : UInt8} {n : UInt8} (h : ¬ c = n) (z : Int) (hz : z = n.toNat) : ((c.toNat : Int) != z) = true := by
  rw [bne, byte_no h z hz]; rfl

/-- outref2.quotedAt -/
def qatR (n : Nat) : Option (Str × Str) → Str × Nat × Bool
  | none => ([], 0, false)
  | some (t, z) => (t, n - z.length, true)
def qat (l : Str) (i : Nat) : Str × Nat × Bool := qatR l.length (unq (l.drop (i + 1)))
theorem one_of (s : ByteArray) (k : Nat) (h : k < s.size) : bs (s.extract k (k + 1)) = [s[k]] := by
  show (s.extract k (k + 1)).data.toList = _
  rw [Lib.extract_data]
  have e : (s.data.toList.take (k + 1)).drop k = [s[k]] := by
    rw [take_snocB s k h, List.drop_append_of_le_length (by simp; omega)]
    simp
  first | exact e | (rw [← List.drop_take] at *; exact e) | (simpa [List.drop_take] using e)
set_option maxRecDepth 100000 in
set_option maxHeartbeats 4000000 in
theorem quotedAt_any (s : ByteArray) (i : Nat) (w : World) (hs : s.size ≤ 2097152) (hi : i ≤ 2097152) :
    Calls Tryz.prog 89 #[.string s, .int .i64 i] w fun e w' => e = .returned (.tuple #[S (qat (bs s) i).1, .int .i64 (qat (bs s) i).2.1, .bool (qat (bs s) i).2.2]) ∧ w = w' := by
  obtain ⟨R, hR⟩ : ∃ R, unq ((bs s).drop (i + 1)) = R := ⟨_, rfl⟩
  have hq : qat (bs s) i = qatR s.size R := by rw [qat, hR, bs_length]
  have hst := invQ_start (bs s) (i + 1)
  rw [hR] at hst
  rw [hq]
  have HST := Lib.hid hst
  clear hst hq hR
  go_enter Tryz.func89, Tryz.ntmps89
  go_wp2
  go_loop [7, 8] (fun o k' => ∃ (k : Nat) (out : ByteArray), k' = .int .i64 k ∧ o = .string out ∧ (k ≤ s.size ∨ out.size = 0) ∧ k ≤ 2097153 ∧ out.size ≤ k ∧ InvQ (bs s) R k (bs out)) (fun _ k => s.size - (intOf k).toNat)
  case atStart => exact ⟨i + 1, ⟨#[]⟩, by go_num, rfl, .inr rfl, by omega, Nat.zero_le _, HST.out⟩
  case round =>
    obtain ⟨k, out, rfl, rfl, hk1, hk2, hk3, hinv⟩ := hrel
    have HINV := Lib.hid hinv
    clear hinv
    by_cases hlt : k < s.size
    · by_cases h34 : s[k] = 34
      · have e1 : ((s[k].toNat : Int) == 34) = true := by rw [h34]; rfl
        have hres := invQ_end HINV.out hlt h34
        subst hres
        clear h34
        go_wp2
        go_ret3
        refine ⟨?_, rfl⟩
        have hl : s.size - ((bs s).drop (k + 1)).length = k + 1 := by rw [List.length_drop, bs_length]; omega
        simp only [qatR, hl, S_bs]
        go_num
      have e1 := byte_no h34 34 rfl
      by_cases h92 : s[k] = 92
      · have e2 : ((s[k].toNat : Int) == 92) = true := by rw [h92]; rfl
        by_cases hend : k + 1 = s.size
        · have hres := invQ_last HINV.out hend h92
          subst hres
          have hE : ((k : Int) + 1 == (s.size : Int)) = true := by rw [beq_iff_eq]; omega
          clear h34 h92
          go_wp2
          go_ret3
          exact ⟨rfl, rfl⟩
        have hlt2 : k + 1 < s.size := by omega
        have hE : ((k : Int) + 1 == (s.size : Int)) = false := by rw [beq_eq_false_iff_ne]; omega
        have hn1 := one_of s (k + 1) hlt2
        have hIx : s[k + 1] = s[k + 1] := rfl
        by_cases hok : s[k + 1] = 34 ∨ s[k + 1] = 92
        · have hinv2 := invQ_two HINV.out hlt2 h92 hok
          rw [← hn1, ← bs_append] at hinv2
          have HI2 := Lib.hid hinv2
          have hz1 : (s.extract (k + 1) (k + 1 + 1)).size = 1 := by rw [← bs_length, hn1]; rfl
          clear hinv2 hn1 hIx h34 h92
          rcases hok with hd | hd
          · have e3 : ((s[k + 1].toNat : Int) != 34) = false := by rw [hd]; rfl
            clear hd
            go_wp2
            go_round
            case rel => exact ⟨k + 1 + 1, _, by go_num, rfl, .inl (by omega), by omega, by rw [ByteArray.size_append, hz1]; omega, HI2.out⟩
            case measure => simp [intOf]; omega
          · have e3 : ((s[k + 1].toNat : Int) != 34) = true := by rw [hd]; rfl
            have e4 : ((s[k + 1].toNat : Int) != 92) = false := by rw [hd]; rfl
            clear hd
            go_wp2
            go_round
            case rel => exact ⟨k + 1 + 1, _, by go_num, rfl, .inl (by omega), by omega, by rw [ByteArray.size_append, hz1]; omega, HI2.out⟩
            case measure => simp [intOf]; omega
        · have hres := invQ_bad HINV.out hlt2 h92 (fun e => hok (.inl e)) (fun e => hok (.inr e))
          have e3 := byte_ne (fun e => hok (.inl e)) 34 rfl
          have e4 := byte_ne (fun e => hok (.inr e)) 92 rfl
          subst hres
          clear h34 h92 hok hn1 hIx
          go_wp2
          go_ret3
          exact ⟨rfl, rfl⟩
      · have e2 := byte_no h92 92 rfl
        have hn1 := one_of s k hlt
        have hinv2 := invQ_one HINV.out hlt h34 h92
        rw [← hn1, ← bs_append] at hinv2
        have HI2 := Lib.hid hinv2
        have hz1 : (s.extract k (k + 1)).size = 1 := by rw [← bs_length, hn1]; rfl
        clear hinv2 hn1 h34 h92
        go_wp2
        go_round
        case rel => exact ⟨k + 1, _, by go_num, rfl, .inl (by omega), by omega, by rw [ByteArray.size_append, hz1]; omega, HI2.out⟩
        case measure => simp [intOf]; omega
    · have hres := invQ_out HINV.out (by omega)
      subst hres
      go_wp2
      go_ret3
      exact ⟨rfl, rfl⟩
theorem conv_own {w : World} {B m : Nat} {v : Value} {l : Str} (h : w.ownsRow B 5 1 v m (u8s l)) :
    ∀ W, Ext w W → (convert 214 9 v).run Tryz.prog W = .ok (S l) W := fun W hW => by
  have hl : l.length = m := by have := h.1; rw [u8s_length, Nat.mul_one] at this; exact this
  rcases Nat.eq_zero_or_pos m with h0 | h0
  · rcases h.2 with ⟨rfl, _⟩ | ⟨g, cap, cur, rfl, _, _, _, _⟩
    · have e : l = [] := List.eq_nil_of_length_eq_zero (by omega)
      rw [e]
      exact run_convert_bytes_nil (P := Tryz.prog) W 214 5 Tryz.underlying214 Tryz.underlying5 0 0 9 Tryz.underlying9
    · have e : l = [] := List.eq_nil_of_length_eq_zero (by omega)
      subst h0
      rw [e]
      exact run_convert_bytes_arg (P := Tryz.prog) W 214 5 Tryz.underlying214 Tryz.underlying5 g 0 0 cap [] rfl (fun i hi => absurd hi (Nat.not_lt_zero _)) 9 Tryz.underlying9
  · obtain ⟨g, c, rfl, _, _, _, hc⟩ := own_form h h0
    subst hl
    have := run_convert_bytes_arg (P := Tryz.prog) W 214 5 Tryz.underlying214 Tryz.underlying5 g 0 l.length c (l.map fun x => (x.toNat : Int)) (by simp) (fun i hi => by
      rw [Nat.zero_add]
      refine (hW.cell (hc i (.int .u8 l[i].toNat) (by simp [u8s, hi]))).trans ?_
      simp [List.getD, hi]) 9 Tryz.underlying9
    rw [this]
    have e : (l.map fun x => (x.toNat : Int)).map (fun n => UInt8.ofNat n.toNat) = l := by
      rw [List.map_map]
      exact List.map_id'' (fun x => by simp) l
    unfold strOfNums
    rw [e]
end Go.Proofs.YtghhjlcbcojcnaaGreatDoor

namespace Go.Proofs.YtghhjlcbcojcnaaGreatDoor
open Go.RowKit

/-- a rule as memory has it -/
structure RB where
  kind : Int
  key : ByteArray
  tt : ByteArray
  old : ByteArray
  new : ByteArray
abbrev ruV (r : RB) : Value := .agg #[.int .i64 r.kind, .string r.key, .string r.tt, .string r.old, .string r.new]
def RB.l (r : RB) : Ru := ⟨r.kind, bs r.key, bs r.tt, bs r.old, bs r.new⟩
structure SmallR (r : RB) : Prop where
  key : r.key.size ≤ 2097152
  tt : r.tt.size ≤ 2097152
  old : r.old.size ≤ 2097152
  new : r.new.size ≤ 2097152

theorem kind_or (k : Int) : k = 1 ∨ k = 2 ∨ k = 3 ∨ k = 4 ∨ k = 5 ∨ k = 6 ∨ k = 7 ∨ k = 8 ∨ ((k == 1) = false ∧ (k == 2) = false ∧ (k == 3) = false ∧ (k == 4) = false ∧ (k == 5) = false ∧ (k == 6) = false ∧ (k == 7) = false ∧ (k == 8) = false) := by
  simp only [beq_eq_false_iff_ne]
  omega
theorem uses_any (k : Int) (w : World) :
    Calls Tryz.prog 79 #[.int .i64 k] w fun e w' => e = .returned (.tuple #[.bool (useTo k), .bool (useOld k), .bool (useNew k)]) ∧ w = w' := by
  rcases kind_or k with rfl | rfl | rfl | rfl | rfl | rfl | rfl | rfl | ⟨n1, n2, n3, n4, n5, n6, n7, n8⟩
  all_goals
    go_enter Tryz.func79, Tryz.ntmps79
    go_wp2
    go_ret3
  all_goals first
    | exact ⟨rfl, rfl⟩
    | exact ⟨by simp [useTo, useOld, useNew, n1, n2, n3, n4, n5, n7, n8], rfl⟩
theorem below_any (key head : ByteArray) (w : World) (hs : head.size ≤ 2097152) :
    Calls Tryz.prog 82 #[.string key, .string head] w fun e w' => e = .returned (.bool (belowL (bs key) (bs head))) ∧ w = w' := by
  go_enter Tryz.func82, Tryz.ntmps82
  go_wp2_with fail
  refine (hasPrefix_any _ _ _).mono ?_
  rintro e w' ⟨rfl, rfl⟩
  go_wp2
  go_ret
  exact ⟨rfl, rfl⟩
def ruWords : List ByteArray := [⟨#[]⟩, ⟨#[114, 101, 110, 97, 109, 101]⟩, ⟨#[112, 114, 101, 102, 105, 120]⟩, ⟨#[99, 111, 112, 121]⟩, ⟨#[115, 101, 116]⟩, ⟨#[100, 101, 102, 97, 117, 108, 116]⟩, ⟨#[100, 114, 111, 112]⟩, ⟨#[109, 97, 112]⟩, ⟨#[115, 119, 97, 112]⟩]
theorem ruleWords_any (w : World) :
    Calls Tryz.prog 80 #[] w fun e w' => ∃ b, e = .returned (.slice (some ⟨b, 0, none⟩) 9 9) ∧ w.heap.size ≤ b ∧ Strs w' b ruWords ∧ Ext w w' := by
  go_enter Tryz.func80, Tryz.ntmps80
  go_wp2
  go_ret
  refine ⟨w.heap.size, rfl, Nat.le_refl _, ⟨by simp, fun k hk => ?_⟩, (Ext.refl w).alloc _⟩
  rw [World.cell?_alloc_at _ _ _ _ rfl]
  match k, hk with
  | 0, _ => rfl
  | 1, _ => rfl
  | 2, _ => rfl
  | 3, _ => rfl
  | 4, _ => rfl
  | 5, _ => rfl
  | 6, _ => rfl
  | 7, _ => rfl
  | 8, _ => rfl
  | n + 9, h => exact absurd h (by simp [ruWords])

theorem ruleWord_any (k : Int) (w : World) :
    Calls Tryz.prog 77 #[.int .i64 k] w fun e w' => e = .returned (.tuple #[S (ruWord k), .bool (useTo k), .bool (useOld k), .bool (useNew k)]) ∧ w = w' := by
  rcases kind_or k with rfl | rfl | rfl | rfl | rfl | rfl | rfl | rfl | ⟨n1, n2, n3, n4, n5, n6, n7, n8⟩
  all_goals
    go_enter Tryz.func77, Tryz.ntmps77
    go_wp2
  all_goals first
    | exact bodyPost_ret (v := .tuple #[S (ruWord 1), .bool true, .bool false, .bool false]) (by simp [results, Tryz.results77, go_sem]; rfl) rfl ⟨rfl, rfl⟩
    | exact bodyPost_ret (v := .tuple #[S (ruWord 2), .bool true, .bool false, .bool false]) (by simp [results, Tryz.results77, go_sem]; rfl) rfl ⟨rfl, rfl⟩
    | exact bodyPost_ret (v := .tuple #[S (ruWord 3), .bool true, .bool false, .bool false]) (by simp [results, Tryz.results77, go_sem]; rfl) rfl ⟨rfl, rfl⟩
    | exact bodyPost_ret (v := .tuple #[S (ruWord 4), .bool false, .bool false, .bool true]) (by simp [results, Tryz.results77, go_sem]; rfl) rfl ⟨rfl, rfl⟩
    | exact bodyPost_ret (v := .tuple #[S (ruWord 5), .bool false, .bool false, .bool true]) (by simp [results, Tryz.results77, go_sem]; rfl) rfl ⟨rfl, rfl⟩
    | exact bodyPost_ret (v := .tuple #[S (ruWord 6), .bool false, .bool false, .bool false]) (by simp [results, Tryz.results77, go_sem]; rfl) rfl ⟨rfl, rfl⟩
    | exact bodyPost_ret (v := .tuple #[S (ruWord 7), .bool false, .bool true, .bool true]) (by simp [results, Tryz.results77, go_sem]; rfl) rfl ⟨rfl, rfl⟩
    | exact bodyPost_ret (v := .tuple #[S (ruWord 8), .bool false, .bool true, .bool true]) (by simp [results, Tryz.results77, go_sem]; rfl) rfl ⟨rfl, rfl⟩
    | skip
  have e : ruWord k = [] := by
    simp only [beq_eq_false_iff_ne] at n1 n2 n3 n4 n5 n6 n7 n8
    unfold ruWord
    rw [if_neg n1, if_neg n2, if_neg n3, if_neg n4, if_neg n5, if_neg n6, if_neg n7, if_neg n8]
  exact bodyPost_ret (v := .tuple #[S [], .bool false, .bool false, .bool false]) (by simp [results, Tryz.results77, go_sem]) rfl ⟨by rw [e]; simp [useTo, useOld, useNew, n1, n2, n3, n4, n5, n7, n8], rfl⟩
/-! ### CheckRule -/
theorem ru_kind {r : Ru} (h : r.kind < 1 ∨ 8 < r.kind) : ruErr r = 1 := by unfold ruErr; rw [if_pos h]
end Go.Proofs.YtghhjlcbcojcnaaGreatDoor

namespace Go.Proofs.YtghhjlcbcojcnaaGreatDoor
open Go.RowKit

theorem tri (b e : Bool) : (b = false ∧ e = false) ∨ b = true ∨ (b = false ∧ e = true) := by cases b <;> cases e <;> simp
/-- the tests of a rule, one by one -/
theorem ru_tests (k : Int) (key tt old new : ByteArray) (h1 : ¬ k < 1) (h8 : ¬ 8 < k) : ruErr ⟨k, bs key, bs tt, bs old, bs new⟩ =
    if (!pathL (bs key) || useTo k && !pathL (bs tt)) = true then 5
    else if (!useTo k && !tt.toList.isEmpty || !useOld k && !old.toList.isEmpty || !useNew k && !new.toList.isEmpty || !valueL (bs old) || !valueL (bs new)) = true then 2
    else if (useTo k && (key.toList == tt.toList)) = true then 11
    else if (k == 2 && (belowL (bs key) (bs tt) || belowL (bs tt) (bs key))) = true then 13
    else if (useOld k && (old.toList == new.toList)) = true then 11 else 0 := by
  have e : decide (k = 2) = (k == 2) := by rw [Bool.eq_iff_iff]; simp
  unfold ruErr
  dsimp only
  rw [if_neg (by omega), isE, isE, isE, eqE, eqE, e]
theorem ref_tests (k : Int) (key tt old new : ByteArray) (h1 : ¬ k < 1) (h8 : ¬ 8 < k) : refErrR ⟨k, bs key, bs tt, bs old, bs new⟩ =
    if (!pathL (bs key) || useTo k && !pathL (bs tt)) = true then 5
    else if (!useTo k && !tt.toList.isEmpty || !useOld k && !old.toList.isEmpty || !useNew k && !new.toList.isEmpty || !valueL (bs old) || !valueL (bs new)) = true then 2
    else if (key.toList == tt.toList) = true then 11
    else if (k == 2 && (belowL (bs key) (bs tt) || belowL (bs tt) (bs key))) = true then 13
    else if (useOld k && (old.toList == new.toList)) = true then 11 else 0 := by
  have e : decide (k = 2) = (k == 2) := by rw [Bool.eq_iff_iff]; simp
  unfold refErrR
  dsimp only
  rw [if_neg (fun x => by have := (word_empty k).1 x; omega), isE, isE, isE, eqE, eqE, e]
  simp only [decide_eq_true_eq]
theorem prefix_eq (key head : ByteArray) : (bs (head ++ (⟨#[47]⟩ : ByteArray))).isPrefixOf (bs key) = belowL (bs key) (bs head) := by
  rw [bs_append]
  rfl
theorem prefixOf_any (key head : ByteArray) (w : World) :
    Calls Tryz.prog 78 #[.string key, .string (head ++ (⟨#[47]⟩ : ByteArray))] w fun e w' => e = .returned (.bool (belowL (bs key) (bs head))) ∧ w = w' := by
  have h := hasPrefix_any key (head ++ (⟨#[47]⟩ : ByteArray)) w
  rw [prefix_eq] at h
  exact h
set_option maxHeartbeats 16000000 in
set_option maxRecDepth 100000 in
theorem CheckRule_any (r : RB) (w : World) (hg : Good w) (hs : SmallR r) :
    Calls Tryz.prog 17 #[ruV r] w fun e w' => e = .returned (.int .i64 (ruErr r.l)) ∧ Ext w w' := by
  obtain ⟨k, key, tt, old, new⟩ := r
  obtain ⟨s1, s2, s3, s4⟩ := hs
  dsimp only at s1 s2 s3 s4
  dsimp only [RB.l]
  by_cases h1 : k < 1
  · have hE := ru_kind (r := ⟨k, bs key, bs tt, bs old, bs new⟩) (.inl h1)
    rw [hE]
    clear hE
    go_enter Tryz.func17, Tryz.ntmps17
    go_wp2
    go_ret
    exact ⟨rfl, (by repeat (first | with_reducible exact Ext.refl _ | with_reducible assumption | with_reducible apply Ext.drewN | with_reducible apply Ext.drew | with_reducible apply Ext.alloc | exact Ext.refl _ | assumption | apply Ext.drewN | apply Ext.drew | apply Ext.alloc))⟩
  by_cases h8 : 8 < k
  · have hE := ru_kind (r := ⟨k, bs key, bs tt, bs old, bs new⟩) (.inr h8)
    rw [hE]
    clear hE
    go_enter Tryz.func17, Tryz.ntmps17
    go_wp2
    go_ret
    exact ⟨rfl, (by repeat (first | with_reducible exact Ext.refl _ | with_reducible assumption | with_reducible apply Ext.drewN | with_reducible apply Ext.drew | with_reducible apply Ext.alloc | exact Ext.refl _ | assumption | apply Ext.drewN | apply Ext.drew | apply Ext.alloc))⟩
  rw [ru_tests k key tt old new h1 h8]
  have hu := uses_any k
  have HU := Lib.hid hu
  clear hu
  generalize useTo k = T at *
  generalize useOld k = O at *
  generalize useNew k = N at *
  generalize hB1 : (!pathL (bs key) || T && !pathL (bs tt)) = B1
  generalize hB2 : (!T && !tt.toList.isEmpty || !O && !old.toList.isEmpty || !N && !new.toList.isEmpty || !valueL (bs old) || !valueL (bs new)) = B2
  generalize hB3 : (T && (key.toList == tt.toList)) = B3
  generalize hB4 : (k == 2 && (belowL (bs key) (bs tt) || belowL (bs tt) (bs key))) = B4
  generalize hB5 : (O && (old.toList == new.toList)) = B5
  have HB1 := Lib.hid hB1
  have HB2 := Lib.hid hB2
  have HB3 := Lib.hid hB3
  have HB4 := Lib.hid hB4
  have HB5 := Lib.hid hB5
  clear hB1 hB2 hB3 hB4 hB5
  generalize hW : w.alloc (.cells #[.int .i64 k, .string key, .string tt, .string old, .string new] 23) = W
  have hxW : Ext w W := by rw [← hW]; exact (by repeat (first | with_reducible exact Ext.refl _ | with_reducible assumption | with_reducible apply Ext.drewN | with_reducible apply Ext.drew | with_reducible apply Ext.alloc | exact Ext.refl _ | assumption | apply Ext.drewN | apply Ext.drew | apply Ext.alloc))
  have bW : Blk W w.heap.size 23 #[.int .i64 k, .string key, .string tt, .string old, .string new] := by rw [← hW]; exact Blk.new _ _ _
  have HW := Lib.hid hW
  clear hW
  go_enter Tryz.func17, Tryz.ntmps17
  go_wp2_with fail
  refine (HU.out _).mono ?_
  rintro e w' ⟨rfl, rfl⟩
  go_upto_region 4 with fail
  rw [HW.out]
  go_cut [21] (fun s wx => s = .bool B1 ∧ Ext W wx)
  case first =>
    have bc := bW.cell
    go_wp2_with fail
    refine (IsPath_any key _ (hg.ext hxW) s1).mono ?_
    rintro e w1 ⟨rfl, hx1⟩
    have bc1 := (bW.ext hx1).cell
    generalize pathL (bs key) = P at *
    cases P
    · go_wp2
      go_meet
      case rel => exact ⟨by rw [← HB1.out]; rfl, hx1⟩
    cases T
    · go_wp2
      go_meet
      case rel => exact ⟨by rw [← HB1.out]; rfl, hx1⟩
    go_wp2_with fail
    refine (IsPath_any tt _ (hg.ext (hxW.trans hx1)) s2).mono ?_
    rintro e w2 ⟨rfl, hx2⟩
    generalize pathL (bs tt) = P2 at *
    cases P2
    all_goals
      go_wp2
      go_meet
      case rel => exact ⟨by rw [← HB1.out]; rfl, hx1.trans hx2⟩
  case rest =>
    obtain ⟨rfl, hx4⟩ := hcut
    have b4 := bW.ext hx4
    have hxw4 := hxW.trans hx4
    clear hx4 bW
    rename_i wA
    generalize hwA : wc = w4 at *
    clear hwA
    cases B1
    rotate_left
    · go_wp2
      go_ret
      exact ⟨rfl, hxw4⟩
    go_upto_region 6 with fail
    go_cut [35] (fun s wx => s = .bool B2 ∧ wx = w4)
    case first =>
      have bc := b4.cell
      rcases tri T tt.toList.isEmpty with ⟨rfl, ht⟩ | rfl | ⟨rfl, ht⟩
      · go_wp2
        go_meet
        case rel => exact ⟨by rw [← HB2.out, ht]; rfl, rfl⟩
      all_goals
        rcases tri O old.toList.isEmpty with ⟨rfl, ho⟩ | rfl | ⟨rfl, ho⟩
        · go_wp2
          go_meet
          case rel => exact ⟨by rw [← HB2.out, ho]; first | (rw [ht]; rfl) | simp, rfl⟩
        all_goals
          rcases tri N new.toList.isEmpty with ⟨rfl, hn⟩ | rfl | ⟨rfl, hn⟩
          · go_wp2
            go_meet
            case rel => exact ⟨by rw [← HB2.out, hn]; simp, rfl⟩
          all_goals
            go_wp2_with fail
            refine (IsValue_any old _ s3).mono ?_
            rintro e w' ⟨rfl, rfl⟩
            generalize valueL (bs old) = V1 at *
            cases V1
            · go_wp2
              go_meet
              case rel => exact ⟨by rw [← HB2.out]; simp, rfl⟩
            go_wp2_with fail
            refine (IsValue_any new _ s4).mono ?_
            rintro e w' ⟨rfl, rfl⟩
            generalize valueL (bs new) = V2 at *
            go_wp2
            go_meet
            case rel => exact ⟨by rw [← HB2.out]; first | (rw [ht, ho, hn]; cases V2 <;> rfl) | (rw [ht, ho]; cases V2 <;> rfl) | (rw [ht, hn]; cases V2 <;> rfl) | (rw [ho, hn]; cases V2 <;> rfl) | (rw [ht]; cases V2 <;> simp) | (rw [ho]; cases V2 <;> simp) | (rw [hn]; cases V2 <;> simp) | (cases V2 <;> simp), rfl⟩
    case rest =>
      obtain ⟨rfl, rfl⟩ := hcut
      cases B2
      rotate_left
      · go_wp2
        go_ret
        exact ⟨rfl, hxw4⟩
      go_upto_region 8 with fail
      go_cut [73] (fun s wx => s = .bool B3 ∧ wx = wc)
      case first =>
        have bc := b4.cell
        cases T
        · go_wp2
          go_meet
          case rel => exact ⟨by rw [← HB3.out]; rfl, rfl⟩
        cases hq : key.toList == tt.toList
        all_goals
          go_wp2
          go_meet
          case rel => exact ⟨by rw [← HB3.out, hq]; rfl, rfl⟩
      case rest =>
        obtain ⟨rfl, rfl⟩ := hcut
        cases B3
        rotate_left
        · go_wp2
          go_ret
          exact ⟨rfl, hxw4⟩
        go_upto_region 10 with fail
        go_cut [82] (fun s wx => s = .bool B4 ∧ wx = wc)
        case first =>
          have bc := b4.cell
          cases hk2 : k == 2
          · go_wp2
            go_meet
            case rel => exact ⟨by rw [← HB4.out, hk2]; rfl, rfl⟩
          go_wp2_with fail
          refine (below_any key tt _ s2).mono ?_
          rintro e w' ⟨rfl, rfl⟩
          generalize belowL (bs key) (bs tt) = V1 at *
          cases V1
          rotate_left
          · go_wp2
            go_meet
            case rel => exact ⟨by rw [← HB4.out, hk2]; rfl, rfl⟩
          go_wp2_with fail
          refine (below_any tt key _ s1).mono ?_
          rintro e w' ⟨rfl, rfl⟩
          generalize belowL (bs tt) (bs key) = V2 at *
          go_wp2
          go_meet
          case rel => exact ⟨by rw [← HB4.out, hk2]; simp, rfl⟩
        case rest =>
          obtain ⟨rfl, rfl⟩ := hcut
          cases B4
          rotate_left
          · go_wp2
            go_ret
            exact ⟨rfl, hxw4⟩
          have bc := b4.cell
          cases O
          · have h5 := HB5.out
            cases B5
            rotate_left
            · cases h5
            clear h5
            go_wp2
            go_ret
            exact ⟨rfl, hxw4⟩
          cases hq : old.toList == new.toList
          all_goals
            have h5 : B5 = (old.toList == new.toList) := by rw [← HB5.out]; rfl
            rw [hq] at h5
            subst h5
            go_wp2
            go_ret
            exact ⟨rfl, hxw4⟩
end Go.Proofs.YtghhjlcbcojcnaaGreatDoor
