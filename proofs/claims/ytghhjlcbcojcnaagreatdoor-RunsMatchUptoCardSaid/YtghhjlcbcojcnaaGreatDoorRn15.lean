/- Plain law: the reference's errors, inverses and readings of rules are the program's. Plain law: a text in quotes, by two replacements of one byte each; its length; what a loop over it has written. Bytes as cells; texts compared. strings.NewReplacer(..).Replace at quotes: the parts of sync.Once's slow road; NewReplacer. strings.NewReplacer(..).Replace at quotes: sync.Once's Do, first time, over whatever the Replacer's building does. strings.NewReplacer(..).Replace at quotes: NewReplacer; the building of its table. strings.NewReplacer(..).Replace at quotes: the replacing. Contracts of strings.(*Replacer).Replace at quotes, and of ver.Quoted. Reading a text in quotes, byte by byte; contract of outref2.quotedAt. Contracts of migrate.uses, ruleWords, below, CheckRule, and of outref2.ruleWord, RuleError. -/
import Derived.Test.YtghhjlcbcojcnaaGreatDoorRn14
import Derived.Lib.Replace
import Derived.Lib.SplitLaws
import Derived.Test.YtghhjlcbcojcnaaGreatDoorRn01
import Derived.Laws.AppendOwn
import Derived.Laws.OwnMore
import Derived.Laws.LoneSync
import Derived.Laws.Pointers
import Derived.Defers
import Derived.RegionCalls
import Derived.RegionTactic
import Derived.Tactics
import Derived.Tactics2
import Derived.OwnWalk
import Derived.Test.YtghhjlcbcojcnaaGreatDoorRn09
import Derived.Deep.LoopGhost
import Derived.Deep.DeepCutAuto
import Derived.Deep.WholeRow
import Derived.Laws.BytesArg
import Derived.Test.YtghhjlcbcojcnaaGreatDoorRn02
import Derived.Test.YtghhjlcbcojcnaaGreatDoorRn03
import Derived.Laws.CopyOwn
import Derived.Deep.RegionLaw
import Derived.Deep.CutBlock
import Derived.Test.YtghhjlcbcojcnaaGreatDoorRn07

namespace Go.Proofs.YtghhjlcbcojcnaaGreatDoor

/-! ### What a right rule is -/
theorem part_pos {l : Str} (h : partL l = true) : 0 < l.length ∧ ∀ c ∈ l, partB c = true := by
  unfold partL eachL at h
  simp only [Bool.and_eq_true, decide_eq_true_eq] at h
  exact ⟨h.1.1.1.2, fun c hc => List.all_eq_true.1 h.1.1.1.1 c hc⟩
theorem splitC_mem (c : UInt8) : ∀ (l : Str) (x : UInt8), x ∈ l → x = c ∨ ∃ p ∈ splitC c l, x ∈ p
  | [], _, h => by cases h
  | y :: r, x, h => by
    by_cases hy : y = c
    · rcases List.mem_cons.1 h with rfl | h
      · exact .inl hy
      · rcases splitC_mem c r x h with h | ⟨p, hp, hx⟩
        · exact .inl h
        · exact .inr ⟨p, by rw [splitC, if_pos hy]; exact List.mem_cons_of_mem _ hp, hx⟩
    · cases hs : splitC c r with
      | nil => exact absurd hs (splitC_ne c r)
      | cons q t =>
        have e : splitC c (y :: r) = (y :: q) :: t := by rw [splitC, if_neg hy, hs]
        rcases List.mem_cons.1 h with rfl | h
        · exact .inr ⟨x :: q, by rw [e]; simp, by simp⟩
        · rcases splitC_mem c r x h with h | ⟨p, hp, hx⟩
          · exact .inl h
          · rw [hs] at hp
            rcases List.mem_cons.1 hp with rfl | hp
            · exact .inr ⟨y :: p, by rw [e]; simp, by simp [hx]⟩
            · exact .inr ⟨p, by rw [e]; simp [hp], hx⟩
theorem path_shape {l : Str} (h : pathL l = true) : l ≠ [] ∧ (32 : UInt8) ∉ l := by
  unfold pathL at h
  simp only [Bool.and_eq_true, decide_eq_true_eq] at h
  have h1 := List.all_eq_true.1 h.1
  refine ⟨?_, fun hc => ?_⟩
  · rintro rfl
    have := (part_pos (h1 [] (by simp [splitC]))).1
    simp at this
  · rcases splitC_mem 47 l 32 hc with e | ⟨p, hp, hx⟩
    · exact absurd e (by decide)
    · have := (part_pos (h1 p hp)).2 32 hx
      exact absurd this (by decide)
theorem emp_iff {l : Str} : l.isEmpty = true ↔ l = [] := List.isEmpty_iff
/-- the parts of a right rule -/
structure RightR (r : Ru) : Prop where
  lo : 1 ≤ r.kind
  hi : r.kind ≤ 8
  key : pathL r.key = true
  to1 : useTo r.kind = true → pathL r.tt = true
  to0 : useTo r.kind = false → r.tt = []
  old0 : useOld r.kind = false → r.old = []
  new0 : useNew r.kind = false → r.new = []
theorem right_of {r : Ru} (h : ruErr r = 0) : RightR r := by
  unfold ruErr at h
  by_cases h1 : r.kind < 1 ∨ 8 < r.kind
  · rw [if_pos h1] at h; omega
  rw [if_neg h1] at h
  by_cases h2 : (!pathL r.key || useTo r.kind && !pathL r.tt) = true
  · rw [if_pos h2] at h; omega
  rw [if_neg h2] at h
  by_cases h3 : (!useTo r.kind && !r.tt.isEmpty || !useOld r.kind && !r.old.isEmpty || !useNew r.kind && !r.new.isEmpty || !valueL r.old || !valueL r.new) = true
  · rw [if_pos h3] at h; omega
  simp only [Bool.or_eq_true, Bool.and_eq_true, Bool.not_eq_true', not_or, not_and, Bool.not_eq_false] at h2 h3
  obtain ⟨⟨⟨⟨a1, a2⟩, a3⟩, _⟩, _⟩ := h3
  exact ⟨by omega, by omega, h2.1, h2.2, fun e => emp_iff.1 (a1 e), fun e => emp_iff.1 (a2 e), fun e => emp_iff.1 (a3 e)⟩
theorem shape_of {r : Ru} (h : ruErr r = 0) : Shape r := by
  obtain ⟨a, b, c, d, e, f, g⟩ := right_of h
  exact ⟨a, b, (path_shape c).1, (path_shape c).2, fun x => path_shape (d x), e, f, g⟩

/-! ### The reference's error -/
def refErrR (r : Ru) : Int :=
  if (ruWord r.kind).isEmpty = true then 1
  else if (!pathL r.key || useTo r.kind && !pathL r.tt) = true then 5
  else if (!useTo r.kind && !r.tt.isEmpty || !useOld r.kind && !r.old.isEmpty || !useNew r.kind && !r.new.isEmpty || !valueL r.old || !valueL r.new) = true then 2
  else if r.key = r.tt then 11
  else if (decide (r.kind = 2) && (belowL r.key r.tt || belowL r.tt r.key)) = true then 13
  else if (useOld r.kind && decide (r.old = r.new)) = true then 11 else 0
theorem word_empty (k : Int) : (ruWord k).isEmpty = true ↔ (k < 1 ∨ 8 < k) := by
  constructor
  · intro h
    rcases Classical.em (k < 1 ∨ 8 < k) with h1 | h1
    · exact h1
    · exfalso
      rcases kind_cases (k := k) (by omega) (by omega) with rfl | rfl | rfl | rfl | rfl | rfl | rfl | rfl <;> exact absurd h (by decide)
  · intro h
    unfold ruWord
    rw [if_neg (by omega), if_neg (by omega), if_neg (by omega), if_neg (by omega), if_neg (by omega), if_neg (by omega), if_neg (by omega), if_neg (by omega)]
    rfl
theorem refErrR_eq (r : Ru) : refErrR r = ruErr r := by
  unfold refErrR ruErr
  by_cases h1 : r.kind < 1 ∨ 8 < r.kind
  · rw [if_pos h1, if_pos ((word_empty _).2 h1)]
  rw [if_neg h1, if_neg (fun e => h1 ((word_empty _).1 e))]
  by_cases h2 : (!pathL r.key || useTo r.kind && !pathL r.tt) = true
  · rw [if_pos h2, if_pos h2]
  rw [if_neg h2, if_neg h2]
  by_cases h3 : (!useTo r.kind && !r.tt.isEmpty || !useOld r.kind && !r.old.isEmpty || !useNew r.kind && !r.new.isEmpty || !valueL r.old || !valueL r.new) = true
  · rw [if_pos h3, if_pos h3]
  rw [if_neg h3, if_neg h3]
  simp only [Bool.or_eq_true, Bool.and_eq_true, Bool.not_eq_true', not_or, not_and, Bool.not_eq_false] at h2 h3
  obtain ⟨⟨⟨⟨a1, _⟩, _⟩, _⟩, _⟩ := h3
  by_cases h4 : useTo r.kind = true
  · by_cases h5 : r.key = r.tt
    · rw [if_pos h5, if_pos (by rw [h4, decide_eq_true h5]; rfl)]
    · rw [if_neg h5, if_neg (show ¬ (useTo r.kind && decide (r.key = r.tt)) = true by rw [h4, decide_eq_false h5]; decide)]
  · have h4 : useTo r.kind = false := by simpa using h4
    have h5 : ¬ r.key = r.tt := fun e => (path_shape h2.1).1 (e.trans (emp_iff.1 (a1 h4)))
    rw [if_neg h5, if_neg (show ¬ (useTo r.kind && decide (r.key = r.tt)) = true by rw [h4]; simp)]

/-! ### Inverses -/
def invL (r : Ru) : Ru × Int :=
  if ruErr r ≠ 0 then (zeroR, ruErr r)
  else if r.kind = 1 ∨ r.kind = 2 then (⟨r.kind, r.tt, r.key, r.old, r.new⟩, 0)
  else if r.kind = 7 then (⟨r.kind, r.key, r.tt, r.new, r.old⟩, 0)
  else if r.kind = 8 then (r, 0) else (zeroR, 12)
def refInv (r : Ru) : Ru × Int :=
  if ruErr r ≠ 0 then (zeroR, ruErr r)
  else if r.kind = 1 ∨ r.kind = 2 then (⟨r.kind, r.tt, r.key, [], []⟩, 0)
  else if r.kind = 7 then (⟨r.kind, r.key, [], r.new, r.old⟩, 0)
  else if r.kind = 8 then (r, 0) else (zeroR, 12)
theorem refInv_eq (r : Ru) : refInv r = invL r := by
  unfold refInv invL
  by_cases h : ruErr r ≠ 0
  · rw [if_pos h, if_pos h]
  rw [if_neg h, if_neg h]
  obtain ⟨_, _, _, _, e, f, g⟩ := right_of (Classical.not_not.1 h)
  by_cases h1 : r.kind = 1 ∨ r.kind = 2
  · rw [if_pos h1, if_pos h1, f (by rcases h1 with h | h <;> rw [h] <;> rfl), g (by rcases h1 with h | h <;> rw [h] <;> rfl)]
  rw [if_neg h1, if_neg h1]
  by_cases h2 : r.kind = 7
  · rw [if_pos h2, if_pos h2, e (by rw [h2]; rfl)]
  rw [if_neg h2, if_neg h2]

/-! ### The program's reading, back -/
/-! ### The reference's reading -/
end Go.Proofs.YtghhjlcbcojcnaaGreatDoor

namespace Go.Proofs.YtghhjlcbcojcnaaGreatDoor

theorem esc_len (l : Str) : (esc l).length = l.length + (l.count 34 + l.count 92) := by
  induction l with
  | nil => rfl
  | cons c r ih =>
    rw [esc]
    by_cases h1 : c = 34
    · subst h1; simp [ih]; omega
    · by_cases h2 : c = 92
      · subst h2; simp [ih]; omega
      · rw [if_neg (fun e => e.elim h1 h2), List.length_cons, ih, List.length_cons, List.count_cons_of_ne h1, List.count_cons_of_ne h2]; omega
end Go.Proofs.YtghhjlcbcojcnaaGreatDoor

namespace Go.Proofs.YtghhjlcbcojcnaaGreatDoor
open Go.RowKit

theorem isE (x : ByteArray) : x.toList.isEmpty = (bs x).isEmpty := by rw [ByteArray.toList_eq]
theorem eqE (x y : ByteArray) : (x.toList == y.toList) = decide (bs x = bs y) := by
  rw [ByteArray.toList_eq, ByteArray.toList_eq]
  by_cases h : bs x = bs y
  · rw [decide_eq_true h, beq_iff_eq]; exact h
  · rw [decide_eq_false h, beq_eq_false_iff_ne]; exact h
/-- the bytes as cells -/
def u8s (l : Str) : List Value := l.map fun c => Value.int .u8 c.toNat
theorem u8s_append (a b : Str) : u8s (a ++ b) = u8s a ++ u8s b := List.map_append
@[simp] theorem u8s_length (a : Str) : (u8s a).length = a.length := List.length_map _
theorem info_u8 : (Tryz.prog.info? 5).map (fun i => (i.zero, i.size, i.bytes)) = some (some (.int .u8 0), 1, 1) := by kernel_rfl
end Go.Proofs.YtghhjlcbcojcnaaGreatDoor

namespace Go.Proofs.YtghhjlcbcojcnaaGreatDoor
open Go.RowKit

end Go.Proofs.YtghhjlcbcojcnaaGreatDoor

namespace Go.Proofs.YtghhjlcbcojcnaaGreatDoor
open Go.RowKit

/-- bytes at an address, in a block from n on -/
def BytesAt (w : World) (n : Nat) (v : Value) (l : List UInt8) : Prop := ∃ q c cur fz, v = .slice (some ⟨q, 0, none⟩) l.length c ∧ n ≤ q ∧ w.heap[q]? = some (.cells cur 5 fz) ∧ ∀ (j : Nat) x, l[j]? = some x → w.cell? ⟨q, j, none⟩ = some (.int .u8 x.toNat)
theorem heap_lt {w : World} {q : Nat} {o : Obj} (h : w.heap[q]? = some o) : q < w.heap.size := by
  rcases Nat.lt_or_ge q w.heap.size with hlt | hge
  · exact hlt
  · rw [Array.getElem?_eq_none hge] at h; cases h
theorem BytesAt.ext {w w' : World} {n : Nat} {v : Value} {l : List UInt8} (h : BytesAt w n v l) (hx : Ext w w') : BytesAt w' n v l := by
  obtain ⟨q, c, cur, fz, e, hn, h1, h2⟩ := h
  exact ⟨q, c, cur, fz, e, hn, (Below.block hx q (heap_lt h1)).trans h1, fun j x hj => hx.cell (h2 j x hj)⟩
theorem BytesAt.far {w : World} {n : Nat} {v : Value} {l : List UInt8} (h : BytesAt w n v l) {k : Nat} (hk : k < n) (o : Nat) (u : Value) : BytesAt (w.setCell ⟨k, o, none⟩ u) n v l := by
  obtain ⟨q, c, cur, fz, e, hn, h1, h2⟩ := h
  exact ⟨q, c, cur, fz, e, hn, (Below.heap_setCell w ⟨k, o, none⟩ u q (show q ≠ k by omega)).trans h1, fun j x hj => (World.cell?_setCell_other _ _ _ _ (fun e => by injection e with e _; omega)).trans (h2 j x hj)⟩
theorem BytesAt.mono {w : World} {n m : Nat} {v : Value} {l : List UInt8} (h : BytesAt w n v l) (hm : m ≤ n) : BytesAt w m v l := by
  obtain ⟨q, c, cur, fz, e, hn, h1, h2⟩ := h
  exact ⟨q, c, cur, fz, e, Nat.le_trans hm hn, h1, h2⟩
/-- the replacer that quotes: a table of 256 rows, and the two bytes that it replaces; in blocks from n on -/
structure BSR (w : World) (n p : Nat) : Prop where
  ex : ∃ cs : Array Value, n ≤ p ∧ Blk w p 347 cs ∧ (∀ i : Nat, i < 256 → ¬ i = 34 → ¬ i = 92 → cs[i]? = some (.slice none 0 0)) ∧
    (∃ v, cs[34]? = some v ∧ BytesAt w n v [92, 34]) ∧ (∃ v, cs[92]? = some v ∧ BytesAt w n v [92, 92]) ∧
    ∃ q c, cs[256]? = some (.slice (some ⟨q, 0, none⟩) 2 c) ∧ n ≤ q ∧ w.cell? ⟨q, 0, none⟩ = some (.string ⟨#[34]⟩) ∧ w.cell? ⟨q, 1, none⟩ = some (.string ⟨#[92]⟩)
theorem BSR.ext {w w' : World} {n p : Nat} (h : BSR w n p) (hx : Ext w w') : BSR w' n p := by
  obtain ⟨cs, hn, h1, h2, ⟨v, h3, h4⟩, ⟨u, h5, h6⟩, q, c, h7, hq, h8, h9⟩ := h.ex
  exact ⟨cs, hn, h1.ext hx, h2, ⟨v, h3, h4.ext hx⟩, ⟨u, h5, h6.ext hx⟩, q, c, h7, hq, hx.cell h8, hx.cell h9⟩
theorem BSR.far {w : World} {n p : Nat} (h : BSR w n p) {k : Nat} (hk : k < n) (o : Nat) (u : Value) : BSR (w.setCell ⟨k, o, none⟩ u) n p := by
  obtain ⟨cs, hn, h1, h2, ⟨v, h3, h4⟩, ⟨u', h5, h6⟩, q, c, h7, hq, h8, h9⟩ := h.ex
  exact ⟨cs, hn, h1.far (show p ≠ k by omega) u, h2, ⟨v, h3, h4.far hk o u⟩, ⟨u', h5, h6.far hk o u⟩, q, c, h7, hq, (World.cell?_setCell_other _ _ _ _ (fun e => by injection e with e _; omega)).trans h8, (World.cell?_setCell_other _ _ _ _ (fun e => by injection e with e _; omega)).trans h9⟩
end Go.Proofs.YtghhjlcbcojcnaaGreatDoor

namespace Go.Proofs.YtghhjlcbcojcnaaGreatDoor
open Go.RowKit

/-- the four texts: what is replaced, and by what -/
structure OldNew (w : World) (q : Nat) : Prop where
  lt : q < w.heap.size
  s0 : w.cell? ⟨q, 0, none⟩ = some (.string ⟨#[92]⟩)
  s1 : w.cell? ⟨q, 1, none⟩ = some (.string ⟨#[92, 92]⟩)
  s2 : w.cell? ⟨q, 2, none⟩ = some (.string ⟨#[34]⟩)
  s3 : w.cell? ⟨q, 3, none⟩ = some (.string ⟨#[92, 34]⟩)
theorem OldNew.ext {w w' : World} {q : Nat} (h : OldNew w q) (hx : Ext w w') : OldNew w' q := ⟨Nat.lt_of_lt_of_le h.lt hx.size, hx.cell h.s0, hx.cell h.s1, hx.cell h.s2, hx.cell h.s3⟩
section
variable {w wr w' : World} {B k p : Nat} {v : Value} {xs : List Value} {cs : Array Value}
end
end Go.Proofs.YtghhjlcbcojcnaaGreatDoor

namespace Go.Proofs.YtghhjlcbcojcnaaGreatDoor
open Go.RowKit

end Go.Proofs.YtghhjlcbcojcnaaGreatDoor

namespace Go.Proofs.YtghhjlcbcojcnaaGreatDoor
open Go.RowKit

theorem BSR.mono {w : World} {n m p : Nat} (h : BSR w n p) (hm : m ≤ n) : BSR w m p := by
  obtain ⟨cs, hn, h1, h2, ⟨v, h3, h4⟩, ⟨u, h5, h6⟩, q, c, h7, hq, h8, h9⟩ := h.ex
  exact ⟨cs, Nat.le_trans hm hn, h1, h2, ⟨v, h3, h4.mono hm⟩, ⟨u, h5, h6.mono hm⟩, q, c, h7, Nat.le_trans hm hq, h8, h9⟩
end Go.Proofs.YtghhjlcbcojcnaaGreatDoor

namespace Go.Proofs.YtghhjlcbcojcnaaGreatDoor
open Go.RowKit

/-! ### Reading on, byte by byte -/
def InvQ (L : Str) (R : Option (Str × Str)) (k : Nat) (done : Str) : Prop := R = (unq (L.drop k)).map fun x => (done ++ x.1, x.2)
theorem drop_cons (s : ByteArray) (k : Nat) (h : k < s.size) : (bs s).drop k = s[k] :: (bs s).drop (k + 1) := by
  rw [List.drop_eq_getElem_cons (by rw [bs_length]; exact h)]; rfl
theorem invQ_start (L : Str) (i : Nat) : InvQ L (unq (L.drop i)) i [] := by
  unfold InvQ
  cases unq (L.drop i) <;> rfl
section
variable {s : ByteArray} {R : Option (Str × Str)} {k : Nat} {done : Str}
theorem invQ_out (h : InvQ (bs s) R k done) (hk : s.size ≤ k) : R = none := by
  rw [h, List.drop_of_length_le (by rw [bs_length]; exact hk), unq_nil]; rfl
theorem invQ_end (h : InvQ (bs s) R k done) (hk : k < s.size) (h1 : s[k] = 34) : R = some (done, (bs s).drop (k + 1)) := by
  rw [h, drop_cons s k hk, h1, unq_end]; simp
theorem invQ_one (h : InvQ (bs s) R k done) (hk : k < s.size) (h1 : ¬ s[k] = 34) (h2 : ¬ s[k] = 92) : InvQ (bs s) R (k + 1) (done ++ [s[k]]) := by
  unfold InvQ at h ⊢
  rw [h, drop_cons s k hk, unq_one h1 h2, Option.map_map]
  congr 1
  funext x
  simp
theorem invQ_last (h : InvQ (bs s) R k done) (hk : k + 1 = s.size) (h1 : s[k] = 92) : R = none := by
  rw [h, drop_cons s k (by omega), h1, List.drop_of_length_le (by rw [bs_length]; omega), unq_back0]; rfl
theorem invQ_bad (h : InvQ (bs s) R k done) (hk : k + 1 < s.size) (h1 : s[k] = 92) (h2 : ¬ s[k + 1] = 34) (h3 : ¬ s[k + 1] = 92) : R = none := by
  rw [h, drop_cons s k (by omega), h1, drop_cons s (k + 1) hk, unq_bad (fun e => e.elim h2 h3)]; rfl
theorem invQ_two (h : InvQ (bs s) R k done) (hk : k + 1 < s.size) (h1 : s[k] = 92) (h2 : s[k + 1] = 34 ∨ s[k + 1] = 92) : InvQ (bs s) R (k + 1 + 1) (done ++ [s[k + 1]]) := by
  unfold InvQ at h ⊢
  rw [h, drop_cons s k (by omega), h1, drop_cons s (k + 1) hk, unq_two h2, Option.map_map]
  congr 1
  funext x
  simp
end
theorem byte_no {c : UInt8} {n : UInt8} (h : ¬ c = n) (z : Int) (hz : z = n.toNat) : ((c.toNat : Int) == z) = false := by
  rw [beq_eq_false_iff_ne]
  intro e
  exact h (UInt8.toNat_inj.1 (by omega))
theorem byte_ne {c : UInt8} {n : UInt8} (h : ¬ c = n) (z : Int) (hz : z = n.toNat) : ((c.toNat : Int) != z) = true := by
  rw [bne, byte_no h z hz]; rfl

theorem conv_own {w : World} {B m : Nat} {v : Value} {l : Str} (h : w.ownsRow B 5 1 v m (u8s l)) :
    ∀ W, Ext w W → (convert 214 9 v).run Tryz.prog W = .ok (S l) W := fun W hW => by
  have hl : l.length = m := by have := h.1; rw [u8s_length, Nat.mul_one] at this; exact this
  rcases Nat.eq_zero_or_pos m with h0 | h0
  · rcases h.2 with ⟨rfl, _⟩ | ⟨g, cap, cur, rfl, _, _, _, _⟩
    · have e : l = [] := List.eq_nil_of_length_eq_zero (by omega)
      rw [e]
      exact run_convert_bytes_nil (P := Tryz.prog) W 214 5 Tryz.underlying214 Tryz.underlying5 0 0 9 Tryz.underlying9
    · have e : l = [] := List.eq_nil_of_length_eq_zero (by omega)
      subst h0
      rw [e]
      exact run_convert_bytes_arg (P := Tryz.prog) W 214 5 Tryz.underlying214 Tryz.underlying5 g 0 0 cap [] rfl (fun i hi => absurd hi (Nat.not_lt_zero _)) 9 Tryz.underlying9
  · obtain ⟨g, c, rfl, _, _, _, hc⟩ := own_form h h0
    subst hl
    have := run_convert_bytes_arg (P := Tryz.prog) W 214 5 Tryz.underlying214 Tryz.underlying5 g 0 l.length c (l.map fun x => (x.toNat : Int)) (by simp) (fun i hi => by
      rw [Nat.zero_add]
      refine (hW.cell (hc i (.int .u8 l[i].toNat) (by simp [u8s, hi]))).trans ?_
      simp [List.getD, hi]) 9 Tryz.underlying9
    rw [this]
    have e : (l.map fun x => (x.toNat : Int)).map (fun n => UInt8.ofNat n.toNat) = l := by
      rw [List.map_map]
      exact List.map_id'' (fun x => by simp) l
    unfold strOfNums
    rw [e]
end Go.Proofs.YtghhjlcbcojcnaaGreatDoor

namespace Go.Proofs.YtghhjlcbcojcnaaGreatDoor
open Go.RowKit

/-- a rule as memory has it -/
structure RB where
  kind : Int
  key : ByteArray
  tt : ByteArray
  old : ByteArray
  new : ByteArray
abbrev ruV (r : RB) : Value := .agg #[.int .i64 r.kind, .string r.key, .string r.tt, .string r.old, .string r.new]
def RB.l (r : RB) : Ru := ⟨r.kind, bs r.key, bs r.tt, bs r.old, bs r.new⟩
structure SmallR (r : RB) : Prop where
  key : r.key.size ≤ 2097152
  tt : r.tt.size ≤ 2097152
  old : r.old.size ≤ 2097152
  new : r.new.size ≤ 2097152

theorem kind_or (k : Int) : k = 1 ∨ k = 2 ∨ k = 3 ∨ k = 4 ∨ k = 5 ∨ k = 6 ∨ k = 7 ∨ k = 8 ∨ ((k == 1) = false ∧ (k == 2) = false ∧ (k == 3) = false ∧ (k == 4) = false ∧ (k == 5) = false ∧ (k == 6) = false ∧ (k == 7) = false ∧ (k == 8) = false) := by
  simp only [beq_eq_false_iff_ne]
  omega
theorem uses_any (k : Int) (w : World) :
    Calls Tryz.prog 79 #[.int .i64 k] w fun e w' => e = .returned (.tuple #[.bool (useTo k), .bool (useOld k), .bool (useNew k)]) ∧ w = w' := by
  rcases kind_or k with rfl | rfl | rfl | rfl | rfl | rfl | rfl | rfl | ⟨n1, n2, n3, n4, n5, n6, n7, n8⟩
  all_goals
    go_enter Tryz.func79, Tryz.ntmps79
    go_wp2
    go_ret3
  all_goals first
    | exact ⟨rfl, rfl⟩
    | exact ⟨by simp [useTo, useOld, useNew, n1, n2, n3, n4, n5, n7, n8], rfl⟩
theorem below_any (key head : ByteArray) (w : World) (hs : head.size ≤ 2097152) :
    Calls Tryz.prog 82 #[.string key, .string head] w fun e w' => e = .returned (.bool (belowL (bs key) (bs head))) ∧ w = w' := by
  go_enter Tryz.func82, Tryz.ntmps82
  go_wp2_with fail
  refine (hasPrefix_any _ _ _).mono ?_
  rintro e w' ⟨rfl, rfl⟩
  go_wp2
  go_ret
  exact ⟨rfl, rfl⟩
def ruWords : List ByteArray := [⟨#[]⟩, ⟨#[114, 101, 110, 97, 109, 101]⟩, ⟨#[112, 114, 101, 102, 105, 120]⟩, ⟨#[99, 111, 112, 121]⟩, ⟨#[115, 101, 116]⟩, ⟨#[100, 101, 102, 97, 117, 108, 116]⟩, ⟨#[100, 114, 111, 112]⟩, ⟨#[109, 97, 112]⟩, ⟨#[115, 119, 97, 112]⟩]
theorem ruleWords_any (w : World) :
    Calls Tryz.prog 80 #[] w fun e w' => ∃ b, e = .returned (.slice (some ⟨b, 0, none⟩) 9 9) ∧ w.heap.size ≤ b ∧ Strs w' b ruWords ∧ Ext w w' := by
  go_enter Tryz.func80, Tryz.ntmps80
  go_wp2
  go_ret
  refine ⟨w.heap.size, rfl, Nat.le_refl _, ⟨by simp, fun k hk => ?_⟩, (Ext.refl w).alloc _⟩
  rw [World.cell?_alloc_at _ _ _ _ rfl]
  match k, hk with
  | 0, _ => rfl
  | 1, _ => rfl
  | 2, _ => rfl
  | 3, _ => rfl
  | 4, _ => rfl
  | 5, _ => rfl
  | 6, _ => rfl
  | 7, _ => rfl
  | 8, _ => rfl
  | n + 9, h => exact absurd h (by simp [ruWords])

theorem ruleWord_any (k : Int) (w : World) :
    Calls Tryz.prog 77 #[.int .i64 k] w fun e w' => e = .returned (.tuple #[S (ruWord k), .bool (useTo k), .bool (useOld k), .bool (useNew k)]) ∧ w = w' := by
  rcases kind_or k with rfl | rfl | rfl | rfl | rfl | rfl | rfl | rfl | ⟨n1, n2, n3, n4, n5, n6, n7, n8⟩
  all_goals
    go_enter Tryz.func77, Tryz.ntmps77
    go_wp2
  all_goals first
    | exact bodyPost_ret (v := .tuple #[S (ruWord 1), .bool true, .bool false, .bool false]) (by simp [results, Tryz.results77, go_sem]; rfl) rfl ⟨rfl, rfl⟩
    | exact bodyPost_ret (v := .tuple #[S (ruWord 2), .bool true, .bool false, .bool false]) (by simp [results, Tryz.results77, go_sem]; rfl) rfl ⟨rfl, rfl⟩
    | exact bodyPost_ret (v := .tuple #[S (ruWord 3), .bool true, .bool false, .bool false]) (by simp [results, Tryz.results77, go_sem]; rfl) rfl ⟨rfl, rfl⟩
    | exact bodyPost_ret (v := .tuple #[S (ruWord 4), .bool false, .bool false, .bool true]) (by simp [results, Tryz.results77, go_sem]; rfl) rfl ⟨rfl, rfl⟩
    | exact bodyPost_ret (v := .tuple #[S (ruWord 5), .bool false, .bool false, .bool true]) (by simp [results, Tryz.results77, go_sem]; rfl) rfl ⟨rfl, rfl⟩
    | exact bodyPost_ret (v := .tuple #[S (ruWord 6), .bool false, .bool false, .bool false]) (by simp [results, Tryz.results77, go_sem]; rfl) rfl ⟨rfl, rfl⟩
    | exact bodyPost_ret (v := .tuple #[S (ruWord 7), .bool false, .bool true, .bool true]) (by simp [results, Tryz.results77, go_sem]; rfl) rfl ⟨rfl, rfl⟩
    | exact bodyPost_ret (v := .tuple #[S (ruWord 8), .bool false, .bool true, .bool true]) (by simp [results, Tryz.results77, go_sem]; rfl) rfl ⟨rfl, rfl⟩
    | skip
  have e : ruWord k = [] := by
    simp only [beq_eq_false_iff_ne] at n1 n2 n3 n4 n5 n6 n7 n8
    unfold ruWord
    rw [if_neg n1, if_neg n2, if_neg n3, if_neg n4, if_neg n5, if_neg n6, if_neg n7, if_neg n8]
  exact bodyPost_ret (v := .tuple #[S [], .bool false, .bool false, .bool false]) (by simp [results, Tryz.results77, go_sem]) rfl ⟨by rw [e]; simp [useTo, useOld, useNew, n1, n2, n3, n4, n5, n7, n8], rfl⟩
/-! ### CheckRule -/
theorem ru_kind {r : Ru} (h : r.kind < 1 ∨ 8 < r.kind) : ruErr r = 1 := by unfold ruErr; rw [if_pos h]
end Go.Proofs.YtghhjlcbcojcnaaGreatDoor
