/- Plain laws on strings as lists of bytes: cutting at one byte. What all walks of this seat share: a world that has only grown ('Ext'), the package variables as the row lists them ('Good', 'GoodN'), endings. Contracts of the byte predicates of package ver. -/
import Derived.Lib.Split
import Derived.Lib.IndexBytes
import Derived.Lib.ItoaLen
import Derived.Test.YtghhjlcbcojcnaaGreatDoorProg
import Derived.WalkKit
import Derived.WalkSpells
import Derived.WalkLawsBesides
import Derived.LoopTactic
import Derived.Outline
import Derived.Lib.Hide
import Derived.Lib.LaidTab
import Derived.Lib.ConvBytes
import Derived.Lib.ItoaNum
import Derived.WalkSmall
import Derived.Sort.Grow
import Derived.Deep.QuietTactic
import Derived.BigQuiet

namespace Go.Proofs.YtghhjlcbcojcnaaGreatDoor

abbrev Str := List UInt8
abbrev bs (s : ByteArray) : Str := s.data.toList
/-- the string's value -/
abbrev S (l : Str) : Value := .string ⟨l.toArray⟩

/-- A text cut at each byte c. -/
def splitC (c : UInt8) : Str → List Str
  | [] => [[]]
  | x :: r => if x = c then [] :: splitC c r else (match splitC c r with | [] => [[x]] | p :: q => (x :: p) :: q)
theorem splitC_ne (c : UInt8) (l : Str) : splitC c l ≠ [] := by
  cases l with
  | nil => simp [splitC]
  | cons x r =>
    simp only [splitC]
    split
    · simp
    · split <;> simp

theorem indexByte_none (c : UInt8) : ∀ l : Str, c ∉ l → Lib.indexByte l c = -1
  | [], _ => rfl
  | b :: l, h => by
    have h1 : ¬ b = c := fun e => h (by simp [e])
    have h2 := indexByte_none c l (fun e => h (by simp [e]))
    simp [Lib.indexByte, h1, h2]
theorem indexByte_app (c : UInt8) (r : Str) : ∀ a : Str, c ∉ a → Lib.indexByte (a ++ c :: r) c = a.length
  | [], _ => by simp [Lib.indexByte]
  | b :: l, h => by
    have h1 : ¬ b = c := fun e => h (by simp [e])
    have h2 := indexByte_app c r l (fun e => h (by simp [e]))
    have h3 : ¬ ((l.length : Int) = -1) := by omega
    simp [Lib.indexByte, h1, h2, h3]
theorem index_none (c : UInt8) (l : Str) (h : c ∉ l) : Lib.index l [c] = -1 := by rw [Lib.index_one, indexByte_none c l h]
theorem index_app (c : UInt8) (a r : Str) (h : c ∉ a) : Lib.index (a ++ c :: r) [c] = a.length := by rw [Lib.index_one, indexByte_app c r a h]
/-- A list has the byte not at all, or is cut at its first. -/
theorem first_cut (c : UInt8) : ∀ l : Str, c ∉ l ∨ ∃ a r, c ∉ a ∧ l = a ++ c :: r
  | [] => .inl (by simp)
  | x :: l => by
    by_cases hx : x = c
    · exact .inr ⟨[], l, by simp, by simp [hx]⟩
    · rcases first_cut c l with h | ⟨a, r, ha, rfl⟩
      · exact .inl (by simp [h, Ne.symm hx])
      · exact .inr ⟨x :: a, r, by simp [ha, Ne.symm hx], by simp⟩
theorem splitC_none (c : UInt8) : ∀ l : Str, c ∉ l → splitC c l = [l]
  | [], _ => rfl
  | x :: l, h => by
    have h1 : ¬ x = c := fun e => h (by simp [e])
    simp [splitC, h1, splitC_none c l (fun e => h (by simp [e]))]
theorem splitC_app (c : UInt8) (r : Str) : ∀ a : Str, c ∉ a → splitC c (a ++ c :: r) = a :: splitC c r
  | [], _ => by simp [splitC]
  | x :: a, h => by
    have h1 : ¬ x = c := fun e => h (by simp [e])
    simp [splitC, h1, splitC_app c r a (fun e => h (by simp [e]))]
theorem count_one_none (c : UInt8) (l : Str) (h : c ∉ l) : Lib.count l [c] = 0 := Lib.count_miss (index_none c l h)
theorem count_one_app (c : UInt8) (a r : Str) (h : c ∉ a) : Lib.count (a ++ c :: r) [c] = 1 + Lib.count r [c] := by
  rw [Lib.count_hit (by simp) (index_app c a r h)]
  congr 2
  rw [← List.drop_drop]
  simp
theorem splitK_one (c : UInt8) : ∀ (n : Nat) (l : Str), l.length ≤ n → Lib.splitK [c] 0 (Lib.count l [c]) l = splitC c l := by
  intro n
  induction n with
  | zero =>
    intro l hl
    have : l = [] := List.eq_nil_of_length_eq_zero (by omega)
    subst this
    rw [count_one_none c [] (by simp), splitC_none c [] (by simp)]
    rfl
  | succ n ih =>
    intro l hl
    rcases first_cut c l with h | ⟨a, r, ha, rfl⟩
    · rw [count_one_none c l h, splitC_none c l h]
      rfl
    · rw [count_one_app c a r ha, splitC_app c r a ha, Nat.add_comm, Lib.splitK]
      rw [index_app c a r ha]
      have h3 : ¬ (((a.length : Int)) == -1) = true := by rw [beq_iff_eq]; omega
      rw [if_neg h3]
      congr 1
      · simp
      · rw [Int.toNat_natCast, ← List.drop_drop]
        simp only [List.drop_left', List.length_cons, List.length_nil, Nat.zero_add, List.drop_succ_cons, List.drop_zero]
        exact ih r (by simp at hl; omega)
theorem splitC_count (c : UInt8) : ∀ (n : Nat) (l : Str), l.length ≤ n → (splitC c l).length = Lib.count l [c] + 1 := by
  intro n
  induction n with
  | zero =>
    intro l hl
    have : l = [] := List.eq_nil_of_length_eq_zero (by omega)
    subst this
    rw [count_one_none c [] (by simp)]
    rfl
  | succ n ih =>
    intro l hl
    rcases first_cut c l with h | ⟨a, r, ha, rfl⟩
    · rw [count_one_none c l h, splitC_none c l h]
      rfl
    · rw [count_one_app c a r ha, splitC_app c r a ha, List.length_cons, ih r (by simp at hl; omega)]
      omega
/-- strings.Split at one byte. -/
theorem splitB_one (c : UInt8) (s : ByteArray) : (Lib.splitB ⟨#[c]⟩ 0 (Lib.countB s ⟨#[c]⟩) s).map (·.data.toList) = splitC c (bs s) := by
  rw [Lib.splitB_data]
  exact splitK_one c _ _ (Nat.le_refl _)
/-- strings.Cut at one byte: what is ahead, what is behind, whether it is there. -/
def cutC (c : UInt8) (l : Str) : Str × Str × Bool := (l.takeWhile (· != c), (l.dropWhile (· != c)).drop 1, l.contains c)
theorem while_all (p : UInt8 → Bool) : ∀ l : Str, (∀ x ∈ l, p x = true) → l.takeWhile p = l ∧ l.dropWhile p = []
  | [], _ => ⟨rfl, rfl⟩
  | x :: l, h => by
    have hx := h x (by simp)
    obtain ⟨h1, h2⟩ := while_all p l (fun y hy => h y (by simp [hy]))
    simp [hx, h1, h2]
theorem cutC_none (c : UInt8) (l : Str) (h : c ∉ l) : cutC c l = (l, [], false) := by
  unfold cutC
  have h1 : ∀ x ∈ l, (x != c) = true := fun x hx => by
    rw [bne_iff_ne]; rintro rfl; exact h hx
  rw [(while_all _ l h1).1, (while_all _ l h1).2]
  simp [h]
theorem cutC_app (c : UInt8) (a r : Str) (h : c ∉ a) : cutC c (a ++ c :: r) = (a, r, true) := by
  unfold cutC
  have h1 : ∀ x ∈ a, (x != c) = true := fun x hx => by
    rw [bne_iff_ne]; rintro rfl; exact h hx
  rw [List.takeWhile_append_of_pos h1, List.dropWhile_append_of_pos h1]
  simp
theorem cut_one (c : UInt8) (l : Str) : Lib.cut l [c] = cutC c l := by
  unfold Lib.cut
  rcases first_cut c l with h | ⟨a, r, ha, rfl⟩
  · rw [index_none c l h, cutC_none c l h]
    rfl
  · rw [index_app c a r ha, cutC_app c a r ha]
    rw [if_pos (by omega)]
    simp only [Int.toNat_natCast, List.length_cons, List.length_nil]
    rw [← List.drop_drop]
    simp
theorem splitC_length (c : UInt8) (s : ByteArray) : (Lib.splitB ⟨#[c]⟩ 0 (Lib.countB s ⟨#[c]⟩) s).length = (splitC c (bs s)).length := by
  rw [← splitB_one]; simp
theorem bs_append (x y : ByteArray) : bs (x ++ y) = bs x ++ bs y := by simp [bs]
theorem str_S {x : ByteArray} {l : Str} (h : bs x = l) : Value.string x = S l := by
  subst h
  have : (⟨(bs x).toArray⟩ : ByteArray) = x := by simp [bs]
  rw [S, this]
end Go.Proofs.YtghhjlcbcojcnaaGreatDoor

namespace Go.Proofs.YtghhjlcbcojcnaaGreatDoor
open Go.RowKit

/-! ### A world that has only grown -/
def Ext (w w' : World) : Prop := Below w.heap.size w w'
namespace Ext
variable {a b c w w' : World}
theorem refl (w : World) : Ext w w := Below.refl _ _
theorem size (h : Ext a b) : a.heap.size ≤ b.heap.size := Below.size h
theorem trans (h : Ext a b) (k : Ext b c) : Ext a c := Below.trans h (Below.mono k h.size)
theorem alloc (h : Ext a w) (o : Obj) : Ext a (w.alloc o) := Below.alloc h h.size o
theorem drew (h : Ext a w) : Ext a w.drew := Below.drew h
theorem drewN (h : Ext a w) (n : Nat) : Ext a (w.drewN n) := ⟨h.os, h.tape, h.output, h.size, h.block⟩
theorem setCell (h : Ext a w) {p : Addr} (hp : a.heap.size ≤ p.block) (u : Value) : Ext a (w.setCell p u) := Below.setCell h hp u
theorem grow (h : Ext a w) (os : Array Obj) : Ext a (Sort.grow w os) :=
  h.trans ⟨rfl, rfl, rfl, by simp [Sort.grow], fun k hk => by simp [Sort.grow, Array.getElem?_append, hk]⟩
theorem freeze (h : Ext a w) {p : Addr} (hp : a.heap.size ≤ p.block) (n : Nat) : Ext a (w.freeze p n) := by
  refine Below.trans h ?_
  unfold World.freeze
  split
  · exact Below.refl _ _
  · exact ⟨rfl, rfl, rfl, by simp, fun k hk => by simp only [Array.getElem?_modify]; rw [if_neg (by omega)]⟩
theorem bytesWorld (h : Ext a w) (t : TypeId) (s : ByteArray) : Ext a (Lib.bytesWorld w t s) := freeze (alloc (drew h) _) h.size _
theorem cells (h : Ext a b) : (∀ k o, k < a.heap.size → b.cell? ⟨k, o, none⟩ = a.cell? ⟨k, o, none⟩) ∧ (∀ k o, k < a.heap.size → b.frozen? ⟨k, o, none⟩ = a.frozen? ⟨k, o, none⟩) :=
  ⟨fun k o hk => Below.cell (p := ⟨k, o, none⟩) h hk, fun k o hk => Below.frozen (p := ⟨k, o, none⟩) h hk⟩
theorem below (h : Ext a b) : Below a.heap.size a b := h
end Ext
theorem lt_of_cell {w : World} {k o : Nat} {v : Value} (h : w.cell? ⟨k, o, none⟩ = some v) : k < w.heap.size := by
  unfold World.cell? at h
  rcases Nat.lt_or_ge k w.heap.size with hlt | hge
  · exact hlt
  · rw [Array.getElem?_eq_none hge] at h; cases h
theorem Ext.cell {a b : World} (h : Ext a b) {k o : Nat} {v : Value} (hc : a.cell? ⟨k, o, none⟩ = some v) : b.cell? ⟨k, o, none⟩ = some v := (h.cells.1 k o (lt_of_cell hc)).trans hc
theorem Ext.var {a b : World} (h : Ext a b) {n : String} {cs : Array Value} (hv : a.var? Tryz.prog n = some cs) : b.var? Tryz.prog n = some cs := by
  unfold World.var? at hv ⊢
  cases hg : Tryz.prog.globalNamed n with
  | none => rw [hg] at hv; cases hv
  | some g =>
    rw [hg] at hv
    simp only [Option.bind_some] at hv ⊢
    rcases Nat.lt_or_ge g a.heap.size with hlt | hge
    · rw [Below.block h g hlt]; exact hv
    · rw [Array.getElem?_eq_none hge] at hv; cases hv

/-! ### A block of the call's own, known whole -/
def Blk (w : World) (g : Nat) (t : TypeId) (cs : Array Value) : Prop := w.heap[g]? = some (.cells cs t (0, 0))
namespace Blk
variable {w w' : World} {g : Nat} {t : TypeId} {cs : Array Value}
theorem lt (h : Blk w g t cs) : g < w.heap.size := by
  rcases Nat.lt_or_ge g w.heap.size with hlt | hge
  · exact hlt
  · unfold Blk at h; rw [Array.getElem?_eq_none hge] at h; cases h
theorem cell (h : Blk w g t cs) (i : Nat) : w.cell? ⟨g, i, none⟩ = cs[i]? := cell_of_row w g i cs t (0, 0) h
theorem free (h : Blk w g t cs) (i : Nat) : w.frozen? ⟨g, i, none⟩ = false := by
  unfold Blk at h
  simp [World.frozen?, h]
theorem new (w : World) (t : TypeId) (cs : Array Value) : Blk (w.alloc (.cells cs t)) w.heap.size t cs := heap_alloc_new w _
theorem ext (h : Blk w g t cs) (hx : Ext w w') : Blk w' g t cs := (Below.block hx g h.lt).trans h
theorem alloc (h : Blk w g t cs) (o : Obj) : Blk (w.alloc o) g t cs := h.ext ((Ext.refl w).alloc o)
theorem set (h : Blk w g t cs) (i : Nat) (u : Value) : Blk (w.setCell ⟨g, i, none⟩ u) g t (cs.setIfInBounds i u) := by
  unfold Blk at h ⊢
  simp [World.setCell, Array.getElem?_modify, h]
theorem far (h : Blk w g t cs) {p : Addr} (hp : g ≠ p.block) (u : Value) : Blk (w.setCell p u) g t cs := (Below.heap_setCell w p u g hp).trans h
end Blk

/-! ### A region that draws its order, whose operations and callees let the world grow at most -/
theorem wp_region_ext {P : Program} {id : Nat} {Q : Exit → Act → World → Prop} {a : Act} {w : World} {l : List Oper} (hm : P.follows .mixedOrders = true) (hB : Region.lexB .any l.toArray = true)
    (h : wpQuiet P l.toArray (Ext w) (fun a' => ∀ w', Ext w w' → Q .normal a' w') l a) : (Code.region id l.toArray true).wp P Q a w :=
  wp_region_quiet (C := Ext w) hm hB ((Ext.refl w).drewN 1) (by simpa using h)

/-! ### The package variables -/
structure Good (w : World) : Prop where
  maxLen : ∃ m, w.cell? ⟨0, 0, none⟩ = some (.int .i64 m)
theorem Good.ext {w w' : World} (g : Good w) (h : Ext w w') : Good w' := ⟨let ⟨m, hm⟩ := g.maxLen; ⟨m, h.cell hm⟩⟩
structure GoodN (w : World) : Prop extends Good w where
  pow10 : Lib.TabIs Tryz.prog w "internal/strconv.uint64pow10" .u64 Lib.pow10Tab
  errS : ∃ tp p, w.var? Tryz.prog "strconv.ErrSyntax" = some #[.iface tp p]
  errR : ∃ tp p, w.var? Tryz.prog "strconv.ErrRange" = some #[.iface tp p]
theorem GoodN.ext {w w' : World} (g : GoodN w) (h : Ext w w') : GoodN w' :=
  ⟨g.toGood.ext h, h.var g.pow10, let ⟨t, p, e⟩ := g.errS; ⟨t, p, h.var e⟩, let ⟨t, p, e⟩ := g.errR; ⟨t, p, h.var e⟩⟩

/-! ### Endings, sizes -/
theorem ret_bool {a b : Bool} (h : a = b) : Ending.returned (.bool a) = .returned (.bool b) := by rw [h]
theorem ret_int {k : IntKind} {a b : Int} (h : a = b) : Ending.returned (.int k a) = .returned (.int k b) := by rw [h]
theorem toList_length (s : ByteArray) : s.toList.length = s.size := by rw [ByteArray.toList_eq, Array.length_toList]; rfl
theorem bs_length (s : ByteArray) : (bs s).length = s.size := by rw [← toList_length, ByteArray.toList_eq]
theorem size_zero {s : ByteArray} (h : s.toList = []) : s.size = 0 := by rw [← toList_length, h]; rfl
theorem size_pos {s : ByteArray} (h : ¬ s.toList = []) : 0 < s.size := by
  rw [← toList_length]
  exact List.length_pos_iff.2 h
theorem take_size (s : ByteArray) : s.data.toList.take s.size = s.data.toList := List.take_of_length_le (by simp)
/-- 's == ""' and 's != ""' as the walk spells them, from the size. -/
theorem emp_of_size {s : ByteArray} (h : s.size = 0) : s.toList = [] := List.eq_nil_of_length_eq_zero (by rw [toList_length, h])
theorem nemp_of_size {s : ByteArray} (h : 0 < s.size) : ¬ s.toList = [] := fun e => by have := size_zero e; omega
theorem emp_bool {s : ByteArray} (h : s.size = 0) : s.toList.isEmpty = true := by rw [emp_of_size h]; rfl
theorem nemp_bool {s : ByteArray} (h : 0 < s.size) : s.toList.isEmpty = false := by
  have := nemp_of_size h
  simpa using this
theorem mk_bs (s : ByteArray) : (⟨(bs s).toArray⟩ : ByteArray) = s := Lib.mk_data s
theorem S_bs (s : ByteArray) : S (bs s) = .string s := by rw [S, mk_bs]
theorem bs_mk (l : Str) : bs ⟨l.toArray⟩ = l := by simp [bs]
end Go.Proofs.YtghhjlcbcojcnaaGreatDoor

namespace Go.Proofs.YtghhjlcbcojcnaaGreatDoor
open Go.RowKit

def smallB (c : UInt8) : Bool := decide (97 ≤ c.toNat) && decide (c.toNat ≤ 122)
def digitB (c : UInt8) : Bool := decide (48 ≤ c.toNat) && decide (c.toNat ≤ 57)
def greatB (c : UInt8) : Bool := decide (65 ≤ c.toNat) && decide (c.toNat ≤ 90)
def nameB (c : UInt8) : Bool := smallB c || digitB c || decide (c.toNat = 45) || decide (c.toNat = 46)
def partB (c : UInt8) : Bool := smallB c || greatB c || digitB c || decide (c.toNat = 45) || decide (c.toNat = 46) || decide (c.toNat = 95)
def valueB (c : UInt8) : Bool := decide (32 ≤ c.toNat) && decide (c.toNat ≤ 126)
def wordB (c : UInt8) : Bool := smallB c || digitB c

set_option maxHeartbeats 400000 in
theorem isSmall_any (c : UInt8) (w : World) :
    Calls Tryz.prog 99 #[.int .u8 c.toNat] w fun e w' => e = .returned (.bool (smallB c)) ∧ w = w' := by
  go_enter Tryz.func99, Tryz.ntmps99
  go_wp2
  all_goals go_ret
  all_goals refine ⟨ret_bool ?_, rfl⟩
  all_goals rw [Bool.eq_iff_iff]
  all_goals simp only [smallB, Bool.and_eq_true, decide_eq_true_eq, Bool.false_eq_true, false_iff, not_and]
  all_goals omega
set_option maxHeartbeats 400000 in
theorem isDigit_any (c : UInt8) (w : World) :
    Calls Tryz.prog 100 #[.int .u8 c.toNat] w fun e w' => e = .returned (.bool (digitB c)) ∧ w = w' := by
  go_enter Tryz.func100, Tryz.ntmps100
  go_wp2
  all_goals go_ret
  all_goals refine ⟨ret_bool ?_, rfl⟩
  all_goals rw [Bool.eq_iff_iff]
  all_goals simp only [digitB, Bool.and_eq_true, decide_eq_true_eq, Bool.false_eq_true, false_iff, not_and]
  all_goals omega
set_option maxHeartbeats 400000 in
theorem isName1_any (c : UInt8) (w : World) :
    Calls Tryz.prog 98 #[.int .u8 c.toNat] w fun e w' => e = .returned (.bool (nameB c)) ∧ w = w' := by
  go_enter Tryz.func98, Tryz.ntmps98
  go_wp2_with (first | (go_at_call 99; refine (isSmall_any _ _).mono ?_; rintro e w' ⟨rfl, rfl⟩) | (go_at_call 100; refine (isDigit_any _ _).mono ?_; rintro e w' ⟨rfl, rfl⟩))
  all_goals go_ret
  all_goals refine ⟨ret_bool ?_, rfl⟩
  all_goals rw [Bool.eq_iff_iff]
  all_goals simp [nameB, *]
  all_goals omega
set_option maxHeartbeats 400000 in
theorem isValue1_any (c : UInt8) (w : World) :
    Calls Tryz.prog 102 #[.int .u8 c.toNat] w fun e w' => e = .returned (.bool (valueB c)) ∧ w = w' := by
  go_enter Tryz.func102, Tryz.ntmps102
  go_wp2
  all_goals go_ret
  all_goals refine ⟨ret_bool ?_, rfl⟩
  all_goals rw [Bool.eq_iff_iff]
  all_goals simp only [valueB, Bool.and_eq_true, decide_eq_true_eq, Bool.false_eq_true, false_iff, not_and]
  all_goals omega
set_option maxHeartbeats 400000 in
theorem isEarly1_any (c : UInt8) (w : World) :
    Calls Tryz.prog 163 #[.int .u8 c.toNat] w fun e w' => e = .returned (.bool (wordB c)) ∧ w = w' := by
  go_enter Tryz.func163, Tryz.ntmps163
  go_wp2_with (first | (go_at_call 99; refine (isSmall_any _ _).mono ?_; rintro e w' ⟨rfl, rfl⟩) | (go_at_call 100; refine (isDigit_any _ _).mono ?_; rintro e w' ⟨rfl, rfl⟩))
  all_goals go_ret
  all_goals refine ⟨ret_bool ?_, rfl⟩
  all_goals simp [wordB, *]
set_option maxHeartbeats 400000 in
theorem isPart1_any (c : UInt8) (w : World) :
    Calls Tryz.prog 165 #[.int .u8 c.toNat] w fun e w' => e = .returned (.bool (partB c)) ∧ w = w' := by
  go_enter Tryz.func165, Tryz.ntmps165
  go_wp2_with (first | (go_at_call 99; refine (isSmall_any _ _).mono ?_; rintro e w' ⟨rfl, rfl⟩) | (go_at_call 100; refine (isDigit_any _ _).mono ?_; rintro e w' ⟨rfl, rfl⟩))
  all_goals go_ret
  all_goals refine ⟨ret_bool ?_, rfl⟩
  all_goals rw [Bool.eq_iff_iff]
  all_goals simp [partB, greatB, *]
  all_goals omega

/-- A function that answers a byte, as a plain predicate does. -/
structure IsPred (f : FuncId) (p : UInt8 → Bool) : Prop where
  enter : ∀ xs w, Sem.run Tryz.prog (callFunc f xs) w = .ok (.enter f xs) w
  calls : ∀ (c : UInt8) (w : World), Calls Tryz.prog f #[.int .u8 c.toNat] w fun e w' => e = .returned (.bool (p c)) ∧ w = w'

theorem isDigit_pred : IsPred 100 digitB := ⟨fun xs w => by kernel_rfl, isDigit_any⟩
theorem isValue1_pred : IsPred 102 valueB := ⟨fun xs w => by kernel_rfl, isValue1_any⟩
theorem isEarly1_pred : IsPred 163 wordB := ⟨fun xs w => by kernel_rfl, isEarly1_any⟩
theorem isPart1_pred : IsPred 165 partB := ⟨fun xs w => by kernel_rfl, isPart1_any⟩
theorem isName1_pred : IsPred 98 nameB := ⟨fun xs w => by kernel_rfl, isName1_any⟩

theorem all_take_succ (p : UInt8 → Bool) (s : ByteArray) (k : Nat) (h : k < s.size) : (s.data.toList.take (k + 1)).all p = ((s.data.toList.take k).all p && p s[k]) := by
  rw [List.take_succ_eq_append_getElem (by simpa using h)]
  simp [ByteArray.getElem_eq_getElem_data]
theorem all_false_of (p : UInt8 → Bool) (s : ByteArray) (k : Nat) (h : k < s.size) (hp : p s[k] = false) : s.data.toList.all p = false := by
  rw [List.all_eq_false]
  exact ⟨s[k], by simp [ByteArray.getElem_eq_getElem_data], by simp [hp]⟩

def eachB (p : UInt8 → Bool) (s : ByteArray) (n : Int) : Bool := s.data.toList.all p && decide (0 < s.size) && decide ((s.size : Int) ≤ n)
set_option maxHeartbeats 400000 in
theorem each_any (f : FuncId) (p : UInt8 → Bool) (s : ByteArray) (n : Int) (w : World) (hs : s.size ≤ 2097152) (hf : IsPred f p) :
    Calls Tryz.prog 97 #[.string s, .int .i64 n, .func (.func f) #[] #[]] w fun e w' => e = .returned (.bool (eachB p s n)) ∧ w = w' := by
  have hen := hf.enter
  go_enter Tryz.func97, Tryz.ntmps97
  go_wp2
  go_loop [7] (fun i => ∃ k : Nat, k ≤ s.size ∧ i = .int .i64 k ∧ (s.data.toList.take k).all p = true) (fun i => s.size - (intOf i).toNat)
  case atStart => exact ⟨0, Nat.zero_le _, rfl, by simp⟩
  case round =>
    obtain ⟨k, hk, rfl, hall⟩ := hrel
    have HALL := Lib.hid hall
    clear hall
    by_cases hlt : k < s.size
    · go_wp2_with (fail)
      refine (hf.calls _ _).mono ?_
      rintro e w' ⟨rfl, rfl⟩
      cases hp : p s[k]
      · go_wp2
        go_ret
        refine ⟨ret_bool ?_, rfl⟩
        unfold eachB
        rw [all_false_of p s k hlt hp]
        rfl
      · go_wp2
        go_round
        case rel => exact ⟨k + 1, by omega, by go_num, by rw [all_take_succ _ _ _ hlt, HALL.out, hp]; rfl⟩
        case measure => simp [intOf]; omega
    · obtain rfl : k = s.size := by omega
      go_wp2
      all_goals go_ret
      all_goals refine ⟨ret_bool ?_, rfl⟩
      all_goals rw [take_size] at HALL
      all_goals unfold eachB
      all_goals rw [HALL.out]
      · simp [size_zero ‹_›]
      · simp [size_pos ‹_›, ‹¬ s.toList = []›]
end Go.Proofs.YtghhjlcbcojcnaaGreatDoor
