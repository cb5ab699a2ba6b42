/- Plain laws on strings as lists of bytes: cutting at one byte. What all walks of this seat share: a world that has only grown ('Ext'), the package variables as the row lists them ('Good', 'GoodN'), endings. Contracts of the byte predicates of package ver. Contracts of ver.IsName, isPart, IsValue, isNumeral, outside; outref2.In, When, First. Contracts of outref2.First, cmp.Or[int]: the first of several numbers that is not 0. The library's contracts in this claim's words: a world that has only grown, texts as lists of bytes. -/
import Derived.Lib.Split
import Derived.Lib.IndexBytes
import Derived.Lib.ItoaLen
import Derived.Test.YtghhjlcbcojcnaaGreatDoorProg
import Derived.WalkKit
import Derived.WalkSpells
import Derived.WalkLawsBesides
import Derived.LoopTactic
import Derived.Outline
import Derived.Lib.Hide
import Derived.Lib.LaidTab
import Derived.Lib.ConvBytes
import Derived.Lib.ItoaNum
import Derived.WalkSmall
import Derived.Sort.Grow
import Derived.Deep.QuietTactic
import Derived.BigQuiet
import Derived.Test.YtghhjlcbcojcnaaGreatDoorShelf

namespace Go.Proofs.YtghhjlcbcojcnaaGreatDoor

abbrev Str := List UInt8
abbrev bs (s : ByteArray) : Str := s.data.toList
/-- the string's value -/
abbrev S (l : Str) : Value := .string ⟨l.toArray⟩

/-- A text cut at each byte c. -/
def splitC (c : UInt8) : Str → List Str
  | [] => [[]]
  | x :: r => if x = c then [] :: splitC c r else (match splitC c r with | [] => [[x]] | p :: q => (x :: p) :: q)
theorem splitC_ne (c : UInt8) (l : Str) : splitC c l ≠ [] := by
  cases l with
  | nil => simp [splitC]
  | cons x r =>
    simp only [splitC]
    split
    · simp
    · split <;> simp

theorem indexByte_none (c : UInt8) : ∀ l : Str, c ∉ l → Lib.indexByte l c = -1
  | [], _ => rfl
  | b :: l, h => by
    have h1 : ¬ b = c := fun e => h (by simp [e])
    have h2 := indexByte_none c l (fun e => h (by simp [e]))
    simp [Lib.indexByte, h1, h2]
theorem indexByte_app (c : UInt8) (r : Str) : ∀ a : Str, c ∉ a → Lib.indexByte (a ++ c :: r) c = a.length
  | [], _ => by simp [Lib.indexByte]
  | b :: l, h => by
    have h1 : ¬ b = c := fun e => h (by simp [e])
    have h2 := indexByte_app c r l (fun e => h (by simp [e]))
    have h3 : ¬ ((l.length : Int) = -1) := by omega
    simp [Lib.indexByte, h1, h2, h3]
theorem index_none (c : UInt8) (l : Str) (h : c ∉ l) : Lib.index l [c] = -1 := by rw [Lib.index_one, indexByte_none c l h]
theorem index_app (c : UInt8) (a r : Str) (h : c ∉ a) : Lib.index (a ++ c :: r) [c] = a.length := by rw [Lib.index_one, indexByte_app c r a h]
/-- A list has the byte not at all, or is cut at its first. -/
theorem first_cut (c : UInt8) : ∀ l : Str, c ∉ l ∨ ∃ a r, c ∉ a ∧ l = a ++ c :: r
  | [] => .inl (by simp)
  | x :: l => by
    by_cases hx : x = c
    · exact .inr ⟨[], l, by simp, by simp [hx]⟩
    · rcases first_cut c l with h | ⟨a, r, ha, rfl⟩
      · exact .inl (by simp [h, Ne.symm hx])
      · exact .inr ⟨x :: a, r, by simp [ha, Ne.symm hx], by simp⟩
theorem splitC_none (c : UInt8) : ∀ l : Str, c ∉ l → splitC c l = [l]
  | [], _ => rfl
  | x :: l, h => by
    have h1 : ¬ x = c := fun e => h (by simp [e])
    simp [splitC, h1, splitC_none c l (fun e => h (by simp [e]))]
theorem splitC_app (c : UInt8) (r : Str) : ∀ a : Str, c ∉ a → splitC c (a ++ c :: r) = a :: splitC c r
  | [], _ => by simp [splitC]
  | x :: a, h => by
    have h1 : ¬ x = c := fun e => h (by simp [e])
    simp [splitC, h1, splitC_app c r a (fun e => h (by simp [e]))]
theorem count_one_none (c : UInt8) (l : Str) (h : c ∉ l) : Lib.count l [c] = 0 := Lib.count_miss (index_none c l h)
theorem count_one_app (c : UInt8) (a r : Str) (h : c ∉ a) : Lib.count (a ++ c :: r) [c] = 1 + Lib.count r [c] := by
  rw [Lib.count_hit (by simp) (index_app c a r h)]
  congr 2
  rw [← List.drop_drop]
  simp
theorem splitK_one (c : UInt8) : ∀ (n : Nat) (l : Str), l.length ≤ n → Lib.splitK [c] 0 (Lib.count l [c]) l = splitC c l := by
  intro n
  induction n with
  | zero =>
    intro l hl
    have : l = [] := List.eq_nil_of_length_eq_zero (by omega)
    subst this
    rw [count_one_none c [] (by simp), splitC_none c [] (by simp)]
    rfl
  | succ n ih =>
    intro l hl
    rcases first_cut c l with h | ⟨a, r, ha, rfl⟩
    · rw [count_one_none c l h, splitC_none c l h]
      rfl
    · rw [count_one_app c a r ha, splitC_app c r a ha, Nat.add_comm, Lib.splitK]
      rw [index_app c a r ha]
      have h3 : ¬ (((a.length : Int)) == -1) = true := by rw [beq_iff_eq]; omega
      rw [if_neg h3]
      congr 1
      · simp
      · rw [Int.toNat_natCast, ← List.drop_drop]
        simp only [List.drop_left', List.length_cons, List.length_nil, Nat.zero_add, List.drop_succ_cons, List.drop_zero]
        exact ih r (by simp at hl; omega)
theorem splitC_count (c : UInt8) : ∀ (n : Nat) (l : Str), l.length ≤ n → (splitC c l).length = Lib.count l [c] + 1 := by
  intro n
  induction n with
  | zero =>
    intro l hl
    have : l = [] := List.eq_nil_of_length_eq_zero (by omega)
    subst this
    rw [count_one_none c [] (by simp)]
    rfl
  | succ n ih =>
    intro l hl
    rcases first_cut c l with h | ⟨a, r, ha, rfl⟩
    · rw [count_one_none c l h, splitC_none c l h]
      rfl
    · rw [count_one_app c a r ha, splitC_app c r a ha, List.length_cons, ih r (by simp at hl; omega)]
      omega
/-- strings.Split at one byte. -/
theorem splitB_one (c : UInt8) (s : ByteArray) : (Lib.splitB ⟨#[c]⟩ 0 (Lib.countB s ⟨#[c]⟩) s).map (·.data.toList) = splitC c (bs s) := by
  rw [Lib.splitB_data]
  exact splitK_one c _ _ (Nat.le_refl _)
/-- strings.Cut at one byte: what is ahead, what is behind, whether it is there. -/
def cutC (c : UInt8) (l : Str) : Str × Str × Bool := (l.takeWhile (· != c), (l.dropWhile (· != c)).drop 1, l.contains c)
theorem while_all (p : UInt8 → Bool) : ∀ l : Str, (∀ x ∈ l, p x = true) → l.takeWhile p = l ∧ l.dropWhile p = []
  | [], _ => ⟨rfl, rfl⟩
  | x :: l, h => by
    have hx := h x (by simp)
    obtain ⟨h1, h2⟩ := while_all p l (fun y hy => h y (by simp [hy]))
    simp [hx, h1, h2]
theorem cutC_none (c : UInt8) (l : Str) (h : c ∉ l) : cutC c l = (l, [], false) := by
  unfold cutC
  have h1 : ∀ x ∈ l, (x != c) = true := fun x hx => by
    rw [bne_iff_ne]; rintro rfl; exact h hx
  rw [(while_all _ l h1).1, (while_all _ l h1).2]
  simp [h]
theorem cutC_app (c : UInt8) (a r : Str) (h : c ∉ a) : cutC c (a ++ c :: r) = (a, r, true) := by
  unfold cutC
  have h1 : ∀ x ∈ a, (x != c) = true := fun x hx => by
    rw [bne_iff_ne]; rintro rfl; exact h hx
  rw [List.takeWhile_append_of_pos h1, List.dropWhile_append_of_pos h1]
  simp
theorem cut_one (c : UInt8) (l : Str) : Lib.cut l [c] = cutC c l := by
  unfold Lib.cut
  rcases first_cut c l with h | ⟨a, r, ha, rfl⟩
  · rw [index_none c l h, cutC_none c l h]
    rfl
  · rw [index_app c a r ha, cutC_app c a r ha]
    rw [if_pos (by omega)]
    simp only [Int.toNat_natCast, List.length_cons, List.length_nil]
    rw [← List.drop_drop]
    simp
theorem splitC_length (c : UInt8) (s : ByteArray) : (Lib.splitB ⟨#[c]⟩ 0 (Lib.countB s ⟨#[c]⟩) s).length = (splitC c (bs s)).length := by
  rw [← splitB_one]; simp
theorem bs_append (x y : ByteArray) : bs (x ++ y) = bs x ++ bs y := by simp [bs]
theorem str_S {x : ByteArray} {l : Str} (h : bs x = l) : Value.string x = S l := by
  subst h
  have : (⟨(bs x).toArray⟩ : ByteArray) = x := by simp [bs]
  rw [S, this]
end Go.Proofs.YtghhjlcbcojcnaaGreatDoor

namespace Go.Proofs.YtghhjlcbcojcnaaGreatDoor
open Go.RowKit

/-! ### A world that has only grown -/
def Ext (w w' : World) : Prop := Below w.heap.size w w'
namespace Ext
variable {a b c w w' : World}
theorem refl (w : World) : Ext w w := Below.refl _ _
theorem size (h : Ext a b) : a.heap.size ≤ b.heap.size := Below.size h
theorem trans (h : Ext a b) (k : Ext b c) : Ext a c := Below.trans h (Below.mono k h.size)
theorem alloc (h : Ext a w) (o : Obj) : Ext a (w.alloc o) := Below.alloc h h.size o
theorem drew (h : Ext a w) : Ext a w.drew := Below.drew h
theorem drewN (h : Ext a w) (n : Nat) : Ext a (w.drewN n) := ⟨h.os, h.tape, h.output, h.size, h.block⟩
theorem setCell (h : Ext a w) {p : Addr} (hp : a.heap.size ≤ p.block) (u : Value) : Ext a (w.setCell p u) := Below.setCell h hp u
theorem grow (h : Ext a w) (os : Array Obj) : Ext a (Sort.grow w os) :=
  h.trans ⟨rfl, rfl, rfl, by simp [Sort.grow], fun k hk => by simp [Sort.grow, Array.getElem?_append, hk]⟩
theorem freeze (h : Ext a w) {p : Addr} (hp : a.heap.size ≤ p.block) (n : Nat) : Ext a (w.freeze p n) := by
  refine Below.trans h ?_
  unfold World.freeze
  split
  · exact Below.refl _ _
  · exact ⟨rfl, rfl, rfl, by simp, fun k hk => by simp only [Array.getElem?_modify]; rw [if_neg (by omega)]⟩
theorem bytesWorld (h : Ext a w) (t : TypeId) (s : ByteArray) : Ext a (Lib.bytesWorld w t s) := freeze (alloc (drew h) _) h.size _
theorem cells (h : Ext a b) : (∀ k o, k < a.heap.size → b.cell? ⟨k, o, none⟩ = a.cell? ⟨k, o, none⟩) ∧ (∀ k o, k < a.heap.size → b.frozen? ⟨k, o, none⟩ = a.frozen? ⟨k, o, none⟩) :=
  ⟨fun k o hk => Below.cell (p := ⟨k, o, none⟩) h hk, fun k o hk => Below.frozen (p := ⟨k, o, none⟩) h hk⟩
theorem below (h : Ext a b) : Below a.heap.size a b := h
end Ext
theorem lt_of_cell {w : World} {k o : Nat} {v : Value} (h : w.cell? ⟨k, o, none⟩ = some v) : k < w.heap.size := by
  unfold World.cell? at h
  rcases Nat.lt_or_ge k w.heap.size with hlt | hge
  · exact hlt
  · rw [Array.getElem?_eq_none hge] at h; cases h
theorem Ext.cell {a b : World} (h : Ext a b) {k o : Nat} {v : Value} (hc : a.cell? ⟨k, o, none⟩ = some v) : b.cell? ⟨k, o, none⟩ = some v := (h.cells.1 k o (lt_of_cell hc)).trans hc
theorem Ext.var {a b : World} (h : Ext a b) {n : String} {cs : Array Value} (hv : a.var? Tryz.prog n = some cs) : b.var? Tryz.prog n = some cs := by
  unfold World.var? at hv ⊢
  cases hg : Tryz.prog.globalNamed n with
  | none => rw [hg] at hv; cases hv
  | some g =>
    rw [hg] at hv
    simp only [Option.bind_some] at hv ⊢
    rcases Nat.lt_or_ge g a.heap.size with hlt | hge
    · rw [Below.block h g hlt]; exact hv
    · rw [Array.getElem?_eq_none hge] at hv; cases hv

/-! ### A block of the call's own, known whole -/
def Blk (w : World) (g : Nat) (t : TypeId) (cs : Array Value) : Prop := w.heap[g]? = some (.cells cs t (0, 0))
namespace Blk
variable {w w' : World} {g : Nat} {t : TypeId} {cs : Array Value}
theorem lt (h : Blk w g t cs) : g < w.heap.size := by
  rcases Nat.lt_or_ge g w.heap.size with hlt | hge
  · exact hlt
  · unfold Blk at h; rw [Array.getElem?_eq_none hge] at h; cases h
theorem cell (h : Blk w g t cs) (i : Nat) : w.cell? ⟨g, i, none⟩ = cs[i]? := cell_of_row w g i cs t (0, 0) h
theorem free (h : Blk w g t cs) (i : Nat) : w.frozen? ⟨g, i, none⟩ = false := by
  unfold Blk at h
  simp [World.frozen?, h]
theorem new (w : World) (t : TypeId) (cs : Array Value) : Blk (w.alloc (.cells cs t)) w.heap.size t cs := heap_alloc_new w _
theorem ext (h : Blk w g t cs) (hx : Ext w w') : Blk w' g t cs := (Below.block hx g h.lt).trans h
theorem alloc (h : Blk w g t cs) (o : Obj) : Blk (w.alloc o) g t cs := h.ext ((Ext.refl w).alloc o)
theorem set (h : Blk w g t cs) (i : Nat) (u : Value) : Blk (w.setCell ⟨g, i, none⟩ u) g t (cs.setIfInBounds i u) := by
  unfold Blk at h ⊢
  simp [World.setCell, Array.getElem?_modify, h]
theorem far (h : Blk w g t cs) {p : Addr} (hp : g ≠ p.block) (u : Value) : Blk (w.setCell p u) g t cs := (Below.heap_setCell w p u g hp).trans h
end Blk

/-! ### A region that draws its order, whose operations and callees let the world grow at most -/
theorem wp_region_ext {P : Program} {id : Nat} {Q : Exit → Act → World → Prop} {a : Act} {w : World} {l : List Oper} (hm : P.follows .mixedOrders = true) (hB : Region.lexB .any l.toArray = true)
    (h : wpQuiet P l.toArray (Ext w) (fun a' => ∀ w', Ext w w' → Q .normal a' w') l a) : (Code.region id l.toArray true).wp P Q a w :=
  wp_region_quiet (C := Ext w) hm hB ((Ext.refl w).drewN 1) (by simpa using h)

/-! ### The package variables -/
structure Good (w : World) : Prop where
  maxLen : ∃ m, w.cell? ⟨0, 0, none⟩ = some (.int .i64 m)
theorem Good.ext {w w' : World} (g : Good w) (h : Ext w w') : Good w' := ⟨let ⟨m, hm⟩ := g.maxLen; ⟨m, h.cell hm⟩⟩
structure GoodN (w : World) : Prop extends Good w where
  pow10 : Lib.TabIs Tryz.prog w "internal/strconv.uint64pow10" .u64 Lib.pow10Tab
  errS : ∃ tp p, w.var? Tryz.prog "strconv.ErrSyntax" = some #[.iface tp p]
  errR : ∃ tp p, w.var? Tryz.prog "strconv.ErrRange" = some #[.iface tp p]
theorem GoodN.ext {w w' : World} (g : GoodN w) (h : Ext w w') : GoodN w' :=
  ⟨g.toGood.ext h, h.var g.pow10, let ⟨t, p, e⟩ := g.errS; ⟨t, p, h.var e⟩, let ⟨t, p, e⟩ := g.errR; ⟨t, p, h.var e⟩⟩

/-! ### Endings, sizes -/
theorem ret_bool {a b : Bool} (h : a = b) : Ending.returned (.bool a) = .returned (.bool b) := by rw [h]
theorem ret_int {k : IntKind} {a b : Int} (h : a = b) : Ending.returned (.int k a) = .returned (.int k b) := by rw [h]
theorem ret_strS {x : ByteArray} {l : Str} (h : bs x = l) : Ending.returned (.string x) = .returned (S l) := by rw [str_S h]
theorem toList_length (s : ByteArray) : s.toList.length = s.size := by rw [ByteArray.toList_eq, Array.length_toList]; rfl
theorem bs_length (s : ByteArray) : (bs s).length = s.size := by rw [← toList_length, ByteArray.toList_eq]
theorem size_zero {s : ByteArray} (h : s.toList = []) : s.size = 0 := by rw [← toList_length, h]; rfl
theorem size_pos {s : ByteArray} (h : ¬ s.toList = []) : 0 < s.size := by
  rw [← toList_length]
  exact List.length_pos_iff.2 h
theorem take_size (s : ByteArray) : s.data.toList.take s.size = s.data.toList := List.take_of_length_le (by simp)
/-- 's == ""' and 's != ""' as the walk spells them, from the size. -/
theorem emp_of_size {s : ByteArray} (h : s.size = 0) : s.toList = [] := List.eq_nil_of_length_eq_zero (by rw [toList_length, h])
theorem nemp_of_size {s : ByteArray} (h : 0 < s.size) : ¬ s.toList = [] := fun e => by have := size_zero e; omega
theorem emp_bool {s : ByteArray} (h : s.size = 0) : s.toList.isEmpty = true := by rw [emp_of_size h]; rfl
theorem nemp_bool {s : ByteArray} (h : 0 < s.size) : s.toList.isEmpty = false := by
  have := nemp_of_size h
  simpa using this
theorem mk_bs (s : ByteArray) : (⟨(bs s).toArray⟩ : ByteArray) = s := Lib.mk_data s
theorem S_bs (s : ByteArray) : S (bs s) = .string s := by rw [S, mk_bs]
theorem bs_mk (l : Str) : bs ⟨l.toArray⟩ = l := by simp [bs]
end Go.Proofs.YtghhjlcbcojcnaaGreatDoor

namespace Go.Proofs.YtghhjlcbcojcnaaGreatDoor
open Go.RowKit

def smallB (c : UInt8) : Bool := decide (97 ≤ c.toNat) && decide (c.toNat ≤ 122)
def digitB (c : UInt8) : Bool := decide (48 ≤ c.toNat) && decide (c.toNat ≤ 57)
def greatB (c : UInt8) : Bool := decide (65 ≤ c.toNat) && decide (c.toNat ≤ 90)
def nameB (c : UInt8) : Bool := smallB c || digitB c || decide (c.toNat = 45) || decide (c.toNat = 46)
def partB (c : UInt8) : Bool := smallB c || greatB c || digitB c || decide (c.toNat = 45) || decide (c.toNat = 46) || decide (c.toNat = 95)
def valueB (c : UInt8) : Bool := decide (32 ≤ c.toNat) && decide (c.toNat ≤ 126)
def wordB (c : UInt8) : Bool := smallB c || digitB c

set_option maxHeartbeats 400000 in
theorem isSmall_any (c : UInt8) (w : World) :
    Calls Tryz.prog 99 #[.int .u8 c.toNat] w fun e w' => e = .returned (.bool (smallB c)) ∧ w = w' := by
  go_enter Tryz.func99, Tryz.ntmps99
  go_wp2
  all_goals go_ret
  all_goals refine ⟨ret_bool ?_, rfl⟩
  all_goals rw [Bool.eq_iff_iff]
  all_goals simp only [smallB, Bool.and_eq_true, decide_eq_true_eq, Bool.false_eq_true, false_iff, not_and]
  all_goals omega
set_option maxHeartbeats 400000 in
theorem isDigit_any (c : UInt8) (w : World) :
    Calls Tryz.prog 100 #[.int .u8 c.toNat] w fun e w' => e = .returned (.bool (digitB c)) ∧ w = w' := by
  go_enter Tryz.func100, Tryz.ntmps100
  go_wp2
  all_goals go_ret
  all_goals refine ⟨ret_bool ?_, rfl⟩
  all_goals rw [Bool.eq_iff_iff]
  all_goals simp only [digitB, Bool.and_eq_true, decide_eq_true_eq, Bool.false_eq_true, false_iff, not_and]
  all_goals omega
set_option maxHeartbeats 400000 in
theorem isName1_any (c : UInt8) (w : World) :
    Calls Tryz.prog 98 #[.int .u8 c.toNat] w fun e w' => e = .returned (.bool (nameB c)) ∧ w = w' := by
  go_enter Tryz.func98, Tryz.ntmps98
  go_wp2_with (first | (go_at_call 99; refine (isSmall_any _ _).mono ?_; rintro e w' ⟨rfl, rfl⟩) | (go_at_call 100; refine (isDigit_any _ _).mono ?_; rintro e w' ⟨rfl, rfl⟩))
  all_goals go_ret
  all_goals refine ⟨ret_bool ?_, rfl⟩
  all_goals rw [Bool.eq_iff_iff]
  all_goals simp [nameB, *]
  all_goals omega
set_option maxHeartbeats 400000 in
theorem isValue1_any (c : UInt8) (w : World) :
    Calls Tryz.prog 102 #[.int .u8 c.toNat] w fun e w' => e = .returned (.bool (valueB c)) ∧ w = w' := by
  go_enter Tryz.func102, Tryz.ntmps102
  go_wp2
  all_goals go_ret
  all_goals refine ⟨ret_bool ?_, rfl⟩
  all_goals rw [Bool.eq_iff_iff]
  all_goals simp only [valueB, Bool.and_eq_true, decide_eq_true_eq, Bool.false_eq_true, false_iff, not_and]
  all_goals omega
set_option maxHeartbeats 400000 in
theorem isEarly1_any (c : UInt8) (w : World) :
    Calls Tryz.prog 163 #[.int .u8 c.toNat] w fun e w' => e = .returned (.bool (wordB c)) ∧ w = w' := by
  go_enter Tryz.func163, Tryz.ntmps163
  go_wp2_with (first | (go_at_call 99; refine (isSmall_any _ _).mono ?_; rintro e w' ⟨rfl, rfl⟩) | (go_at_call 100; refine (isDigit_any _ _).mono ?_; rintro e w' ⟨rfl, rfl⟩))
  all_goals go_ret
  all_goals refine ⟨ret_bool ?_, rfl⟩
  all_goals simp [wordB, *]
set_option maxHeartbeats 400000 in
theorem isPart1_any (c : UInt8) (w : World) :
    Calls Tryz.prog 165 #[.int .u8 c.toNat] w fun e w' => e = .returned (.bool (partB c)) ∧ w = w' := by
  go_enter Tryz.func165, Tryz.ntmps165
  go_wp2_with (first | (go_at_call 99; refine (isSmall_any _ _).mono ?_; rintro e w' ⟨rfl, rfl⟩) | (go_at_call 100; refine (isDigit_any _ _).mono ?_; rintro e w' ⟨rfl, rfl⟩))
  all_goals go_ret
  all_goals refine ⟨ret_bool ?_, rfl⟩
  all_goals rw [Bool.eq_iff_iff]
  all_goals simp [partB, greatB, *]
  all_goals omega

/-- A function that answers a byte, as a plain predicate does. -/
structure IsPred (f : FuncId) (p : UInt8 → Bool) : Prop where
  enter : ∀ xs w, Sem.run Tryz.prog (callFunc f xs) w = .ok (.enter f xs) w
  calls : ∀ (c : UInt8) (w : World), Calls Tryz.prog f #[.int .u8 c.toNat] w fun e w' => e = .returned (.bool (p c)) ∧ w = w'

theorem isDigit_pred : IsPred 100 digitB := ⟨fun xs w => by kernel_rfl, isDigit_any⟩
theorem isValue1_pred : IsPred 102 valueB := ⟨fun xs w => by kernel_rfl, isValue1_any⟩
theorem isEarly1_pred : IsPred 163 wordB := ⟨fun xs w => by kernel_rfl, isEarly1_any⟩
theorem isPart1_pred : IsPred 165 partB := ⟨fun xs w => by kernel_rfl, isPart1_any⟩
theorem isName1_pred : IsPred 98 nameB := ⟨fun xs w => by kernel_rfl, isName1_any⟩

theorem all_take_succ (p : UInt8 → Bool) (s : ByteArray) (k : Nat) (h : k < s.size) : (s.data.toList.take (k + 1)).all p = ((s.data.toList.take k).all p && p s[k]) := by
  rw [List.take_succ_eq_append_getElem (by simpa using h)]
  simp [ByteArray.getElem_eq_getElem_data]
theorem all_false_of (p : UInt8 → Bool) (s : ByteArray) (k : Nat) (h : k < s.size) (hp : p s[k] = false) : s.data.toList.all p = false := by
  rw [List.all_eq_false]
  exact ⟨s[k], by simp [ByteArray.getElem_eq_getElem_data], by simp [hp]⟩

def eachB (p : UInt8 → Bool) (s : ByteArray) (n : Int) : Bool := s.data.toList.all p && decide (0 < s.size) && decide ((s.size : Int) ≤ n)
set_option maxHeartbeats 400000 in
theorem each_any (f : FuncId) (p : UInt8 → Bool) (s : ByteArray) (n : Int) (w : World) (hs : s.size ≤ 2097152) (hf : IsPred f p) :
    Calls Tryz.prog 97 #[.string s, .int .i64 n, .func (.func f) #[] #[]] w fun e w' => e = .returned (.bool (eachB p s n)) ∧ w = w' := by
  have hen := hf.enter
  go_enter Tryz.func97, Tryz.ntmps97
  go_wp2
  go_loop [7] (fun i => ∃ k : Nat, k ≤ s.size ∧ i = .int .i64 k ∧ (s.data.toList.take k).all p = true) (fun i => s.size - (intOf i).toNat)
  case atStart => exact ⟨0, Nat.zero_le _, rfl, by simp⟩
  case round =>
    obtain ⟨k, hk, rfl, hall⟩ := hrel
    have HALL := Lib.hid hall
    clear hall
    by_cases hlt : k < s.size
    · go_wp2_with (fail)
      refine (hf.calls _ _).mono ?_
      rintro e w' ⟨rfl, rfl⟩
      cases hp : p s[k]
      · go_wp2
        go_ret
        refine ⟨ret_bool ?_, rfl⟩
        unfold eachB
        rw [all_false_of p s k hlt hp]
        rfl
      · go_wp2
        go_round
        case rel => exact ⟨k + 1, by omega, by go_num, by rw [all_take_succ _ _ _ hlt, HALL.out, hp]; rfl⟩
        case measure => simp [intOf]; omega
    · obtain rfl : k = s.size := by omega
      go_wp2
      all_goals go_ret
      all_goals refine ⟨ret_bool ?_, rfl⟩
      all_goals rw [take_size] at HALL
      all_goals unfold eachB
      all_goals rw [HALL.out]
      · simp [size_zero ‹_›]
      · simp [size_pos ‹_›, ‹¬ s.toList = []›]
end Go.Proofs.YtghhjlcbcojcnaaGreatDoor

namespace Go.Proofs.YtghhjlcbcojcnaaGreatDoor
open Go.RowKit

theorem size_list (s : ByteArray) : s.size = (bs s).length := (bs_length s).symm
/-- 'each' as a plain law on lists -/
def eachL (p : UInt8 → Bool) (l : Str) (n : Nat) : Bool := l.all p && decide (0 < l.length) && decide (l.length ≤ n)
theorem eachB_L (p : UInt8 → Bool) (s : ByteArray) (n : Nat) : eachB p s (n : Int) = eachL p (bs s) n := by
  unfold eachB eachL
  rw [size_list]
  congr 1
  rw [decide_eq_decide]
  omega
theorem eachL_pos {p : UInt8 → Bool} {s : ByteArray} {n : Nat} (h : eachL p (bs s) n = true) : 0 < s.size := by
  unfold eachL at h
  simp only [Bool.and_eq_true, decide_eq_true_eq] at h
  rw [size_list]; exact h.1.2
theorem each_list (f : FuncId) (p : UInt8 → Bool) (s : ByteArray) (n : Nat) (w : World) (hs : s.size ≤ 2097152) (hf : IsPred f p) :
    Calls Tryz.prog 97 #[.string s, .int .i64 n, .func (.func f) #[] #[]] w fun e w' => e = .returned (.bool (eachL p (bs s) n)) ∧ w = w' :=
  (each_any f p s n w hs hf).mono fun _ _ ⟨h, k⟩ => ⟨by rw [h, eachB_L], k⟩

def nameL (l : Str) : Bool := eachL nameB l 40 && smallB (l.headD 0)
theorem head_bs (s : ByteArray) (h : 0 < s.size) : (bs s).headD 0 = s[0] := by
  have h1 : s.data.toList[0]? = some s[0] := Lib.data_getElem? s 0 h
  unfold bs
  cases hl : s.data.toList with
  | nil => rw [hl] at h1; cases h1
  | cons x r => rw [hl] at h1; simpa using h1
set_option maxHeartbeats 400000 in
theorem IsName_any (s : ByteArray) (w : World) (hs : s.size ≤ 2097152) :
    Calls Tryz.prog 29 #[.string s] w fun e w' => e = .returned (.bool (nameL (bs s))) ∧ w = w' := by
  go_enter Tryz.func29, Tryz.ntmps29
  go_wp2_with fail
  refine (each_list _ _ s 40 _ hs isName1_pred).mono ?_
  rintro e w' ⟨rfl, rfl⟩
  cases h : eachL nameB (bs s) 40
  · go_wp2
    go_ret
    exact ⟨ret_bool (by rw [nameL, h]; rfl), rfl⟩
  · have hp := eachL_pos h
    go_wp2_with (go_at_call 99; refine (isSmall_any _ _).mono ?_; rintro e w' ⟨rfl, rfl⟩)
    go_ret
    exact ⟨ret_bool (by rw [nameL, h, head_bs s hp]; rfl), rfl⟩

def partL (l : Str) : Bool := eachL partB l 40 && (l != [46]) && (l != [46, 46])
theorem lit_beq (s : ByteArray) (l : Str) : (s.toList == l) = (bs s == l) := by rw [ByteArray.toList_eq]
set_option maxHeartbeats 400000 in
theorem isPart_any (s : ByteArray) (w : World) (hs : s.size ≤ 2097152) :
    Calls Tryz.prog 101 #[.string s] w fun e w' => e = .returned (.bool (partL (bs s))) ∧ w = w' := by
  go_enter Tryz.func101, Tryz.ntmps101
  go_wp2_with fail
  refine (each_list _ _ s 40 _ hs isPart1_pred).mono ?_
  rintro e w' ⟨rfl, rfl⟩
  cases h : eachL partB (bs s) 40
  · go_wp2
    go_ret
    exact ⟨ret_bool (by rw [partL, h]; rfl), rfl⟩
  · go_wp2
    all_goals go_ret
    all_goals refine ⟨ret_bool ?_, rfl⟩
    all_goals simp_all [partL, ByteArray.toList_eq]
    all_goals rfl

def valueL (l : Str) : Bool := l.all valueB && decide (l.length ≤ 1000)
theorem bs_nil {s : ByteArray} (h : s.size = 0) : bs s = [] := List.eq_nil_of_length_eq_zero (by rw [bs_length, h])
theorem eachL_value {s : ByteArray} (h : 0 < s.size) : eachL valueB (bs s) 1000 = valueL (bs s) := by
  unfold eachL valueL
  rw [bs_length, decide_eq_true h, Bool.and_true]
set_option maxHeartbeats 400000 in
theorem IsValue_any (s : ByteArray) (w : World) (hs : s.size ≤ 2097152) :
    Calls Tryz.prog 33 #[.string s] w fun e w' => e = .returned (.bool (valueL (bs s))) ∧ w = w' := by
  go_enter Tryz.func33, Tryz.ntmps33
  rcases Nat.eq_zero_or_pos s.size with h0 | h0
  · have he := emp_of_size h0
    go_wp2
    go_ret
    exact ⟨ret_bool (by rw [bs_nil h0]; rfl), rfl⟩
  · have he := nemp_of_size h0
    go_wp2_with (go_at_call 97; refine (each_list _ _ s 1000 _ hs isValue1_pred).mono ?_; rintro e w' ⟨rfl, rfl⟩)
    go_ret
    have hi : s.toList.isEmpty = false := by simpa using he
    exact ⟨ret_bool (by rw [eachL_value h0, hi]; rfl), rfl⟩
def numeralL (l : Str) : Bool := eachL digitB l 10
set_option maxHeartbeats 400000 in
theorem isNumeral_any (s : ByteArray) (w : World) (hs : s.size ≤ 2097152) :
    Calls Tryz.prog 164 #[.string s] w fun e w' => e = .returned (.bool (numeralL (bs s))) ∧ w = w' := by
  go_enter Tryz.func164, Tryz.ntmps164
  go_wp2_with (go_at_call 97; refine (each_list _ _ s 10 _ hs isDigit_pred).mono ?_; rintro e w' ⟨rfl, rfl⟩)
  go_ret
  exact ⟨rfl, rfl⟩
set_option maxHeartbeats 400000 in
theorem outside_any (n a b : Int) (w : World) :
    Calls Tryz.prog 95 #[.int .i64 n, .int .i64 a, .int .i64 b] w fun e w' => e = .returned (.bool (decide (n < a ∨ b < n))) ∧ w = w' := by
  go_enter Tryz.func95, Tryz.ntmps95
  go_wp2
  all_goals go_ret
  all_goals refine ⟨ret_bool ?_, rfl⟩
  all_goals simp
  all_goals omega
set_option maxHeartbeats 400000 in
theorem In_any (n a b : Int) (w : World) :
    Calls Tryz.prog 90 #[.int .i64 n, .int .i64 a, .int .i64 b] w fun e w' => e = .returned (.bool (decide (a ≤ n ∧ n ≤ b))) ∧ w = w' := by
  go_enter Tryz.func90, Tryz.ntmps90
  go_wp2
  all_goals go_ret
  all_goals refine ⟨ret_bool ?_, rfl⟩
  all_goals simp
  all_goals omega
set_option maxHeartbeats 400000 in
theorem When_any (b : Bool) (n : Int) (w : World) :
    Calls Tryz.prog 60 #[.bool b, .int .i64 n] w fun e w' => e = .returned (.int .i64 (if b then n else 0)) ∧ w = w' := by
  go_enter Tryz.func60, Tryz.ntmps60
  cases b
  all_goals go_wp2
  all_goals go_ret
  all_goals exact ⟨rfl, rfl⟩
end Go.Proofs.YtghhjlcbcojcnaaGreatDoor

namespace Go.Proofs.YtghhjlcbcojcnaaGreatDoor
open Go.RowKit

def firstI : List Int → Int
  | [] => 0
  | e :: r => if e = 0 then firstI r else e
theorem firstI_zero : ∀ {l : List Int}, (∀ x ∈ l, x = 0) → firstI l = 0
  | [], _ => rfl
  | e :: r, h => by
    unfold firstI
    rw [if_pos (h e (by simp)), firstI_zero fun x hx => h x (by simp [hx])]
theorem firstI_at : ∀ {l : List Int} {k : Nat} (hk : k < l.length), (∀ x ∈ l.take k, x = 0) → l[k] ≠ 0 → firstI l = l[k]
  | e :: r, 0, _, _, h => by unfold firstI; rw [if_neg (by simpa using h)]; rfl
  | e :: r, k + 1, hk, h0, h => by
    unfold firstI
    rw [if_pos (h0 e (by simp))]
    exact firstI_at (l := r) (k := k) (by simpa using hk) (fun x hx => h0 x (by simp [hx])) (by simpa using h)
theorem take_zero_succ {l : List Int} {k : Nat} (hk : k < l.length) (h : ∀ x ∈ l.take k, x = 0) (h0 : l[k] = 0) : ∀ x ∈ l.take (k + 1), x = 0 := by
  intro x hx
  rw [List.take_succ_eq_append_getElem hk, List.mem_append] at hx
  rcases hx with hx | hx
  · exact h x hx
  · simp at hx; rw [hx, h0]

set_option maxHeartbeats 400000 in
theorem First_any (b c : Nat) (es : List Int) (w : World) (hc : ∀ k (h : k < es.length), w.cell? ⟨b, k, none⟩ = some (.int .i64 es[k])) (hl : es.length ≤ 1000) :
    Calls Tryz.prog 22 #[.slice (some ⟨b, 0, none⟩) es.length c] w fun e w' => e = .returned (.int .i64 (firstI es)) ∧ w = w' := by
  go_enter Tryz.func22, Tryz.ntmps22
  go_wp2
  go_loop [7] (fun i => ∃ k : Nat, k ≤ es.length ∧ i = .int .i64 k ∧ ∀ x ∈ es.take k, x = 0) (fun i => es.length - (intOf i).toNat)
  case atStart => exact ⟨0, Nat.zero_le _, rfl, by simp⟩
  case round =>
    obtain ⟨k, hk, rfl, hall⟩ := hrel
    have HALL := Lib.hid hall
    clear hall
    by_cases hlt : k < es.length
    · have hk1 := hc k hlt
      have HC := Lib.hid hc
      clear hc
      by_cases h0 : es[k] = 0
      · have H0 := Lib.hid h0
        rw [h0] at hk1
        clear h0
        go_wp2
        go_round
        case rel => exact ⟨k + 1, by omega, by go_num, take_zero_succ hlt HALL.out H0.out⟩
        case measure => simp [intOf]; omega
      · go_wp2
        go_ret
        exact ⟨ret_int (firstI_at hlt HALL.out h0).symm, rfl⟩
    · obtain rfl : k = es.length := by omega
      have HC := Lib.hid hc
      clear hc
      go_wp2
      go_ret
      exact ⟨ret_int (firstI_zero (by simpa using HALL.out)).symm, rfl⟩
end Go.Proofs.YtghhjlcbcojcnaaGreatDoor

namespace Go.Proofs.YtghhjlcbcojcnaaGreatDoor
open Go.RowKit

/-- A slice of strings that lies at the head of a block. -/
structure Strs (w : World) (b : Nat) (xs : List ByteArray) : Prop where
  lt : b < w.heap.size
  cell : ∀ k (h : k < xs.length), w.cell? ⟨b, k, none⟩ = some (.string xs[k])
theorem Strs.ext {w w' : World} {b : Nat} {xs : List ByteArray} (h : Strs w b xs) (hx : Ext w w') : Strs w' b xs := ⟨Nat.lt_of_lt_of_le h.lt hx.size, fun k hk => hx.cell (h.cell k hk)⟩

theorem split_any (c : UInt8) (s : ByteArray) (w : World) (hg : Good w) (hs : s.size ≤ 2097152) :
    Calls Tryz.prog 91 #[.string s, .string ⟨#[c]⟩] w fun e w' => ∃ (b : Nat) (xs : List ByteArray),
      e = .returned (.slice (some ⟨b, 0, none⟩) xs.length xs.length) ∧ w.heap.size ≤ b ∧ Strs w' b xs ∧ xs.map bs = splitC c (bs s) ∧ Ext w w' := by
  obtain ⟨m, hm⟩ := hg.maxLen
  refine (Tryz.strings_Split s ⟨#[c]⟩ m w (by omega) hm (Nat.le_refl _)).mono ?_
  rintro e w' ⟨rfl, rfl⟩
  have hlen : (Lib.splitB ⟨#[c]⟩ 0 (Lib.countB s ⟨#[c]⟩) s).length = Lib.countB s ⟨#[c]⟩ + 1 := by
    rw [splitC_length, splitC_count c _ _ (Nat.le_refl _)]
  refine ⟨w.heap.size, _, by rw [hlen], Nat.le_refl _, ⟨by simp, ?_⟩, splitB_one c s, (Ext.refl w).alloc _⟩
  intro k hk
  rw [World.cell?_alloc_at _ _ _ _ rfl]
  simp [hk]
theorem cut_any (c : UInt8) (s : ByteArray) (w : World) (hg : Good w) (hs : s.size ≤ 2097152) :
    Calls Tryz.prog 83 #[.string s, .string ⟨#[c]⟩] w fun e w' => e = .returned (.tuple #[S (cutC c (bs s)).1, S (cutC c (bs s)).2.1, .bool (cutC c (bs s)).2.2]) ∧ Ext w w' := by
  obtain ⟨m, hm⟩ := hg.maxLen
  refine (Tryz.strings_Cut s ⟨#[c]⟩ m w (by omega) hm).mono ?_
  rintro e w' ⟨rfl, n, rfl⟩
  exact ⟨by rw [show (⟨#[c]⟩ : ByteArray).data.toList = [c] from rfl, cut_one], (Ext.refl w).drewN n⟩
theorem cutC_size (c : UInt8) (l : Str) : (cutC c l).1.length ≤ l.length ∧ (cutC c l).2.1.length ≤ l.length := by
  rcases first_cut c l with h | ⟨a, r, ha, rfl⟩
  · rw [cutC_none c l h]; simp
  · rw [cutC_app c a r ha]; simp; omega
/-- strings.Cut, its parts named -/
theorem cut_ex (c : UInt8) (s : ByteArray) (w : World) (hg : Good w) (hs : s.size ≤ 2097152) :
    Calls Tryz.prog 83 #[.string s, .string ⟨#[c]⟩] w fun e w' => ∃ (a b : ByteArray) (f : Bool), e = .returned (.tuple #[.string a, .string b, .bool f]) ∧ cutC c (bs s) = (bs a, bs b, f) ∧ a.size ≤ s.size ∧ b.size ≤ s.size ∧ Ext w w' :=
  (cut_any c s w hg hs).mono fun _ _ ⟨h, k⟩ => by
    have h1 := cutC_size c (bs s)
    rw [bs_length] at h1
    exact ⟨_, _, _, h, by rw [bs_mk, bs_mk], by rw [← bs_length, bs_mk]; exact h1.1, by rw [← bs_length, bs_mk]; exact h1.2, k⟩
theorem contains_any (c : UInt8) (s : ByteArray) (w : World) (hg : Good w) (hs : s.size ≤ 2097152) :
    Calls Tryz.prog 85 #[.string s, .string ⟨#[c]⟩] w fun e w' => e = .returned (.bool ((bs s).contains c)) ∧ w = w' := by
  obtain ⟨m, hm⟩ := hg.maxLen
  refine (Tryz.strings_Contains s ⟨#[c]⟩ m w (by omega) hm).mono ?_
  rintro e w' ⟨rfl, rfl⟩
  refine ⟨ret_bool ?_, rfl⟩
  unfold Lib.contains
  rw [show (⟨#[c]⟩ : ByteArray).data.toList = [c] from rfl]
  rcases first_cut c (bs s) with h | ⟨a, r, ha, hr⟩
  · rw [index_none c _ h]; simp [h]
  · rw [show s.data.toList = a ++ c :: r from hr, index_app c a r ha]; simp [bs, hr]
theorem hasPrefix_any (s p : ByteArray) (w : World) :
    Calls Tryz.prog 78 #[.string s, .string p] w fun e w' => e = .returned (.bool ((bs p).isPrefixOf (bs s))) ∧ w = w' :=
  (Tryz.strings_HasPrefix s p w).mono fun _ _ ⟨h, k⟩ => ⟨h, k.symm⟩
theorem cutPrefix_any (s p : ByteArray) (w : World) :
    Calls Tryz.prog 116 #[.string s, .string p] w fun e w' => e = .returned (.tuple #[S (Lib.trimPrefix (bs s) (bs p)), .bool ((bs p).isPrefixOf (bs s))]) ∧ w = w' :=
  (Tryz.strings_CutPrefix s p w).mono fun _ _ ⟨h, k⟩ => ⟨h, k.symm⟩
theorem indexByte_any (s : ByteArray) (c : UInt8) (w : World) :
    Calls Tryz.prog 175 #[.string s, .int .u8 c.toNat] w fun e w' => e = .returned (.int .i64 (Lib.indexByte (bs s) c)) ∧ w = w' :=
  (Tryz.strings_IndexByte s c.toNat w).mono fun _ _ ⟨h, k⟩ => ⟨by rw [h, Lib.byte_back], k.symm⟩
theorem compare_any (a b : ByteArray) (w : World) :
    Calls Tryz.prog 107 #[.string a, .string b] w fun e w' => e = .returned (.int .i64 (Lib.compareBytes (bs a) (bs b))) ∧ w = w' :=
  (Tryz.strings_Compare a b w).mono fun _ _ ⟨h, k⟩ => ⟨h, k.symm⟩
theorem compareInt_any (a b : Int) (w : World) :
    Calls Tryz.prog 105 #[.int .i64 a, .int .i64 b] w fun e w' => e = .returned (.int .i64 (Lib.compareInt a b)) ∧ w = w' :=
  (Tryz.cmp_Compare_int a b w).mono fun _ _ ⟨h, k⟩ => ⟨h, k.symm⟩
theorem atoi_any (s : ByteArray) (w : World) (hg : GoodN w) (hs : s.size ≤ 2097152) :
    Calls Tryz.prog 106 #[.string s] w fun e w' => ∃ (v : Int) (ev : Value), e = .returned (.tuple #[.int .i64 v, ev]) ∧ Ext w w' ∧
      (∀ u, Lib.atoiAll (bs s) = .ok u → v = u ∧ ev = .nilIface) ∧ (ev = .nilIface ∨ ∃ t p, ev = .iface t p) := by
  cases h : Lib.atoiAll s.data.toList
  · rename_i u
    refine (Tryz.strconv_Atoi_ok s (by omega) u h w).mono ?_
    rintro e w' ⟨rfl, hw⟩
    refine ⟨u, .nilIface, rfl, ?_, fun u' hu => ⟨by injection hu, rfl⟩, .inl rfl⟩
    rcases hw with rfl | ⟨t, rfl⟩
    · exact Ext.refl _
    · exact (Ext.refl _).bytesWorld _ _
  · obtain ⟨tp, p, hv⟩ := hg.errS
    refine (Any.strconv_Atoi_syntax_var Tryz.laysC172 s (by omega) h tp p w hv).mono ?_
    rintro e w' ⟨N, rfl, _, _, hb⟩
    exact ⟨_, _, rfl, hb, (fun u' hu => by cases hu), .inr ⟨_, _, rfl⟩⟩
  · obtain ⟨tp, p, hv⟩ := hg.errR
    refine (Tryz.strconv_Atoi_range_var s (by omega) h tp p w hv).mono ?_
    rintro e w' ⟨N, rfl, _, _, hb⟩
    exact ⟨_, _, rfl, hb, (fun u' hu => by cases hu), .inr ⟨_, _, rfl⟩⟩
theorem trim_any (s cs : ByteArray) (w : World) (hs : s.size ≤ 2097152) (hcs : cs.size ≤ 1000) (hascii : ∀ (j : Nat) b, cs.data.toList[j]? = some b → b.toNat < 128) :
    Calls Tryz.prog 160 #[.string s, .string cs] w fun e w' => e = .returned (S (Lib.trimS (bs s) (bs cs))) ∧ Ext w w' :=
  Any.strings_Trim_laid Tryz.laysT160 (by kernel_rfl) s cs w (by omega) (by omega) hascii
end Go.Proofs.YtghhjlcbcojcnaaGreatDoor
