/- Contract of the reference's reading of conditions, all levels; plain: the parts of a condition, their errors. Contracts of ver.partFault and outref2.partError. A world of which some blocks alone were written. -/
import Derived.Test.YtaobnifiengglaaGreatDoorAl24
import Derived.Test.YtaobnifiengglaaGreatDoorAl13
import Derived.Test.YtaobnifiengglaaGreatDoorAl20
import Derived.Test.YtaobnifiengglaaGreatDoorAl22
import Derived.Test.YtaobnifiengglaaGreatDoorAl01

namespace Go.Proofs.YtaobnifiengglaaGreatDoor
open Go.RowKit

/-! ### The parts of a condition -/
def Cd.kind : Cd → Int | .mk k _ _ _ => k
def Cd.name : Cd → ByteArray | .mk _ n _ _ => n
def Cd.value : Cd → ByteArray | .mk _ _ x _ => x
def Cd.args : Cd → List Cd | .mk _ _ _ l => l
mutual
/-- how many parts -/
def cnt : Cd → Nat | .mk _ _ _ l => 1 + cnts l
def cnts : List Cd → Nat | [] => 0 | c :: l => cnt c + cnts l
end
mutual
/-- the parts, the outer ones first, with their levels -/
def prt (lev : Nat) : Cd → List (Cd × Nat) | .mk k n x l => (.mk k n x l, lev) :: prts (lev + 1) l
def prts (lev : Nat) : List Cd → List (Cd × Nat) | [] => [] | c :: l => prt lev c ++ prts lev l
end
theorem cnt_pos (c : Cd) : 0 < cnt c := by cases c; unfold cnt; omega
mutual
theorem prt_len (lev : Nat) : ∀ c : Cd, (prt lev c).length = cnt c
  | .mk k n x l => by unfold prt cnt; rw [List.length_cons, prts_len (lev + 1) l]; omega
theorem prts_len (lev : Nat) : ∀ l : List Cd, (prts lev l).length = cnts l
  | [] => rfl
  | c :: l => by unfold prts cnts; rw [List.length_append, prt_len lev c, prts_len lev l]
end
theorem prts_append (lev : Nat) (a b : List Cd) : prts lev (a ++ b) = prts lev a ++ prts lev b := by
  induction a with
  | nil => simp [prts]
  | cons x r ih => simp only [List.cons_append, prts, ih, List.append_assoc]
/-- what the walks need: texts of a bearable size, lists too -/
inductive SmallC : Cd → Prop where
  | mk (k : Int) (n x : ByteArray) (l : List Cd) (hn : n.size ≤ 2097152) (hx : x.size ≤ 2097152) (hl : l.length ≤ 100000000) (hr : ∀ c ∈ l, SmallC c) : SmallC (.mk k n x l)

/-! ### The error of a part -/
def namedK (k : Int) : Bool := decide (2 ≤ k) && decide (k ≤ 5)
def valuedK (k : Int) : Bool := namedK k && !decide (k = 4)
def formBad (k : Int) (n x : Str) (m : Nat) : Bool :=
  (!namedK k && !n.isEmpty) || (!valuedK k && !x.isEmpty) || (!decide (6 ≤ k) && decide (0 < m)) || (decide (k = 6) && !decide (m = 1))
def partErr (k : Int) (n x : Str) (m : Nat) : Int :=
  if k < 1 ∨ 8 < k then 1
  else if formBad k n x m = true then 2
  else if namedK k = false then 0
  else if (!(if k = 3 ∨ k = 4 then pathL n else nameL n)) = true then 5
  else if (!valueL x) = true then 2
  else if k = 5 then (parseR x).2 else 0
def partC (c : Cd) : Int := partErr c.kind (bs c.name) (bs c.value) c.args.length
/-- the error of a condition -/
def firstErr : List (Cd × Nat) → Int
  | [] => 0
  | p :: r => if partC p.1 = 0 then firstErr r else partC p.1
def checkC (c : Cd) : Int :=
  if 100 < cnt c then 4
  else if firstErr (prt 0 c) ≠ 0 then firstErr (prt 0 c)
  else if (prt 0 c).any (fun p => decide (20 < p.2)) = true then 4 else 0
end Go.Proofs.YtaobnifiengglaaGreatDoor

namespace Go.Proofs.YtaobnifiengglaaGreatDoor
open Go.RowKit

theorem data_nil (n : ByteArray) : (n.data = #[]) = (n.toList = []) := by rw [ByteArray.toList_eq, Array.toList_eq_nil_iff]
theorem kind8 {k : Int} (h1 : ¬ k < 1) (h2 : ¬ 8 < k) : k = 1 ∨ k = 2 ∨ k = 3 ∨ k = 4 ∨ k = 5 ∨ k = 6 ∨ k = 7 ∨ k = 8 := by omega
set_option maxRecDepth 100000 in
set_option maxHeartbeats 8000000 in
theorem partFault_any (k : Int) (n x : ByteArray) (A : Option Addr) (m cp : Nat) (w : World) (hg : GoodN w) (hn : n.size ≤ 2097152) (hx : x.size ≤ 2097152) (hm : m ≤ 100000000) :
    Calls Tryz.prog 156 #[.agg #[.int .i64 k, .string n, .string x, .slice A m cp]] w fun e w' => e = .returned (.int .i64 (partErr k (bs n) (bs x) m)) ∧ Ext w w' := by
  have hx0 : Ext w (w.alloc (.cells #[.int .i64 k, .string n, .string x, .slice A m cp] 61)) := (Ext.refl w).alloc _
  by_cases h1 : k < 1
  · have hp : partErr k (bs n) (bs x) m = 1 := by unfold partErr; rw [if_pos (.inl h1)]
    rw [hp]
    go_enter Tryz.func156, Tryz.ntmps156
    go_wp2
    go_ret
    exact ⟨rfl, hx0⟩
  by_cases h2 : 8 < k
  · have hp : partErr k (bs n) (bs x) m = 1 := by unfold partErr; rw [if_pos (.inr h2)]
    rw [hp]
    go_enter Tryz.func156, Tryz.ntmps156
    go_wp2
    go_ret
    exact ⟨rfl, hx0⟩
  have e6 : ((m : Int) != 1) = !decide (m = 1) := by
    by_cases h : m = 1
    · subst h; rfl
    · rw [decide_eq_false h, Bool.not_false, bne_iff_ne]; omega
  rcases kind8 h1 h2 with rfl | rfl | rfl | rfl | rfl | rfl | rfl | rfl
  all_goals clear h1 h2
  all_goals
    go_enter Tryz.func156, Tryz.ntmps156
    go_wp2_with (first
      | (go_at_call 28; refine (IsName_any _ _ hn).mono ?_; rintro e w' ⟨rfl, rfl⟩)
      | (go_at_call 30; refine (IsPath_any _ _ (hg.toGood.ext ((Ext.refl w).alloc _)) hn).mono ?_; rintro e w1 ⟨rfl, hx1⟩; (obtain ⟨hc1, hf1⟩ := hx1.cells); have hz1 := hx1.size)
      | (go_at_call 32; refine (IsValue_any _ _ hx).mono ?_; rintro e w' ⟨rfl, rfl⟩)
      | (go_at_call 41; refine (ParseRange_any _ _ (hg.ext ((Ext.refl w).alloc _)) hx).mono ?_; rintro e w1 ⟨B, c, rfl, _, _, hx1⟩))
  all_goals go_ret
  all_goals refine ⟨ret_int ?_, ?_⟩
  all_goals first | (simp [partErr, formBad, namedK, valuedK, data_nil, *]; done) | exact (Ext.refl w).alloc _ | exact Ext.trans ((Ext.refl w).alloc _) (by assumption) | exact (Ext.trans ((Ext.refl w).alloc _) (by assumption)).alloc _ | skip
theorem value_nil {x : ByteArray} (h : x.toList = []) : valueL (bs x) = true := by
  rw [ByteArray.toList_eq] at h
  rw [show bs x = [] from h]
  rfl
set_option maxRecDepth 100000 in
set_option maxHeartbeats 8000000 in
theorem partError_any (k : Int) (n x : ByteArray) (A : Option Addr) (m cp : Nat) (w : World) (hg : GoodN w) (hn : n.size ≤ 2097152) (hx : x.size ≤ 2097152) (hm : m ≤ 100000000) :
    Calls Tryz.prog 143 #[.agg #[.int .i64 k, .string n, .string x, .slice A m cp]] w fun e w' => e = .returned (.int .i64 (partErr k (bs n) (bs x) m)) ∧ Ext w w' := by
  have hr : ∀ W, Ext w W → Calls Tryz.prog 43 #[.string x] W (RangePost (parseR (bs x)) W) := fun W hW => by
    rw [← read_same]; exact ReadRange_any x W (hg.ext hW) hx
  have HR := Lib.hid hr
  clear hr
  by_cases h1 : k < 1 ∨ 8 < k
  · have hp : partErr k (bs n) (bs x) m = 1 := by unfold partErr; rw [if_pos h1]
    rw [hp]
    have e (z : Int) (h : k ≠ z) : (k == z) = false := beq_eq_false_iff_ne.2 h
    have e1 := e 1 (by omega); have e2 := e 2 (by omega); have e3 := e 3 (by omega); have e4 := e 4 (by omega); have e5 := e 5 (by omega); have e6 := e 6 (by omega); have e7 := e 7 (by omega); have e8 := e 8 (by omega)
    clear e h1 hp
    go_enter Tryz.func143, Tryz.ntmps143
    go_wp2
    go_ret
    exact ⟨rfl, (Ext.refl w).alloc _⟩
  have e6 : ((m : Int) != 1) = !decide (m = 1) := by
    by_cases h : m = 1
    · subst h; rfl
    · rw [decide_eq_false h, Bool.not_false, bne_iff_ne]; omega
  rcases kind8 (fun h => h1 (.inl h)) (fun h => h1 (.inr h)) with rfl | rfl | rfl | rfl | rfl | rfl | rfl | rfl
  all_goals clear h1
  all_goals
    go_enter Tryz.func143, Tryz.ntmps143
    go_wp2_with (first
      | (go_at_call 29; refine (NameOf_any _ _ hn).mono ?_; rintro e w1 ⟨rfl, hx1⟩; (obtain ⟨hc1, hf1⟩ := hx1.cells); have hz1 := hx1.size)
      | (go_at_call 31; refine (PathOf_any _ _ (hg.toGood.ext ((Ext.refl w).alloc _)) hn).mono ?_; rintro e w1 ⟨rfl, hx1⟩; (obtain ⟨hc1, hf1⟩ := hx1.cells); have hz1 := hx1.size)
      | (go_at_call 33; refine (ValueOf_any _ _ hx).mono ?_; rintro e w' ⟨rfl, rfl⟩)
      | (go_at_call 43; refine (HR.out _ (Ext.trans ((Ext.refl w).alloc _) (by assumption))).mono ?_; rintro e w2 ⟨B, c, rfl, _, _, hx2⟩))
  all_goals go_ret
  all_goals refine ⟨ret_int ?_, ?_⟩
  all_goals first | (simp [partErr, formBad, namedK, valuedK, data_nil, *]; done) | exact (Ext.refl w).alloc _ | exact Ext.trans ((Ext.refl w).alloc _) (by assumption) | exact (Ext.trans (Ext.trans ((Ext.refl w).alloc _) (by assumption)) (by assumption)).alloc _ | (exfalso; have hv := value_nil (by assumption); simp_all; done) | skip
end Go.Proofs.YtaobnifiengglaaGreatDoor

namespace Go.Proofs.YtaobnifiengglaaGreatDoor
open Go.RowKit

/-! ### A world of which some blocks alone were written -/
structure ExtC (C : Nat → Prop) (w w' : World) : Prop where
  os : w'.os = w.os
  tape : w'.tape = w.tape
  output : w'.output = w.output
  size : w.heap.size ≤ w'.heap.size
  block : ∀ k, k < w.heap.size → ¬ C k → w'.heap[k]? = w.heap[k]?
namespace ExtC
variable {C : Nat → Prop} {a b c w w' : World}
theorem refl (C : Nat → Prop) (w : World) : ExtC C w w := ⟨rfl, rfl, rfl, Nat.le_refl _, fun _ _ _ => rfl⟩
theorem ofExt (h : Ext a b) : ExtC C a b := ⟨h.os, h.tape, h.output, h.size, fun k hk _ => h.block k hk⟩
theorem trans (h : ExtC C a b) (k : ExtC C b c) : ExtC C a c :=
  ⟨k.os.trans h.os, k.tape.trans h.tape, k.output.trans h.output, Nat.le_trans h.size k.size, fun i hi hg => (k.block i (Nat.lt_of_lt_of_le hi h.size) hg).trans (h.block i hi hg)⟩
theorem alloc (h : ExtC C a w) (o : Obj) : ExtC C a (w.alloc o) := h.trans (ofExt ((Ext.refl w).alloc o))
theorem set (h : ExtC C a w) {p : Addr} (hp : C p.block ∨ a.heap.size ≤ p.block) (u : Value) : ExtC C a (w.setCell p u) :=
  ⟨h.os, h.tape, h.output, by have := h.size; simpa [World.setCell] using this, fun k hk hg => by
    refine Eq.trans ?_ (h.block k hk hg)
    simp only [World.setCell, Array.getElem?_modify]
    rw [if_neg]
    rintro rfl
    rcases hp with h1 | h1
    · exact hg h1
    · omega⟩
theorem ext (h : Ext a w) (k : ExtC C w w') (hC : ∀ i, C i → a.heap.size ≤ i) : Ext a w' :=
  ⟨k.os.trans h.os, k.tape.trans h.tape, k.output.trans h.output, Nat.le_trans h.size k.size, fun i hi => (k.block i (Nat.lt_of_lt_of_le hi h.size) (fun hc => by have := hC i hc; omega)).trans (h.block i hi)⟩
theorem cell (h : ExtC C a b) {k o : Nat} {v : Value} (hk : ¬ C k) (hc : a.cell? ⟨k, o, none⟩ = some v) : b.cell? ⟨k, o, none⟩ = some v := by
  have hl := lt_of_cell hc
  unfold World.cell? at hc ⊢
  rw [h.block k hl hk]
  exact hc
end ExtC
theorem Blk.extC {C : Nat → Prop} {w w' : World} {k : Nat} {t : TypeId} {cs : Array Value} (h : Blk w k t cs) (hx : ExtC C w w') (hk : ¬ C k) : Blk w' k t cs := (hx.block k h.lt hk).trans h
end Go.Proofs.YtaobnifiengglaaGreatDoor
