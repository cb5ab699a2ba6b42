/- Contract of the reference's reading of conditions, all levels; plain: the parts of a condition, their errors. Contracts of ver.partFault and outref2.partError. -/
import Derived.Test.YtncagihilplliaaGreatDoorCr40
import Derived.Test.YtncagihilplliaaGreatDoorCr15
import Derived.Test.YtncagihilplliaaGreatDoorCr24
import Derived.Test.YtncagihilplliaaGreatDoorCr26

namespace Go.Proofs.YtncagihilplliaaGreatDoor
open Go.RowKit

theorem condR_all (g b : Nat) (W : List Wd) (hW : LastE W) (hWl : W.length ≤ 3000000) : ∀ (n lev : Nat), lev + n = 100 → ∀ (τ : Rs) (w : World), RdR w g b W τ →
    Calls Tryz.prog 91 #[.pointer (some ⟨g, 0, none⟩), .int .i64 lev] w (CrPost g b W w (condRF n τ))
  | 0, lev, hl, τ, w, h => by
    obtain rfl : lev = 100 := by omega
    exact condR_step g b W hW 100 none (Nat.le_refl _) (fun _ => rfl) (fun f e => by cases e) (fun f e => by cases e) (fun f e => by cases e) τ w h
  | n + 1, lev, hl, τ, w, h => by
    have ih := condR_all g b W hW hWl n (lev + 1) (by omega)
    exact condR_step g b W hW lev (some (condRF n)) (by omega) (fun e => by cases e) (fun f _ => by omega)
      (fun f e υ V hr => by cases e; exact group_step g b W hW hWl (lev + 1) n ih υ V hr) (fun f e => by cases e; exact ih) τ w h

/-! ### The parts of a condition -/
def Cd.kind : Cd → Int | .mk k _ _ _ => k
def Cd.name : Cd → ByteArray | .mk _ n _ _ => n
def Cd.value : Cd → ByteArray | .mk _ _ x _ => x
def Cd.args : Cd → List Cd | .mk _ _ _ l => l
mutual
/-- how many parts -/
def cnt : Cd → Nat | .mk _ _ _ l => 1 + cnts l
def cnts : List Cd → Nat | [] => 0 | c :: l => cnt c + cnts l
end
mutual
/-- the parts, the outer ones first, with their levels -/
def prt (lev : Nat) : Cd → List (Cd × Nat) | .mk k n x l => (.mk k n x l, lev) :: prts (lev + 1) l
def prts (lev : Nat) : List Cd → List (Cd × Nat) | [] => [] | c :: l => prt lev c ++ prts lev l
end
theorem cnt_pos (c : Cd) : 0 < cnt c := by cases c; unfold cnt; omega
mutual
theorem prt_len (lev : Nat) : ∀ c : Cd, (prt lev c).length = cnt c
  | .mk k n x l => by unfold prt cnt; rw [List.length_cons, prts_len (lev + 1) l]; omega
theorem prts_len (lev : Nat) : ∀ l : List Cd, (prts lev l).length = cnts l
  | [] => rfl
  | c :: l => by unfold prts cnts; rw [List.length_append, prt_len lev c, prts_len lev l]
end
theorem cnts_append (a b : List Cd) : cnts (a ++ b) = cnts a + cnts b := by
  induction a with
  | nil => simp [cnts]
  | cons x r ih => simp only [List.cons_append, cnts, ih]; omega
theorem prts_append (lev : Nat) (a b : List Cd) : prts lev (a ++ b) = prts lev a ++ prts lev b := by
  induction a with
  | nil => simp [prts]
  | cons x r ih => simp only [List.cons_append, prts, ih, List.append_assoc]
/-- what the walks need: texts of a bearable size, lists too -/
inductive SmallC : Cd → Prop where
  | mk (k : Int) (n x : ByteArray) (l : List Cd) (hn : n.size ≤ 2097152) (hx : x.size ≤ 2097152) (hl : l.length ≤ 100000000) (hr : ∀ c ∈ l, SmallC c) : SmallC (.mk k n x l)

/-! ### The error of a part -/
def namedK (k : Int) : Bool := decide (2 ≤ k) && decide (k ≤ 5)
def valuedK (k : Int) : Bool := namedK k && !decide (k = 4)
def formBad (k : Int) (n x : Str) (m : Nat) : Bool :=
  (!namedK k && !n.isEmpty) || (!valuedK k && !x.isEmpty) || (!decide (6 ≤ k) && decide (0 < m)) || (decide (k = 6) && !decide (m = 1))
def partErr (k : Int) (n x : Str) (m : Nat) : Int :=
  if k < 1 ∨ 8 < k then 1
  else if formBad k n x m = true then 2
  else if namedK k = false then 0
  else if (!(if k = 3 ∨ k = 4 then pathL n else nameL n)) = true then 5
  else if (!valueL x) = true then 2
  else if k = 5 then (parseR x).2 else 0
def partC (c : Cd) : Int := partErr c.kind (bs c.name) (bs c.value) c.args.length
/-- the error of a condition -/
def firstErr : List (Cd × Nat) → Int
  | [] => 0
  | p :: r => if partC p.1 = 0 then firstErr r else partC p.1
def checkC (c : Cd) : Int :=
  if 100 < cnt c then 4
  else if firstErr (prt 0 c) ≠ 0 then firstErr (prt 0 c)
  else if (prt 0 c).any (fun p => decide (20 < p.2)) = true then 4 else 0
end Go.Proofs.YtncagihilplliaaGreatDoor

namespace Go.Proofs.YtncagihilplliaaGreatDoor
open Go.RowKit

theorem data_nil (n : ByteArray) : (n.data = #[]) = (n.toList = []) := by rw [ByteArray.toList_eq, Array.toList_eq_nil_iff]
theorem kind8 {k : Int} (h1 : ¬ k < 1) (h2 : ¬ 8 < k) : k = 1 ∨ k = 2 ∨ k = 3 ∨ k = 4 ∨ k = 5 ∨ k = 6 ∨ k = 7 ∨ k = 8 := by omega
set_option maxRecDepth 100000 in
set_option maxHeartbeats 8000000 in
theorem partFault_any (k : Int) (n x : ByteArray) (A : Option Addr) (m cp : Nat) (w : World) (hg : GoodN w) (hn : n.size ≤ 2097152) (hx : x.size ≤ 2097152) (hm : m ≤ 100000000) :
    Calls Tryz.prog 130 #[.agg #[.int .i64 k, .string n, .string x, .slice A m cp]] w fun e w' => e = .returned (.int .i64 (partErr k (bs n) (bs x) m)) ∧ Ext w w' := by
  have hx0 : Ext w (w.alloc (.cells #[.int .i64 k, .string n, .string x, .slice A m cp] 61)) := (Ext.refl w).alloc _
  by_cases h1 : k < 1
  · have hp : partErr k (bs n) (bs x) m = 1 := by unfold partErr; rw [if_pos (.inl h1)]
    rw [hp]
    go_enter Tryz.func130, Tryz.ntmps130
    go_wp2
    go_ret
    exact ⟨rfl, hx0⟩
  by_cases h2 : 8 < k
  · have hp : partErr k (bs n) (bs x) m = 1 := by unfold partErr; rw [if_pos (.inr h2)]
    rw [hp]
    go_enter Tryz.func130, Tryz.ntmps130
    go_wp2
    go_ret
    exact ⟨rfl, hx0⟩
  have e6 : ((m : Int) != 1) = !decide (m = 1) := by
    by_cases h : m = 1
    · subst h; rfl
    · rw [decide_eq_false h, Bool.not_false, bne_iff_ne]; omega
  rcases kind8 h1 h2 with rfl | rfl | rfl | rfl | rfl | rfl | rfl | rfl
  all_goals clear h1 h2
  all_goals
    go_enter Tryz.func130, Tryz.ntmps130
    go_wp2_with (first
      | (go_at_call 24; refine (IsName_any _ _ hn).mono ?_; rintro e w' ⟨rfl, rfl⟩)
      | (go_at_call 26; refine (IsPath_any _ _ (hg.toGood.ext ((Ext.refl w).alloc _)) hn).mono ?_; rintro e w1 ⟨rfl, hx1⟩; (obtain ⟨hc1, hf1⟩ := hx1.cells); have hz1 := hx1.size)
      | (go_at_call 28; refine (IsValue_any _ _ hx).mono ?_; rintro e w' ⟨rfl, rfl⟩)
      | (go_at_call 37; refine (ParseRange_any _ _ (hg.ext ((Ext.refl w).alloc _)) hx).mono ?_; rintro e w1 ⟨B, c, rfl, _, _, hx1⟩))
  all_goals go_ret
  all_goals refine ⟨ret_int ?_, ?_⟩
  all_goals first | (simp [partErr, formBad, namedK, valuedK, data_nil, *]; done) | exact (Ext.refl w).alloc _ | exact Ext.trans ((Ext.refl w).alloc _) (by assumption) | exact (Ext.trans ((Ext.refl w).alloc _) (by assumption)).alloc _ | skip
theorem value_nil {x : ByteArray} (h : x.toList = []) : valueL (bs x) = true := by
  rw [ByteArray.toList_eq] at h
  rw [show bs x = [] from h]
  rfl
set_option maxRecDepth 100000 in
set_option maxHeartbeats 8000000 in
theorem partError_any (k : Int) (n x : ByteArray) (A : Option Addr) (m cp : Nat) (w : World) (hg : GoodN w) (hn : n.size ≤ 2097152) (hx : x.size ≤ 2097152) (hm : m ≤ 100000000) :
    Calls Tryz.prog 137 #[.agg #[.int .i64 k, .string n, .string x, .slice A m cp]] w fun e w' => e = .returned (.int .i64 (partErr k (bs n) (bs x) m)) ∧ Ext w w' := by
  have hr : ∀ W, Ext w W → Calls Tryz.prog 39 #[.string x] W (RangePost (parseR (bs x)) W) := fun W hW => by
    rw [← read_same]; exact ReadRange_any x W (hg.ext hW) hx
  have HR := Lib.hid hr
  clear hr
  by_cases h1 : k < 1 ∨ 8 < k
  · have hp : partErr k (bs n) (bs x) m = 1 := by unfold partErr; rw [if_pos h1]
    rw [hp]
    have e (z : Int) (h : k ≠ z) : (k == z) = false := beq_eq_false_iff_ne.2 h
    have e1 := e 1 (by omega); have e2 := e 2 (by omega); have e3 := e 3 (by omega); have e4 := e 4 (by omega); have e5 := e 5 (by omega); have e6 := e 6 (by omega); have e7 := e 7 (by omega); have e8 := e 8 (by omega)
    clear e h1 hp
    go_enter Tryz.func137, Tryz.ntmps137
    go_wp2
    go_ret
    exact ⟨rfl, (Ext.refl w).alloc _⟩
  have e6 : ((m : Int) != 1) = !decide (m = 1) := by
    by_cases h : m = 1
    · subst h; rfl
    · rw [decide_eq_false h, Bool.not_false, bne_iff_ne]; omega
  rcases kind8 (fun h => h1 (.inl h)) (fun h => h1 (.inr h)) with rfl | rfl | rfl | rfl | rfl | rfl | rfl | rfl
  all_goals clear h1
  all_goals
    go_enter Tryz.func137, Tryz.ntmps137
    go_wp2_with (first
      | (go_at_call 25; refine (NameOf_any _ _ hn).mono ?_; rintro e w1 ⟨rfl, hx1⟩; (obtain ⟨hc1, hf1⟩ := hx1.cells); have hz1 := hx1.size)
      | (go_at_call 27; refine (PathOf_any _ _ (hg.toGood.ext ((Ext.refl w).alloc _)) hn).mono ?_; rintro e w1 ⟨rfl, hx1⟩; (obtain ⟨hc1, hf1⟩ := hx1.cells); have hz1 := hx1.size)
      | (go_at_call 29; refine (ValueOf_any _ _ hx).mono ?_; rintro e w' ⟨rfl, rfl⟩)
      | (go_at_call 39; refine (HR.out _ (Ext.trans ((Ext.refl w).alloc _) (by assumption))).mono ?_; rintro e w2 ⟨B, c, rfl, _, _, hx2⟩))
  all_goals go_ret
  all_goals refine ⟨ret_int ?_, ?_⟩
  all_goals first | (simp [partErr, formBad, namedK, valuedK, data_nil, *]; done) | exact (Ext.refl w).alloc _ | exact Ext.trans ((Ext.refl w).alloc _) (by assumption) | exact (Ext.trans (Ext.trans ((Ext.refl w).alloc _) (by assumption)) (by assumption)).alloc _ | (exfalso; have hv := value_nil (by assumption); simp_all; done) | skip
end Go.Proofs.YtncagihilplliaaGreatDoor
