/- The condition reader of the reference in memory: 'is', 'next'. Contract of the reference's reading of one condition, given what it calls. (Printed by gen/cndq.py.) The small map of outref2's group: made, asked. Contract of the reference's reading of conditions in brackets, given what it calls. (Printed by gen/cnds.py.) Contract of the reference's reading of conditions, all levels; plain: the parts of a condition, their errors. Contracts of ver.partFault and outref2.partError. A world of which some blocks alone were written. Contracts of ver.walk and outref2.CondParts, for whatever visits the parts. -/
import Derived.Test.YtghhjlcbcojcnaaGreatDoorRn20
import Derived.Deep.DeepCutAuto
import Derived.MapKept
import Derived.Deep.AppendLies
import Derived.Deep.RegionLaw
import Derived.Test.YtghhjlcbcojcnaaGreatDoorRn08
import Derived.Test.YtghhjlcbcojcnaaGreatDoorRn13
import Derived.Test.YtghhjlcbcojcnaaGreatDoorRn14
import Derived.Test.YtghhjlcbcojcnaaGreatDoorRn01

namespace Go.Proofs.YtghhjlcbcojcnaaGreatDoor
open Go.RowKit

/-- the words, from a block's head on -/
structure WdsAt (w : World) (b : Nat) (W : List Wd) : Prop where
  lt : b < w.heap.size
  c0 : ∀ j (h : j < W.length), w.cell? ⟨b, j * 4, none⟩ = some (.string W[j].t)
  c1 : ∀ j (h : j < W.length), w.cell? ⟨b, j * 4 + 1, none⟩ = some (.int .u8 W[j].k.toNat)
  c2 : ∀ j (h : j < W.length), w.cell? ⟨b, j * 4 + 2, none⟩ = some (.int .i64 W[j].a)
  c3 : ∀ j (h : j < W.length), w.cell? ⟨b, j * 4 + 3, none⟩ = some (.string W[j].v)
theorem WdsAt.ext {w w' : World} {b : Nat} {W : List Wd} (h : WdsAt w b W) (hx : Ext w w') : WdsAt w' b W :=
  ⟨Nat.lt_of_lt_of_le h.lt hx.size, fun j hj => hx.cell (h.c0 j hj), fun j hj => hx.cell (h.c1 j hj), fun j hj => hx.cell (h.c2 j hj), fun j hj => hx.cell (h.c3 j hj)⟩
theorem WdsAt.far {w : World} {b : Nat} {W : List Wd} (h : WdsAt w b W) {p : Addr} (hp : b ≠ p.block) (u : Value) : WdsAt (w.setCell p u) b W :=
  ⟨by have := h.lt; simpa [World.setCell] using this, fun j hj => cell_set_far hp (h.c0 j hj), fun j hj => cell_set_far hp (h.c1 j hj), fun j hj => cell_set_far hp (h.c2 j hj), fun j hj => cell_set_far hp (h.c3 j hj)⟩
/-- the reader -/
structure RdR (w : World) (g b : Nat) (W : List Wd) (τ : Rs) : Prop where
  ne : b ≠ g
  wds : WdsAt w b W
  rd : ∃ j cp, j < W.length ∧ τ.l = W.drop j ∧ W.length - j ≤ cp ∧ Blk w g 171 #[.slice (some ⟨b, j * 4, none⟩) (W.length - j) cp, .int .i64 τ.bad]
namespace RdR
variable {w w' : World} {g b : Nat} {W : List Wd} {τ : Rs}
theorem suf (h : RdR w g b W τ) : SufR W τ := by
  obtain ⟨j, cp, hj, hl, _⟩ := h.rd
  exact ⟨j, hj, hl⟩
theorem lt (h : RdR w g b W τ) : g < w.heap.size := by
  obtain ⟨j, cp, hj, hl, _, hb⟩ := h.rd
  exact hb.lt
theorem ext (h : RdR w g b W τ) (hx : Ext w w') : RdR w' g b W τ := by
  obtain ⟨j, cp, hj, hl, hc, hb⟩ := h.rd
  exact ⟨h.ne, h.wds.ext hx, j, cp, hj, hl, hc, hb.ext hx⟩
theorem alloc (h : RdR w g b W τ) (o : Obj) : RdR (w.alloc o) g b W τ := h.ext ((Ext.refl w).alloc o)
theorem far (h : RdR w g b W τ) {p : Addr} (hp : g ≠ p.block) (hp2 : b ≠ p.block) (u : Value) : RdR (w.setCell p u) g b W τ := by
  obtain ⟨j, cp, hj, hl, hc, hb⟩ := h.rd
  exact ⟨h.ne, h.wds.far hp2 u, j, cp, hj, hl, hc, hb.far hp u⟩
/-- the reader's cells, and the next word's -/
theorem opened (h : RdR w g b W τ) : ∃ j cp m, j < W.length ∧ τ.l = W.drop j ∧ W.length - j = m ∧ 0 < m ∧ m ≤ cp ∧ Blk w g 171 #[.slice (some ⟨b, j * 4, none⟩) m cp, .int .i64 τ.bad] ∧
    w.cell? ⟨b, j * 4, none⟩ = some (.string τ.hd.t) ∧ w.cell? ⟨b, j * 4 + 1, none⟩ = some (.int .u8 τ.hd.k.toNat) ∧ w.cell? ⟨b, j * 4 + 2, none⟩ = some (.int .i64 τ.hd.a) ∧ w.cell? ⟨b, j * 4 + 3, none⟩ = some (.string τ.hd.v) := by
  obtain ⟨j, cp, hj, hl, hc, hb⟩ := h.rd
  have hh : τ.hd = W[j] := by
    unfold Rs.hd
    rw [hl, List.drop_eq_getElem_cons hj]
    rfl
  rw [hh]
  exact ⟨j, cp, _, hj, hl, rfl, by omega, hc, hb, h.wds.c0 j hj, h.wds.c1 j hj, h.wds.c2 j hj, h.wds.c3 j hj⟩
end RdR
end Go.Proofs.YtghhjlcbcojcnaaGreatDoor

namespace Go.Proofs.YtghhjlcbcojcnaaGreatDoor
open Go.RowKit

end Go.Proofs.YtghhjlcbcojcnaaGreatDoor

namespace Go.Proofs.YtghhjlcbcojcnaaGreatDoor
open Go.RowKit

abbrev eAnd : MapEntry := ⟨.string ⟨#[97, 110, 100]⟩, .int .i64 7, 0⟩
abbrev eOr : MapEntry := ⟨.string ⟨#[111, 114]⟩, .int .i64 8, 1⟩
/-- the map of the two kinds -/
def KindMap (w : World) (b : Nat) : Prop := w.heap[b]? = some (.map #[eAnd, eOr] 2)
theorem KindMap.lt {w : World} {b : Nat} (h : KindMap w b) : b < w.heap.size := (Array.getElem?_eq_some_iff.1 h).1
theorem KindMap.ext {b : Nat} {w w' : World} (h : KindMap w b) (hx : Ext w w') : KindMap w' b := (hx.block b h.lt).trans h
theorem KindMap.alloc {b : Nat} {w : World} (h : KindMap w b) (o : Obj) : KindMap (w.alloc o) b := h.ext ((Ext.refl w).alloc o)
theorem KindMap.far {b : Nat} {w : World} (h : KindMap w b) {p : Addr} (hp : b ≠ p.block) (u : Value) : KindMap (w.setCell p u) b := (Below.heap_setCell w p u b hp).trans h
end Go.Proofs.YtghhjlcbcojcnaaGreatDoor

namespace Go.Proofs.YtghhjlcbcojcnaaGreatDoor
open Go.RowKit

end Go.Proofs.YtghhjlcbcojcnaaGreatDoor

namespace Go.Proofs.YtghhjlcbcojcnaaGreatDoor
open Go.RowKit

/-! ### The parts of a condition -/
def Cd.kind : Cd → Int | .mk k _ _ _ => k
def Cd.name : Cd → ByteArray | .mk _ n _ _ => n
def Cd.value : Cd → ByteArray | .mk _ _ x _ => x
def Cd.args : Cd → List Cd | .mk _ _ _ l => l
mutual
/-- how many parts -/
def cnt : Cd → Nat | .mk _ _ _ l => 1 + cnts l
def cnts : List Cd → Nat | [] => 0 | c :: l => cnt c + cnts l
end
mutual
/-- the parts, the outer ones first, with their levels -/
def prt (lev : Nat) : Cd → List (Cd × Nat) | .mk k n x l => (.mk k n x l, lev) :: prts (lev + 1) l
def prts (lev : Nat) : List Cd → List (Cd × Nat) | [] => [] | c :: l => prt lev c ++ prts lev l
end
theorem cnt_pos (c : Cd) : 0 < cnt c := by cases c; unfold cnt; omega
mutual
theorem prt_len (lev : Nat) : ∀ c : Cd, (prt lev c).length = cnt c
  | .mk k n x l => by unfold prt cnt; rw [List.length_cons, prts_len (lev + 1) l]; omega
theorem prts_len (lev : Nat) : ∀ l : List Cd, (prts lev l).length = cnts l
  | [] => rfl
  | c :: l => by unfold prts cnts; rw [List.length_append, prt_len lev c, prts_len lev l]
end
theorem prts_append (lev : Nat) (a b : List Cd) : prts lev (a ++ b) = prts lev a ++ prts lev b := by
  induction a with
  | nil => simp [prts]
  | cons x r ih => simp only [List.cons_append, prts, ih, List.append_assoc]
/-- what the walks need: texts of a bearable size, lists too -/
inductive SmallC : Cd → Prop where
  | mk (k : Int) (n x : ByteArray) (l : List Cd) (hn : n.size ≤ 2097152) (hx : x.size ≤ 2097152) (hl : l.length ≤ 100000000) (hr : ∀ c ∈ l, SmallC c) : SmallC (.mk k n x l)

/-! ### The error of a part -/
def namedK (k : Int) : Bool := decide (2 ≤ k) && decide (k ≤ 5)
def valuedK (k : Int) : Bool := namedK k && !decide (k = 4)
def formBad (k : Int) (n x : Str) (m : Nat) : Bool :=
  (!namedK k && !n.isEmpty) || (!valuedK k && !x.isEmpty) || (!decide (6 ≤ k) && decide (0 < m)) || (decide (k = 6) && !decide (m = 1))
def partErr (k : Int) (n x : Str) (m : Nat) : Int :=
  if k < 1 ∨ 8 < k then 1
  else if formBad k n x m = true then 2
  else if namedK k = false then 0
  else if (!(if k = 3 ∨ k = 4 then pathL n else nameL n)) = true then 5
  else if (!valueL x) = true then 2
  else if k = 5 then (parseR x).2 else 0
def partC (c : Cd) : Int := partErr c.kind (bs c.name) (bs c.value) c.args.length
/-- the error of a condition -/
def firstErr : List (Cd × Nat) → Int
  | [] => 0
  | p :: r => if partC p.1 = 0 then firstErr r else partC p.1
def checkC (c : Cd) : Int :=
  if 100 < cnt c then 4
  else if firstErr (prt 0 c) ≠ 0 then firstErr (prt 0 c)
  else if (prt 0 c).any (fun p => decide (20 < p.2)) = true then 4 else 0
end Go.Proofs.YtghhjlcbcojcnaaGreatDoor

namespace Go.Proofs.YtghhjlcbcojcnaaGreatDoor
open Go.RowKit

theorem data_nil (n : ByteArray) : (n.data = #[]) = (n.toList = []) := by rw [ByteArray.toList_eq, Array.toList_eq_nil_iff]
theorem kind8 {k : Int} (h1 : ¬ k < 1) (h2 : ¬ 8 < k) : k = 1 ∨ k = 2 ∨ k = 3 ∨ k = 4 ∨ k = 5 ∨ k = 6 ∨ k = 7 ∨ k = 8 := by omega
set_option maxRecDepth 100000 in
set_option maxHeartbeats 8000000 in
theorem partFault_any (k : Int) (n x : ByteArray) (A : Option Addr) (m cp : Nat) (w : World) (hg : GoodN w) (hn : n.size ≤ 2097152) (hx : x.size ≤ 2097152) (hm : m ≤ 100000000) :
    Calls Tryz.prog 187 #[.agg #[.int .i64 k, .string n, .string x, .slice A m cp]] w fun e w' => e = .returned (.int .i64 (partErr k (bs n) (bs x) m)) ∧ Ext w w' := by
  have hx0 : Ext w (w.alloc (.cells #[.int .i64 k, .string n, .string x, .slice A m cp] 61)) := (Ext.refl w).alloc _
  by_cases h1 : k < 1
  · have hp : partErr k (bs n) (bs x) m = 1 := by unfold partErr; rw [if_pos (.inl h1)]
    rw [hp]
    go_enter Tryz.func187, Tryz.ntmps187
    go_wp2
    go_ret
    exact ⟨rfl, hx0⟩
  by_cases h2 : 8 < k
  · have hp : partErr k (bs n) (bs x) m = 1 := by unfold partErr; rw [if_pos (.inr h2)]
    rw [hp]
    go_enter Tryz.func187, Tryz.ntmps187
    go_wp2
    go_ret
    exact ⟨rfl, hx0⟩
  have e6 : ((m : Int) != 1) = !decide (m = 1) := by
    by_cases h : m = 1
    · subst h; rfl
    · rw [decide_eq_false h, Bool.not_false, bne_iff_ne]; omega
  rcases kind8 h1 h2 with rfl | rfl | rfl | rfl | rfl | rfl | rfl | rfl
  all_goals clear h1 h2
  all_goals
    go_enter Tryz.func187, Tryz.ntmps187
    go_wp2_with (first
      | (go_at_call 29; refine (IsName_any _ _ hn).mono ?_; rintro e w' ⟨rfl, rfl⟩)
      | (go_at_call 31; refine (IsPath_any _ _ (hg.toGood.ext ((Ext.refl w).alloc _)) hn).mono ?_; rintro e w1 ⟨rfl, hx1⟩; (obtain ⟨hc1, hf1⟩ := hx1.cells); have hz1 := hx1.size)
      | (go_at_call 33; refine (IsValue_any _ _ hx).mono ?_; rintro e w' ⟨rfl, rfl⟩)
      | (go_at_call 42; refine (ParseRange_any _ _ (hg.ext ((Ext.refl w).alloc _)) hx).mono ?_; rintro e w1 ⟨B, c, rfl, _, _, hx1⟩))
  all_goals go_ret
  all_goals refine ⟨ret_int ?_, ?_⟩
  all_goals first | (simp [partErr, formBad, namedK, valuedK, data_nil, *]; done) | exact (Ext.refl w).alloc _ | exact Ext.trans ((Ext.refl w).alloc _) (by assumption) | exact (Ext.trans ((Ext.refl w).alloc _) (by assumption)).alloc _ | skip
end Go.Proofs.YtghhjlcbcojcnaaGreatDoor

namespace Go.Proofs.YtghhjlcbcojcnaaGreatDoor
open Go.RowKit

/-! ### A world of which some blocks alone were written -/
structure ExtC (C : Nat → Prop) (w w' : World) : Prop where
  os : w'.os = w.os
  tape : w'.tape = w.tape
  output : w'.output = w.output
  size : w.heap.size ≤ w'.heap.size
  block : ∀ k, k < w.heap.size → ¬ C k → w'.heap[k]? = w.heap[k]?
namespace ExtC
variable {C : Nat → Prop} {a b c w w' : World}
theorem refl (C : Nat → Prop) (w : World) : ExtC C w w := ⟨rfl, rfl, rfl, Nat.le_refl _, fun _ _ _ => rfl⟩
theorem ofExt (h : Ext a b) : ExtC C a b := ⟨h.os, h.tape, h.output, h.size, fun k hk _ => h.block k hk⟩
theorem trans (h : ExtC C a b) (k : ExtC C b c) : ExtC C a c :=
  ⟨k.os.trans h.os, k.tape.trans h.tape, k.output.trans h.output, Nat.le_trans h.size k.size, fun i hi hg => (k.block i (Nat.lt_of_lt_of_le hi h.size) hg).trans (h.block i hi hg)⟩
theorem alloc (h : ExtC C a w) (o : Obj) : ExtC C a (w.alloc o) := h.trans (ofExt ((Ext.refl w).alloc o))
theorem set (h : ExtC C a w) {p : Addr} (hp : C p.block ∨ a.heap.size ≤ p.block) (u : Value) : ExtC C a (w.setCell p u) :=
  ⟨h.os, h.tape, h.output, by have := h.size; simpa [World.setCell] using this, fun k hk hg => by
    refine Eq.trans ?_ (h.block k hk hg)
    simp only [World.setCell, Array.getElem?_modify]
    rw [if_neg]
    rintro rfl
    rcases hp with h1 | h1
    · exact hg h1
    · omega⟩
theorem ext (h : Ext a w) (k : ExtC C w w') (hC : ∀ i, C i → a.heap.size ≤ i) : Ext a w' :=
  ⟨k.os.trans h.os, k.tape.trans h.tape, k.output.trans h.output, Nat.le_trans h.size k.size, fun i hi => (k.block i (Nat.lt_of_lt_of_le hi h.size) (fun hc => by have := hC i hc; omega)).trans (h.block i hi)⟩
theorem cell (h : ExtC C a b) {k o : Nat} {v : Value} (hk : ¬ C k) (hc : a.cell? ⟨k, o, none⟩ = some v) : b.cell? ⟨k, o, none⟩ = some v := by
  have hl := lt_of_cell hc
  unfold World.cell? at hc ⊢
  rw [h.block k hl hk]
  exact hc
end ExtC
theorem Blk.extC {C : Nat → Prop} {w w' : World} {k : Nat} {t : TypeId} {cs : Array Value} (h : Blk w k t cs) (hx : ExtC C w w') (hk : ¬ C k) : Blk w' k t cs := (hx.block k h.lt hk).trans h
end Go.Proofs.YtghhjlcbcojcnaaGreatDoor

namespace Go.Proofs.YtghhjlcbcojcnaaGreatDoor
open Go.RowKit

theorem CdIn.extC {C P : Nat → Prop} {w w' : World} {c : Cd} {v : Value} (h : CdIn P w c v) (hx : ExtC C w w') (hp : ∀ k, P k → ¬ C k) : CdIn P w' c v := h.keep fun b _ _ hb e => hx.cell (hp b hb) e

/-! ### What a visit of all parts computes -/
def runP {α : Type} (step : Cd → Nat → α → α × Bool) : List (Cd × Nat) → α → α × Bool
  | [], st => (st, true)
  | p :: r, st => if (step p.1 p.2 st).2 = true then runP step r (step p.1 p.2 st).1 else ((step p.1 p.2 st).1, false)
theorem runP_append {α : Type} (step : Cd → Nat → α → α × Bool) (b : List (Cd × Nat)) : ∀ (a : List (Cd × Nat)) (st : α), runP step (a ++ b) st = if (runP step a st).2 = true then runP step b (runP step a st).1 else ((runP step a st).1, false)
  | [], st => by simp [runP]
  | p :: r, st => by
    simp only [List.cons_append, runP]
    by_cases h : (step p.1 p.2 st).2 = true
    · simp only [if_pos h, runP_append step b r]
    · simp only [if_neg h]
      simp
theorem runP_stop {α : Type} (step : Cd → Nat → α → α × Bool) (lev : Nat) (l : List Cd) (j : Nat) (h : j < l.length) {st s1 s2 : α} (h1 : runP step (prts lev (l.take j)) st = (s1, true)) (h2 : runP step (prt lev l[j]) s1 = (s2, false)) : runP step (prts lev l) st = (s2, false) := by
  have e : prts lev l = (prts lev (l.take j) ++ prt lev l[j]) ++ prts lev (l.drop (j + 1)) := by
    rw [List.append_assoc]
    conv => lhs; rw [← List.take_append_drop j l, prts_append, List.drop_eq_getElem_cons h]
    rfl
  rw [e, runP_append, runP_append, h1]
  simp [h2]
theorem runP_next {α : Type} (step : Cd → Nat → α → α × Bool) (lev : Nat) (l : List Cd) (j : Nat) (h : j < l.length) {st s1 s2 : α} (h1 : runP step (prts lev (l.take j)) st = (s1, true)) (h2 : runP step (prt lev l[j]) s1 = (s2, true)) : runP step (prts lev (l.take (j + 1))) st = (s2, true) := by
  have e : prts lev (l.take (j + 1)) = prts lev (l.take j) ++ prt lev l[j] := by
    rw [List.take_succ_eq_append_getElem h, prts_append]
    simp [prts]
  rw [e, runP_append, h1]
  simp [h2]
theorem cnts_at : ∀ (l : List Cd) (j : Nat) (h : j < l.length), cnt l[j] ≤ cnts l
  | c :: l, 0, _ => by simp only [cnts, List.getElem_cons_zero]; omega
  | c :: l, j + 1, h => by
    have := cnts_at l j (by simpa using h)
    simp only [cnts, List.getElem_cons_succ]
    omega
theorem cnts_len : ∀ (l : List Cd), l.length ≤ cnts l
  | [] => Nat.le_refl _
  | c :: l => by
    have := cnts_len l
    have := cnt_pos c
    simp only [cnts, List.length_cons]
    omega

set_option maxRecDepth 100000 in
set_option maxHeartbeats 8000000 in
theorem walk_any {α : Type} (f : FuncId) (caps : Array Value) (hen : ∀ xs w, Sem.run Tryz.prog (callFunc f xs) w = .ok (.enter f xs) w) (P C : Nat → Prop) (B : Nat) (Inv : α → World → Prop) (step : Cd → Nat → α → α × Bool)
    (hal : ∀ st w w', Inv st w → Ext w w' → Inv st w') (hC : ∀ k, C k → k < B) (hB : ∀ st w, Inv st w → B ≤ w.heap.size) (hP : ∀ k, P k → ¬ C k)
    (hf : ∀ c v (lev : Nat) st w, lev ≤ 1000000000 → SmallC c → CdIn P w c v → Inv st w → Calls Tryz.prog f (#[v, .int .i64 lev] ++ caps) w fun e w' => e = .returned (.bool (step c lev st).2) ∧ Inv (step c lev st).1 w' ∧ ExtC C w w') :
    ∀ (N : Nat) (c : Cd), cnt c ≤ N → ∀ (lev : Nat) (v : Value) (st : α) (w : World), lev + N ≤ 1000000000 → SmallC c → CdIn P w c v → Inv st w →
      Calls Tryz.prog 184 #[v, .int .i64 lev, .func (.func f) #[] caps] w fun e w' => e = .returned (.bool (runP step (prt lev c) st).2) ∧ Inv (runP step (prt lev c) st).1 w' ∧ ExtC C w w' := by
  intro N
  induction N with
  | zero => intro c hc; have := cnt_pos c; omega
  | succ N ih =>
    intro c hc lev v st w hlev hsm hcd hinv
    have hc0 := hcd
    cases hcd with
    | mk k n x l A cp b o u0 u1 u2 u3 hA hb h0 h1 h2 h3 hr =>
      obtain ⟨_, _, _, _, hsn, hsx, hsl, hsr⟩ := hsm
      have hnw : w.heap.size ≤ w.heap.size := Nat.le_refl _
      have hBw := hB _ _ hinv
      have hnC : ¬ C w.heap.size := fun h => by have := hC _ h; omega
      have hxb : Ext w (w.alloc (.cells #[.int .i64 k, .string n, .string x, .slice A l.length cp] 61)) := (Ext.refl w).alloc _
      have hfb := hf (.mk k n x l) _ lev st _ (by omega) ⟨k, n, x, l, hsn, hsx, hsl, hsr⟩ (hc0.ext hxb) (hal _ _ _ hinv hxb)
      have bx := Blk.new w 61 #[.int .i64 k, .string n, .string x, .slice A l.length cp]
      have hrun : runP step (prt lev (.mk k n x l)) st = (if (step (.mk k n x l) lev st).2 = true then runP step (prts (lev + 1) l) (step (.mk k n x l) lev st).1 else ((step (.mk k n x l) lev st).1, false)) := rfl
      rw [hrun]
      have hcl : cnts l ≤ N := by unfold cnt at hc; omega
      have hlw : IntKind.i64.wrap ((lev : Int) + 1) = (lev : Int) + 1 := by rw [IntKind.wrap_i64]; omega
      have hll := cnts_len l
      skip
      generalize step (.mk k n x l) lev st = S at *
      obtain ⟨st1, ok⟩ := S
      dsimp only at hfb ⊢
      have HF := Lib.hid hfb
      have HEN := hen
      clear hfb hrun hc hinv
      cases ok
      · go_enter Tryz.func184, Tryz.ntmps184
        go_wp2_with fail
        refine HF.out.mono ?_
        rintro e w1 ⟨rfl, hinv1, hx1⟩
        go_wp2
        go_ret
        exact ⟨rfl, hinv1, (ExtC.ofExt hxb).trans hx1⟩
      obtain ⟨R, hR⟩ : ∃ R, runP step (prts (lev + 1) l) st1 = R := ⟨_, rfl⟩
      rw [if_pos rfl, hR]
      have HR := Lib.hid hR
      have HIHs := Lib.hid ih
      have HSR := Lib.hid hsr
      have HH0 := Lib.hid h0; have HH1 := Lib.hid h1; have HH2 := Lib.hid h2; have HH3 := Lib.hid h3; have HHR := Lib.hid hr
      have HB := Lib.hid hB; have HP := Lib.hid hP; have HA := Lib.hid hA; have HBB := Lib.hid hb; have HAL := Lib.hid hal
      clear hR ih hf h0 h1 h2 h3 hr hsr hB hP hA hb hc0 hal
      go_enter Tryz.func184, Tryz.ntmps184
      go_wp2_with fail
      refine HF.out.mono ?_
      rintro e w1 ⟨rfl, hinv1, hx1⟩
      have bx1 := bx.extC hx1 hnC
      have bc := bx1.cell; have bf := bx1.free; have bz := bx1.lt
      have hxa := (ExtC.ofExt hxb).trans hx1
      clear bx
      go_wp2
      go_loopw [17] (fun t wr => ∃ (j : Nat) (sj : α), t = .int .i64 j ∧ j ≤ l.length ∧ Inv sj wr ∧ ExtC C w wr ∧ runP step (prts (lev + 1) (l.take j)) st1 = (sj, true)) (fun t _ => l.length - (intOf t).toNat)
      case atStart => exact ⟨0, st1, by go_num, Nat.zero_le _, hinv1, hxa, rfl⟩
      case round =>
        obtain ⟨j, sj, rfl, hj, hinvr, hxr, hdone⟩ := hrel
        have HXR := Lib.hid hxr
        clear bc bf bz bx1 hx1 hinv1 HF hxa
        by_cases hlt : j < l.length
        · obtain rfl := HA.out (by omega)
          have hPb := HBB.out (by omega)
          have hnb := HP.out b hPb
          have g0 := hxr.cell hnb (HH0.out j hlt)
          have g1 := hxr.cell hnb (HH1.out j hlt)
          have g2 := hxr.cell hnb (HH2.out j hlt)
          have g3 := hxr.cell hnb (HH3.out j hlt)
          have hcj := HHR.out j hlt
          obtain ⟨ck, cn, cx, cA, cm, ccp, hcc⟩ := hcj.cells
          have hcc2 := hcc
          simp only [Value.agg.injEq, Array.mk.injEq, List.cons.injEq, and_true] at hcc2
          obtain ⟨q0, q1, q2, q3⟩ := hcc2
          rw [hcc] at hcj
          rw [q0] at g0; rw [q1] at g1; rw [q2] at g2; rw [q3] at g3
          clear hcc q0 q1 q2 q3
          have hxc : Ext wr (wr.alloc (.cells #[.int .i64 ck, .string cn, .string cx, .slice cA cm ccp] 61)) := (Ext.refl wr).alloc _
          have hih := HIHs.out l[j] (Nat.le_trans (cnts_at l j hlt) hcl) (lev + 1) _ sj _ (by omega) (HSR.out _ (List.getElem_mem hlt)) ((hcj.extC hxr HP.out).ext hxc) (HAL.out _ _ _ hinvr hxc)
          rw [show ((lev + 1 : Nat) : Int) = (lev : Int) + 1 by omega] at hih
          generalize hs2 : runP step (prt (lev + 1) l[j]) sj = S2 at *
          have hq0 : (0 : Int) ≤ (j : Int) := by omega
          clear hxr hxc hcj
          obtain ⟨s2, ok2⟩ := S2
          dsimp only at hih
          have HIH := Lib.hid hih
          cases ok2
          · have hfin := runP_stop step (lev + 1) l j hlt hdone hs2
            rw [HR.out] at hfin
            subst hfin
            clear hdone hs2 hih
            go_wp2_with fail
            refine HIH.out.mono ?_
            rintro e w3 ⟨rfl, hinv3, hx3⟩
            go_wp2
            go_ret
            exact ⟨rfl, hinv3, (HXR.out.trans (ExtC.ofExt ((Ext.refl wr).alloc _))).trans hx3⟩
          · have hnx := runP_next step (lev + 1) l j hlt hdone hs2
            have HNX := Lib.hid hnx
            clear hdone hs2 hnx hih
            go_wp2_with fail
            refine HIH.out.mono ?_
            rintro e w3 ⟨rfl, hinv3, hx3⟩
            go_wp2
            go_roundw
            case rel => exact ⟨j + 1, s2, by go_num, hlt, hinv3, (HXR.out.trans (ExtC.ofExt ((Ext.refl wr).alloc _))).trans hx3, HNX.out⟩
            case measure => simp [intOf]; omega
        · have hjl : l.take j = l := List.take_of_length_le (by omega)
          rw [hjl, HR.out] at hdone
          subst hdone
          go_wp2
          go_ret
          exact ⟨rfl, hinvr, HXR.out⟩
end Go.Proofs.YtghhjlcbcojcnaaGreatDoor
