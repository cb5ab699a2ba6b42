/- Rules compared; a right rule's text is read back; the set's example (migrates). Contracts of ver.quotedAt, ver.isBlank, ver.kindOf. The condition reader of the program in memory: its state; 'is', 'fail'. The condition reader of the program: 'advance'. The condition reader of the program: 'take'. Plain law: the program's reading of a condition, as it runs; its places only go on. Plain law: the program's reading of a condition goes on, and its loop ends. A condition in memory. Contract of the program's reading of one condition, given what it calls. (Printed by gen/cndh.py.) Contract of the program's reading of conditions in brackets, given what it calls. (Printed by gen/cndi.py.) Plain law: the reference's words of a condition's text, its reading as it runs, and the program's states that fit it. Plain law: the program's and the reference's reading of a condition answer alike. The condition reader of the reference in memory: 'is', 'next'. Contract of the reference's reading of one condition, given what it calls. (Printed by gen/cndq.py.) The small map of outref2's group: made, asked. Contract of the reference's reading of conditions in brackets, given what it calls. (Printed by gen/cnds.py.) Contract of the reference's reading of conditions, all levels; plain: the parts of a condition, their errors. Contracts of ver.partFault and outref2.partError. A world of which some blocks alone were written. -/
import Derived.Test.YtghhjlcbcojcnaaGreatDoorMt18
import Derived.Test.YtghhjlcbcojcnaaGreatDoorMt14
import Derived.Test.YtghhjlcbcojcnaaGreatDoorMt03
import Derived.Test.YtghhjlcbcojcnaaGreatDoorMt10
import Derived.Deep.DeepCutAuto
import Derived.Deep.AppendLies
import Derived.Deep.RegionHeld3
import Derived.Deep.RegionLaw
import Derived.MapKept
import Derived.Test.YtghhjlcbcojcnaaGreatDoorMt08
import Derived.Test.YtghhjlcbcojcnaaGreatDoorMt12
import Derived.Test.YtghhjlcbcojcnaaGreatDoorMt01

namespace Go.Proofs.YtghhjlcbcojcnaaGreatDoor
open Go.RowKit

/-! ### Rules compared -/
theorem run_eqr (k : Int) (a b c d : ByteArray) (w : World) : (Op.equalIn 10000 23 (.agg #[.int .i64 k, .string a, .string b, .string c, .string d]) (.agg #[.int .i64 k, .string a, .string b, .string c, .string d])).run Tryz.prog w = .ok true w := by
  rw [run_equalIn_agg w 9999 23 _ _ (by kernel_rfl) (by kernel_rfl)]
  go_simp
theorem run_eqlr (k : Int) (a b c d : ByteArray) (w : World) : (binOp .eql 23 (.agg #[.int .i64 k, .string a, .string b, .string c, .string d]) (.agg #[.int .i64 k, .string a, .string b, .string c, .string d])).run Tryz.prog w = .ok (.bool true) w := by
  rw [run_eql_struct, run_eqr]
  rfl
/-! ### The text of a right rule is short, and is read back -/
theorem parse_ruText {r : Ru} (h : ruErr r = 0) (hl : (ruText r).length ≤ 4000) : parseRu (ruText r) = (r, 0) := by
  rw [parse_stage (by omega), cand_text (shape_of h)]
  dsimp only
  rw [if_neg (by rw [h]; decide)]
/-! ### The set's own example -/
theorem drop_ok : parseRu [100, 114, 111, 112, 32, 97, 47, 98] = (⟨6, [97, 47, 98], [], [], []⟩, 0) := by
  have h : ruErr ⟨6, [97, 47, 98], [], [], []⟩ = 0 := by decide
  exact parse_ruText (r := ⟨6, [97, 47, 98], [], [], []⟩) h (by decide)
set_option maxRecDepth 100000 in
set_option maxHeartbeats 4000000 in
theorem migrates_any (w : World) (hg : Good w) : Calls Tryz.prog 16 #[] w fun e w' => e = .returned (.bool true) ∧ Ext w w' := by
  have hp := fun W (h : Ext w W) => ParseRule_any ⟨#[100, 114, 111, 112, 32, 97, 47, 98]⟩ W (hg.ext h) (by decide)
  rw [show bs (⟨#[100, 114, 111, 112, 32, 97, 47, 98]⟩ : ByteArray) = [100, 114, 111, 112, 32, 97, 47, 98] from rfl, drop_ok] at hp
  have hq := run_eqlr 6 ⟨#[97, 47, 98]⟩ ⟨#[]⟩ ⟨#[]⟩ ⟨#[]⟩
  go_enter Tryz.func16, Tryz.ntmps16
  go_wp2_with fail
  refine (hp _ (by repeat (first | with_reducible exact Ext.refl _ | with_reducible assumption | with_reducible apply Ext.drewN | with_reducible apply Ext.drew | with_reducible apply Ext.alloc | exact Ext.refl _ | assumption | apply Ext.drewN | apply Ext.drew | apply Ext.alloc))).mono ?_
  rintro e w1 ⟨rfl, hx1⟩
  clear hp
  go_wp2
  go_ret
  exact ⟨rfl, (by repeat (first | with_reducible exact Ext.refl _ | with_reducible assumption | with_reducible apply Ext.drewN | with_reducible apply Ext.drew | with_reducible apply Ext.alloc | ((with_reducible refine Ext.setCell ?_ ?_ _); rotate_left; (first | (dsimp only; omega) | (simp; omega) | skip)) | exact Ext.refl _ | assumption | apply Ext.drewN | apply Ext.drew | apply Ext.alloc | refine Ext.setCell ?_ (by first | (dsimp only; omega) | (simp; omega)) _))⟩
end Go.Proofs.YtghhjlcbcojcnaaGreatDoor

namespace Go.Proofs.YtghhjlcbcojcnaaGreatDoor
open Go.RowKit

end Go.Proofs.YtghhjlcbcojcnaaGreatDoor

namespace Go.Proofs.YtghhjlcbcojcnaaGreatDoor
open Go.RowKit

/-! ### A world of which one block alone was written -/
structure ExtX (g : Nat) (w w' : World) : Prop where
  os : w'.os = w.os
  tape : w'.tape = w.tape
  output : w'.output = w.output
  size : w.heap.size ≤ w'.heap.size
  block : ∀ k, k < w.heap.size → k ≠ g → w'.heap[k]? = w.heap[k]?
namespace ExtX
variable {g : Nat} {a b c w w' : World}
theorem refl (g : Nat) (w : World) : ExtX g w w := ⟨rfl, rfl, rfl, Nat.le_refl _, fun _ _ _ => rfl⟩
theorem ofExt (h : Ext a b) : ExtX g a b := ⟨h.os, h.tape, h.output, h.size, fun k hk _ => h.block k hk⟩
theorem trans (h : ExtX g a b) (k : ExtX g b c) : ExtX g a c :=
  ⟨k.os.trans h.os, k.tape.trans h.tape, k.output.trans h.output, Nat.le_trans h.size k.size, fun i hi hg => (k.block i (Nat.lt_of_lt_of_le hi h.size) hg).trans (h.block i hi hg)⟩
theorem alloc (h : ExtX g a w) (o : Obj) : ExtX g a (w.alloc o) := h.trans (ofExt ((Ext.refl w).alloc o))
theorem drew (h : ExtX g a w) : ExtX g a w.drew := h.trans (ofExt ((Ext.refl w).drew))
theorem ext (h : Ext a w) (k : ExtX g w w') (hg : a.heap.size ≤ g) : Ext a w' :=
  ⟨k.os.trans h.os, k.tape.trans h.tape, k.output.trans h.output, Nat.le_trans h.size k.size, fun i hi => (k.block i (Nat.lt_of_lt_of_le hi h.size) (by omega)).trans (h.block i hi)⟩
theorem cell (h : ExtX g a b) {k o : Nat} {v : Value} (hk : k ≠ g) (hc : a.cell? ⟨k, o, none⟩ = some v) : b.cell? ⟨k, o, none⟩ = some v := by
  have hl := lt_of_cell hc
  unfold World.cell? at hc ⊢
  rw [h.block k hl hk]
  exact hc
end ExtX
/-! ### The reader -/
/-- the reader: where it is, the next token (kind, place, text), the place of the error -/
structure St where
  p : Nat
  k : Int
  a : Nat
  t : ByteArray
  wr : Int
abbrev rdA (s : ByteArray) (σ : St) : Array Value := #[.string s, .int .i64 σ.p, .int .i64 σ.k, .int .i64 σ.a, .string σ.t, .int .i64 σ.wr]
abbrev Rd (w : World) (g : Nat) (s : ByteArray) (σ : St) : Prop := Blk w g 163 (rdA s σ)
theorem Rd.setT {w : World} {g : Nat} {s : ByteArray} {σ : St} (h : Rd w g s σ) (k : Int) (a : Nat) (t : ByteArray) : Rd (((w.setCell ⟨g, 2, none⟩ (.int .i64 k)).setCell ⟨g, 3, none⟩ (.int .i64 a)).setCell ⟨g, 4, none⟩ (.string t)) g s ⟨σ.p, k, a, t, σ.wr⟩ := ((h.set 2 _).set 3 _).set 4 _
end Go.Proofs.YtghhjlcbcojcnaaGreatDoor

namespace Go.Proofs.YtghhjlcbcojcnaaGreatDoor
open Go.RowKit

/-! ### Lengths of runs -/
end Go.Proofs.YtghhjlcbcojcnaaGreatDoor

namespace Go.Proofs.YtghhjlcbcojcnaaGreatDoor
open Go.RowKit

/-! ### What a state keeps to -/
structure OkS (s : ByteArray) (σ : St) : Prop where
  p : σ.p ≤ s.size
  a : σ.a ≤ s.size
  t : σ.t.size ≤ s.size
end Go.Proofs.YtghhjlcbcojcnaaGreatDoor

namespace Go.Proofs.YtghhjlcbcojcnaaGreatDoor

/-- a condition -/
inductive Cd where
  | mk (kind : Int) (name value : ByteArray) (args : List Cd)
section
variable (s : ByteArray) (f : Option (St → Cd × St))
/-- how much a loop can have -/
def left (σ : St) : Nat := if σ.wr < 0 then s.size + 1 - σ.p else 0
end
/-! ### Going on -/
/-- a state that comes of another one: all right still, no earlier, an error stays -/
structure On (s : ByteArray) (σ τ : St) : Prop where
  ok : OkS s σ → OkS s τ
  p : OkS s σ → σ.p ≤ τ.p
  wr : ¬ σ.wr < 0 → τ.wr = σ.wr
theorem On.refl (s : ByteArray) (σ : St) : On s σ σ := ⟨id, fun _ => Nat.le_refl _, fun _ => rfl⟩
theorem On.trans {s : ByteArray} {a b c : St} (h : On s a b) (k : On s b c) : On s a c :=
  ⟨fun x => k.ok (h.ok x), fun x => Nat.le_trans (h.p x) (k.p (h.ok x)), fun x => by rw [k.wr (by rw [h.wr x]; exact x), h.wr x]⟩
end Go.Proofs.YtghhjlcbcojcnaaGreatDoor

namespace Go.Proofs.YtghhjlcbcojcnaaGreatDoor

section
variable {s : ByteArray}
end
end Go.Proofs.YtghhjlcbcojcnaaGreatDoor

namespace Go.Proofs.YtghhjlcbcojcnaaGreatDoor
open Go.RowKit

/-- a condition's value; what it names in memory lies in the blocks that P tells -/
inductive CdIn (P : Nat → Prop) (w : World) : Cd → Value → Prop where
  | mk (k : Int) (n x : ByteArray) (l : List Cd) (A : Option Addr) (c b o : Nat) (u0 u1 u2 u3 : Nat → Value) (hA : 0 < l.length → A = some ⟨b, o, none⟩) (hb : 0 < l.length → P b)
    (h0 : ∀ j, j < l.length → w.cell? ⟨b, o + j * 4, none⟩ = some (u0 j)) (h1 : ∀ j, j < l.length → w.cell? ⟨b, o + j * 4 + 1, none⟩ = some (u1 j))
    (h2 : ∀ j, j < l.length → w.cell? ⟨b, o + j * 4 + 2, none⟩ = some (u2 j)) (h3 : ∀ j, j < l.length → w.cell? ⟨b, o + j * 4 + 3, none⟩ = some (u3 j))
    (hr : ∀ j (hj : j < l.length), CdIn P w l[j] (.agg #[u0 j, u1 j, u2 j, u3 j])) : CdIn P w (.mk k n x l) (.agg #[.int .i64 k, .string n, .string x, .slice A l.length c])
/-- .. in blocks from B on -/
abbrev CdAt (B : Nat) : World → Cd → Value → Prop := CdIn (fun b => B ≤ b)
theorem CdIn.keep {P : Nat → Prop} {w w' : World} (hc : ∀ b o v, P b → w.cell? ⟨b, o, none⟩ = some v → w'.cell? ⟨b, o, none⟩ = some v) {c : Cd} {v : Value} (h : CdIn P w c v) : CdIn P w' c v := by
  induction h with
  | mk k n x l A c b o u0 u1 u2 u3 hA hb h0 h1 h2 h3 hr ih =>
    have hp : ∀ j, j < l.length → P b := fun j hj => hb (by omega)
    exact .mk k n x l A c b o u0 u1 u2 u3 hA hb (fun j hj => hc b _ _ (hp j hj) (h0 j hj)) (fun j hj => hc b _ _ (hp j hj) (h1 j hj)) (fun j hj => hc b _ _ (hp j hj) (h2 j hj)) (fun j hj => hc b _ _ (hp j hj) (h3 j hj)) ih
theorem CdIn.imp {P P' : Nat → Prop} {w : World} (hp : ∀ b, b < w.heap.size → P b → P' b) {c : Cd} {v : Value} (h : CdIn P w c v) : CdIn P' w c v := by
  induction h with
  | mk k n x l A c b o u0 u1 u2 u3 hA hb h0 h1 h2 h3 hr ih =>
    exact .mk k n x l A c b o u0 u1 u2 u3 hA (fun h => hp b (lt_of_cell (h0 0 h)) (hb h)) h0 h1 h2 h3 ih
theorem CdIn.ext {P : Nat → Prop} {w w' : World} (hx : Ext w w') {c : Cd} {v : Value} (h : CdIn P w c v) : CdIn P w' c v := h.keep fun _ _ _ _ e => hx.cell e
theorem CdAt.ext {B : Nat} {w w' : World} (hx : Ext w w') {c : Cd} {v : Value} (h : CdAt B w c v) : CdAt B w' c v := h.keep fun _ _ _ _ e => hx.cell e
theorem cell_set_far {w : World} {p : Addr} {u v : Value} {b o : Nat} (hb : b ≠ p.block) (e : w.cell? ⟨b, o, none⟩ = some v) : (w.setCell p u).cell? ⟨b, o, none⟩ = some v := by
  unfold World.cell? at e ⊢
  simp only [World.setCell, Array.getElem?_modify]
  rw [if_neg (by omega)]
  exact e
theorem CdIn.set {P : Nat → Prop} {w : World} {p : Addr} (hp : ¬ P p.block) (u : Value) {c : Cd} {v : Value} (h : CdIn P w c v) : CdIn P (w.setCell p u) c v := h.keep fun _ _ _ hb e => cell_set_far (fun x => hp (x ▸ hb)) e
theorem CdAt.set {B : Nat} {w : World} {p : Addr} (hp : p.block < B) (u : Value) {c : Cd} {v : Value} (h : CdAt B w c v) : CdAt B (w.setCell p u) c v := h.keep fun _ _ _ hb e => cell_set_far (by omega) e
theorem CdIn.leaf (P : Nat → Prop) (w : World) (k : Int) (n x : ByteArray) : CdIn P w (.mk k n x []) (.agg #[.int .i64 k, .string n, .string x, .slice none 0 0]) :=
  .mk k n x [] none 0 0 0 (fun _ => .int .i64 0) (fun _ => .int .i64 0) (fun _ => .int .i64 0) (fun _ => .int .i64 0) (fun h => absurd h (Nat.lt_irrefl _)) (fun h => absurd h (Nat.lt_irrefl _)) (fun _ h => absurd h (Nat.not_lt_zero _)) (fun _ h => absurd h (Nat.not_lt_zero _)) (fun _ h => absurd h (Nat.not_lt_zero _)) (fun _ h => absurd h (Nat.not_lt_zero _)) (fun _ h => absurd h (Nat.not_lt_zero _))
theorem CdAt.leaf (B : Nat) (w : World) (k : Int) (n x : ByteArray) : CdAt B w (.mk k n x []) (.agg #[.int .i64 k, .string n, .string x, .slice none 0 0]) := CdIn.leaf _ w k n x
/-- a condition's four cells -/
theorem CdIn.cells {P : Nat → Prop} {w : World} {c : Cd} {v : Value} (h : CdIn P w c v) : ∃ (k : Int) (n x : ByteArray) (A : Option Addr) (m cp : Nat), v = .agg #[.int .i64 k, .string n, .string x, .slice A m cp] := by
  cases h with
  | mk k n x l A c b o u0 u1 u2 u3 => exact ⟨k, n, x, A, _, c, rfl⟩
theorem CdAt.cells {B : Nat} {w : World} {c : Cd} {v : Value} (h : CdAt B w c v) : ∃ (k : Int) (n x : ByteArray) (A : Option Addr) (m cp : Nat), v = .agg #[.int .i64 k, .string n, .string x, .slice A m cp] := CdIn.cells h
def z0 : Value := .bool false
/-- conditions that lie in a row of cells -/
structure CdRow (P : Nat → Prop) (w : World) (l : List Cd) (xs : List Value) : Prop where
  len : xs.length = l.length * 4
  at_ : ∀ j (hj : j < l.length), CdIn P w l[j] (.agg #[xs.getD (j * 4) z0, xs.getD (j * 4 + 1) z0, xs.getD (j * 4 + 2) z0, xs.getD (j * 4 + 3) z0])
theorem CdRow.nil (P : Nat → Prop) (w : World) : CdRow P w [] [] := ⟨rfl, fun _ h => absurd h (Nat.not_lt_zero _)⟩
theorem CdRow.keep {P P' : Nat → Prop} {w w' : World} {l : List Cd} {xs : List Value} (h : CdRow P w l xs) (hp : ∀ b, b < w.heap.size → P b → P' b) (hc : ∀ b o v, b < w.heap.size → P b → w.cell? ⟨b, o, none⟩ = some v → w'.cell? ⟨b, o, none⟩ = some v) : CdRow P' w' l xs := by
  refine ⟨h.len, fun j hj => ?_⟩
  have h1 : CdIn (fun b => b < w.heap.size ∧ P b) w l[j] _ := (h.at_ j hj).imp fun b hb hP => ⟨hb, hP⟩
  have h2 : CdIn (fun b => b < w.heap.size ∧ P b) w' l[j] _ := h1.keep fun b o v hP e => hc b o v hP.1 hP.2 e
  have h3 : CdIn (fun b => b < w.heap.size ∧ P b) w l[j] _ := h1
  clear h3
  -- the blocks told are the old world's
  have h4 : ∀ {c : Cd} {v : Value}, CdIn (fun b => b < w.heap.size ∧ P b) w' c v → CdIn P' w' c v := by
    intro c v h
    induction h with
    | mk k n x l A c b o u0 u1 u2 u3 hA hb h0 h1 h2 h3 hr ih => exact .mk k n x l A c b o u0 u1 u2 u3 hA (fun h => hp b (hb h).1 (hb h).2) h0 h1 h2 h3 ih
  exact h4 h2
theorem CdRow.ext {P : Nat → Prop} {w w' : World} {l : List Cd} {xs : List Value} (h : CdRow P w l xs) (hx : Ext w w') : CdRow P w' l xs := h.keep (fun _ _ h => h) fun _ _ _ _ _ e => hx.cell e
theorem CdRow.snoc {P : Nat → Prop} {w : World} {l : List Cd} {xs : List Value} (h : CdRow P w l xs) {c : Cd} {u0 u1 u2 u3 : Value} (hc : CdIn P w c (.agg #[u0, u1, u2, u3])) : CdRow P w (l ++ [c]) (xs ++ [u0, u1, u2, u3]) := by
  refine ⟨by rw [List.length_append, List.length_append, h.len]; simp; omega, fun j hj => ?_⟩
  rw [List.length_append] at hj
  by_cases hlt : j < l.length
  · have hx : ∀ i, i < 4 → (xs ++ [u0, u1, u2, u3]).getD (j * 4 + i) z0 = xs.getD (j * 4 + i) z0 := fun i hi => by
      rw [List.getD_eq_getElem?_getD, List.getD_eq_getElem?_getD, List.getElem?_append_left (by rw [h.len]; omega)]
    have h0 := hx 0 (by omega)
    rw [Nat.add_zero] at h0
    rw [h0, hx 1 (by omega), hx 2 (by omega), hx 3 (by omega), List.getElem_append_left hlt]
    exact h.at_ j hlt
  · have e : j = l.length := by simp at hj; omega
    subst e
    have hx : ∀ i u, ([u0, u1, u2, u3] : List Value)[i]? = some u → (xs ++ [u0, u1, u2, u3]).getD (l.length * 4 + i) z0 = u := fun i u hu => by
      rw [List.getD_eq_getElem?_getD, List.getElem?_append_right (by rw [h.len]; omega), h.len, Nat.add_sub_cancel_left, hu]
      rfl
    have h0 := hx 0 u0 rfl
    rw [Nat.add_zero] at h0
    rw [h0, hx 1 u1 rfl, hx 2 u2 rfl, hx 3 u3 rfl]
    simpa using hc
/-- a condition that holds one -/
theorem CdAt.one {B : Nat} {w : World} {k : Int} {n x : ByteArray} {c : Cd} {b cp : Nat} {u0 u1 u2 u3 : Value} (hb : B ≤ b) (h0 : w.cell? ⟨b, 0, none⟩ = some u0) (h1 : w.cell? ⟨b, 1, none⟩ = some u1) (h2 : w.cell? ⟨b, 2, none⟩ = some u2) (h3 : w.cell? ⟨b, 3, none⟩ = some u3)
    (h : CdAt B w c (.agg #[u0, u1, u2, u3])) : CdAt B w (.mk k n x [c]) (.agg #[.int .i64 k, .string n, .string x, .slice (some ⟨b, 0, none⟩) 1 cp]) := by
  have z : ∀ j, j < [c].length → j = 0 := fun j hj => by simpa using hj
  exact .mk k n x [c] _ cp b 0 (fun _ => u0) (fun _ => u1) (fun _ => u2) (fun _ => u3) (fun _ => rfl) (fun _ => hb)
    (fun j hj => by obtain rfl := z j hj; exact h0) (fun j hj => by obtain rfl := z j hj; exact h1) (fun j hj => by obtain rfl := z j hj; exact h2) (fun j hj => by obtain rfl := z j hj; exact h3)
    (fun j hj => by obtain rfl := z j hj; exact h)
end Go.Proofs.YtghhjlcbcojcnaaGreatDoor

namespace Go.Proofs.YtghhjlcbcojcnaaGreatDoor
open Go.RowKit

end Go.Proofs.YtghhjlcbcojcnaaGreatDoor

namespace Go.Proofs.YtghhjlcbcojcnaaGreatDoor
open Go.RowKit

def leftOf (g m : Nat) (w : World) : Nat := match w.cell? ⟨g, 1, none⟩, w.cell? ⟨g, 5, none⟩ with | some (.int _ p), some (.int _ e) => if e < 0 then m + 1 - p.toNat else 0 | _, _ => 0
theorem ExtX.grown {g r : Nat} {a w w' : World} (h : ExtX g a w) (hg : w.grownBy w' (some r)) (hr : a.heap.size ≤ r) : ExtX g a w' :=
  ⟨hg.os.trans h.os, hg.tape.trans h.tape, hg.output.trans h.output, Nat.le_trans h.size hg.size, fun k hk hkg => (hg.block k (Nat.lt_of_lt_of_le hk h.size) (fun e => by injection e with e; omega)).trans (h.block k hk hkg)⟩
end Go.Proofs.YtghhjlcbcojcnaaGreatDoor

namespace Go.Proofs.YtghhjlcbcojcnaaGreatDoor

/-! ### Words -/
/-- a word: its text, kind, place and value -/
structure Wd where
  t : ByteArray
  k : UInt8
  a : Nat
  v : ByteArray
abbrev zeroW : Wd := ⟨⟨#[]⟩, 0, 0, ⟨#[]⟩⟩
/-! ### The reference's reading, as it runs -/
structure Rs where
  l : List Wd
  bad : Int
def Rs.hd (τ : Rs) : Wd := τ.l.headD zeroW
section
variable (f : Rs → Cd × Rs)
end
end Go.Proofs.YtghhjlcbcojcnaaGreatDoor

namespace Go.Proofs.YtghhjlcbcojcnaaGreatDoor

/-! ### The reference's reading goes on -/
def LastE (W : List Wd) : Prop := ∃ P e, W = P ++ [e] ∧ e.k = 101
def SufR (W : List Wd) (τ : Rs) : Prop := ∃ j, j < W.length ∧ τ.l = W.drop j
structure OnR (W : List Wd) (τ υ : Rs) : Prop where
  suf : SufR W τ → SufR W υ
  len : υ.l.length ≤ τ.l.length
  bad : ¬ τ.bad < 0 → υ.bad = τ.bad
theorem OnR.refl (W : List Wd) (τ : Rs) : OnR W τ τ := ⟨id, Nat.le_refl _, fun _ => rfl⟩
theorem OnR.trans {W : List Wd} {a b c : Rs} (h : OnR W a b) (k : OnR W b c) : OnR W a c :=
  ⟨fun x => k.suf (h.suf x), Nat.le_trans k.len h.len, fun x => by rw [k.bad (by rw [h.bad x]; exact x), h.bad x]⟩
section
variable {W : List Wd} (hW : LastE W)
include hW
end
end Go.Proofs.YtghhjlcbcojcnaaGreatDoor

namespace Go.Proofs.YtghhjlcbcojcnaaGreatDoor
open Go.RowKit

/-- the words, from a block's head on -/
structure WdsAt (w : World) (b : Nat) (W : List Wd) : Prop where
  lt : b < w.heap.size
  c0 : ∀ j (h : j < W.length), w.cell? ⟨b, j * 4, none⟩ = some (.string W[j].t)
  c1 : ∀ j (h : j < W.length), w.cell? ⟨b, j * 4 + 1, none⟩ = some (.int .u8 W[j].k.toNat)
  c2 : ∀ j (h : j < W.length), w.cell? ⟨b, j * 4 + 2, none⟩ = some (.int .i64 W[j].a)
  c3 : ∀ j (h : j < W.length), w.cell? ⟨b, j * 4 + 3, none⟩ = some (.string W[j].v)
theorem WdsAt.ext {w w' : World} {b : Nat} {W : List Wd} (h : WdsAt w b W) (hx : Ext w w') : WdsAt w' b W :=
  ⟨Nat.lt_of_lt_of_le h.lt hx.size, fun j hj => hx.cell (h.c0 j hj), fun j hj => hx.cell (h.c1 j hj), fun j hj => hx.cell (h.c2 j hj), fun j hj => hx.cell (h.c3 j hj)⟩
theorem WdsAt.far {w : World} {b : Nat} {W : List Wd} (h : WdsAt w b W) {p : Addr} (hp : b ≠ p.block) (u : Value) : WdsAt (w.setCell p u) b W :=
  ⟨by have := h.lt; simpa [World.setCell] using this, fun j hj => cell_set_far hp (h.c0 j hj), fun j hj => cell_set_far hp (h.c1 j hj), fun j hj => cell_set_far hp (h.c2 j hj), fun j hj => cell_set_far hp (h.c3 j hj)⟩
/-- the reader -/
structure RdR (w : World) (g b : Nat) (W : List Wd) (τ : Rs) : Prop where
  ne : b ≠ g
  wds : WdsAt w b W
  rd : ∃ j cp, j < W.length ∧ τ.l = W.drop j ∧ W.length - j ≤ cp ∧ Blk w g 171 #[.slice (some ⟨b, j * 4, none⟩) (W.length - j) cp, .int .i64 τ.bad]
namespace RdR
variable {w w' : World} {g b : Nat} {W : List Wd} {τ : Rs}
theorem suf (h : RdR w g b W τ) : SufR W τ := by
  obtain ⟨j, cp, hj, hl, _⟩ := h.rd
  exact ⟨j, hj, hl⟩
theorem lt (h : RdR w g b W τ) : g < w.heap.size := by
  obtain ⟨j, cp, hj, hl, _, hb⟩ := h.rd
  exact hb.lt
theorem ext (h : RdR w g b W τ) (hx : Ext w w') : RdR w' g b W τ := by
  obtain ⟨j, cp, hj, hl, hc, hb⟩ := h.rd
  exact ⟨h.ne, h.wds.ext hx, j, cp, hj, hl, hc, hb.ext hx⟩
theorem alloc (h : RdR w g b W τ) (o : Obj) : RdR (w.alloc o) g b W τ := h.ext ((Ext.refl w).alloc o)
theorem far (h : RdR w g b W τ) {p : Addr} (hp : g ≠ p.block) (hp2 : b ≠ p.block) (u : Value) : RdR (w.setCell p u) g b W τ := by
  obtain ⟨j, cp, hj, hl, hc, hb⟩ := h.rd
  exact ⟨h.ne, h.wds.far hp2 u, j, cp, hj, hl, hc, hb.far hp u⟩
/-- the reader's cells, and the next word's -/
theorem opened (h : RdR w g b W τ) : ∃ j cp m, j < W.length ∧ τ.l = W.drop j ∧ W.length - j = m ∧ 0 < m ∧ m ≤ cp ∧ Blk w g 171 #[.slice (some ⟨b, j * 4, none⟩) m cp, .int .i64 τ.bad] ∧
    w.cell? ⟨b, j * 4, none⟩ = some (.string τ.hd.t) ∧ w.cell? ⟨b, j * 4 + 1, none⟩ = some (.int .u8 τ.hd.k.toNat) ∧ w.cell? ⟨b, j * 4 + 2, none⟩ = some (.int .i64 τ.hd.a) ∧ w.cell? ⟨b, j * 4 + 3, none⟩ = some (.string τ.hd.v) := by
  obtain ⟨j, cp, hj, hl, hc, hb⟩ := h.rd
  have hh : τ.hd = W[j] := by
    unfold Rs.hd
    rw [hl, List.drop_eq_getElem_cons hj]
    rfl
  rw [hh]
  exact ⟨j, cp, _, hj, hl, rfl, by omega, hc, hb, h.wds.c0 j hj, h.wds.c1 j hj, h.wds.c2 j hj, h.wds.c3 j hj⟩
end RdR
end Go.Proofs.YtghhjlcbcojcnaaGreatDoor

namespace Go.Proofs.YtghhjlcbcojcnaaGreatDoor
open Go.RowKit

end Go.Proofs.YtghhjlcbcojcnaaGreatDoor

namespace Go.Proofs.YtghhjlcbcojcnaaGreatDoor
open Go.RowKit

abbrev eAnd : MapEntry := ⟨.string ⟨#[97, 110, 100]⟩, .int .i64 7, 0⟩
abbrev eOr : MapEntry := ⟨.string ⟨#[111, 114]⟩, .int .i64 8, 1⟩
/-- the map of the two kinds -/
def KindMap (w : World) (b : Nat) : Prop := w.heap[b]? = some (.map #[eAnd, eOr] 2)
theorem KindMap.lt {w : World} {b : Nat} (h : KindMap w b) : b < w.heap.size := (Array.getElem?_eq_some_iff.1 h).1
theorem KindMap.ext {b : Nat} {w w' : World} (h : KindMap w b) (hx : Ext w w') : KindMap w' b := (hx.block b h.lt).trans h
theorem KindMap.alloc {b : Nat} {w : World} (h : KindMap w b) (o : Obj) : KindMap (w.alloc o) b := h.ext ((Ext.refl w).alloc o)
theorem KindMap.far {b : Nat} {w : World} (h : KindMap w b) {p : Addr} (hp : b ≠ p.block) (u : Value) : KindMap (w.setCell p u) b := (Below.heap_setCell w p u b hp).trans h
end Go.Proofs.YtghhjlcbcojcnaaGreatDoor

namespace Go.Proofs.YtghhjlcbcojcnaaGreatDoor
open Go.RowKit

end Go.Proofs.YtghhjlcbcojcnaaGreatDoor

namespace Go.Proofs.YtghhjlcbcojcnaaGreatDoor
open Go.RowKit

/-! ### The parts of a condition -/
def Cd.kind : Cd → Int | .mk k _ _ _ => k
def Cd.name : Cd → ByteArray | .mk _ n _ _ => n
def Cd.value : Cd → ByteArray | .mk _ _ x _ => x
def Cd.args : Cd → List Cd | .mk _ _ _ l => l
mutual
/-- how many parts -/
def cnt : Cd → Nat | .mk _ _ _ l => 1 + cnts l
def cnts : List Cd → Nat | [] => 0 | c :: l => cnt c + cnts l
end
mutual
/-- the parts, the outer ones first, with their levels -/
def prt (lev : Nat) : Cd → List (Cd × Nat) | .mk k n x l => (.mk k n x l, lev) :: prts (lev + 1) l
def prts (lev : Nat) : List Cd → List (Cd × Nat) | [] => [] | c :: l => prt lev c ++ prts lev l
end
theorem cnt_pos (c : Cd) : 0 < cnt c := by cases c; unfold cnt; omega
mutual
theorem prt_len (lev : Nat) : ∀ c : Cd, (prt lev c).length = cnt c
  | .mk k n x l => by unfold prt cnt; rw [List.length_cons, prts_len (lev + 1) l]; omega
theorem prts_len (lev : Nat) : ∀ l : List Cd, (prts lev l).length = cnts l
  | [] => rfl
  | c :: l => by unfold prts cnts; rw [List.length_append, prt_len lev c, prts_len lev l]
end
theorem prts_append (lev : Nat) (a b : List Cd) : prts lev (a ++ b) = prts lev a ++ prts lev b := by
  induction a with
  | nil => simp [prts]
  | cons x r ih => simp only [List.cons_append, prts, ih, List.append_assoc]
/-- what the walks need: texts of a bearable size, lists too -/
inductive SmallC : Cd → Prop where
  | mk (k : Int) (n x : ByteArray) (l : List Cd) (hn : n.size ≤ 2097152) (hx : x.size ≤ 2097152) (hl : l.length ≤ 100000000) (hr : ∀ c ∈ l, SmallC c) : SmallC (.mk k n x l)

/-! ### The error of a part -/
def namedK (k : Int) : Bool := decide (2 ≤ k) && decide (k ≤ 5)
def valuedK (k : Int) : Bool := namedK k && !decide (k = 4)
def formBad (k : Int) (n x : Str) (m : Nat) : Bool :=
  (!namedK k && !n.isEmpty) || (!valuedK k && !x.isEmpty) || (!decide (6 ≤ k) && decide (0 < m)) || (decide (k = 6) && !decide (m = 1))
def partErr (k : Int) (n x : Str) (m : Nat) : Int :=
  if k < 1 ∨ 8 < k then 1
  else if formBad k n x m = true then 2
  else if namedK k = false then 0
  else if (!(if k = 3 ∨ k = 4 then pathL n else nameL n)) = true then 5
  else if (!valueL x) = true then 2
  else if k = 5 then (parseR x).2 else 0
def partC (c : Cd) : Int := partErr c.kind (bs c.name) (bs c.value) c.args.length
/-- the error of a condition -/
def firstErr : List (Cd × Nat) → Int
  | [] => 0
  | p :: r => if partC p.1 = 0 then firstErr r else partC p.1
def checkC (c : Cd) : Int :=
  if 100 < cnt c then 4
  else if firstErr (prt 0 c) ≠ 0 then firstErr (prt 0 c)
  else if (prt 0 c).any (fun p => decide (20 < p.2)) = true then 4 else 0
end Go.Proofs.YtghhjlcbcojcnaaGreatDoor

namespace Go.Proofs.YtghhjlcbcojcnaaGreatDoor
open Go.RowKit

theorem data_nil (n : ByteArray) : (n.data = #[]) = (n.toList = []) := by rw [ByteArray.toList_eq, Array.toList_eq_nil_iff]
theorem kind8 {k : Int} (h1 : ¬ k < 1) (h2 : ¬ 8 < k) : k = 1 ∨ k = 2 ∨ k = 3 ∨ k = 4 ∨ k = 5 ∨ k = 6 ∨ k = 7 ∨ k = 8 := by omega
set_option maxRecDepth 100000 in
set_option maxHeartbeats 8000000 in
theorem partFault_any (k : Int) (n x : ByteArray) (A : Option Addr) (m cp : Nat) (w : World) (hg : GoodN w) (hn : n.size ≤ 2097152) (hx : x.size ≤ 2097152) (hm : m ≤ 100000000) :
    Calls Tryz.prog 187 #[.agg #[.int .i64 k, .string n, .string x, .slice A m cp]] w fun e w' => e = .returned (.int .i64 (partErr k (bs n) (bs x) m)) ∧ Ext w w' := by
  have hx0 : Ext w (w.alloc (.cells #[.int .i64 k, .string n, .string x, .slice A m cp] 61)) := (Ext.refl w).alloc _
  by_cases h1 : k < 1
  · have hp : partErr k (bs n) (bs x) m = 1 := by unfold partErr; rw [if_pos (.inl h1)]
    rw [hp]
    go_enter Tryz.func187, Tryz.ntmps187
    go_wp2
    go_ret
    exact ⟨rfl, hx0⟩
  by_cases h2 : 8 < k
  · have hp : partErr k (bs n) (bs x) m = 1 := by unfold partErr; rw [if_pos (.inr h2)]
    rw [hp]
    go_enter Tryz.func187, Tryz.ntmps187
    go_wp2
    go_ret
    exact ⟨rfl, hx0⟩
  have e6 : ((m : Int) != 1) = !decide (m = 1) := by
    by_cases h : m = 1
    · subst h; rfl
    · rw [decide_eq_false h, Bool.not_false, bne_iff_ne]; omega
  rcases kind8 h1 h2 with rfl | rfl | rfl | rfl | rfl | rfl | rfl | rfl
  all_goals clear h1 h2
  all_goals
    go_enter Tryz.func187, Tryz.ntmps187
    go_wp2_with (first
      | (go_at_call 29; refine (IsName_any _ _ hn).mono ?_; rintro e w' ⟨rfl, rfl⟩)
      | (go_at_call 31; refine (IsPath_any _ _ (hg.toGood.ext ((Ext.refl w).alloc _)) hn).mono ?_; rintro e w1 ⟨rfl, hx1⟩; (obtain ⟨hc1, hf1⟩ := hx1.cells); have hz1 := hx1.size)
      | (go_at_call 33; refine (IsValue_any _ _ hx).mono ?_; rintro e w' ⟨rfl, rfl⟩)
      | (go_at_call 42; refine (ParseRange_any _ _ (hg.ext ((Ext.refl w).alloc _)) hx).mono ?_; rintro e w1 ⟨B, c, rfl, _, _, hx1⟩))
  all_goals go_ret
  all_goals refine ⟨ret_int ?_, ?_⟩
  all_goals first | (simp [partErr, formBad, namedK, valuedK, data_nil, *]; done) | exact (Ext.refl w).alloc _ | exact Ext.trans ((Ext.refl w).alloc _) (by assumption) | exact (Ext.trans ((Ext.refl w).alloc _) (by assumption)).alloc _ | skip
end Go.Proofs.YtghhjlcbcojcnaaGreatDoor

namespace Go.Proofs.YtghhjlcbcojcnaaGreatDoor
open Go.RowKit

/-! ### A world of which some blocks alone were written -/
structure ExtC (C : Nat → Prop) (w w' : World) : Prop where
  os : w'.os = w.os
  tape : w'.tape = w.tape
  output : w'.output = w.output
  size : w.heap.size ≤ w'.heap.size
  block : ∀ k, k < w.heap.size → ¬ C k → w'.heap[k]? = w.heap[k]?
namespace ExtC
variable {C : Nat → Prop} {a b c w w' : World}
theorem refl (C : Nat → Prop) (w : World) : ExtC C w w := ⟨rfl, rfl, rfl, Nat.le_refl _, fun _ _ _ => rfl⟩
theorem ofExt (h : Ext a b) : ExtC C a b := ⟨h.os, h.tape, h.output, h.size, fun k hk _ => h.block k hk⟩
theorem trans (h : ExtC C a b) (k : ExtC C b c) : ExtC C a c :=
  ⟨k.os.trans h.os, k.tape.trans h.tape, k.output.trans h.output, Nat.le_trans h.size k.size, fun i hi hg => (k.block i (Nat.lt_of_lt_of_le hi h.size) hg).trans (h.block i hi hg)⟩
theorem alloc (h : ExtC C a w) (o : Obj) : ExtC C a (w.alloc o) := h.trans (ofExt ((Ext.refl w).alloc o))
theorem set (h : ExtC C a w) {p : Addr} (hp : C p.block ∨ a.heap.size ≤ p.block) (u : Value) : ExtC C a (w.setCell p u) :=
  ⟨h.os, h.tape, h.output, by have := h.size; simpa [World.setCell] using this, fun k hk hg => by
    refine Eq.trans ?_ (h.block k hk hg)
    simp only [World.setCell, Array.getElem?_modify]
    rw [if_neg]
    rintro rfl
    rcases hp with h1 | h1
    · exact hg h1
    · omega⟩
theorem ext (h : Ext a w) (k : ExtC C w w') (hC : ∀ i, C i → a.heap.size ≤ i) : Ext a w' :=
  ⟨k.os.trans h.os, k.tape.trans h.tape, k.output.trans h.output, Nat.le_trans h.size k.size, fun i hi => (k.block i (Nat.lt_of_lt_of_le hi h.size) (fun hc => by have := hC i hc; omega)).trans (h.block i hi)⟩
theorem cell (h : ExtC C a b) {k o : Nat} {v : Value} (hk : ¬ C k) (hc : a.cell? ⟨k, o, none⟩ = some v) : b.cell? ⟨k, o, none⟩ = some v := by
  have hl := lt_of_cell hc
  unfold World.cell? at hc ⊢
  rw [h.block k hl hk]
  exact hc
end ExtC
theorem Blk.extC {C : Nat → Prop} {w w' : World} {k : Nat} {t : TypeId} {cs : Array Value} (h : Blk w k t cs) (hx : ExtC C w w') (hk : ¬ C k) : Blk w' k t cs := (hx.block k h.lt hk).trans h
end Go.Proofs.YtghhjlcbcojcnaaGreatDoor
