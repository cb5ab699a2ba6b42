/- Contract of outref2.ReadRule's closure 'take'. Rules compared; a right rule's text is read back; the set's example (migrates). A rule among the arguments. Contracts of ver.quotedAt, ver.isBlank, ver.kindOf. The condition reader of the program in memory: its state; 'is', 'fail'. The condition reader of the program: 'advance'. The condition reader of the program: 'take'. Plain law: the program's reading of a condition, as it runs; its places only go on. Plain law: the program's reading of a condition goes on, and its loop ends. A condition in memory. Contract of the program's reading of one condition, given what it calls. (Printed by gen/cndh.py.) Contract of the program's reading of conditions in brackets, given what it calls. (Printed by gen/cndi.py.) Plain law: the reference's words of a condition's text, its reading as it runs, and the program's states that fit it. Plain law: the program's and the reference's reading of a condition answer alike. -/
import Derived.Test.YtghhjlcbcojcnaaGreatDoorRn19
import Derived.Test.YtghhjlcbcojcnaaGreatDoorRn14
import Derived.Test.YtghhjlcbcojcnaaGreatDoorRn15
import Derived.Test.YtghhjlcbcojcnaaGreatDoorRn04
import Derived.Test.YtghhjlcbcojcnaaGreatDoorRn09
import Derived.Deep.DeepCutAuto
import Derived.Deep.AppendLies
import Derived.Deep.RegionHeld3
import Derived.Deep.RegionLaw

namespace Go.Proofs.YtghhjlcbcojcnaaGreatDoor
open Go.RowKit

end Go.Proofs.YtghhjlcbcojcnaaGreatDoor

namespace Go.Proofs.YtghhjlcbcojcnaaGreatDoor
open Go.RowKit

/-! ### Rules compared -/
theorem run_eqr (k : Int) (a b c d : ByteArray) (w : World) : (Op.equalIn 10000 23 (.agg #[.int .i64 k, .string a, .string b, .string c, .string d]) (.agg #[.int .i64 k, .string a, .string b, .string c, .string d])).run Tryz.prog w = .ok true w := by
  rw [run_equalIn_agg w 9999 23 _ _ (by kernel_rfl) (by kernel_rfl)]
  go_simp
theorem run_eqlr (k : Int) (a b c d : ByteArray) (w : World) : (binOp .eql 23 (.agg #[.int .i64 k, .string a, .string b, .string c, .string d]) (.agg #[.int .i64 k, .string a, .string b, .string c, .string d])).run Tryz.prog w = .ok (.bool true) w := by
  rw [run_eql_struct, run_eqr]
  rfl
/-! ### The text of a right rule is short, and is read back -/
theorem parse_ruText {r : Ru} (h : ruErr r = 0) (hl : (ruText r).length ≤ 4000) : parseRu (ruText r) = (r, 0) := by
  rw [parse_stage (by omega), cand_text (shape_of h)]
  dsimp only
  rw [if_neg (by rw [h]; decide)]
/-! ### The set's own example -/
theorem drop_ok : parseRu [100, 114, 111, 112, 32, 97, 47, 98] = (⟨6, [97, 47, 98], [], [], []⟩, 0) := by
  have h : ruErr ⟨6, [97, 47, 98], [], [], []⟩ = 0 := by decide
  exact parse_ruText (r := ⟨6, [97, 47, 98], [], [], []⟩) h (by decide)
set_option maxRecDepth 100000 in
set_option maxHeartbeats 4000000 in
theorem migrates_any (w : World) (hg : Good w) : Calls Tryz.prog 16 #[] w fun e w' => e = .returned (.bool true) ∧ Ext w w' := by
  have hp := fun W (h : Ext w W) => ParseRule_any ⟨#[100, 114, 111, 112, 32, 97, 47, 98]⟩ W (hg.ext h) (by decide)
  rw [show bs (⟨#[100, 114, 111, 112, 32, 97, 47, 98]⟩ : ByteArray) = [100, 114, 111, 112, 32, 97, 47, 98] from rfl, drop_ok] at hp
  have hq := run_eqlr 6 ⟨#[97, 47, 98]⟩ ⟨#[]⟩ ⟨#[]⟩ ⟨#[]⟩
  go_enter Tryz.func16, Tryz.ntmps16
  go_wp2_with fail
  refine (hp _ (by repeat (first | with_reducible exact Ext.refl _ | with_reducible assumption | with_reducible apply Ext.drewN | with_reducible apply Ext.drew | with_reducible apply Ext.alloc | exact Ext.refl _ | assumption | apply Ext.drewN | apply Ext.drew | apply Ext.alloc))).mono ?_
  rintro e w1 ⟨rfl, hx1⟩
  clear hp
  go_wp2
  go_ret
  exact ⟨rfl, (by repeat (first | with_reducible exact Ext.refl _ | with_reducible assumption | with_reducible apply Ext.drewN | with_reducible apply Ext.drew | with_reducible apply Ext.alloc | ((with_reducible refine Ext.setCell ?_ ?_ _); rotate_left; (first | (dsimp only; omega) | (simp; omega) | skip)) | exact Ext.refl _ | assumption | apply Ext.drewN | apply Ext.drew | apply Ext.alloc | refine Ext.setCell ?_ (by first | (dsimp only; omega) | (simp; omega)) _))⟩
end Go.Proofs.YtghhjlcbcojcnaaGreatDoor

namespace Go.Proofs.YtghhjlcbcojcnaaGreatDoor
open Go.ChangeShapes Go.WideShapes Go.ChangeAt Go.RowKit Go.WideElems Go.Joins

set_option maxRecDepth 100000 in
theorem opens_rule : Opens 23 (fun _ (r : RB) cs => cs = [.int .i64 r.kind, .string r.key, .string r.tt, .string r.old, .string r.new]) (fun r => r.key.size + r.tt.size + r.old.size + r.new.size + 5) := fun H enc W fuel cs x h => by
  obtain ⟨xs, n, _, rfl, hl, hlen, hf⟩ := DataW.trod_struct Tryz.underlying23 h
  have hc : Tryz.prog.cellsOf 23 = 5 := by kernel_rfl
  have ci : Tryz.prog.cellsOf 3 = 1 := by kernel_rfl
  have cst : Tryz.prog.cellsOf 9 = 1 := by kernel_rfl
  rw [hc] at hl
  match cs, hl, xs, hlen with
  | [c0, c1, c2, c3, c4], _, [y0, y1, y2, y3, y4], _ =>
    have h0 := hf 0 _ rfl
    have h1 := hf 1 _ rfl
    have h2 := hf 2 _ rfl
    have h3 := hf 3 _ rfl
    have h4 := hf 4 _ rfl
    replace h0 : DataW.trod enc Tryz.prog W 0 (fun _ => true) true n 3 (([c0, c1, c2, c3, c4].drop 0).take (Tryz.prog.cellsOf 3)) = some y0 := h0
    replace h1 : DataW.trod enc Tryz.prog W 0 (fun _ => true) true n 9 (([c0, c1, c2, c3, c4].drop 1).take (Tryz.prog.cellsOf 9)) = some y1 := h1
    replace h2 : DataW.trod enc Tryz.prog W 0 (fun _ => true) true n 9 (([c0, c1, c2, c3, c4].drop 2).take (Tryz.prog.cellsOf 9)) = some y2 := h2
    replace h3 : DataW.trod enc Tryz.prog W 0 (fun _ => true) true n 9 (([c0, c1, c2, c3, c4].drop 3).take (Tryz.prog.cellsOf 9)) = some y3 := h3
    replace h4 : DataW.trod enc Tryz.prog W 0 (fun _ => true) true n 9 (([c0, c1, c2, c3, c4].drop 4).take (Tryz.prog.cellsOf 9)) = some y4 := h4
    rw [ci] at h0
    rw [cst] at h1 h2 h3 h4
    obtain ⟨k, e0, b0⟩ := opens_int Tryz.underlying3 H enc W n _ _ h0
    obtain ⟨a1, e1, b1⟩ := opens_string Tryz.underlying9 H enc W n _ _ h1
    obtain ⟨a2, e2, b2⟩ := opens_string Tryz.underlying9 H enc W n _ _ h2
    obtain ⟨a3, e3, b3⟩ := opens_string Tryz.underlying9 H enc W n _ _ h3
    obtain ⟨a4, e4, b4⟩ := opens_string Tryz.underlying9 H enc W n _ _ h4
    simp at e0 e1 e2 e3 e4
    subst e0 e1 e2 e3 e4
    exact ⟨⟨k, a1, a2, a3, a4⟩, rfl, by dsimp only at b0 b1 b2 b3 b4 ⊢; simp only [List.map_cons, List.map_nil, Rows.uptoBulk, Rows.uptoBulkAll]; omega⟩
end Go.Proofs.YtghhjlcbcojcnaaGreatDoor

namespace Go.Proofs.YtghhjlcbcojcnaaGreatDoor
open Go.RowKit

end Go.Proofs.YtghhjlcbcojcnaaGreatDoor

namespace Go.Proofs.YtghhjlcbcojcnaaGreatDoor
open Go.RowKit

/-! ### A world of which one block alone was written -/
structure ExtX (g : Nat) (w w' : World) : Prop where
  os : w'.os = w.os
  tape : w'.tape = w.tape
  output : w'.output = w.output
  size : w.heap.size ≤ w'.heap.size
  block : ∀ k, k < w.heap.size → k ≠ g → w'.heap[k]? = w.heap[k]?
namespace ExtX
variable {g : Nat} {a b c w w' : World}
theorem refl (g : Nat) (w : World) : ExtX g w w := ⟨rfl, rfl, rfl, Nat.le_refl _, fun _ _ _ => rfl⟩
theorem ofExt (h : Ext a b) : ExtX g a b := ⟨h.os, h.tape, h.output, h.size, fun k hk _ => h.block k hk⟩
theorem trans (h : ExtX g a b) (k : ExtX g b c) : ExtX g a c :=
  ⟨k.os.trans h.os, k.tape.trans h.tape, k.output.trans h.output, Nat.le_trans h.size k.size, fun i hi hg => (k.block i (Nat.lt_of_lt_of_le hi h.size) hg).trans (h.block i hi hg)⟩
theorem alloc (h : ExtX g a w) (o : Obj) : ExtX g a (w.alloc o) := h.trans (ofExt ((Ext.refl w).alloc o))
theorem drew (h : ExtX g a w) : ExtX g a w.drew := h.trans (ofExt ((Ext.refl w).drew))
theorem ext (h : Ext a w) (k : ExtX g w w') (hg : a.heap.size ≤ g) : Ext a w' :=
  ⟨k.os.trans h.os, k.tape.trans h.tape, k.output.trans h.output, Nat.le_trans h.size k.size, fun i hi => (k.block i (Nat.lt_of_lt_of_le hi h.size) (by omega)).trans (h.block i hi)⟩
theorem cell (h : ExtX g a b) {k o : Nat} {v : Value} (hk : k ≠ g) (hc : a.cell? ⟨k, o, none⟩ = some v) : b.cell? ⟨k, o, none⟩ = some v := by
  have hl := lt_of_cell hc
  unfold World.cell? at hc ⊢
  rw [h.block k hl hk]
  exact hc
end ExtX
/-! ### The reader -/
/-- the reader: where it is, the next token (kind, place, text), the place of the error -/
structure St where
  p : Nat
  k : Int
  a : Nat
  t : ByteArray
  wr : Int
abbrev rdA (s : ByteArray) (σ : St) : Array Value := #[.string s, .int .i64 σ.p, .int .i64 σ.k, .int .i64 σ.a, .string σ.t, .int .i64 σ.wr]
abbrev Rd (w : World) (g : Nat) (s : ByteArray) (σ : St) : Prop := Blk w g 163 (rdA s σ)
theorem Rd.setT {w : World} {g : Nat} {s : ByteArray} {σ : St} (h : Rd w g s σ) (k : Int) (a : Nat) (t : ByteArray) : Rd (((w.setCell ⟨g, 2, none⟩ (.int .i64 k)).setCell ⟨g, 3, none⟩ (.int .i64 a)).setCell ⟨g, 4, none⟩ (.string t)) g s ⟨σ.p, k, a, t, σ.wr⟩ := ((h.set 2 _).set 3 _).set 4 _
end Go.Proofs.YtghhjlcbcojcnaaGreatDoor

namespace Go.Proofs.YtghhjlcbcojcnaaGreatDoor
open Go.RowKit

/-! ### Lengths of runs -/
end Go.Proofs.YtghhjlcbcojcnaaGreatDoor

namespace Go.Proofs.YtghhjlcbcojcnaaGreatDoor
open Go.RowKit

/-! ### What a state keeps to -/
structure OkS (s : ByteArray) (σ : St) : Prop where
  p : σ.p ≤ s.size
  a : σ.a ≤ s.size
  t : σ.t.size ≤ s.size
end Go.Proofs.YtghhjlcbcojcnaaGreatDoor

namespace Go.Proofs.YtghhjlcbcojcnaaGreatDoor

/-- a condition -/
inductive Cd where
  | mk (kind : Int) (name value : ByteArray) (args : List Cd)
section
variable (s : ByteArray) (f : Option (St → Cd × St))
/-- how much a loop can have -/
def left (σ : St) : Nat := if σ.wr < 0 then s.size + 1 - σ.p else 0
end
/-! ### Going on -/
/-- a state that comes of another one: all right still, no earlier, an error stays -/
structure On (s : ByteArray) (σ τ : St) : Prop where
  ok : OkS s σ → OkS s τ
  p : OkS s σ → σ.p ≤ τ.p
  wr : ¬ σ.wr < 0 → τ.wr = σ.wr
theorem On.refl (s : ByteArray) (σ : St) : On s σ σ := ⟨id, fun _ => Nat.le_refl _, fun _ => rfl⟩
theorem On.trans {s : ByteArray} {a b c : St} (h : On s a b) (k : On s b c) : On s a c :=
  ⟨fun x => k.ok (h.ok x), fun x => Nat.le_trans (h.p x) (k.p (h.ok x)), fun x => by rw [k.wr (by rw [h.wr x]; exact x), h.wr x]⟩
end Go.Proofs.YtghhjlcbcojcnaaGreatDoor

namespace Go.Proofs.YtghhjlcbcojcnaaGreatDoor

section
variable {s : ByteArray}
end
end Go.Proofs.YtghhjlcbcojcnaaGreatDoor

namespace Go.Proofs.YtghhjlcbcojcnaaGreatDoor
open Go.RowKit

/-- a condition's value; what it names in memory lies in the blocks that P tells -/
inductive CdIn (P : Nat → Prop) (w : World) : Cd → Value → Prop where
  | mk (k : Int) (n x : ByteArray) (l : List Cd) (A : Option Addr) (c b o : Nat) (u0 u1 u2 u3 : Nat → Value) (hA : 0 < l.length → A = some ⟨b, o, none⟩) (hb : 0 < l.length → P b)
    (h0 : ∀ j, j < l.length → w.cell? ⟨b, o + j * 4, none⟩ = some (u0 j)) (h1 : ∀ j, j < l.length → w.cell? ⟨b, o + j * 4 + 1, none⟩ = some (u1 j))
    (h2 : ∀ j, j < l.length → w.cell? ⟨b, o + j * 4 + 2, none⟩ = some (u2 j)) (h3 : ∀ j, j < l.length → w.cell? ⟨b, o + j * 4 + 3, none⟩ = some (u3 j))
    (hr : ∀ j (hj : j < l.length), CdIn P w l[j] (.agg #[u0 j, u1 j, u2 j, u3 j])) : CdIn P w (.mk k n x l) (.agg #[.int .i64 k, .string n, .string x, .slice A l.length c])
/-- .. in blocks from B on -/
abbrev CdAt (B : Nat) : World → Cd → Value → Prop := CdIn (fun b => B ≤ b)
theorem CdIn.keep {P : Nat → Prop} {w w' : World} (hc : ∀ b o v, P b → w.cell? ⟨b, o, none⟩ = some v → w'.cell? ⟨b, o, none⟩ = some v) {c : Cd} {v : Value} (h : CdIn P w c v) : CdIn P w' c v := by
  induction h with
  | mk k n x l A c b o u0 u1 u2 u3 hA hb h0 h1 h2 h3 hr ih =>
    have hp : ∀ j, j < l.length → P b := fun j hj => hb (by omega)
    exact .mk k n x l A c b o u0 u1 u2 u3 hA hb (fun j hj => hc b _ _ (hp j hj) (h0 j hj)) (fun j hj => hc b _ _ (hp j hj) (h1 j hj)) (fun j hj => hc b _ _ (hp j hj) (h2 j hj)) (fun j hj => hc b _ _ (hp j hj) (h3 j hj)) ih
theorem CdIn.imp {P P' : Nat → Prop} {w : World} (hp : ∀ b, b < w.heap.size → P b → P' b) {c : Cd} {v : Value} (h : CdIn P w c v) : CdIn P' w c v := by
  induction h with
  | mk k n x l A c b o u0 u1 u2 u3 hA hb h0 h1 h2 h3 hr ih =>
    exact .mk k n x l A c b o u0 u1 u2 u3 hA (fun h => hp b (lt_of_cell (h0 0 h)) (hb h)) h0 h1 h2 h3 ih
theorem CdIn.ext {P : Nat → Prop} {w w' : World} (hx : Ext w w') {c : Cd} {v : Value} (h : CdIn P w c v) : CdIn P w' c v := h.keep fun _ _ _ _ e => hx.cell e
theorem CdAt.ext {B : Nat} {w w' : World} (hx : Ext w w') {c : Cd} {v : Value} (h : CdAt B w c v) : CdAt B w' c v := h.keep fun _ _ _ _ e => hx.cell e
theorem cell_set_far {w : World} {p : Addr} {u v : Value} {b o : Nat} (hb : b ≠ p.block) (e : w.cell? ⟨b, o, none⟩ = some v) : (w.setCell p u).cell? ⟨b, o, none⟩ = some v := by
  unfold World.cell? at e ⊢
  simp only [World.setCell, Array.getElem?_modify]
  rw [if_neg (by omega)]
  exact e
theorem CdIn.set {P : Nat → Prop} {w : World} {p : Addr} (hp : ¬ P p.block) (u : Value) {c : Cd} {v : Value} (h : CdIn P w c v) : CdIn P (w.setCell p u) c v := h.keep fun _ _ _ hb e => cell_set_far (fun x => hp (x ▸ hb)) e
theorem CdAt.set {B : Nat} {w : World} {p : Addr} (hp : p.block < B) (u : Value) {c : Cd} {v : Value} (h : CdAt B w c v) : CdAt B (w.setCell p u) c v := h.keep fun _ _ _ hb e => cell_set_far (by omega) e
theorem CdIn.leaf (P : Nat → Prop) (w : World) (k : Int) (n x : ByteArray) : CdIn P w (.mk k n x []) (.agg #[.int .i64 k, .string n, .string x, .slice none 0 0]) :=
  .mk k n x [] none 0 0 0 (fun _ => .int .i64 0) (fun _ => .int .i64 0) (fun _ => .int .i64 0) (fun _ => .int .i64 0) (fun h => absurd h (Nat.lt_irrefl _)) (fun h => absurd h (Nat.lt_irrefl _)) (fun _ h => absurd h (Nat.not_lt_zero _)) (fun _ h => absurd h (Nat.not_lt_zero _)) (fun _ h => absurd h (Nat.not_lt_zero _)) (fun _ h => absurd h (Nat.not_lt_zero _)) (fun _ h => absurd h (Nat.not_lt_zero _))
theorem CdAt.leaf (B : Nat) (w : World) (k : Int) (n x : ByteArray) : CdAt B w (.mk k n x []) (.agg #[.int .i64 k, .string n, .string x, .slice none 0 0]) := CdIn.leaf _ w k n x
/-- a condition's four cells -/
theorem CdIn.cells {P : Nat → Prop} {w : World} {c : Cd} {v : Value} (h : CdIn P w c v) : ∃ (k : Int) (n x : ByteArray) (A : Option Addr) (m cp : Nat), v = .agg #[.int .i64 k, .string n, .string x, .slice A m cp] := by
  cases h with
  | mk k n x l A c b o u0 u1 u2 u3 => exact ⟨k, n, x, A, _, c, rfl⟩
theorem CdAt.cells {B : Nat} {w : World} {c : Cd} {v : Value} (h : CdAt B w c v) : ∃ (k : Int) (n x : ByteArray) (A : Option Addr) (m cp : Nat), v = .agg #[.int .i64 k, .string n, .string x, .slice A m cp] := CdIn.cells h
def z0 : Value := .bool false
/-- conditions that lie in a row of cells -/
structure CdRow (P : Nat → Prop) (w : World) (l : List Cd) (xs : List Value) : Prop where
  len : xs.length = l.length * 4
  at_ : ∀ j (hj : j < l.length), CdIn P w l[j] (.agg #[xs.getD (j * 4) z0, xs.getD (j * 4 + 1) z0, xs.getD (j * 4 + 2) z0, xs.getD (j * 4 + 3) z0])
theorem CdRow.nil (P : Nat → Prop) (w : World) : CdRow P w [] [] := ⟨rfl, fun _ h => absurd h (Nat.not_lt_zero _)⟩
theorem CdRow.keep {P P' : Nat → Prop} {w w' : World} {l : List Cd} {xs : List Value} (h : CdRow P w l xs) (hp : ∀ b, b < w.heap.size → P b → P' b) (hc : ∀ b o v, b < w.heap.size → P b → w.cell? ⟨b, o, none⟩ = some v → w'.cell? ⟨b, o, none⟩ = some v) : CdRow P' w' l xs := by
  refine ⟨h.len, fun j hj => ?_⟩
  have h1 : CdIn (fun b => b < w.heap.size ∧ P b) w l[j] _ := (h.at_ j hj).imp fun b hb hP => ⟨hb, hP⟩
  have h2 : CdIn (fun b => b < w.heap.size ∧ P b) w' l[j] _ := h1.keep fun b o v hP e => hc b o v hP.1 hP.2 e
  have h3 : CdIn (fun b => b < w.heap.size ∧ P b) w l[j] _ := h1
  clear h3
  -- the blocks told are the old world's
  have h4 : ∀ {c : Cd} {v : Value}, CdIn (fun b => b < w.heap.size ∧ P b) w' c v → CdIn P' w' c v := by
    intro c v h
    induction h with
    | mk k n x l A c b o u0 u1 u2 u3 hA hb h0 h1 h2 h3 hr ih => exact .mk k n x l A c b o u0 u1 u2 u3 hA (fun h => hp b (hb h).1 (hb h).2) h0 h1 h2 h3 ih
  exact h4 h2
theorem CdRow.ext {P : Nat → Prop} {w w' : World} {l : List Cd} {xs : List Value} (h : CdRow P w l xs) (hx : Ext w w') : CdRow P w' l xs := h.keep (fun _ _ h => h) fun _ _ _ _ _ e => hx.cell e
theorem CdRow.snoc {P : Nat → Prop} {w : World} {l : List Cd} {xs : List Value} (h : CdRow P w l xs) {c : Cd} {u0 u1 u2 u3 : Value} (hc : CdIn P w c (.agg #[u0, u1, u2, u3])) : CdRow P w (l ++ [c]) (xs ++ [u0, u1, u2, u3]) := by
  refine ⟨by rw [List.length_append, List.length_append, h.len]; simp; omega, fun j hj => ?_⟩
  rw [List.length_append] at hj
  by_cases hlt : j < l.length
  · have hx : ∀ i, i < 4 → (xs ++ [u0, u1, u2, u3]).getD (j * 4 + i) z0 = xs.getD (j * 4 + i) z0 := fun i hi => by
      rw [List.getD_eq_getElem?_getD, List.getD_eq_getElem?_getD, List.getElem?_append_left (by rw [h.len]; omega)]
    have h0 := hx 0 (by omega)
    rw [Nat.add_zero] at h0
    rw [h0, hx 1 (by omega), hx 2 (by omega), hx 3 (by omega), List.getElem_append_left hlt]
    exact h.at_ j hlt
  · have e : j = l.length := by simp at hj; omega
    subst e
    have hx : ∀ i u, ([u0, u1, u2, u3] : List Value)[i]? = some u → (xs ++ [u0, u1, u2, u3]).getD (l.length * 4 + i) z0 = u := fun i u hu => by
      rw [List.getD_eq_getElem?_getD, List.getElem?_append_right (by rw [h.len]; omega), h.len, Nat.add_sub_cancel_left, hu]
      rfl
    have h0 := hx 0 u0 rfl
    rw [Nat.add_zero] at h0
    rw [h0, hx 1 u1 rfl, hx 2 u2 rfl, hx 3 u3 rfl]
    simpa using hc
/-- a condition that holds one -/
theorem CdAt.one {B : Nat} {w : World} {k : Int} {n x : ByteArray} {c : Cd} {b cp : Nat} {u0 u1 u2 u3 : Value} (hb : B ≤ b) (h0 : w.cell? ⟨b, 0, none⟩ = some u0) (h1 : w.cell? ⟨b, 1, none⟩ = some u1) (h2 : w.cell? ⟨b, 2, none⟩ = some u2) (h3 : w.cell? ⟨b, 3, none⟩ = some u3)
    (h : CdAt B w c (.agg #[u0, u1, u2, u3])) : CdAt B w (.mk k n x [c]) (.agg #[.int .i64 k, .string n, .string x, .slice (some ⟨b, 0, none⟩) 1 cp]) := by
  have z : ∀ j, j < [c].length → j = 0 := fun j hj => by simpa using hj
  exact .mk k n x [c] _ cp b 0 (fun _ => u0) (fun _ => u1) (fun _ => u2) (fun _ => u3) (fun _ => rfl) (fun _ => hb)
    (fun j hj => by obtain rfl := z j hj; exact h0) (fun j hj => by obtain rfl := z j hj; exact h1) (fun j hj => by obtain rfl := z j hj; exact h2) (fun j hj => by obtain rfl := z j hj; exact h3)
    (fun j hj => by obtain rfl := z j hj; exact h)
end Go.Proofs.YtghhjlcbcojcnaaGreatDoor

namespace Go.Proofs.YtghhjlcbcojcnaaGreatDoor
open Go.RowKit

end Go.Proofs.YtghhjlcbcojcnaaGreatDoor

namespace Go.Proofs.YtghhjlcbcojcnaaGreatDoor
open Go.RowKit

def leftOf (g m : Nat) (w : World) : Nat := match w.cell? ⟨g, 1, none⟩, w.cell? ⟨g, 5, none⟩ with | some (.int _ p), some (.int _ e) => if e < 0 then m + 1 - p.toNat else 0 | _, _ => 0
theorem ExtX.grown {g r : Nat} {a w w' : World} (h : ExtX g a w) (hg : w.grownBy w' (some r)) (hr : a.heap.size ≤ r) : ExtX g a w' :=
  ⟨hg.os.trans h.os, hg.tape.trans h.tape, hg.output.trans h.output, Nat.le_trans h.size hg.size, fun k hk hkg => (hg.block k (Nat.lt_of_lt_of_le hk h.size) (fun e => by injection e with e; omega)).trans (h.block k hk hkg)⟩
end Go.Proofs.YtghhjlcbcojcnaaGreatDoor

namespace Go.Proofs.YtghhjlcbcojcnaaGreatDoor

/-! ### Words -/
/-- a word: its text, kind, place and value -/
structure Wd where
  t : ByteArray
  k : UInt8
  a : Nat
  v : ByteArray
abbrev zeroW : Wd := ⟨⟨#[]⟩, 0, 0, ⟨#[]⟩⟩
/-! ### The reference's reading, as it runs -/
structure Rs where
  l : List Wd
  bad : Int
def Rs.hd (τ : Rs) : Wd := τ.l.headD zeroW
section
variable (f : Rs → Cd × Rs)
end
end Go.Proofs.YtghhjlcbcojcnaaGreatDoor

namespace Go.Proofs.YtghhjlcbcojcnaaGreatDoor

/-! ### The reference's reading goes on -/
def LastE (W : List Wd) : Prop := ∃ P e, W = P ++ [e] ∧ e.k = 101
def SufR (W : List Wd) (τ : Rs) : Prop := ∃ j, j < W.length ∧ τ.l = W.drop j
structure OnR (W : List Wd) (τ υ : Rs) : Prop where
  suf : SufR W τ → SufR W υ
  len : υ.l.length ≤ τ.l.length
  bad : ¬ τ.bad < 0 → υ.bad = τ.bad
theorem OnR.refl (W : List Wd) (τ : Rs) : OnR W τ τ := ⟨id, Nat.le_refl _, fun _ => rfl⟩
theorem OnR.trans {W : List Wd} {a b c : Rs} (h : OnR W a b) (k : OnR W b c) : OnR W a c :=
  ⟨fun x => k.suf (h.suf x), Nat.le_trans k.len h.len, fun x => by rw [k.bad (by rw [h.bad x]; exact x), h.bad x]⟩
section
variable {W : List Wd} (hW : LastE W)
include hW
end
end Go.Proofs.YtghhjlcbcojcnaaGreatDoor
