/- The condition reader of the program: 'advance'. The condition reader of the program: 'take'. Plain law: the program's reading of a condition, as it runs; its places only go on. Plain law: the program's reading of a condition goes on, and its loop ends. A condition in memory. Contract of the program's reading of one condition, given what it calls. (Printed by gen/cndh.py.) Contract of the program's reading of conditions in brackets, given what it calls. (Printed by gen/cndi.py.) Plain law: the reference's words of a condition's text, its reading as it runs, and the program's states that fit it. Plain law: the program's and the reference's reading of a condition answer alike. Plain law: the program's reading of a condition and the reference's go alike. Plain law: the program's and the reference's reading of a condition answer alike, the whole. The condition reader of the reference in memory: 'is', 'next'. Contract of the reference's reading of one condition, given what it calls. (Printed by gen/cndq.py.) The small map of outref2's group: made, asked. Contract of the reference's reading of conditions in brackets, given what it calls. (Printed by gen/cnds.py.) -/
import Derived.Test.YtaobnifiengglaaGreatDoorAl23
import Derived.Test.YtaobnifiengglaaGreatDoorAl16
import Derived.Deep.DeepCutAuto
import Derived.Deep.AppendLies
import Derived.Deep.RegionHeld3
import Derived.Deep.RegionLaw
import Derived.MapKept

namespace Go.Proofs.YtaobnifiengglaaGreatDoor
open Go.RowKit

/-! ### Lengths of runs -/
def runN (f : UInt8 → Bool) : Str → Nat
  | [] => 0
  | c :: l => if f c = true then runN f l + 1 else 0
theorem runN_le (f : UInt8 → Bool) : ∀ l, runN f l ≤ l.length
  | [] => Nat.le_refl _
  | c :: l => by
    rw [runN]
    split
    · have := runN_le f l; simpa using this
    · exact Nat.zero_le _
theorem runN_yes (f : UInt8 → Bool) (s : ByteArray) {k : Nat} (h : k < s.size) (hf : f s[k] = true) : k + runN f ((bs s).drop k) = k + 1 + runN f ((bs s).drop (k + 1)) := by
  rw [drop_cons s k h, runN, if_pos hf]; omega
theorem runN_no (f : UInt8 → Bool) (s : ByteArray) {k : Nat} (h : k < s.size) (hf : f s[k] = false) : k + runN f ((bs s).drop k) = k := by
  rw [drop_cons s k h, runN, if_neg (by rw [hf]; decide)]; omega
theorem runN_out (f : UInt8 → Bool) (s : ByteArray) {k : Nat} (h : s.size ≤ k) : k + runN f ((bs s).drop k) = k := by
  rw [List.drop_of_length_le (by rw [bs_length]; exact h)]; rfl
theorem run_le (f : UInt8 → Bool) (s : ByteArray) {k : Nat} (h : k ≤ s.size) : k + runN f ((bs s).drop k) ≤ s.size := by
  have := runN_le f ((bs s).drop k)
  rw [List.length_drop, bs_length] at this
  omega
def signB (c : UInt8) : Bool := c == 40 || c == 41 || c == 61
/-- a byte of a word -/
def tokB (c : UInt8) : Bool := !blankB c && !signB c && !(c == 34)
/-- the next token from a place on -/
def tokF (s : ByteArray) (σ : St) (i : Nat) : St :=
  if h : i < s.size then
    if signB s[i] = true then { σ with p := i + 1, k := 3, a := i, t := ⟨#[s[i]]⟩ }
    else if s[i] = 34 then
      if (qat (bs s) i).2.2 = true then { σ with p := (qat (bs s) i).2.1, k := 2, a := i, t := ⟨(qat (bs s) i).1.toArray⟩ } else { σ with p := i, k := 4, a := i, t := ⟨#[]⟩ }
    else { σ with p := i + runN tokB ((bs s).drop i), k := 1, a := i, t := s.extract i (i + runN tokB ((bs s).drop i)) }
  else { σ with p := i, k := 0, a := i, t := ⟨#[]⟩ }
def advF (s : ByteArray) (σ : St) : St := tokF s σ (σ.p + runN blankB ((bs s).drop σ.p))
end Go.Proofs.YtaobnifiengglaaGreatDoor

namespace Go.Proofs.YtaobnifiengglaaGreatDoor
open Go.RowKit

/-! ### What a state keeps to -/
structure OkS (s : ByteArray) (σ : St) : Prop where
  p : σ.p ≤ s.size
  a : σ.a ≤ s.size
  t : σ.t.size ≤ s.size
theorem unq_len {l t z : Str} (h : unq l = some (t, z)) : t.length ≤ l.length ∧ z.length ≤ l.length := by
  have e := unq_back l.length l t z (Nat.le_refl _) h
  have := esc_len t
  rw [e]
  simp only [List.length_append, List.length_cons]
  omega
theorem qat_le (s : ByteArray) (i : Nat) : (qat (bs s) i).2.1 ≤ s.size ∧ (qat (bs s) i).1.length ≤ s.size := by
  unfold qat
  cases h : unq ((bs s).drop (i + 1)) with
  | none => exact ⟨Nat.zero_le _, Nat.zero_le _⟩
  | some x =>
    obtain ⟨t, z⟩ := x
    have := unq_len h
    rw [List.length_drop, bs_length] at this
    rw [bs_length]
    exact ⟨Nat.sub_le _ _, by have := this.1; show t.length ≤ _; omega⟩
theorem tokF_ok {s : ByteArray} {σ : St} {i : Nat} (hi : i ≤ s.size) : OkS s (tokF s σ i) := by
  unfold tokF
  split
  · rename_i h
    split
    · exact ⟨by dsimp only; omega, hi, by show 1 ≤ s.size; omega⟩
    · split
      · have := qat_le s i
        split
        · exact ⟨this.1, hi, by show (qat (bs s) i).1.toArray.size ≤ _; simpa using this.2⟩
        · exact ⟨hi, hi, Nat.zero_le _⟩
      · have := run_le tokB s hi
        refine ⟨this, hi, ?_⟩
        dsimp only
        rw [ByteArray.size_extract]
        omega
  · exact ⟨hi, hi, Nat.zero_le _⟩
theorem advF_ok {s : ByteArray} {σ : St} (h : OkS s σ) : OkS s (advF s σ) := tokF_ok (run_le blankB s h.p)
end Go.Proofs.YtaobnifiengglaaGreatDoor

namespace Go.Proofs.YtaobnifiengglaaGreatDoor

/-- a condition -/
inductive Cd where
  | mk (kind : Int) (name value : ByteArray) (args : List Cd)
def zeroC : Cd := .mk 0 ⟨#[]⟩ ⟨#[]⟩ []
abbrev wAlways : Str := [97, 108, 119, 97, 121, 115]
abbrev wFact : Str := [102, 97, 99, 116]
abbrev wSetting : Str := [115, 101, 116, 116, 105, 110, 103]
abbrev wHas : Str := [104, 97, 115]
abbrev wVersion : Str := [118, 101, 114, 115, 105, 111, 110]
abbrev wNot : Str := [110, 111, 116]
abbrev wIn : Str := [105, 110]
abbrev wAnd : Str := [97, 110, 100]
abbrev wOr : Str := [111, 114]
section
variable (s : ByteArray) (f : Option (St → Cd × St))
end
/-! ### Going on -/
/-- a state that comes of another one: all right still, no earlier, an error stays -/
structure On (s : ByteArray) (σ τ : St) : Prop where
  ok : OkS s σ → OkS s τ
  p : OkS s σ → σ.p ≤ τ.p
  wr : ¬ σ.wr < 0 → τ.wr = σ.wr
theorem On.refl (s : ByteArray) (σ : St) : On s σ σ := ⟨id, fun _ => Nat.le_refl _, fun _ => rfl⟩
theorem On.trans {s : ByteArray} {a b c : St} (h : On s a b) (k : On s b c) : On s a c :=
  ⟨fun x => k.ok (h.ok x), fun x => Nat.le_trans (h.p x) (k.p (h.ok x)), fun x => by rw [k.wr (by rw [h.wr x]; exact x), h.wr x]⟩
theorem qat_ge (s : ByteArray) (i : Nat) (h : (qat (bs s) i).2.2 = true) : i < (qat (bs s) i).2.1 := by
  unfold qat at h ⊢
  cases hu : unq ((bs s).drop (i + 1)) with
  | none => rw [hu] at h; cases h
  | some x =>
    obtain ⟨t, z⟩ := x
    have := (unq_len hu).2
    have hne : (bs s).drop (i + 1) ≠ [] := fun e => by rw [e, unq_nil] at hu; cases hu
    have hl : i + 1 < (bs s).length := by
      apply Classical.byContradiction
      intro hh
      exact hne (List.drop_of_length_le (by omega))
    rw [List.length_drop] at this
    show i < (bs s).length - z.length
    omega
/-- a token that is none of the end's and no broken one has a length -/
theorem tokF_lt {s : ByteArray} {σ : St} {i : Nat} (hb : ∀ h : i < s.size, blankB s[i] = false) (h0 : (tokF s σ i).k ≠ 0) (h4 : (tokF s σ i).k ≠ 4) : i < (tokF s σ i).p := by
  unfold tokF at h0 h4 ⊢
  split at h0
  · rename_i hi
    rw [dif_pos hi] at h4 ⊢
    by_cases hs : signB s[i] = true
    · rw [if_pos hs]; show i < i + 1; omega
    · rw [if_neg hs] at h4 ⊢
      by_cases hq : s[i] = 34
      · rw [if_pos hq] at h4 ⊢
        by_cases ho : (qat (bs s) i).2.2 = true
        · rw [if_pos ho]; exact qat_ge s i ho
        · rw [if_neg ho] at h4; exact absurd rfl h4
      · rw [if_neg hq]
        have hw : tokB s[i] = true := by
          unfold tokB
          rw [hb hi, (Bool.not_eq_true _).mp hs]
          simpa using hq
        have := runN_yes tokB s hi hw
        show i < i + runN tokB ((bs s).drop i)
        omega
  · exact absurd rfl h0
theorem run_stop (f : UInt8 → Bool) (s : ByteArray) : ∀ (m k : Nat), s.size - k = m → ∀ h : k + runN f ((bs s).drop k) < s.size, f s[k + runN f ((bs s).drop k)] = false
  | m, k, hm, h => by
    by_cases hk : k < s.size
    · cases hf : f s[k]
      · have e := runN_no f s hk hf
        simp only [e]; exact hf
      · have e := runN_yes f s hk hf
        simp only [e] at h ⊢
        exact run_stop f s (s.size - (k + 1)) (k + 1) rfl h
    · have e := runN_out f s (Nat.le_of_not_lt hk)
      omega
  termination_by m => m
  decreasing_by omega
theorem advF_lt {s : ByteArray} {σ : St} (h0 : (advF s σ).k ≠ 0) (h4 : (advF s σ).k ≠ 4) : σ.p < (advF s σ).p :=
  Nat.lt_of_le_of_lt (Nat.le_add_right _ _) (tokF_lt (fun h => run_stop blankB s _ _ rfl h) h0 h4)
end Go.Proofs.YtaobnifiengglaaGreatDoor

namespace Go.Proofs.YtaobnifiengglaaGreatDoor

section
variable {s : ByteArray}
end
end Go.Proofs.YtaobnifiengglaaGreatDoor

namespace Go.Proofs.YtaobnifiengglaaGreatDoor
open Go.RowKit

/-- a condition's value; what it names in memory lies in the blocks that P tells -/
inductive CdIn (P : Nat → Prop) (w : World) : Cd → Value → Prop where
  | mk (k : Int) (n x : ByteArray) (l : List Cd) (A : Option Addr) (c b o : Nat) (u0 u1 u2 u3 : Nat → Value) (hA : 0 < l.length → A = some ⟨b, o, none⟩) (hb : 0 < l.length → P b)
    (h0 : ∀ j, j < l.length → w.cell? ⟨b, o + j * 4, none⟩ = some (u0 j)) (h1 : ∀ j, j < l.length → w.cell? ⟨b, o + j * 4 + 1, none⟩ = some (u1 j))
    (h2 : ∀ j, j < l.length → w.cell? ⟨b, o + j * 4 + 2, none⟩ = some (u2 j)) (h3 : ∀ j, j < l.length → w.cell? ⟨b, o + j * 4 + 3, none⟩ = some (u3 j))
    (hr : ∀ j (hj : j < l.length), CdIn P w l[j] (.agg #[u0 j, u1 j, u2 j, u3 j])) : CdIn P w (.mk k n x l) (.agg #[.int .i64 k, .string n, .string x, .slice A l.length c])
/-- .. in blocks from B on -/
abbrev CdAt (B : Nat) : World → Cd → Value → Prop := CdIn (fun b => B ≤ b)
theorem CdIn.keep {P : Nat → Prop} {w w' : World} (hc : ∀ b o v, P b → w.cell? ⟨b, o, none⟩ = some v → w'.cell? ⟨b, o, none⟩ = some v) {c : Cd} {v : Value} (h : CdIn P w c v) : CdIn P w' c v := by
  induction h with
  | mk k n x l A c b o u0 u1 u2 u3 hA hb h0 h1 h2 h3 hr ih =>
    have hp : ∀ j, j < l.length → P b := fun j hj => hb (by omega)
    exact .mk k n x l A c b o u0 u1 u2 u3 hA hb (fun j hj => hc b _ _ (hp j hj) (h0 j hj)) (fun j hj => hc b _ _ (hp j hj) (h1 j hj)) (fun j hj => hc b _ _ (hp j hj) (h2 j hj)) (fun j hj => hc b _ _ (hp j hj) (h3 j hj)) ih
theorem CdIn.imp {P P' : Nat → Prop} {w : World} (hp : ∀ b, b < w.heap.size → P b → P' b) {c : Cd} {v : Value} (h : CdIn P w c v) : CdIn P' w c v := by
  induction h with
  | mk k n x l A c b o u0 u1 u2 u3 hA hb h0 h1 h2 h3 hr ih =>
    exact .mk k n x l A c b o u0 u1 u2 u3 hA (fun h => hp b (lt_of_cell (h0 0 h)) (hb h)) h0 h1 h2 h3 ih
theorem CdIn.ext {P : Nat → Prop} {w w' : World} (hx : Ext w w') {c : Cd} {v : Value} (h : CdIn P w c v) : CdIn P w' c v := h.keep fun _ _ _ _ e => hx.cell e
theorem CdAt.ext {B : Nat} {w w' : World} (hx : Ext w w') {c : Cd} {v : Value} (h : CdAt B w c v) : CdAt B w' c v := h.keep fun _ _ _ _ e => hx.cell e
theorem cell_set_far {w : World} {p : Addr} {u v : Value} {b o : Nat} (hb : b ≠ p.block) (e : w.cell? ⟨b, o, none⟩ = some v) : (w.setCell p u).cell? ⟨b, o, none⟩ = some v := by
  unfold World.cell? at e ⊢
  simp only [World.setCell, Array.getElem?_modify]
  rw [if_neg (by omega)]
  exact e
theorem CdIn.set {P : Nat → Prop} {w : World} {p : Addr} (hp : ¬ P p.block) (u : Value) {c : Cd} {v : Value} (h : CdIn P w c v) : CdIn P (w.setCell p u) c v := h.keep fun _ _ _ hb e => cell_set_far (fun x => hp (x ▸ hb)) e
theorem CdAt.set {B : Nat} {w : World} {p : Addr} (hp : p.block < B) (u : Value) {c : Cd} {v : Value} (h : CdAt B w c v) : CdAt B (w.setCell p u) c v := h.keep fun _ _ _ hb e => cell_set_far (by omega) e
theorem CdIn.leaf (P : Nat → Prop) (w : World) (k : Int) (n x : ByteArray) : CdIn P w (.mk k n x []) (.agg #[.int .i64 k, .string n, .string x, .slice none 0 0]) :=
  .mk k n x [] none 0 0 0 (fun _ => .int .i64 0) (fun _ => .int .i64 0) (fun _ => .int .i64 0) (fun _ => .int .i64 0) (fun h => absurd h (Nat.lt_irrefl _)) (fun h => absurd h (Nat.lt_irrefl _)) (fun _ h => absurd h (Nat.not_lt_zero _)) (fun _ h => absurd h (Nat.not_lt_zero _)) (fun _ h => absurd h (Nat.not_lt_zero _)) (fun _ h => absurd h (Nat.not_lt_zero _)) (fun _ h => absurd h (Nat.not_lt_zero _))
theorem CdAt.leaf (B : Nat) (w : World) (k : Int) (n x : ByteArray) : CdAt B w (.mk k n x []) (.agg #[.int .i64 k, .string n, .string x, .slice none 0 0]) := CdIn.leaf _ w k n x
/-- a condition's four cells -/
theorem CdIn.cells {P : Nat → Prop} {w : World} {c : Cd} {v : Value} (h : CdIn P w c v) : ∃ (k : Int) (n x : ByteArray) (A : Option Addr) (m cp : Nat), v = .agg #[.int .i64 k, .string n, .string x, .slice A m cp] := by
  cases h with
  | mk k n x l A c b o u0 u1 u2 u3 => exact ⟨k, n, x, A, _, c, rfl⟩
theorem CdAt.cells {B : Nat} {w : World} {c : Cd} {v : Value} (h : CdAt B w c v) : ∃ (k : Int) (n x : ByteArray) (A : Option Addr) (m cp : Nat), v = .agg #[.int .i64 k, .string n, .string x, .slice A m cp] := CdIn.cells h
def z0 : Value := .bool false
/-- conditions that lie in a row of cells -/
structure CdRow (P : Nat → Prop) (w : World) (l : List Cd) (xs : List Value) : Prop where
  len : xs.length = l.length * 4
  at_ : ∀ j (hj : j < l.length), CdIn P w l[j] (.agg #[xs.getD (j * 4) z0, xs.getD (j * 4 + 1) z0, xs.getD (j * 4 + 2) z0, xs.getD (j * 4 + 3) z0])
theorem CdRow.nil (P : Nat → Prop) (w : World) : CdRow P w [] [] := ⟨rfl, fun _ h => absurd h (Nat.not_lt_zero _)⟩
theorem CdRow.keep {P P' : Nat → Prop} {w w' : World} {l : List Cd} {xs : List Value} (h : CdRow P w l xs) (hp : ∀ b, b < w.heap.size → P b → P' b) (hc : ∀ b o v, b < w.heap.size → P b → w.cell? ⟨b, o, none⟩ = some v → w'.cell? ⟨b, o, none⟩ = some v) : CdRow P' w' l xs := by
  refine ⟨h.len, fun j hj => ?_⟩
  have h1 : CdIn (fun b => b < w.heap.size ∧ P b) w l[j] _ := (h.at_ j hj).imp fun b hb hP => ⟨hb, hP⟩
  have h2 : CdIn (fun b => b < w.heap.size ∧ P b) w' l[j] _ := h1.keep fun b o v hP e => hc b o v hP.1 hP.2 e
  have h3 : CdIn (fun b => b < w.heap.size ∧ P b) w l[j] _ := h1
  clear h3
  -- the blocks told are the old world's
  have h4 : ∀ {c : Cd} {v : Value}, CdIn (fun b => b < w.heap.size ∧ P b) w' c v → CdIn P' w' c v := by
    intro c v h
    induction h with
    | mk k n x l A c b o u0 u1 u2 u3 hA hb h0 h1 h2 h3 hr ih => exact .mk k n x l A c b o u0 u1 u2 u3 hA (fun h => hp b (hb h).1 (hb h).2) h0 h1 h2 h3 ih
  exact h4 h2
theorem CdRow.ext {P : Nat → Prop} {w w' : World} {l : List Cd} {xs : List Value} (h : CdRow P w l xs) (hx : Ext w w') : CdRow P w' l xs := h.keep (fun _ _ h => h) fun _ _ _ _ _ e => hx.cell e
/-- a condition that holds one -/
theorem CdAt.one {B : Nat} {w : World} {k : Int} {n x : ByteArray} {c : Cd} {b cp : Nat} {u0 u1 u2 u3 : Value} (hb : B ≤ b) (h0 : w.cell? ⟨b, 0, none⟩ = some u0) (h1 : w.cell? ⟨b, 1, none⟩ = some u1) (h2 : w.cell? ⟨b, 2, none⟩ = some u2) (h3 : w.cell? ⟨b, 3, none⟩ = some u3)
    (h : CdAt B w c (.agg #[u0, u1, u2, u3])) : CdAt B w (.mk k n x [c]) (.agg #[.int .i64 k, .string n, .string x, .slice (some ⟨b, 0, none⟩) 1 cp]) := by
  have z : ∀ j, j < [c].length → j = 0 := fun j hj => by simpa using hj
  exact .mk k n x [c] _ cp b 0 (fun _ => u0) (fun _ => u1) (fun _ => u2) (fun _ => u3) (fun _ => rfl) (fun _ => hb)
    (fun j hj => by obtain rfl := z j hj; exact h0) (fun j hj => by obtain rfl := z j hj; exact h1) (fun j hj => by obtain rfl := z j hj; exact h2) (fun j hj => by obtain rfl := z j hj; exact h3)
    (fun j hj => by obtain rfl := z j hj; exact h)
end Go.Proofs.YtaobnifiengglaaGreatDoor

namespace Go.Proofs.YtaobnifiengglaaGreatDoor
open Go.RowKit

end Go.Proofs.YtaobnifiengglaaGreatDoor

namespace Go.Proofs.YtaobnifiengglaaGreatDoor
open Go.RowKit

theorem ExtX.grown {g r : Nat} {a w w' : World} (h : ExtX g a w) (hg : w.grownBy w' (some r)) (hr : a.heap.size ≤ r) : ExtX g a w' :=
  ⟨hg.os.trans h.os, hg.tape.trans h.tape, hg.output.trans h.output, Nat.le_trans h.size hg.size, fun k hk hkg => (hg.block k (Nat.lt_of_lt_of_le hk h.size) (fun e => by injection e with e; omega)).trans (h.block k hk hkg)⟩
end Go.Proofs.YtaobnifiengglaaGreatDoor

namespace Go.Proofs.YtaobnifiengglaaGreatDoor

/-! ### Words -/
/-- a word: its text, kind, place and value -/
structure Wd where
  t : ByteArray
  k : UInt8
  a : Nat
  v : ByteArray
abbrev zeroW : Wd := ⟨⟨#[]⟩, 0, 0, ⟨#[]⟩⟩
def kindW (k : Int) (t : ByteArray) : UInt8 := if k = 3 then t.data.toList.headD 0 else if k = 2 then 113 else 119
/-- a token of the program as a word -/
def wdOf (k : Int) (a : Nat) (t : ByteArray) : Wd := if k = 2 then ⟨⟨#[]⟩, 113, a, t⟩ else ⟨t, kindW k t, a, ⟨#[]⟩⟩
def endW (s : ByteArray) : Wd := ⟨⟨#[]⟩, 101, s.size, ⟨#[]⟩⟩
def badW (a : Nat) : Wd := ⟨⟨#[]⟩, 33, a, ⟨#[]⟩⟩
abbrev at0 (i : Nat) : St := ⟨i, 0, 0, ⟨#[]⟩, -1⟩
/-- the words from a place on -/
def wordsT (s : ByteArray) (i : Nat) : List Wd :=
  if _h0 : (advF s (at0 i)).k = 0 then [endW s]
  else if _h4 : (advF s (at0 i)).k = 4 then [badW (advF s (at0 i)).a, endW s]
  else if _hp : (advF s (at0 i)).p ≤ s.size then wdOf (advF s (at0 i)).k (advF s (at0 i)).a (advF s (at0 i)).t :: wordsT s (advF s (at0 i)).p
  else []
  termination_by s.size - i
  decreasing_by
    have := advF_lt _h0 _h4
    dsimp only at this
    omega
/-! ### The reference's reading, as it runs -/
structure Rs where
  l : List Wd
  bad : Int
def Rs.hd (τ : Rs) : Wd := τ.l.headD zeroW
section
variable (f : Rs → Cd × Rs)
end
end Go.Proofs.YtaobnifiengglaaGreatDoor

namespace Go.Proofs.YtaobnifiengglaaGreatDoor

/-! ### The reference's reading goes on -/
def LastE (W : List Wd) : Prop := ∃ P e, W = P ++ [e] ∧ e.k = 101
def SufR (W : List Wd) (τ : Rs) : Prop := ∃ j, j < W.length ∧ τ.l = W.drop j
structure OnR (W : List Wd) (τ υ : Rs) : Prop where
  suf : SufR W τ → SufR W υ
  len : υ.l.length ≤ τ.l.length
  bad : ¬ τ.bad < 0 → υ.bad = τ.bad
theorem OnR.refl (W : List Wd) (τ : Rs) : OnR W τ τ := ⟨id, Nat.le_refl _, fun _ => rfl⟩
theorem OnR.trans {W : List Wd} {a b c : Rs} (h : OnR W a b) (k : OnR W b c) : OnR W a c :=
  ⟨fun x => k.suf (h.suf x), Nat.le_trans k.len h.len, fun x => by rw [k.bad (by rw [h.bad x]; exact x), h.bad x]⟩
section
variable {W : List Wd} (hW : LastE W)
include hW
end
end Go.Proofs.YtaobnifiengglaaGreatDoor

namespace Go.Proofs.YtaobnifiengglaaGreatDoor

/-- two states that fit: the same error, or the same words ahead -/
def Sim (s : ByteArray) (σ : St) (τ : Rs) : Prop :=
  (σ.wr < 0 ∧ τ.bad < 0 ∧ ∃ i, i ≤ s.size ∧ (σ.k = (advF s (at0 i)).k ∧ σ.a = (advF s (at0 i)).a ∧ σ.t = (advF s (at0 i)).t ∧ σ.p = (advF s (at0 i)).p) ∧ τ.l = wordsT s i) ∨ (¬ σ.wr < 0 ∧ τ.bad = σ.wr)
section
variable {s : ByteArray}
theorem Sim.err {σ : St} {τ : Rs} (h : ¬ σ.wr < 0) (e : τ.bad = σ.wr) : Sim s σ τ := .inr ⟨h, e⟩
end
end Go.Proofs.YtaobnifiengglaaGreatDoor

namespace Go.Proofs.YtaobnifiengglaaGreatDoor

section
variable {s : ByteArray}
theorem Sim.ok {σ : St} {τ : Rs} (h : Sim s σ τ) (hw : σ.wr < 0) : OkS s σ := by
  rcases h with ⟨_, _, i, hi, ⟨ek, ea, et, ep⟩, _⟩ | ⟨h1, _⟩
  · have := advF_ok (s := s) (σ := at0 i) ⟨hi, Nat.zero_le _, Nat.zero_le _⟩
    exact ⟨by rw [ep]; exact this.p, by rw [ea]; exact this.a, by rw [et]; exact this.t⟩
  · exact absurd hw h1
end
end Go.Proofs.YtaobnifiengglaaGreatDoor

namespace Go.Proofs.YtaobnifiengglaaGreatDoor
open Go.RowKit

/-- the words, from a block's head on -/
structure WdsAt (w : World) (b : Nat) (W : List Wd) : Prop where
  lt : b < w.heap.size
  c0 : ∀ j (h : j < W.length), w.cell? ⟨b, j * 4, none⟩ = some (.string W[j].t)
  c1 : ∀ j (h : j < W.length), w.cell? ⟨b, j * 4 + 1, none⟩ = some (.int .u8 W[j].k.toNat)
  c2 : ∀ j (h : j < W.length), w.cell? ⟨b, j * 4 + 2, none⟩ = some (.int .i64 W[j].a)
  c3 : ∀ j (h : j < W.length), w.cell? ⟨b, j * 4 + 3, none⟩ = some (.string W[j].v)
theorem WdsAt.ext {w w' : World} {b : Nat} {W : List Wd} (h : WdsAt w b W) (hx : Ext w w') : WdsAt w' b W :=
  ⟨Nat.lt_of_lt_of_le h.lt hx.size, fun j hj => hx.cell (h.c0 j hj), fun j hj => hx.cell (h.c1 j hj), fun j hj => hx.cell (h.c2 j hj), fun j hj => hx.cell (h.c3 j hj)⟩
theorem WdsAt.far {w : World} {b : Nat} {W : List Wd} (h : WdsAt w b W) {p : Addr} (hp : b ≠ p.block) (u : Value) : WdsAt (w.setCell p u) b W :=
  ⟨by have := h.lt; simpa [World.setCell] using this, fun j hj => cell_set_far hp (h.c0 j hj), fun j hj => cell_set_far hp (h.c1 j hj), fun j hj => cell_set_far hp (h.c2 j hj), fun j hj => cell_set_far hp (h.c3 j hj)⟩
/-- the reader -/
structure RdR (w : World) (g b : Nat) (W : List Wd) (τ : Rs) : Prop where
  ne : b ≠ g
  wds : WdsAt w b W
  rd : ∃ j cp, j < W.length ∧ τ.l = W.drop j ∧ W.length - j ≤ cp ∧ Blk w g 171 #[.slice (some ⟨b, j * 4, none⟩) (W.length - j) cp, .int .i64 τ.bad]
namespace RdR
variable {w w' : World} {g b : Nat} {W : List Wd} {τ : Rs}
theorem suf (h : RdR w g b W τ) : SufR W τ := by
  obtain ⟨j, cp, hj, hl, _⟩ := h.rd
  exact ⟨j, hj, hl⟩
theorem lt (h : RdR w g b W τ) : g < w.heap.size := by
  obtain ⟨j, cp, hj, hl, _, hb⟩ := h.rd
  exact hb.lt
theorem ext (h : RdR w g b W τ) (hx : Ext w w') : RdR w' g b W τ := by
  obtain ⟨j, cp, hj, hl, hc, hb⟩ := h.rd
  exact ⟨h.ne, h.wds.ext hx, j, cp, hj, hl, hc, hb.ext hx⟩
theorem alloc (h : RdR w g b W τ) (o : Obj) : RdR (w.alloc o) g b W τ := h.ext ((Ext.refl w).alloc o)
theorem far (h : RdR w g b W τ) {p : Addr} (hp : g ≠ p.block) (hp2 : b ≠ p.block) (u : Value) : RdR (w.setCell p u) g b W τ := by
  obtain ⟨j, cp, hj, hl, hc, hb⟩ := h.rd
  exact ⟨h.ne, h.wds.far hp2 u, j, cp, hj, hl, hc, hb.far hp u⟩
/-- the reader's cells, and the next word's -/
theorem opened (h : RdR w g b W τ) : ∃ j cp m, j < W.length ∧ τ.l = W.drop j ∧ W.length - j = m ∧ 0 < m ∧ m ≤ cp ∧ Blk w g 171 #[.slice (some ⟨b, j * 4, none⟩) m cp, .int .i64 τ.bad] ∧
    w.cell? ⟨b, j * 4, none⟩ = some (.string τ.hd.t) ∧ w.cell? ⟨b, j * 4 + 1, none⟩ = some (.int .u8 τ.hd.k.toNat) ∧ w.cell? ⟨b, j * 4 + 2, none⟩ = some (.int .i64 τ.hd.a) ∧ w.cell? ⟨b, j * 4 + 3, none⟩ = some (.string τ.hd.v) := by
  obtain ⟨j, cp, hj, hl, hc, hb⟩ := h.rd
  have hh : τ.hd = W[j] := by
    unfold Rs.hd
    rw [hl, List.drop_eq_getElem_cons hj]
    rfl
  rw [hh]
  exact ⟨j, cp, _, hj, hl, rfl, by omega, hc, hb, h.wds.c0 j hj, h.wds.c1 j hj, h.wds.c2 j hj, h.wds.c3 j hj⟩
end RdR
end Go.Proofs.YtaobnifiengglaaGreatDoor

namespace Go.Proofs.YtaobnifiengglaaGreatDoor
open Go.RowKit

end Go.Proofs.YtaobnifiengglaaGreatDoor

namespace Go.Proofs.YtaobnifiengglaaGreatDoor
open Go.RowKit

abbrev eAnd : MapEntry := ⟨.string ⟨#[97, 110, 100]⟩, .int .i64 7, 0⟩
abbrev eOr : MapEntry := ⟨.string ⟨#[111, 114]⟩, .int .i64 8, 1⟩
/-- the map of the two kinds -/
def KindMap (w : World) (b : Nat) : Prop := w.heap[b]? = some (.map #[eAnd, eOr] 2)
theorem KindMap.lt {w : World} {b : Nat} (h : KindMap w b) : b < w.heap.size := (Array.getElem?_eq_some_iff.1 h).1
theorem KindMap.ext {b : Nat} {w w' : World} (h : KindMap w b) (hx : Ext w w') : KindMap w' b := (hx.block b h.lt).trans h
theorem KindMap.alloc {b : Nat} {w : World} (h : KindMap w b) (o : Obj) : KindMap (w.alloc o) b := h.ext ((Ext.refl w).alloc o)
theorem KindMap.far {b : Nat} {w : World} (h : KindMap w b) {p : Addr} (hp : b ≠ p.block) (u : Value) : KindMap (w.setCell p u) b := (Below.heap_setCell w p u b hp).trans h
end Go.Proofs.YtaobnifiengglaaGreatDoor

namespace Go.Proofs.YtaobnifiengglaaGreatDoor
open Go.RowKit

end Go.Proofs.YtaobnifiengglaaGreatDoor
