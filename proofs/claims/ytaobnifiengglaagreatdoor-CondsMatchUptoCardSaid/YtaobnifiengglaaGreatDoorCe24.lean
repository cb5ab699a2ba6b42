/- Plain law: the program's reading of a condition goes on, and its loop ends. A condition in memory. -/
import Derived.Test.YtaobnifiengglaaGreatDoorCe23

namespace Go.Proofs.YtaobnifiengglaaGreatDoor

section
variable {s : ByteArray}
theorem fixF_on (σ : St) : On s σ (fixF σ) := by
  unfold fixF
  split
  · exact failF_on s σ _
  · exact On.refl s σ
theorem loopF_on {f : St → Cd × St} (hf : ∀ σ, On s σ (f σ).2) (word : Str) : ∀ m σ l, On s σ (loopF s f word m σ l).2
  | 0, σ, _ => On.refl s σ
  | m + 1, σ, l => by
    rw [loopF]
    split
    · exact ((advF_on s σ).trans (hf _)).trans (loopF_on hf word m _ _)
    · exact On.refl s σ
theorem headF_on {f : St → Cd × St} (hf : ∀ σ, On s σ (f σ).2) (word : ByteArray) (σ : St) : On s σ (headF s f word σ).2 := by
  unfold headF
  split
  · exact takeF_on s σ _ _
  · exact (hf σ).trans (takeF_on s _ _ _)
theorem tailF_on {f : St → Cd × St} (hf : ∀ σ, On s σ (f σ).2) (c : Cd) (σ : St) : On s σ (tailF s f c σ).2 :=
  ((fixF_on σ).trans (loopF_on hf _ _ _ _)).trans (takeF_on s _ _ _)
theorem listB_on {f : Option (St → Cd × St)} (hf : ∀ g, f = some g → ∀ σ, On s σ (g σ).2) (σ : St) : On s σ (listB s f σ).2 := by
  unfold listB
  cases f with
  | none => exact failF_on s σ _
  | some g =>
    dsimp only
    have h := hf g rfl
    have h1 := takeF_on s σ 3 [40]
    split
    · exact (h1.trans (advF_on s _)).trans (headF_on h _ _)
    · split
      · exact (h1.trans (advF_on s _)).trans (headF_on h _ _)
      · exact (h1.trans (h _)).trans (tailF_on h _ _)
theorem pairF_on (σ : St) (kind mid : Int) (t : Str) : On s σ (pairF s σ kind mid t).2 := ((takeF_on s σ _ _).trans (takeF_on s _ _ _)).trans (takeF_on s _ _ _)
theorem wordF_on {f : Option (St → Cd × St)} (hf : ∀ g, f = some g → ∀ σ, On s σ (g σ).2) (a : Int) (x : Str) (σ : St) : On s σ (wordF s f a x σ).2 := by
  unfold wordF
  split
  · exact On.refl s σ
  split
  · exact pairF_on σ _ _ _
  split
  · exact pairF_on σ _ _ _
  split
  · exact takeF_on s σ _ _
  split
  · exact pairF_on σ _ _ _
  split
  · cases f with
    | none => exact failF_on s σ a
    | some g => exact hf g rfl σ
  · exact failF_on s σ a
theorem condB_on {f : Option (St → Cd × St)} (hf : ∀ g, f = some g → ∀ σ, On s σ (g σ).2) (σ : St) : On s σ (condB s f σ).2 := by
  unfold condB
  split
  · exact listB_on hf σ
  · exact (takeF_on s σ _ _).trans (wordF_on hf _ _ _)
theorem condF_on : ∀ n (σ : St), On s σ (condF s n σ).2
  | 0, σ => condB_on (fun _ h => by cases h) σ
  | n + 1, σ => condB_on (fun g h => by cases h; exact condF_on n) σ
/-- at the end, or at a broken text, no condition is read -/
theorem condB_end {f : Option (St → Cd × St)} {σ : St} (hw : σ.wr < 0) (hk : σ.k = 0 ∨ σ.k = 4) : ¬ (condB s f σ).2.wr < 0 := by
  have h3 : isF σ 3 [40] = false := by
    unfold isF
    rw [decide_eq_false (show ¬ σ.k = 3 by omega)]
    simp
  have ht : takeF s σ 1 [] = (⟨#[]⟩, { σ with wr := σ.a }) := by
    unfold takeF
    rw [if_neg (Classical.not_not.2 hw), if_pos (.inl (by omega))]
  have hx : bs (⟨#[]⟩ : ByteArray) = [] := rfl
  unfold condB
  rw [h3, if_neg (by decide), ht, hx]
  have hf : wordF s f σ.a [] { σ with wr := σ.a } = (zeroC, failF { σ with wr := σ.a } σ.a) := by
    unfold wordF
    simp
  rw [hf]
  show ¬ (failF { σ with wr := σ.a } σ.a).wr < 0
  unfold failF
  rw [if_neg (show ¬ (σ.a : Int) < 0 by omega)]
  show ¬ (σ.a : Int) < 0
  omega
theorem condF_end {n : Nat} {σ : St} (hw : σ.wr < 0) (hk : σ.k = 0 ∨ σ.k = 4) : ¬ (condF s n σ).2.wr < 0 := by
  cases n with
  | zero => exact condB_end hw hk
  | succ n => exact condB_end hw hk
theorem isF_wr {σ : St} {k : Int} {t : Str} (h : isF σ k t = true) : σ.wr < 0 := by
  unfold isF at h
  simp only [Bool.and_eq_true, decide_eq_true_eq] at h
  exact h.1.1
/-- the loop's measure -/
theorem left_lt {n : Nat} {σ : St} {word : Str} (ho : OkS s σ) (h : isF σ 1 word = true) : left s (condF s n (advF s σ)).2 < left s σ := by
  have hw := isF_wr h
  have hp := ho.p
  unfold left
  rw [if_pos hw]
  split
  · rename_i h2
    have hk : ¬ ((advF s σ).k = 0 ∨ (advF s σ).k = 4) := fun hk => condF_end (by rw [show (advF s σ).wr = σ.wr from tokF_wr s σ _]; exact hw) hk h2
    have h1 : σ.p < (advF s σ).p := advF_lt (fun e => hk (.inl e)) (fun e => hk (.inr e))
    have h3 := (condF_on n (advF s σ)).p (advF_ok ho)
    omega
  · omega
/-- more than enough is enough -/
theorem loopF_more {n : Nat} {word : Str} : ∀ m σ l, OkS s σ → left s σ ≤ m → loopF s (condF s n) word m σ l = loopF s (condF s n) word (left s σ) σ l
  | 0, σ, l, ho, h => by rw [show left s σ = 0 by omega]
  | m + 1, σ, l, ho, h => by
    cases hi : isF σ 1 word
    · cases hl : left s σ with
      | zero => simp [loopF, hi]
      | succ k => simp [loopF, hi]
    · have h1 := left_lt (n := n) ho hi
      have ho2 := (condF_on n (advF s σ)).ok (advF_ok ho)
      obtain ⟨k, hk⟩ : ∃ k, left s σ = k + 1 := ⟨left s σ - 1, by omega⟩
      rw [hk, loopF, loopF, hi, if_pos rfl, if_pos rfl, loopF_more m _ _ ho2 (by omega)]
      by_cases hkm : k = m
      · subst hkm; rw [loopF_more k _ _ ho2 (by omega)]
      · rw [loopF_more k _ _ ho2 (by omega)]
theorem loopF_step {n : Nat} {word : Str} {σ : St} {l : List Cd} (ho : OkS s σ) (hi : isF σ 1 word = true) :
    loopF s (condF s n) word (left s σ) σ l = loopF s (condF s n) word (left s (condF s n (advF s σ)).2) (condF s n (advF s σ)).2 (l ++ [(condF s n (advF s σ)).1]) := by
  have h1 := left_lt (n := n) ho hi
  have ho2 := (condF_on n (advF s σ)).ok (advF_ok ho)
  obtain ⟨k, hk⟩ : ∃ k, left s σ = k + 1 := ⟨left s σ - 1, by omega⟩
  rw [hk, loopF, if_pos hi, loopF_more k _ _ ho2 (by omega)]
theorem loopF_stop {n : Nat} {word : Str} {σ : St} {l : List Cd} (hi : isF σ 1 word = false) : loopF s (condF s n) word (left s σ) σ l = (l, σ) := by
  cases left s σ with
  | zero => rfl
  | succ k => rw [loopF, hi]; rfl
end
end Go.Proofs.YtaobnifiengglaaGreatDoor

namespace Go.Proofs.YtaobnifiengglaaGreatDoor
open Go.RowKit

/-- a condition's value; what it names in memory lies in the blocks that P tells -/
inductive CdIn (P : Nat → Prop) (w : World) : Cd → Value → Prop where
  | mk (k : Int) (n x : ByteArray) (l : List Cd) (A : Option Addr) (c b o : Nat) (u0 u1 u2 u3 : Nat → Value) (hA : 0 < l.length → A = some ⟨b, o, none⟩) (hb : 0 < l.length → P b)
    (h0 : ∀ j, j < l.length → w.cell? ⟨b, o + j * 4, none⟩ = some (u0 j)) (h1 : ∀ j, j < l.length → w.cell? ⟨b, o + j * 4 + 1, none⟩ = some (u1 j))
    (h2 : ∀ j, j < l.length → w.cell? ⟨b, o + j * 4 + 2, none⟩ = some (u2 j)) (h3 : ∀ j, j < l.length → w.cell? ⟨b, o + j * 4 + 3, none⟩ = some (u3 j))
    (hr : ∀ j (hj : j < l.length), CdIn P w l[j] (.agg #[u0 j, u1 j, u2 j, u3 j])) : CdIn P w (.mk k n x l) (.agg #[.int .i64 k, .string n, .string x, .slice A l.length c])
/-- .. in blocks from B on -/
abbrev CdAt (B : Nat) : World → Cd → Value → Prop := CdIn (fun b => B ≤ b)
theorem CdIn.keep {P : Nat → Prop} {w w' : World} (hc : ∀ b o v, P b → w.cell? ⟨b, o, none⟩ = some v → w'.cell? ⟨b, o, none⟩ = some v) {c : Cd} {v : Value} (h : CdIn P w c v) : CdIn P w' c v := by
  induction h with
  | mk k n x l A c b o u0 u1 u2 u3 hA hb h0 h1 h2 h3 hr ih =>
    have hp : ∀ j, j < l.length → P b := fun j hj => hb (by omega)
    exact .mk k n x l A c b o u0 u1 u2 u3 hA hb (fun j hj => hc b _ _ (hp j hj) (h0 j hj)) (fun j hj => hc b _ _ (hp j hj) (h1 j hj)) (fun j hj => hc b _ _ (hp j hj) (h2 j hj)) (fun j hj => hc b _ _ (hp j hj) (h3 j hj)) ih
theorem CdIn.imp {P P' : Nat → Prop} {w : World} (hp : ∀ b, b < w.heap.size → P b → P' b) {c : Cd} {v : Value} (h : CdIn P w c v) : CdIn P' w c v := by
  induction h with
  | mk k n x l A c b o u0 u1 u2 u3 hA hb h0 h1 h2 h3 hr ih =>
    exact .mk k n x l A c b o u0 u1 u2 u3 hA (fun h => hp b (lt_of_cell (h0 0 h)) (hb h)) h0 h1 h2 h3 ih
theorem CdIn.ext {P : Nat → Prop} {w w' : World} (hx : Ext w w') {c : Cd} {v : Value} (h : CdIn P w c v) : CdIn P w' c v := h.keep fun _ _ _ _ e => hx.cell e
theorem CdAt.ext {B : Nat} {w w' : World} (hx : Ext w w') {c : Cd} {v : Value} (h : CdAt B w c v) : CdAt B w' c v := h.keep fun _ _ _ _ e => hx.cell e
theorem CdAt.extX {g B : Nat} {w w' : World} (hx : ExtX g w w') (hg : g < B) {c : Cd} {v : Value} (h : CdAt B w c v) : CdAt B w' c v := h.keep fun _ _ _ hb e => hx.cell (by omega) e
theorem cell_set_far {w : World} {p : Addr} {u v : Value} {b o : Nat} (hb : b ≠ p.block) (e : w.cell? ⟨b, o, none⟩ = some v) : (w.setCell p u).cell? ⟨b, o, none⟩ = some v := by
  unfold World.cell? at e ⊢
  simp only [World.setCell, Array.getElem?_modify]
  rw [if_neg (by omega)]
  exact e
theorem CdIn.set {P : Nat → Prop} {w : World} {p : Addr} (hp : ¬ P p.block) (u : Value) {c : Cd} {v : Value} (h : CdIn P w c v) : CdIn P (w.setCell p u) c v := h.keep fun _ _ _ hb e => cell_set_far (fun x => hp (x ▸ hb)) e
theorem CdAt.set {B : Nat} {w : World} {p : Addr} (hp : p.block < B) (u : Value) {c : Cd} {v : Value} (h : CdAt B w c v) : CdAt B (w.setCell p u) c v := h.keep fun _ _ _ hb e => cell_set_far (by omega) e
theorem CdAt.low {B B' : Nat} {w : World} (hB : B ≤ B') {c : Cd} {v : Value} (h : CdAt B' w c v) : CdAt B w c v := h.imp fun _ _ hb => Nat.le_trans hB hb
theorem CdIn.leaf (P : Nat → Prop) (w : World) (k : Int) (n x : ByteArray) : CdIn P w (.mk k n x []) (.agg #[.int .i64 k, .string n, .string x, .slice none 0 0]) :=
  .mk k n x [] none 0 0 0 (fun _ => .int .i64 0) (fun _ => .int .i64 0) (fun _ => .int .i64 0) (fun _ => .int .i64 0) (fun h => absurd h (Nat.lt_irrefl _)) (fun h => absurd h (Nat.lt_irrefl _)) (fun _ h => absurd h (Nat.not_lt_zero _)) (fun _ h => absurd h (Nat.not_lt_zero _)) (fun _ h => absurd h (Nat.not_lt_zero _)) (fun _ h => absurd h (Nat.not_lt_zero _)) (fun _ h => absurd h (Nat.not_lt_zero _))
theorem CdAt.leaf (B : Nat) (w : World) (k : Int) (n x : ByteArray) : CdAt B w (.mk k n x []) (.agg #[.int .i64 k, .string n, .string x, .slice none 0 0]) := CdIn.leaf _ w k n x
/-- a condition's four cells -/
theorem CdIn.cells {P : Nat → Prop} {w : World} {c : Cd} {v : Value} (h : CdIn P w c v) : ∃ (k : Int) (n x : ByteArray) (A : Option Addr) (m cp : Nat), v = .agg #[.int .i64 k, .string n, .string x, .slice A m cp] := by
  cases h with
  | mk k n x l A c b o u0 u1 u2 u3 => exact ⟨k, n, x, A, _, c, rfl⟩
theorem CdAt.cells {B : Nat} {w : World} {c : Cd} {v : Value} (h : CdAt B w c v) : ∃ (k : Int) (n x : ByteArray) (A : Option Addr) (m cp : Nat), v = .agg #[.int .i64 k, .string n, .string x, .slice A m cp] := CdIn.cells h
def z0 : Value := .bool false
/-- conditions that lie in a row of cells -/
structure CdRow (P : Nat → Prop) (w : World) (l : List Cd) (xs : List Value) : Prop where
  len : xs.length = l.length * 4
  at_ : ∀ j (hj : j < l.length), CdIn P w l[j] (.agg #[xs.getD (j * 4) z0, xs.getD (j * 4 + 1) z0, xs.getD (j * 4 + 2) z0, xs.getD (j * 4 + 3) z0])
theorem CdRow.nil (P : Nat → Prop) (w : World) : CdRow P w [] [] := ⟨rfl, fun _ h => absurd h (Nat.not_lt_zero _)⟩
theorem CdRow.keep {P P' : Nat → Prop} {w w' : World} {l : List Cd} {xs : List Value} (h : CdRow P w l xs) (hp : ∀ b, b < w.heap.size → P b → P' b) (hc : ∀ b o v, b < w.heap.size → P b → w.cell? ⟨b, o, none⟩ = some v → w'.cell? ⟨b, o, none⟩ = some v) : CdRow P' w' l xs := by
  refine ⟨h.len, fun j hj => ?_⟩
  have h1 : CdIn (fun b => b < w.heap.size ∧ P b) w l[j] _ := (h.at_ j hj).imp fun b hb hP => ⟨hb, hP⟩
  have h2 : CdIn (fun b => b < w.heap.size ∧ P b) w' l[j] _ := h1.keep fun b o v hP e => hc b o v hP.1 hP.2 e
  have h3 : CdIn (fun b => b < w.heap.size ∧ P b) w l[j] _ := h1
  clear h3
  -- the blocks told are the old world's
  have h4 : ∀ {c : Cd} {v : Value}, CdIn (fun b => b < w.heap.size ∧ P b) w' c v → CdIn P' w' c v := by
    intro c v h
    induction h with
    | mk k n x l A c b o u0 u1 u2 u3 hA hb h0 h1 h2 h3 hr ih => exact .mk k n x l A c b o u0 u1 u2 u3 hA (fun h => hp b (hb h).1 (hb h).2) h0 h1 h2 h3 ih
  exact h4 h2
theorem CdRow.ext {P : Nat → Prop} {w w' : World} {l : List Cd} {xs : List Value} (h : CdRow P w l xs) (hx : Ext w w') : CdRow P w' l xs := h.keep (fun _ _ h => h) fun _ _ _ _ _ e => hx.cell e
theorem CdRow.snoc {P : Nat → Prop} {w : World} {l : List Cd} {xs : List Value} (h : CdRow P w l xs) {c : Cd} {u0 u1 u2 u3 : Value} (hc : CdIn P w c (.agg #[u0, u1, u2, u3])) : CdRow P w (l ++ [c]) (xs ++ [u0, u1, u2, u3]) := by
  refine ⟨by rw [List.length_append, List.length_append, h.len]; simp; omega, fun j hj => ?_⟩
  rw [List.length_append] at hj
  by_cases hlt : j < l.length
  · have hx : ∀ i, i < 4 → (xs ++ [u0, u1, u2, u3]).getD (j * 4 + i) z0 = xs.getD (j * 4 + i) z0 := fun i hi => by
      rw [List.getD_eq_getElem?_getD, List.getD_eq_getElem?_getD, List.getElem?_append_left (by rw [h.len]; omega)]
    have h0 := hx 0 (by omega)
    rw [Nat.add_zero] at h0
    rw [h0, hx 1 (by omega), hx 2 (by omega), hx 3 (by omega), List.getElem_append_left hlt]
    exact h.at_ j hlt
  · have e : j = l.length := by simp at hj; omega
    subst e
    have hx : ∀ i u, ([u0, u1, u2, u3] : List Value)[i]? = some u → (xs ++ [u0, u1, u2, u3]).getD (l.length * 4 + i) z0 = u := fun i u hu => by
      rw [List.getD_eq_getElem?_getD, List.getElem?_append_right (by rw [h.len]; omega), h.len, Nat.add_sub_cancel_left, hu]
      rfl
    have h0 := hx 0 u0 rfl
    rw [Nat.add_zero] at h0
    rw [h0, hx 1 u1 rfl, hx 2 u2 rfl, hx 3 u3 rfl]
    simpa using hc
/-- a condition out of a row of the call's own -/
theorem CdIn.ofRow {P : Nat → Prop} {w : World} {l : List Cd} {xs : List Value} (h : CdRow P w l xs) (k : Int) (n x : ByteArray) {A : Option Addr} {cp b : Nat} (hA : 0 < l.length → A = some ⟨b, 0, none⟩) (hb : 0 < l.length → P b) (hc : ∀ j u, xs[j]? = some u → w.cell? ⟨b, j, none⟩ = some u) :
    CdIn P w (.mk k n x l) (.agg #[.int .i64 k, .string n, .string x, .slice A l.length cp]) := by
  have hx : ∀ j i, j < l.length → i < 4 → w.cell? ⟨b, 0 + j * 4 + i, none⟩ = some (xs.getD (j * 4 + i) z0) := fun j i hj hi => by
    have hlt : j * 4 + i < xs.length := by rw [h.len]; omega
    rw [Nat.zero_add]
    refine hc _ _ ?_
    rw [List.getD_eq_getElem?_getD, List.getElem?_eq_getElem hlt]
    rfl
  exact .mk k n x l A cp b 0 (fun j => xs.getD (j * 4) z0) (fun j => xs.getD (j * 4 + 1) z0) (fun j => xs.getD (j * 4 + 2) z0) (fun j => xs.getD (j * 4 + 3) z0) hA hb
    (fun j hj => hx j 0 hj (by omega)) (fun j hj => hx j 1 hj (by omega)) (fun j hj => hx j 2 hj (by omega)) (fun j hj => hx j 3 hj (by omega)) (fun j hj => h.at_ j hj)
/-- a condition that holds one -/
theorem CdAt.one {B : Nat} {w : World} {k : Int} {n x : ByteArray} {c : Cd} {b cp : Nat} {u0 u1 u2 u3 : Value} (hb : B ≤ b) (h0 : w.cell? ⟨b, 0, none⟩ = some u0) (h1 : w.cell? ⟨b, 1, none⟩ = some u1) (h2 : w.cell? ⟨b, 2, none⟩ = some u2) (h3 : w.cell? ⟨b, 3, none⟩ = some u3)
    (h : CdAt B w c (.agg #[u0, u1, u2, u3])) : CdAt B w (.mk k n x [c]) (.agg #[.int .i64 k, .string n, .string x, .slice (some ⟨b, 0, none⟩) 1 cp]) := by
  have z : ∀ j, j < [c].length → j = 0 := fun j hj => by simpa using hj
  exact .mk k n x [c] _ cp b 0 (fun _ => u0) (fun _ => u1) (fun _ => u2) (fun _ => u3) (fun _ => rfl) (fun _ => hb)
    (fun j hj => by obtain rfl := z j hj; exact h0) (fun j hj => by obtain rfl := z j hj; exact h1) (fun j hj => by obtain rfl := z j hj; exact h2) (fun j hj => by obtain rfl := z j hj; exact h3)
    (fun j hj => by obtain rfl := z j hj; exact h)
/-- what a reading of a condition leaves -/
def CdPost (g : Nat) (s : ByteArray) (w : World) (r : Cd × St) (e : Ending) (w' : World) : Prop := ∃ v, e = .returned v ∧ CdAt w.heap.size w' r.1 v ∧ Rd w' g s r.2 ∧ ExtX g w w'
end Go.Proofs.YtaobnifiengglaaGreatDoor
