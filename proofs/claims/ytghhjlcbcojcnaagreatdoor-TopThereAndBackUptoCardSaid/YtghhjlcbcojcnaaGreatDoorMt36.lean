/- What Way's walks need: errors, the map of what is seen, the queue of stops. -/
import Derived.Test.YtghhjlcbcojcnaaGreatDoorMt35
import Derived.Test.YtghhjlcbcojcnaaGreatDoorMt03
import Derived.Deep.LoopGhost
import Derived.Deep.AppendLies

namespace Go.Proofs.YtghhjlcbcojcnaaGreatDoor
open Go.RowKit

theorem okv_of {v : V4} (h : v.err = 0) (hs : v.a.size ≤ 2097152) : OkV v := by
  unfold V4.err checkV at h
  by_cases h1 : (inNum v.a1 && inNum v.a2 && inNum v.a3) = false
  · rw [if_pos h1] at h; cases h
  · simp only [Bool.and_eq_false_iff, not_or, Bool.not_eq_false] at h1
    obtain ⟨⟨e1, e2⟩, e3⟩ := h1
    have key : ∀ n, inNum n = true → (Lit.int .i64 n).wf = true := fun n hn => by
      simp only [inNum, decide_eq_true_eq] at hn
      simp only [Lit.wf, IntKind.min, IntKind.max, Bool.and_eq_true]
      exact ⟨by simp [IntKind.signed, IntKind.bits]; omega, by simp [IntKind.signed, IntKind.bits]; omega⟩
    exact ⟨key _ e1, key _ e2, key _ e3, by unfold maxLen; omega⟩
/-- which versions have been seen, as the map has it -/
def seenF (S : V4 → Bool) : V4 → Option Value := fun v => if S v = true then some (.bool true) else none
theorem seenF_get (S : V4 → Bool) (v : V4) : (seenF S v).getD (.bool false) = .bool (S v) := by
  unfold seenF
  cases S v <;> rfl
theorem seenF_set (S : V4 → Bool) (v : V4) : setV (seenF S) v (.bool true) = seenF fun u => decide (u = v) || S u := by
  funext u
  unfold setV seenF
  by_cases e : u = v
  · simp [e]
  · simp [e]
theorem seenF_one (v : V4) : setV (fun _ => none) v (.bool true) = seenF fun u => decide (u = v) := by
  funext u
  unfold setV seenF
  by_cases e : u = v
  · simp [e]
  · simp [e]
theorem info_stop : (Tryz.prog.info? 202).map (fun i => (i.zero, i.size, i.bytes)) = some (some (.agg #[.int .i64 0, .int .i64 0, .int .i64 0, .string ⟨#[]⟩, .slice none 0 0]), 5, 64) := by kernel_rfl
theorem info_int : (Tryz.prog.info? 3).map (fun i => (i.zero, i.size, i.bytes)) = some (some (.int .i64 0), 1, 8) := by kernel_rfl
theorem wayE_a {ms : List Mv} {v0 vt : V4} (h : 200 < ms.length) : wayE ms v0 vt = 4 := by rw [wayE, firstI, if_pos h, if_neg (by decide)]
theorem wayE_b {ms : List Mv} {v0 vt : V4} (h : ¬ 200 < ms.length) (h2 : ¬ firstI (ms.map mvErr) = 0) : wayE ms v0 vt = firstI (ms.map mvErr) := by rw [wayE, firstI, if_neg h, if_pos rfl, firstI, if_neg h2]
theorem wayE_c {ms : List Mv} {v0 vt : V4} (h : ¬ 200 < ms.length) (h2 : firstI (ms.map mvErr) = 0) (h3 : ¬ v0.err = 0) : wayE ms v0 vt = v0.err := by rw [wayE, firstI, if_neg h, if_pos rfl, firstI, if_pos h2, firstI, if_neg h3]
theorem wayE_d {ms : List Mv} {v0 vt : V4} (h : ¬ 200 < ms.length) (h2 : firstI (ms.map mvErr) = 0) (h3 : v0.err = 0) : wayE ms v0 vt = vt.err := by
  rw [wayE, firstI, if_neg h, if_pos rfl, firstI, if_pos h2, firstI, if_pos h3, firstI]
  by_cases h4 : vt.err = 0
  · rw [if_pos h4, h4]; rfl
  · rw [if_neg h4]
def mvErrs (ms : List Mv) : List Int := ms.map mvErr
theorem mvErrs_length (ms : List Mv) : (mvErrs ms).length = ms.length := by simp [mvErrs]
theorem mvErrs_get (ms : List Mv) (k : Nat) (h : k < ms.length) : (mvErrs ms)[k]? = some (mvErr ms[k]) := by simp [mvErrs, List.getElem?_eq_getElem h]
theorem VMap.no_cell {w : World} {b n : Nat} {f : V4 → Option Value} (h : VMap w b n f) (k : Nat) : w.cell? ⟨b, k, none⟩ = none := by
  obtain ⟨D, ⟨es, clock, hb, _⟩, _⟩ := h
  unfold World.cell?
  rw [hb]
theorem LstAt.not_map {w : World} {p : List Nat} {u : Value} {b n : Nat} {f : V4 → Option Value} (h : LstAt w p u) (hm : VMap w b n f) : u.ownBlock ≠ some b ∨ u.ownBlock = none := by
  rcases h with ⟨_, rfl⟩ | ⟨h1, g, c, rfl, h2⟩
  · exact .inr rfl
  · refine .inl fun e => ?_
    have e : g = b := by simpa [Value.ownBlock] using e
    have h3 := h2 0 (List.length_pos_iff.2 h1)
    rw [e, hm.no_cell] at h3
    cases h3
theorem QOwn.block {w : World} {B size n : Nat} {v : Value} {xs : List Value} (h : QOwn w B size v n xs) : ∃ g, v.ownBlock = some g ∧ B ≤ g ∧ g < w.heap.size := by
  obtain ⟨_, g, off, cap, rfl, h2, h3, _⟩ := h
  exact ⟨g, rfl, h2, h3⟩
/-- the queue of stops, in memory -/
structure QAt (w : World) (B bm : Nat) (sv : Value) (T : List Stp) (S : V4 → Bool) (N : Nat) : Prop where
  own : QOwn w B 5 sv T.length (rowsQ T)
  lst : ∀ t ∈ T, LstAt w t.p t.u ∧ (t.u.ownBlock ≠ sv.ownBlock ∨ t.u.ownBlock = none)
  map : VMap w bm N (seenF S)
theorem QAt.ext {w w' : World} {B bm N : Nat} {sv : Value} {T : List Stp} {S : V4 → Bool} (h : QAt w B bm sv T S N) (hx : Ext w w') : QAt w' B bm sv T S N :=
  ⟨h.own.ext hx, fun t ht => ⟨(h.lst t ht).1.ext hx, (h.lst t ht).2⟩, h.map.ext hx⟩
/-- the map alone has turned -/
theorem QAt.turned {w w' : World} {B bm N N' : Nat} {sv : Value} {T : List Stp} {S S' : V4 → Bool} (h : QAt w B bm sv T S N) (hb : bm < B) (hg : w.grownBy w' (some bm)) (hm : VMap w' bm N' (seenF S')) : QAt w' B bm sv T S' N' := by
  obtain ⟨g, e1, e2, _⟩ := h.own.block
  refine ⟨h.own.kept hg (by rw [e1]; simp; omega), fun t ht => ?_, hm⟩
  obtain ⟨h1, h2⟩ := h.lst t ht
  exact ⟨h1.kept hg (h1.not_map h.map), h2⟩
/-- a stop has come behind the others -/
theorem QAt.snoc {w w' : World} {B bm N : Nat} {sv sv' : Value} {T : List Stp} {t : Stp} {S : V4 → Bool} (h : QAt w B bm sv T S N) (hb : bm < B) (hl : LstAt w t.p t.u) (hl2 : t.u.ownBlock ≠ sv.ownBlock ∨ t.u.ownBlock = none)
    (hown : QOwn w' B 5 sv' (T.length + 1) (rowsQ T ++ rowQ t)) (hg : w.grownBy w' sv.ownBlock) (hor : sv'.ownBlock = sv.ownBlock ∨ ∃ g, sv'.ownBlock = some g ∧ w.heap.size ≤ g) : QAt w' B bm sv' (T ++ [t]) S N := by
  obtain ⟨g, e1, e2, e3⟩ := h.own.block
  have key : ∀ x : Stp, LstAt w x.p x.u → (x.u.ownBlock ≠ sv.ownBlock ∨ x.u.ownBlock = none) → LstAt w' x.p x.u ∧ (x.u.ownBlock ≠ sv'.ownBlock ∨ x.u.ownBlock = none) := fun x h1 h2 => by
    refine ⟨h1.kept hg h2, ?_⟩
    rcases hor with ho | ⟨g2, ho, hge⟩
    · rw [ho]; exact h2
    · cases hu : x.u.ownBlock with
      | none => exact .inr rfl
      | some b =>
        have := h1.lt hu
        refine .inl ?_
        rw [ho]
        intro e
        have e : b = g2 := Option.some.inj e
        omega
  refine ⟨by rw [List.length_append, rowsQ_snoc]; exact hown, fun x hx => ?_, h.map.far hg (by rw [e1]; simp; omega)⟩
  rcases List.mem_append.1 hx with hx | hx
  · exact key x (h.lst x hx).1 (h.lst x hx).2
  · rw [List.mem_singleton] at hx
    subst hx
    exact key x hl hl2
/-- the first one is taken -/
theorem QAt.pop {w : World} {B bm N : Nat} {sv : Value} {T : List Stp} {t : Stp} {S : V4 → Bool} (h : QAt w B bm sv (t :: T) S N) : ∃ g off cap, sv = .slice (some ⟨g, off, none⟩) (T.length + 1) cap ∧ T.length + 1 ≤ cap ∧ cap ≤ maxLen ∧
    QAt w B bm (.slice (some ⟨g, off + 5, none⟩) T.length (cap - 1)) T S N ∧ (cap = 1 → QAt w B bm (.slice (some ⟨g, off, none⟩) 0 0) T S N) := by
  obtain ⟨g, off, cap, rfl, h1, h2, h3, h4⟩ := QOwn.tail (n := T.length) h.own
  rw [rowsQ_drop] at h3 h4
  refine ⟨g, off, cap, rfl, h1, h2, ⟨h3, fun x hx => h.lst x (List.mem_cons_of_mem _ hx), h.map⟩, fun hc => ⟨?_, fun x hx => h.lst x (List.mem_cons_of_mem _ hx), h.map⟩⟩
  have : T.length = 0 := by omega
  rw [this]
  exact h4 hc
end Go.Proofs.YtghhjlcbcojcnaaGreatDoor
