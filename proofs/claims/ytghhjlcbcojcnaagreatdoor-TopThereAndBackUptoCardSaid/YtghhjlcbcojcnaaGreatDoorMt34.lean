/- append onto a slice of the call's own that begins somewhere within its row (what is left of a queue). Maps keyed by versions that the call itself has made: what they hold, key by key; ranges over them. Moves in memory. -/
import Derived.Test.YtghhjlcbcojcnaaGreatDoorMt26
import Derived.Deep.Upon
import Derived.ArgAppend
import Derived.Test.YtghhjlcbcojcnaaGreatDoorMt24
import Derived.Test.YtghhjlcbcojcnaaGreatDoorMt07
import Derived.DeepKeys4
import Derived.Test.YtghhjlcbcojcnaaGreatDoorMt08

namespace Go.Proofs.YtghhjlcbcojcnaaGreatDoor
open Go.RowKit

/-- a slice of the call's own, in a block from B on -/
def QOwn (w : World) (B size : Nat) (v : Value) (n : Nat) (xs : List Value) : Prop :=
  xs.length = n * size ∧ ∃ g off cap, v = .slice (some ⟨g, off, none⟩) n cap ∧ B ≤ g ∧ g < w.heap.size ∧ n ≤ cap ∧ cap ≤ maxLen ∧ (∀ j, j < cap * size → (w.cell? ⟨g, off + j, none⟩).isSome = true ∧ w.frozen? ⟨g, off + j, none⟩ = false) ∧
    ∀ j u, xs[j]? = some u → w.cell? ⟨g, off + j, none⟩ = some u
theorem grown_cells (b : Nat) : ∀ (vs : List Value) (o : Nat) (w : World), w.grownBy (w.setCells b o vs) (some b)
  | [], _, w => (Ext.refl w).by _
  | v :: r, o, w => by
    rw [World.setCells]
    exact grown_thenR (grown_cell w b o v) (grown_cells b r (o + 1) _)
namespace QOwn
variable {w w' : World} {B size n : Nat} {v : Value} {xs : List Value}
theorem kept (h : QOwn w B size v n xs) {row : Option Nat} (hg : w.grownBy w' row) (hne : v.ownBlock ≠ row) : QOwn w' B size v n xs := by
  obtain ⟨h1, g, off, cap, rfl, h2, h3, h4, h5, h6, h7⟩ := h
  have hb : w'.heap[g]? = w.heap[g]? := hg.block g h3 hne
  have hc : ∀ j, w'.cell? ⟨g, off + j, none⟩ = w.cell? ⟨g, off + j, none⟩ := fun j => World.cell?_of_block (a := ⟨g, off + j, none⟩) hb
  have hf : ∀ j, w'.frozen? ⟨g, off + j, none⟩ = w.frozen? ⟨g, off + j, none⟩ := fun j => World.frozen?_of_block (a := ⟨g, off + j, none⟩) hb
  exact ⟨h1, g, off, cap, rfl, h2, Nat.lt_of_lt_of_le h3 hg.size, h4, h5, fun j hj => by rw [hc, hf]; exact h6 j hj, fun j u hu => by rw [hc]; exact h7 j u hu⟩
theorem ext (h : QOwn w B size v n xs) (hx : Ext w w') : QOwn w' B size v n xs := h.kept (hx.by none) (by obtain ⟨_, g, off, cap, rfl, _⟩ := h; simp [Value.ownBlock])
/-- one element, just laid -/
theorem one (w : World) (t : TypeId) (cs : Array Value) (hB : B ≤ w.heap.size) : QOwn (w.alloc (.cells cs t)) B cs.size (.slice (some ⟨w.heap.size, 0, none⟩) 1 1) 1 cs.toList := by
  have b := Blk.new w t cs
  refine ⟨by simp, w.heap.size, 0, 1, rfl, hB, b.lt, Nat.le_refl _, by unfold maxLen; omega, fun j hj => ?_, fun j u hu => ?_⟩
  · rw [Nat.zero_add, b.cell, b.free]
    exact ⟨by rw [Array.getElem?_eq_getElem (by omega)]; rfl, rfl⟩
  · rw [Nat.zero_add, b.cell, ← Array.getElem?_toList]; exact hu
/-- what is left when the first one is taken -/
theorem tail (h : QOwn w B size v (n + 1) xs) : ∃ g off cap, v = .slice (some ⟨g, off, none⟩) (n + 1) cap ∧ n + 1 ≤ cap ∧ cap ≤ maxLen ∧
    QOwn w B size (.slice (some ⟨g, off + size, none⟩) n (cap - 1)) n (xs.drop size) ∧ (cap = 1 → QOwn w B size (.slice (some ⟨g, off, none⟩) 0 0) 0 (xs.drop size)) := by
  obtain ⟨h1, g, off, cap, rfl, h2, h3, h4, h5, h6, h7⟩ := h
  have e1 : (n + 1) * size = n * size + size := by rw [Nat.add_mul, Nat.one_mul]
  refine ⟨g, off, cap, rfl, h4, h5, ⟨?_, g, off + size, cap - 1, rfl, h2, h3, by omega, by omega, fun j hj => ?_, fun j u hu => ?_⟩, fun hc => ⟨?_, g, off, 0, rfl, h2, h3, Nat.le_refl _, by unfold maxLen; omega, fun j hj => ?_, fun j u hu => ?_⟩⟩
  · rw [List.length_drop, h1, e1]; omega
  · rw [Nat.add_assoc]
    refine h6 _ ?_
    have : cap * size = (cap - 1) * size + size := by
      have : cap = (cap - 1) + 1 := by omega
      rw [this, Nat.add_mul, Nat.one_mul]; simp
    omega
  · rw [Nat.add_assoc]
    rw [List.getElem?_drop] at hu
    exact h7 _ u hu
  · have : n = 0 := by omega
    subst this
    rw [List.length_drop, h1]; simp
  · simp at hj
  · have : n = 0 := by omega
    subst this
    rw [List.getElem?_drop, List.getElem?_eq_none (by rw [h1]; simp)] at hu
    cases hu
end QOwn
section
variable {P : Program} {w : World} {B : Nat} {v : Value} {n : Nat} {xs : List Value}
theorem run_append_q (t ty e : TypeId) (i : TypeInfo) (z : Value) (size bytes : Nat) (ht : P.underlying t = some (.slice e)) (hi : P.info? e = some i) (hz : i.zero = some z)
    (hsize : i.size = size) (hby : i.bytes = bytes) (hzs : z.cells.size = size) (hsz : 0 < size) (hbb : bytes ≤ 1000) (h : QOwn w B size v n xs)
    (ad : Addr) (c : Nat) (news : List Value) (hl : news.length = size) (hnews : ∀ j u, news[j]? = some u → w.cell? (ad.add j) = some u) (h1 : ∀ u ∈ news, u.oneCell' = true) (hn : n ≤ 1000000) (hB : B ≤ w.heap.size) :
    ∃ v' w', (Builtin.append_ #[t, t] ty #[v, .slice (some ad) 1 c]).run P w = .ok v' w' ∧ QOwn w' B size v' (n + 1) (xs ++ news) ∧ w.grownBy w' v.ownBlock ∧ (v'.ownBlock = v.ownBlock ∨ ∃ g, v'.ownBlock = some g ∧ w.heap.size ≤ g) := by
  obtain ⟨hx, g, off, cap, rfl, k2, k3, k4, k5, k6, k7⟩ := h
  subst hsize
  have hl1 : news.length = 1 * i.size := by rw [hl, Nat.one_mul]
  have hlen : (xs ++ news).length = (n + 1) * i.size := by rw [List.length_append, hx, hl, Nat.add_mul, Nat.one_mul]
  by_cases hr : n + 1 ≤ cap
  · have hcap : (n + 1) * i.size ≤ cap * i.size := Nat.mul_le_mul_right _ hr
    rw [Nat.add_mul, Nat.one_mul] at hcap
    have hin : ∀ j, j < news.length → n * i.size + j < cap * i.size := fun j hj => by omega
    have hsome : ∀ j, j < news.length → (w.cell? ⟨g, off + n * i.size + j, none⟩).isSome = true := fun j hj => by rw [Nat.add_assoc]; exact (k6 _ (hin j hj)).1
    have hrun := run_append_room_cells (P := P) (w := w) t ty e i ht hi g off n cap ad 1 c news hl1 hnews h1 hr hsome (fun j hj => by rw [Nat.add_assoc]; exact (k6 _ (hin j hj)).2)
    refine ⟨_, _, hrun, ⟨hlen, g, off, cap, rfl, k2, Nat.lt_of_lt_of_le k3 (grown_cells g news _ w).size, hr, k5, fun j hj => ?_, fun j u hu => ?_⟩, grown_cells g news _ w, .inl rfl⟩
    · exact ⟨World.isSome_setCells g news _ w _ (k6 j hj).1, by rw [World.frozen?_setCells]; exact (k6 j hj).2⟩
    · by_cases hj : j < xs.length
      · rw [List.getElem?_append_left hj] at hu
        rw [World.cell?_setCells_out g news _ w _ (fun _ _ => .inl (by show off + j < off + n * i.size; omega))]
        exact k7 j u hu
      · rw [List.getElem?_append_right (by omega)] at hu
        have hlt : j - xs.length < news.length := (List.getElem?_eq_some_iff.1 hu).1
        have := World.cell?_setCells_in g news (off + n * i.size) w hsome (j - xs.length) hlt
        rw [show off + n * i.size + (j - xs.length) = off + j by omega] at this
        rw [this, ← List.getElem?_eq_getElem hlt]
        exact hu
  · have hcp : cap = n := by omega
    obtain ⟨v', w', hrun, r1, r2⟩ := run_append_arg_grows (P := P) (w := w) t ty e i z i.size bytes ht hi hz rfl hby hzs hsz ⟨g, off, none⟩ n cap xs hx (fun j u hu => by rw [Addr.add_lit]; exact k7 j u hu) ad 1 c news hl1 hnews (by omega)
      (by unfold maxLen; omega) (by
        have : (n + 1) * bytes ≤ 1000001 * 1000 := Nat.mul_le_mul (by omega) hbb
        omega)
    refine ⟨v', w', hrun, ?_, ⟨r2.os, r2.tape, r2.output, r2.size, fun k hk _ => r2.block k hk (by simp)⟩, ?_⟩
    · rcases r1.2 with ⟨_, h0⟩ | ⟨g2, cap2, cur, rfl, q1, q2, q3, q4, q5, q6⟩
      · omega
      · have hlt : g2 < w'.heap.size := by
          rcases Nat.lt_or_ge g2 w'.heap.size with hlt | hge
          · exact hlt
          · rw [Array.getElem?_eq_none hge] at q2; cases q2
        have b : Blk w' g2 e cur := q2
        refine ⟨hlen, g2, 0, cap2, rfl, Nat.le_trans hB q1, hlt, q3, q4, fun j hj => ?_, fun j u hu => ?_⟩
        · rw [Nat.zero_add, b.cell, b.free]
          exact ⟨by rw [Array.getElem?_eq_getElem (by omega)]; rfl, rfl⟩
        · rw [Nat.zero_add, b.cell]
          rw [← q6, List.getElem?_take] at hu
          split at hu
          · rw [← Array.getElem?_toList]; exact hu
          · cases hu
    · rcases r1.2 with ⟨_, h0⟩ | ⟨g2, cap2, cur, rfl, q1, _⟩
      · omega
      · exact .inr ⟨g2, rfl, q1⟩
/-- at a step of a region that draws its order -/
theorem step_append_q {ops : Array Oper} {o : Oper} {a : Act} {K : Act → World → Prop} {Q : Exit → Act → World → Prop} {E : Prop} (hgd : o.guard = none) (s x : Operand) (t : TypeId)
    (ho : o.op = .call { callee := .builtin .append, args := #[s, x], argTypes := #[t, t] })
    (e : TypeId) (z : Value) (size bytes : Nat) (ht : P.underlying t = some (.slice e)) (hinfo : (P.info? e).map (fun i => (i.zero, i.size, i.bytes)) = some (some z, size, bytes)) (hzs : z.cells.size = size) (hsz : 0 < size) (hbb : bytes ≤ 1000)
    (B : Nat) (v : Value) (n : Nat) (xs : List Value) (hs : a.eval s = v) (h : QOwn w B size v n xs)
    (ad : Addr) (c : Nat) (news : List Value) (hx : a.eval x = .slice (some ad) 1 c) (hl : news.length = size) (hnews : ∀ j u, news[j]? = some u → w.cell? (ad.add j) = some u) (h1 : ∀ u ∈ news, u.oneCell' = true) (hn : n ≤ 1000000) (hB : B ≤ w.heap.size)
    (hK : ∀ v' w', QOwn w' B size v' (n + 1) (xs ++ news) → w.grownBy w' v.ownBlock → (v'.ownBlock = v.ownBlock ∨ ∃ g, v'.ownBlock = some g ∧ w.heap.size ≤ g) → K (a.put o.dst v') w') :
    if Region.wanted o (yielded ops a.tmps) = true then Oper.wp P o a w K Q else E := by
  have hw : Region.wanted o (yielded ops a.tmps) = true := by simp [Region.wanted, hgd]
  rw [if_pos hw]
  obtain ⟨i, hi, hz0, hz1, hz2⟩ := info_parts hinfo
  obtain ⟨v', w', hr, h2, h3, h4⟩ := run_append_q (P := P) (w := w) t o.type e i z size bytes ht hi hz0 hz1 hz2 hzs hsz hbb h ad c news hl hnews h1 hn hB
  unfold Oper.wp execOp
  simp only [ho, resolve, invoke, builtin, Sem.run_bind, Sem.run_pure, Result.andThen_ok, List.map_toArray, List.map_cons, List.map_nil, hs, hx, hr]
  exact hK v' w' h2 h3 h4
end
end Go.Proofs.YtghhjlcbcojcnaaGreatDoor

namespace Go.Proofs.YtghhjlcbcojcnaaGreatDoor
open Go.RowKit
open Go.Maps (Keyed has)

deriving instance DecidableEq for V4
theorem ver_wide : (match Tryz.prog.underlying 35 with | some (.array _ _) | some (.struct _) => true | _ => false) = true := by kernel_rfl
theorem ver_row : (35 : TypeId) < Tryz.prog.types.size := of_decide_eq_true (by kernel_rfl)
set_option maxRecDepth 100000 in
theorem ver_keyed : Keyed Tryz.prog 35 := Keyed.of_law (deep_law_laid laidOut (m := 2) (by omega) ver_row (by kernel_rfl) ver_wide)
theorem int_under : Tryz.prog.underlying 3 = some (.int .i64) := by kernel_rfl
theorem ver_cells : Tryz.prog.cellsOf 35 = 4 := by kernel_rfl
theorem ver_key : Tryz.prog.keyType 35 = true := by kernel_rfl
/-- versions that can be keys -/
structure OkV (v : V4) : Prop where
  k1 : (Lit.int .i64 v.a1).wf = true
  k2 : (Lit.int .i64 v.a2).wf = true
  k3 : (Lit.int .i64 v.a3).wf = true
  k4 : v.a.size ≤ maxLen
theorem ver_lits (a1 a2 a3 a : Value) (m : Nat) : Tryz.prog.keyLits (m + 2) 35 [a1, a2, a3, a] =
    ([Tryz.prog.keyLits (m + 1) 3 [a1], Tryz.prog.keyLits (m + 1) 3 [a2], Tryz.prog.keyLits (m + 1) 3 [a3], Tryz.prog.keyLits (m + 1) 9 [a]].mapM id).map List.flatten := by
  have ci : Tryz.prog.cellsOf 3 = 1 := by kernel_rfl
  have cs : Tryz.prog.cellsOf 9 = 1 := by kernel_rfl
  have hd : ∀ n t l, Tryz.prog.keyLits (n + 1) t l = _ := fun n t l => Program.keyLits.eq_def Tryz.prog (n + 1) t l
  rw [hd (m + 1) 35]
  simp only [Tryz.underlying35, ver_cells]
  simp [ci, cs]
theorem int_lits (v : Value) (m : Nat) (ls : List Lit) : Tryz.prog.keyLits (m + 1) 3 [v] = some ls ↔ ∃ n, v = .int .i64 n ∧ (Lit.int .i64 n).wf = true ∧ ls = [.int .i64 n] := by
  rw [Program.keyLits.eq_def]
  simp only [int_under]
  constructor
  · intro h
    cases v <;> simp at h
    rename_i q n
    obtain ⟨⟨rfl, h1⟩, rfl⟩ := h
    exact ⟨n, rfl, h1, rfl⟩
  · rintro ⟨n, rfl, h1, rfl⟩
    simp [h1]
theorem str_lits (v : Value) (m : Nat) (ls : List Lit) : Tryz.prog.keyLits (m + 1) 9 [v] = some ls ↔ ∃ s : ByteArray, v = .string s ∧ s.size ≤ maxLen ∧ ls = [.string s.data.toList] := by
  rw [Program.keyLits.eq_def]
  simp only [str_under]
  constructor
  · intro h
    cases v <;> simp at h
    rename_i s
    exact ⟨s, rfl, h.1, h.2.symm⟩
  · rintro ⟨s, rfl, h1, rfl⟩
    simp [h1]
theorem types_pos : ∃ m, Tryz.prog.types.size + 1 = m + 2 := ⟨Tryz.prog.types.size - 1, by
  have : 0 < Tryz.prog.types.size := of_decide_eq_true (by kernel_rfl)
  omega⟩
theorem four_lits (a b c d : List Lit) : ([some a, some b, some c, some d].mapM id).map List.flatten = some (a ++ (b ++ (c ++ (d ++ [])))) := rfl
theorem key_some {v : V4} (h : OkV v) : ∃ l, keyOf Tryz.prog 35 (verV v) = some l := by
  obtain ⟨m, hm⟩ := types_pos
  have hf : (verV v).formed Tryz.prog 35 = true := by simp [Value.formed, Tryz.underlying35, ver_cells]
  have h1 := (int_lits (.int .i64 v.a1) m _).2 ⟨_, rfl, h.k1, rfl⟩
  have h2 := (int_lits (.int .i64 v.a2) m _).2 ⟨_, rfl, h.k2, rfl⟩
  have h3 := (int_lits (.int .i64 v.a3) m _).2 ⟨_, rfl, h.k3, rfl⟩
  have h4 := (str_lits (.string v.a) m _).2 ⟨_, rfl, h.k4, rfl⟩
  have hl : Tryz.prog.keyLits (Tryz.prog.types.size + 1) 35 (verV v).cells.toList = some [.int .i64 v.a1, .int .i64 v.a2, .int .i64 v.a3, .string v.a.data.toList] := by
    rw [hm]
    show Tryz.prog.keyLits (m + 2) 35 [.int .i64 v.a1, .int .i64 v.a2, .int .i64 v.a3, .string v.a] = _
    rw [ver_lits, h1, h2, h3, h4, four_lits]
    rfl
  unfold keyOf
  simp only [Tryz.underlying35, ver_key, hf, hl, Bool.and_self, if_true]
  exact ⟨_, rfl⟩
theorem list_four {α : Type} : ∀ {l : List α}, l.length = 4 → ∃ a b c d, l = [a, b, c, d]
  | [a, b, c, d], _ => ⟨a, b, c, d, rfl⟩
theorem key_back {x : Value} {l : Lit} (h : keyOf Tryz.prog 35 x = some l) : ∃ v : V4, x = verV v ∧ OkV v := by
  obtain ⟨m, hm⟩ := types_pos
  unfold keyOf at h
  simp only [Tryz.underlying35, ver_key, Bool.true_and] at h
  split at h
  · rename_i hf
    rw [Option.map_eq_some_iff] at h
    obtain ⟨ls, hl, _⟩ := h
    cases x <;> simp [Value.formed, Tryz.underlying35, ver_cells] at hf
    rename_i cs
    obtain ⟨cs⟩ := cs
    have hf4 : cs.length = 4 := by simpa using hf
    clear hf
    obtain ⟨c1, c2, c3, c4, rfl⟩ := list_four hf4
    rw [hm] at hl
    have hl : Tryz.prog.keyLits (m + 2) 35 [c1, c2, c3, c4] = some ls := hl
    rw [ver_lits] at hl
    cases e1 : Tryz.prog.keyLits (m + 1) 3 [c1] with
    | none => rw [e1] at hl; cases hl
    | some l1 =>
      cases e2 : Tryz.prog.keyLits (m + 1) 3 [c2] with
      | none => rw [e1, e2] at hl; cases hl
      | some l2 =>
        cases e3 : Tryz.prog.keyLits (m + 1) 3 [c3] with
        | none => rw [e1, e2, e3] at hl; cases hl
        | some l3 =>
          cases e4 : Tryz.prog.keyLits (m + 1) 9 [c4] with
          | none => rw [e1, e2, e3, e4] at hl; cases hl
          | some l4 =>
            obtain ⟨n1, rfl, w1, _⟩ := (int_lits _ _ _).1 e1
            obtain ⟨n2, rfl, w2, _⟩ := (int_lits _ _ _).1 e2
            obtain ⟨n3, rfl, w3, _⟩ := (int_lits _ _ _).1 e3
            obtain ⟨s, rfl, w4, _⟩ := (str_lits _ _ _).1 e4
            exact ⟨⟨n1, n2, n3, s⟩, rfl, w1, w2, w3, w4⟩
  · cases h
/-- what a version reads as, as a key -/
noncomputable def keyV (v : V4) : Lit := (keyOf Tryz.prog 35 (verV v)).getD (.bool false)
theorem keyV_of {v : V4} (h : OkV v) : keyOf Tryz.prog 35 (verV v) = some (keyV v) := by
  obtain ⟨l, e⟩ := key_some h
  rw [keyV, e]; rfl
attribute [irreducible] keyV
theorem keyV_inj {v u : V4} (h : OkV v) (k : OkV u) (e : keyV v = keyV u) : v = u := by
  have h1 := keyV_of h
  have h2 := keyV_of k
  rw [← e] at h2
  have := ver_keyed.inj h1 h2
  obtain ⟨v1, v2, v3, va⟩ := v
  obtain ⟨u1, u2, u3, ua⟩ := u
  simp only [verV, Value.agg.injEq] at this
  simp at this
  obtain ⟨rfl, rfl, rfl, rfl⟩ := this
  rfl

set_option maxRecDepth 100000 in
theorem keyV_lit {v : V4} (h : OkV v) : WideAt.IsKeyLit (keyV v) := Keyed.key ver_keyed (keyV_of h)

/-! ### What such a map holds -/
noncomputable abbrev elemH : Value → Option (DataW Value × List MemPlace) := fun v => some (.held v, [])
def ViewV (D : DataW Value) (f : V4 → Option Value) : Prop := ∀ v, OkV v → (f v = none → has D (keyV v) = false) ∧ ∀ u, f v = some u → has D (keyV v) = true ∧ ∀ z, D.atKey (keyV v) z = .held u
theorem ViewV.has {D : DataW Value} {f : V4 → Option Value} (h : ViewV D f) {v : V4} (hv : OkV v) : has D (keyV v) = (f v).isSome := by
  cases hf : f v with
  | none => rw [(h v hv).1 hf]; rfl
  | some u => rw [((h v hv).2 u hf).1]; rfl
theorem ViewV.val {D : DataW Value} {f : V4 → Option Value} (h : ViewV D f) {v : V4} (hv : OkV v) {u : Value} (hs : Maps.has D (keyV v) = true) (hz : ∀ z, D.atKey (keyV v) z = .held u) : f v = some u := by
  cases hf : f v with
  | none => rw [(h v hv).1 hf] at hs; cases hs
  | some u2 =>
    have e : (DataW.held u2 : DataW Value) = .held u := (((h v hv).2 u2 hf).2 .nil).symm.trans (hz .nil)
    rw [DataW.held.inj e]
def VMap (w : World) (b n : Nat) (f : V4 → Option Value) : Prop := ∃ D : DataW Value, w.ownsMap Tryz.prog 35 elemH b n D ∧ ViewV D f
def setV (f : V4 → Option Value) (v : V4) (u : Value) : V4 → Option Value := fun x => if x = v then some u else f x
namespace VMap
variable {w w' : World} {b n : Nat} {f : V4 → Option Value}
theorem made (w : World) : VMap (w.alloc (.map #[] 0)) w.heap.size 0 (fun _ => none) :=
  ⟨.map [], World.ownsMap_made w _ _ _, fun _ _ => ⟨fun _ => rfl, fun _ h => by cases h⟩⟩
theorem ext (h : VMap w b n f) (hx : Ext w w') : VMap w' b n f := by
  obtain ⟨D, h, r⟩ := h
  exact ⟨D, h.kept (row := none) (hx.by none) (by simp), r⟩
theorem far (h : VMap w b n f) {row : Option Nat} (hg : w.grownBy w' row) (hne : some b ≠ row) : VMap w' b n f := by
  obtain ⟨D, h, r⟩ := h
  exact ⟨D, h.kept hg hne, r⟩
theorem lt (h : VMap w b n f) : b < w.heap.size := by
  obtain ⟨D, h, _⟩ := h
  exact h.lt
theorem mono (h : VMap w b n f) {m : Nat} (hm : n ≤ m) : VMap w b m f := by
  obtain ⟨D, h, r⟩ := h
  exact ⟨D, h.mono hm, r⟩
theorem look (h : VMap w b n f) {t e : TypeId} (ht : Tryz.prog.underlying t = some (.map 35 e)) {z : Value} (hz : (zeroValue e).run Tryz.prog w = .ok z w) {v : V4} (hv : OkV v) :
    (Instr.lookup t (.map (some b)) (verV v) true).run Tryz.prog w = .ok (.tuple #[(f v).getD z, .bool (f v).isSome]) w ∧ (Instr.lookup t (.map (some b)) (verV v) false).run Tryz.prog w = .ok ((f v).getD z) w := by
  obtain ⟨D, h, r⟩ := h
  obtain ⟨u, ps, hrun, hu⟩ := h.look_ok ver_keyed ht hz (zd := .held z) (zp := []) rfl (keyV_of hv)
  obtain ⟨u2, ps2, hrun2, hu2⟩ := h.lookup ver_keyed ht hz (zd := .held z) (zp := []) rfl (keyV_of hv)
  have hu := congrArg Prod.fst (Option.some.inj hu)
  have hu2 := congrArg Prod.fst (Option.some.inj hu2)
  dsimp only at hu hu2
  have key : ∀ u, (DataW.held u : DataW Value) = D.atKey (keyV v) (.held z) → u = (f v).getD z := fun u e => by
    cases hf : f v with
    | none =>
      rw [Maps.atKey_of_not_has ((r v hv).1 hf)] at e
      exact DataW.held.inj e
    | some x =>
      rw [((r v hv).2 x hf).2] at e
      exact DataW.held.inj e
  rw [hrun, hrun2, key u hu, key u2 hu2, ViewV.has r hv]
  exact ⟨rfl, rfl⟩
theorem upd (h : VMap w b n f) {t e : TypeId} (ht : Tryz.prog.underlying t = some (.map 35 e)) {v : V4} (hv : OkV v) (u : Value) (hn : n ≤ 2097152) :
    ∃ w', (Instr.mapUpdate t (.map (some b)) (verV v) u).run Tryz.prog w = .ok () w' ∧ VMap w' b (n + 1) (setV f v u) ∧ w.grownBy w' (some b) := by
  obtain ⟨D, h, r⟩ := h
  obtain ⟨w', hrun, h', hg⟩ := h.update ver_keyed ht (by simp only [maxLen]; omega) (keyV_of hv) (val := u) (d := .held u) (ps := []) rfl
  refine ⟨w', hrun, ⟨_, h', fun x hx => ⟨fun hs => ?_, fun y hs => ?_⟩⟩, hg⟩ <;> unfold setV at hs
  · by_cases e : x = v
    · rw [if_pos e] at hs; cases hs
    · rw [if_neg e] at hs
      rw [Maps.has_put_other (fun e2 => e (keyV_inj hx hv e2))]
      exact (r x hx).1 hs
  · by_cases e : x = v
    · rw [if_pos e] at hs
      cases hs
      subst e
      have hk := keyV_lit hv
      exact ⟨Maps.has_put_same h.isMap hk _, fun z => Maps.atKey_put_same h.isMap hk _ _⟩
    · rw [if_neg e] at hs
      have hne : keyV x ≠ keyV v := fun e2 => e (keyV_inj hx hv e2)
      obtain ⟨h1, h2⟩ := (r x hx).2 y hs
      exact ⟨by rw [Maps.has_put_other hne]; exact h1, fun z => by rw [Maps.atKey_put_other hne]; exact h2 z⟩
end VMap

/-! ### A range over such a map -/
def RangeV (w : World) (b r n : Nat) (f : V4 → Option Value) (left : V4 → Bool) (cnt : Nat) : Prop :=
  ∃ (D : DataW Value) (L : Lit → Bool), w.ranges Tryz.prog 35 elemH b r n D L cnt ∧ ViewV D f ∧ ∀ v, OkV v → L (keyV v) = left v
namespace RangeV
variable {w w' : World} {b r n cnt : Nat} {f : V4 → Option Value} {left : V4 → Bool}
theorem owns (h : RangeV w b r n f left cnt) : VMap w b n f := by
  obtain ⟨D, L, h, v, _⟩ := h
  exact ⟨D, h.owns, v⟩
theorem grown (h : RangeV w b r n f left cnt) {row : Option Nat} (hg : w.grownBy w' row) (hb : some b ≠ row) (hr : some r ≠ row) : RangeV w' b r n f left cnt := by
  obtain ⟨D, L, h, v⟩ := h
  exact ⟨D, L, h.kept hg hb hr, v⟩
theorem left_eq (h : RangeV w b r n f left cnt) : w.rangeLeft b r = cnt := by
  obtain ⟨D, L, h, _⟩ := h
  exact h.left_eq
theorem ne (h : RangeV w b r n f left cnt) : r ≠ b := by
  obtain ⟨D, L, h, _⟩ := h
  exact h.ne
theorem lt (h : RangeV w b r n f left cnt) : r < w.heap.size := by
  obtain ⟨D, L, h, _⟩ := h
  exact h.lt
end RangeV
section
variable (w : World) {ops : Array Oper} {rest : List Oper} {o : Oper} {a : Act} {Q : Exit → Act → World → Prop}
/-- 'range m' -/
theorem wp_range_v (hg : o.guard = none) (m : Operand) (t e : TypeId) (hop : o.op = Op.range t m) (ht : Tryz.prog.underlying t = some (.map 35 e)) (b n : Nat) (f : V4 → Option Value) (hm : a.eval m = .map (some b)) (h : VMap w b n f)
    (hK : ∀ w' cnt, RangeV w' b w.heap.size n f (fun s => (f s).isSome) cnt → w.grownBy w' none → w'.heap.size = w.heap.size + 1 → wpList Tryz.prog ops Q rest (a.put o.dst (.pointer (some ⟨w.heap.size, 0, none⟩))) w') :
    wpList Tryz.prog ops Q (o :: rest) a w := by
  obtain ⟨D, h, v⟩ := h
  exact wpList_range_own w hg m t hop 35 e ver_keyed ht elemH b n D hm h fun w' h1 h2 h3 => hK w' _ ⟨D, _, h1, v, fun s hs => v.has hs⟩ h2 h3
/-- the step -/
theorem wp_next_v (hg : o.guard = none) (it : Operand) (hop : o.op = Op.next it false) (b r n : Nat) (f : V4 → Option Value) (left : V4 → Bool) (cnt : Nat) (hit : a.eval it = .pointer (some ⟨r, 0, none⟩)) (h : RangeV w b r n f left cnt)
    (hDone : (∀ s, OkV s → left s = false) → wpList Tryz.prog ops Q rest (a.put o.dst (.tuple #[.bool false])) w)
    (hMore : ∀ (x : V4) (c : Value) (w' : World) (cnt' : Nat), OkV x → left x = true → f x = some c → RangeV w' b r n f (fun z => left z && !decide (z = x)) cnt' → cnt' < cnt → w.grownBy w' (some r) → w'.heap.size = w.heap.size →
      (Instr.entry (.pointer (some ⟨r, 0, none⟩))).run Tryz.prog w' = .ok (.tuple #[verV x, c]) w' → wpList Tryz.prog ops Q rest (a.put o.dst (.tuple #[.bool true, verV x, c])) w') :
    wpList Tryz.prog ops Q (o :: rest) a w := by
  obtain ⟨D, L, h, v, hL⟩ := h
  refine wpList_next_ranges w hg it hop 35 ver_keyed elemH verV id (fun key kl hkey => by obtain ⟨x, e, _⟩ := key_back hkey; exact ⟨x, e⟩) (fun u y _ => ⟨u, rfl⟩)
    b r n D L cnt hit h (fun _ hl => hDone fun s hs => by rw [← hL s hs]; exact hl _) fun x c kl y w' cnt' hkey hlk hv hat hrg hlt hgr hsz hen => ?_
  obtain ⟨x2, e, hox⟩ := key_back hkey
  have ex : x = x2 := by
    obtain ⟨v1, v2, v3, va⟩ := x
    obtain ⟨u1, u2, u3, ua⟩ := x2
    simp only [verV, Value.agg.injEq] at e
    simp at e
    obtain ⟨rfl, rfl, rfl, rfl⟩ := e
    rfl
  subst ex
  have ek : kl = keyV x := Option.some.inj (hkey.symm.trans (keyV_of hox))
  subst ek
  have ey : y = (.held c, []) := (Option.some.inj hv).symm
  subst ey
  refine hMore x c w' cnt' hox (by rw [← hL x hox]; exact hlk) (v.val hox (Maps.has_true_of_atKey hat) hat) ⟨D, _, hrg, v, fun s hs => ?_⟩ hlt hgr hsz hen
  have es : Lit.sameKey (keyV s) (keyV x) = decide (s = x) := by
    rw [Bool.eq_iff_iff, decide_eq_true_eq]
    exact ⟨fun h => keyV_inj hs hox (WideAt.sameKey_eq h), fun h => by rw [h]; exact WideAt.sameKey_self (keyV_lit hox)⟩
  show (L (keyV s) && !Lit.sameKey (keyV s) (keyV x)) = _
  rw [hL s hs, es]
end
end Go.Proofs.YtghhjlcbcojcnaaGreatDoor

namespace Go.Proofs.YtghhjlcbcojcnaaGreatDoor
open Go.RowKit

/-- texts in a slice -/
def RdX (w : World) (A : Option Addr) (v : List ByteArray) : Prop := v ≠ [] → ∃ b o, A = some ⟨b, o, none⟩ ∧ ∀ k (h : k < v.length), w.cell? ⟨b, o + k, none⟩ = some (.string v[k])
theorem RdX.ext {w w' : World} {A : Option Addr} {v : List ByteArray} (h : RdX w A v) (hx : Ext w w') : RdX w' A v := fun hn => by
  obtain ⟨b, o, e, k⟩ := h hn
  exact ⟨b, o, e, fun i hi => hx.cell (k i hi)⟩
structure Mv where
  fr : List Sp
  tt : V4
  rules : List ByteArray
abbrev mvV (m : Mv) (A : Option Addr) (c : Nat) (A2 : Option Addr) (c2 : Nat) : Value := .agg #[.slice A m.fr.length c, .int .i64 m.tt.a1, .int .i64 m.tt.a2, .int .i64 m.tt.a3, .string m.tt.a, .slice A2 m.rules.length c2]
/-- what the value of a move points to -/
def MvIn (w : World) (m : Mv) (A A2 : Option Addr) : Prop := RdS w A m.fr ∧ RdX w A2 m.rules
theorem MvIn.ext {w w' : World} {m : Mv} {A A2 : Option Addr} (h : MvIn w m A A2) (hx : Ext w w') : MvIn w' m A A2 := ⟨h.1.ext hx, h.2.ext hx⟩
structure MvRow (w : World) (b o : Nat) (m : Mv) (A : Option Addr) (c : Nat) (A2 : Option Addr) (c2 : Nat) : Prop where
  r0 : w.cell? ⟨b, o, none⟩ = some (.slice A m.fr.length c)
  r1 : w.cell? ⟨b, o + 1, none⟩ = some (.int .i64 m.tt.a1)
  r2 : w.cell? ⟨b, o + 2, none⟩ = some (.int .i64 m.tt.a2)
  r3 : w.cell? ⟨b, o + 3, none⟩ = some (.int .i64 m.tt.a3)
  r4 : w.cell? ⟨b, o + 4, none⟩ = some (.string m.tt.a)
  r5 : w.cell? ⟨b, o + 5, none⟩ = some (.slice A2 m.rules.length c2)
  has : MvIn w m A A2
theorem MvRow.ext {w w' : World} {b o : Nat} {m : Mv} {A A2 : Option Addr} {c c2 : Nat} (h : MvRow w b o m A c A2 c2) (hx : Ext w w') : MvRow w' b o m A c A2 c2 :=
  ⟨hx.cell h.r0, hx.cell h.r1, hx.cell h.r2, hx.cell h.r3, hx.cell h.r4, hx.cell h.r5, h.has.ext hx⟩
/-- moves in a slice -/
def RdM (w : World) (A : Option Addr) (l : List Mv) : Prop := l ≠ [] → ∃ b o, A = some ⟨b, o, none⟩ ∧ ∀ k (h : k < l.length), ∃ A1 c1 A2 c2, MvRow w b (o + k * 6) l[k] A1 c1 A2 c2
theorem RdM.ext {w w' : World} {A : Option Addr} {l : List Mv} (h : RdM w A l) (hx : Ext w w') : RdM w' A l := fun hn => by
  obtain ⟨b, o, e, k⟩ := h hn
  exact ⟨b, o, e, fun i hi => by
    obtain ⟨A1, c1, A2, c2, h⟩ := k i hi
    exact ⟨A1, c1, A2, c2, h.ext hx⟩⟩
structure SmallM (m : Mv) : Prop where
  fr : SmallS m.fr
  len : m.fr.length ≤ 2097152
  tt : m.tt.a.size ≤ 2097152
  num : m.rules.length ≤ 2097152
  rules : ∀ x ∈ m.rules, x.size ≤ 2097152
end Go.Proofs.YtghhjlcbcojcnaaGreatDoor
