/- Tables in memory: their keys, how many; ranges over them. slices.Reverse over rules. Keys below keys; migrate.table.prefix. -/
import Derived.Test.YtghhjlcbcojcnaaGreatDoorMt25
import Derived.Maps.RangeWalk
import Derived.Test.YtghhjlcbcojcnaaGreatDoorMt14
import Derived.Test.YtghhjlcbcojcnaaGreatDoorShelfG

namespace Go.Proofs.YtghhjlcbcojcnaaGreatDoor
open Go.RowKit
open Go.Maps (Keyed has)

/-- D reads as the table f -/
def ViewT (D : DataW PUnit) (f : Tb) : Prop := (∀ s, f s = none → has D (.string s) = false) ∧ ∀ s v, f s = some v → has D (.string s) = true ∧ ∀ z, D.atKey (.string s) z = .lit (.string v)
theorem ViewT.has {D : DataW PUnit} {f : Tb} (h : ViewT D f) (s : Str) : has D (.string s) = (f s).isSome := by
  cases hf : f s with
  | none => rw [h.1 s hf]; rfl
  | some v => rw [(h.2 s v hf).1]; rfl
theorem ViewT.val {D : DataW PUnit} {f : Tb} (h : ViewT D f) {s v : Str} (hs : Maps.has D (.string s) = true) (hv : ∀ z, D.atKey (.string s) z = .lit (.string v)) : f s = some v := by
  cases hf : f s with
  | none => rw [h.1 s hf] at hs; cases hs
  | some u =>
    have e : (DataW.lit (.string u) : DataW PUnit) = .lit (.string v) := ((h.2 s u hf).2 .nil).symm.trans (hv .nil)
    rw [Lit.string.inj (DataW.lit.inj e)]
theorem ViewT.congr {D : DataW PUnit} {f g : Tb} (h : ViewT D f) (e : f = g) : ViewT D g := e ▸ h
theorem str_keyed : Keyed Tryz.prog 9 := Maps.string_keyed str_under
theorem key_of {k : ByteArray} (hk : k.size ≤ 4194304) : keyOf Tryz.prog 9 (.string k) = some (.string (bs k)) := WideMaps.keyOf_string_mk str_under (by simp only [maxLen]; omega)
theorem strKeys_size {H : Type} {P : Program} {k : TypeId} {R : Value → Option (DataW H × List MemPlace)} {w : World} {b n : Nat} {D : DataW H} (hown : w.ownsMap P k R b n D) (K : Keyed P k) : (strKeys D).length = Maps.size D := by
  obtain ⟨es, rfl, _⟩ := hown.entries K
  simp [strKeys, Maps.size]
noncomputable abbrev elemS : Value → Option (DataW PUnit × List MemPlace) := plainElem Tryz.prog 9
theorem view_keys {w : World} {b n : Nat} {D : DataW PUnit} {f : Tb} (hown : w.ownsMap Tryz.prog 9 elemS b n D) (hv : ViewT D f) : FinT f ∧ (strKeys D).mergeSort leB = keysOf f ∧ Maps.size D = (keysOf f).length := by
  obtain ⟨k1, k2⟩ := strKeys_are hown str_keyed str_under
  have hm : ∀ x, x ∈ (strKeys D).mergeSort leB ↔ (f x).isSome = true := fun x => by
    rw [(List.mergeSort_perm _ leB).mem_iff, k2, hv.has]
  have he := keysOf_eq (sorted_strict k1) hm
  exact ⟨⟨_, hm⟩, he, by rw [← he, List.length_mergeSort, strKeys_size hown str_keyed]⟩
namespace StrMap
variable {w w' : World} {b n : Nat} {f : Tb}
theorem view (h : StrMap w b n f) : ∃ D : DataW PUnit, w.ownsMap Tryz.prog 9 elemS b n D ∧ ViewT D f := by
  obtain ⟨D, h, r⟩ := h
  exact ⟨D, h, r⟩
theorem of_view {D : DataW PUnit} (h : w.ownsMap Tryz.prog 9 elemS b n D) (hv : ViewT D f) : StrMap w b n f := ⟨D, h, hv⟩
theorem fin (h : StrMap w b n f) : FinT f := by
  obtain ⟨D, h, r⟩ := h.view
  exact (view_keys h r).1
theorem size (h : StrMap w b n f) : (keysOf f).length ≤ n := by
  obtain ⟨D, h, r⟩ := h.view
  rw [← (view_keys h r).2.2]
  exact h.size_le
theorem len (h : StrMap w b n f) {t : TypeId} (ht : Tryz.prog.underlying t = some (.map 9 9)) (ty : TypeId) :
    (Builtin.len_ #[t] ty #[.map (some b)]).run Tryz.prog w = .ok (.int .i64 ((keysOf f).length : Nat)) w := by
  obtain ⟨D, h, r⟩ := h.view
  rw [h.len ht ty, (view_keys h r).2.2]
theorem tight (h : StrMap w b n f) : StrMap w b (keysOf f).length f := by
  obtain ⟨D, h, r⟩ := h.view
  refine of_view ?_ r
  rw [← (view_keys h r).2.2]
  obtain ⟨es, clock, hb, F, _, hD⟩ := h
  refine ⟨es, clock, hb, F, ?_, hD⟩
  rw [hD, Maps.size_eq, length_read]
  exact Nat.le_refl _
theorem congr {g : Tb} (h : StrMap w b n f) (e : f = g) : StrMap w b n g := e ▸ h
theorem grown (h : StrMap w b n f) {row : Option Nat} (hg : w.grownBy w' row) (hne : some b ≠ row) : StrMap w' b n f := by
  obtain ⟨D, h, r⟩ := h.view
  exact of_view (h.kept hg hne) r
theorem look1 (h : StrMap w b n f) {t : TypeId} (ht : Tryz.prog.underlying t = some (.map 9 9)) (k : ByteArray) (hk : k.size ≤ 4194304) :
    (Instr.lookup t (.map (some b)) (.string k) false).run Tryz.prog w = .ok (S ((f (bs k)).getD [])) w := by
  obtain ⟨D, h, r⟩ := h.view
  obtain ⟨v, ps, hrun, hv⟩ := h.lookup str_keyed ht (str_zero w) (plainElem_string str_under (by decide)) (key_of hk)
  rw [hrun]
  obtain ⟨s, rfl, hs, _⟩ := plainElem_string_inv str_under hv
  have hs := congrArg Prod.fst hs
  cases hf : f (bs k) with
  | none =>
    have e : (DataW.lit (.string []) : DataW PUnit) = .lit (.string s.data.toList) := (Maps.atKey_of_not_has (r.1 _ hf) _).symm.trans hs
    have e2 : s = ⟨#[]⟩ := bs_inj (show bs s = bs ⟨#[]⟩ from (Lit.string.inj (DataW.lit.inj e)).symm)
    subst e2
    rfl
  | some u =>
    have e : (DataW.lit (.string u) : DataW PUnit) = .lit (.string s.data.toList) := ((r.2 _ _ hf).2 _).symm.trans hs
    have e2 : S u = .string s := by rw [show u = bs s from Lit.string.inj (DataW.lit.inj e), S_bs]
    rw [Option.getD_some, e2]
theorem setS (h : StrMap w b n f) {t : TypeId} (ht : Tryz.prog.underlying t = some (.map 9 9)) (k v : ByteArray) (hk : k.size ≤ 2097152) (hv : v.size ≤ 2097152) (hn : n ≤ 2097152) :
    ∃ w', (Instr.mapUpdate t (.map (some b)) (.string k) (.string v)).run Tryz.prog w = .ok () w' ∧ StrMap w' b (n + 1) (setT f (bs k) (bs v)) ∧ w.grownBy w' (some b) := h.upd ht k v hk hv hn
theorem delS (h : StrMap w b n f) {t : TypeId} (ht : Tryz.prog.underlying t = some (.map 9 9)) (k : ByteArray) (hk : k.size ≤ 2097152) (ty : TypeId) :
    ∃ w', (Builtin.delete_ #[t, 9] ty #[.map (some b), .string k]).run Tryz.prog w = .ok (.tuple #[]) w' ∧ StrMap w' b n (delT f (bs k)) ∧ w.grownBy w' (some b) := h.del ht k hk ty
end StrMap
theorem Blk.turned {w w' : World} {g : Nat} {t : TypeId} {cs : Array Value} {row : Option Nat} (h : Blk w g t cs) (hg : w.grownBy w' row) (hne : some g ≠ row) : Blk w' g t cs := (hg.block g h.lt hne).trans h

/-! ### Worlds in which a table alone has turned -/
theorem Ext.by {a w : World} (h : Ext a w) (row : Option Nat) : a.grownBy w row := ⟨h.os, h.tape, h.output, h.size, fun k hk _ => h.block k hk⟩
theorem Ext.row {a w w' : World} {b : Nat} (h : Ext a w) (hg : w.grownBy w' (some b)) (hb : a.heap.size ≤ b) : Ext a w' :=
  ⟨hg.os.trans h.os, hg.tape.trans h.tape, hg.output.trans h.output, Nat.le_trans h.size hg.size, fun k hk => (hg.block k (Nat.lt_of_lt_of_le hk h.size) (by intro e; cases e; omega)).trans (h.block k hk)⟩
theorem grown_then {a w w' : World} {b : Nat} (h : a.grownBy w (some b)) (hg : w.grownBy w' (some b)) : a.grownBy w' (some b) := h.andThen hg fun _ e => .inr e
theorem grown_new {a w w' : World} {b r : Nat} (h : a.grownBy w (some b)) (hg : w.grownBy w' (some r)) (hr : a.heap.size ≤ r) : a.grownBy w' (some b) := h.andThen hg fun _ e => .inl (by cases e; exact hr)
theorem Good.table {w w' : World} {b n : Nat} {f : Tb} (g : Good w) (h : StrMap w b n f) (hg : w.grownBy w' (some b)) : Good w' := by
  obtain ⟨m, hm⟩ := g.maxLen
  obtain ⟨D, ⟨es, clock, hb, _⟩, _⟩ := h.view
  refine ⟨m, ?_⟩
  have hne : 0 ≠ b := fun e => by
    unfold World.cell? at hm
    rw [e, hb] at hm
    cases hm
  have := hg.block _ (lt_of_cell hm) (fun e => hne (Option.some.inj e))
  unfold World.cell? at hm ⊢
  dsimp only at hm ⊢
  rw [this]
  exact hm

/-! ### A range over a table -/
def RangeT (w : World) (b r n : Nat) (f : Tb) (left : Str → Bool) (cnt : Nat) : Prop :=
  ∃ (D : DataW PUnit) (L : Lit → Bool), w.ranges Tryz.prog 9 elemS b r n D L cnt ∧ ViewT D f ∧ ∀ s, L (.string s) = left s
namespace RangeT
variable {w w' : World} {b r n cnt : Nat} {f : Tb} {left : Str → Bool}
theorem owns (h : RangeT w b r n f left cnt) : StrMap w b n f := by
  obtain ⟨D, L, h, v, _⟩ := h
  exact StrMap.of_view h.owns v
theorem grown (h : RangeT w b r n f left cnt) {row : Option Nat} (hg : w.grownBy w' row) (hb : some b ≠ row) (hr : some r ≠ row) : RangeT w' b r n f left cnt := by
  obtain ⟨D, L, h, v⟩ := h
  exact ⟨D, L, h.kept hg hb hr, v⟩
theorem left_eq (h : RangeT w b r n f left cnt) : w.rangeLeft b r = cnt := by
  obtain ⟨D, L, h, _⟩ := h
  exact h.left_eq
theorem cnt_le (h : RangeT w b r n f left cnt) : cnt ≤ n := by
  obtain ⟨D, L, ⟨es, clock, since, seen, c0, _, _, hs, _, _, _, hc, _⟩, _⟩ := h
  rw [← hc]
  refine Nat.le_trans ?_ hs
  unfold Go.leftOf
  exact Array.size_filter_le
theorem ne (h : RangeT w b r n f left cnt) : r ≠ b := by
  obtain ⟨D, L, h, _⟩ := h
  exact h.ne
theorem lt (h : RangeT w b r n f left cnt) : r < w.heap.size := by
  obtain ⟨D, L, h, _⟩ := h
  exact h.lt
theorem congr {g : Tb} {l2 : Str → Bool} (h : RangeT w b r n f left cnt) (e : f = g) (e2 : left = l2) : RangeT w b r n g l2 cnt := e ▸ e2 ▸ h
theorem drop (h : RangeT w b r n f left cnt) {t : TypeId} (ht : Tryz.prog.underlying t = some (.map 9 9)) (k : ByteArray) (hk : k.size ≤ 4194304) (ty : TypeId) :
    ∃ w' cnt', (Builtin.delete_ #[t, 9] ty #[.map (some b), .string k]).run Tryz.prog w = .ok (.tuple #[]) w' ∧ RangeT w' b r n (delT f (bs k)) (fun z => left z && !(z == bs k)) cnt' ∧ cnt' ≤ cnt ∧ w.grownBy w' (some b) := by
  obtain ⟨D, L, h, v, hL⟩ := h
  obtain ⟨w', cnt', hrun, h', hc, hg⟩ := h.drop str_keyed ht (key_of hk) ty
  refine ⟨w', cnt', hrun, ⟨_, _, h', ⟨fun s hs => ?_, fun s u hs => ?_⟩, fun s => ?_⟩, hc, hg.grown⟩
  · unfold delT at hs
    by_cases e : s = bs k
    · subst e; exact Maps.has_del_same
    · rw [if_neg e] at hs
      rw [Maps.has_del_other (by intro e2; injection e2 with e2; exact e e2)]
      exact v.1 s hs
  · unfold delT at hs
    by_cases e : s = bs k
    · rw [if_pos e] at hs; cases hs
    · rw [if_neg e] at hs
      have hne : (Lit.string s : Lit) ≠ .string (bs k) := by intro e2; injection e2 with e2; exact e e2
      obtain ⟨h1, h2⟩ := v.2 s u hs
      exact ⟨by rw [Maps.has_del_other hne]; exact h1, fun z => by rw [Maps.atKey_del_other hne]; exact h2 z⟩
  · rw [hL]; rfl
end RangeT

section
variable (w : World) {ops : Array Oper} {rest : List Oper} {o : Oper} {a : Act} {Q : Exit → Act → World → Prop}
/-- 'range m' -/
theorem wp_range_t (hg : o.guard = none) (m : Operand) (t : TypeId) (hop : o.op = Op.range t m) (ht : Tryz.prog.underlying t = some (.map 9 9)) (b n : Nat) (f : Tb) (hm : a.eval m = .map (some b)) (h : StrMap w b n f)
    (hK : ∀ w' cnt, RangeT w' b w.heap.size n f (fun s => (f s).isSome) cnt → w.grownBy w' none → w'.heap.size = w.heap.size + 1 → wpList Tryz.prog ops Q rest (a.put o.dst (.pointer (some ⟨w.heap.size, 0, none⟩))) w') :
    wpList Tryz.prog ops Q (o :: rest) a w := by
  obtain ⟨D, h, v⟩ := h.view
  exact wpList_range_own w hg m t hop 9 9 str_keyed ht elemS b n D hm h fun w' h1 h2 h3 => hK w' _ ⟨D, _, h1, v, fun s => v.has s⟩ h2 h3
/-- the step -/
theorem wp_next_t (hg : o.guard = none) (it : Operand) (hop : o.op = Op.next it false) (b r n : Nat) (f : Tb) (left : Str → Bool) (cnt : Nat) (hit : a.eval it = .pointer (some ⟨r, 0, none⟩)) (h : RangeT w b r n f left cnt)
    (hDone : (∀ s, left s = false) → wpList Tryz.prog ops Q rest (a.put o.dst (.tuple #[.bool false])) w)
    (hMore : ∀ (x c : ByteArray) (w' : World) (cnt' : Nat), left (bs x) = true → f (bs x) = some (bs c) → RangeT w' b r n f (fun z => left z && !(z == bs x)) cnt' → cnt' < cnt → w.grownBy w' (some r) → w'.heap.size = w.heap.size →
      (Instr.entry (.pointer (some ⟨r, 0, none⟩))).run Tryz.prog w' = .ok (.tuple #[.string x, .string c]) w' → wpList Tryz.prog ops Q rest (a.put o.dst (.tuple #[.bool true, .string x, .string c])) w') :
    wpList Tryz.prog ops Q (o :: rest) a w := by
  obtain ⟨D, L, h, v, hL⟩ := h
  refine wpList_next_ranges w hg it hop 9 str_keyed elemS Value.string Value.string
    (fun key kl hkey => by obtain ⟨x, e, _⟩ := Maps.keyOf_str str_under hkey; exact ⟨_, e⟩) (fun u y hv => by obtain ⟨c, e, _⟩ := plainElem_string_inv str_under hv; exact ⟨c, e⟩)
    b r n D L cnt hit h (fun _ hl => hDone fun s => by rw [← hL]; exact hl _) fun x c kl y w' cnt' hkey hlk hv hat hrg hlt hgr hsz hen => ?_
  obtain ⟨x', e1, rfl, _⟩ := Maps.keyOf_str str_under hkey
  obtain ⟨c', e2, rfl, _⟩ := plainElem_string_inv str_under hv
  cases e2
  have ex : bs x = x' := by rw [Value.string.inj (e1 : Value.string x = .string ⟨x'.toArray⟩)]
  subst ex
  refine hMore x c w' cnt' (by rw [← hL]; exact hlk) (v.val (Maps.has_true_of_atKey hat) hat) ⟨D, _, hrg, v, fun s => ?_⟩ hlt hgr hsz hen
  show (L (.string s) && !Lit.sameKey (.string s) (.string (bs x))) = _
  rw [hL]; rfl
end
end Go.Proofs.YtghhjlcbcojcnaaGreatDoor

namespace Go.Proofs.YtghhjlcbcojcnaaGreatDoor
open Go.RowKit

def ru5 (r : RB) : List Value := [.int .i64 r.kind, .string r.key, .string r.tt, .string r.old, .string r.new]
/-- cells that hold n rules -/
def HoldU (cs : Array Value) (n : Nat) (R : Nat → RB) : Prop := ∀ k, k < n → ∀ j, j < 5 → cs[k * 5 + j]? = (ru5 (R k))[j]?
def set5 (cs : Array Value) (p : Nat) (r : RB) : Array Value := ((((cs.setIfInBounds p (.int .i64 r.kind)).setIfInBounds (p + 1) (.string r.key)).setIfInBounds (p + 2) (.string r.tt)).setIfInBounds (p + 3) (.string r.old)).setIfInBounds (p + 4) (.string r.new)
def setR (w : World) (g p : Nat) (r : RB) : World := ((((w.setCell ⟨g, p, none⟩ (.int .i64 r.kind)).setCell ⟨g, p + 1, none⟩ (.string r.key)).setCell ⟨g, p + 2, none⟩ (.string r.tt)).setCell ⟨g, p + 3, none⟩ (.string r.old)).setCell ⟨g, p + 4, none⟩ (.string r.new)
theorem setR_blk {w : World} {g : Nat} {t : TypeId} {cs : Array Value} (h : Blk w g t cs) (p : Nat) (r : RB) : Blk (setR w g p r) g t (set5 cs p r) := ((((h.set p _).set (p + 1) _).set (p + 2) _).set (p + 3) _).set (p + 4) _
theorem grown_cell (w : World) (g p : Nat) (u : Value) : w.grownBy (w.setCell ⟨g, p, none⟩ u) (some g) :=
  ⟨rfl, rfl, rfl, by simp [World.setCell], fun k _ hne => Below.heap_setCell w ⟨g, p, none⟩ u k (fun e => hne (by rw [e]))⟩
theorem grown_thenR {a w w' : World} {g : Nat} (h : a.grownBy w (some g)) (hg : w.grownBy w' (some g)) : a.grownBy w' (some g) := h.andThen hg fun _ e => .inr e
theorem setR_grown (w : World) (g p : Nat) (r : RB) : w.grownBy (setR w g p r) (some g) :=
  grown_thenR (grown_thenR (grown_thenR (grown_thenR (grown_cell w g p _) (grown_cell _ g (p + 1) _)) (grown_cell _ g (p + 2) _)) (grown_cell _ g (p + 3) _)) (grown_cell _ g (p + 4) _)
theorem set5_size (cs : Array Value) (p : Nat) (r : RB) : (set5 cs p r).size = cs.size := by simp [set5]
theorem set5_get (cs : Array Value) (i : Nat) (r : RB) (hi : i * 5 + 4 < cs.size) (k j : Nat) (hj : j < 5) : (set5 cs (i * 5) r)[k * 5 + j]? = if k = i then (ru5 r)[j]? else cs[k * 5 + j]? := by
  unfold set5
  simp only [Array.getElem?_setIfInBounds, Array.size_setIfInBounds]
  by_cases e : k = i
  · subst e
    rw [if_pos rfl]
    match j, hj with
    | 0, _ => rw [if_neg (by omega), if_neg (by omega), if_neg (by omega), if_neg (by omega), if_pos (by omega), if_pos (by omega)]; rfl
    | 1, _ => rw [if_neg (by omega), if_neg (by omega), if_neg (by omega), if_pos (by omega), if_pos (by omega)]; rfl
    | 2, _ => rw [if_neg (by omega), if_neg (by omega), if_pos (by omega), if_pos (by omega)]; rfl
    | 3, _ => rw [if_neg (by omega), if_pos (by omega), if_pos (by omega)]; rfl
    | 4, _ => rw [if_pos (by omega), if_pos (by omega)]; rfl
  · rw [if_neg e, if_neg (by omega), if_neg (by omega), if_neg (by omega), if_neg (by omega), if_neg (by omega)]
theorem holdU_size {cs : Array Value} {n : Nat} {R : Nat → RB} (h : HoldU cs n R) {i : Nat} (hi : i < n) : i * 5 + 4 < cs.size := by
  have := h i hi 4 (by decide)
  rcases Nat.lt_or_ge (i * 5 + 4) cs.size with h1 | h1
  · exact h1
  · rw [Array.getElem?_eq_none h1] at this; cases this
theorem hold_swap {cs : Array Value} {n : Nat} {R : Nat → RB} (h : HoldU cs n R) {i j : Nat} (hi : i < n) (hj : j < n) (ri rj : RB) :
    HoldU (set5 (set5 cs (i * 5) rj) (j * 5) ri) n (fun k => if k = j then ri else if k = i then rj else R k) := by
  intro k hk t ht
  rw [set5_get _ j ri (by rw [set5_size]; exact holdU_size h hj) k t ht, set5_get _ i rj (holdU_size h hi) k t ht]
  dsimp only
  by_cases e : k = j
  · rw [if_pos e, if_pos e]
  · rw [if_neg e, if_neg e]
    by_cases e2 : k = i
    · rw [if_pos e2, if_pos e2]
    · rw [if_neg e2, if_neg e2]; exact h k hk t ht
theorem HoldU.congr {cs : Array Value} {n : Nat} {R R' : Nat → RB} (h : HoldU cs n R) (e : ∀ k, k < n → R k = R' k) : HoldU cs n R' := fun k hk t ht => by
  rw [← e k hk]; exact h k hk t ht
set_option maxHeartbeats 4000000 in
set_option maxRecDepth 100000 in
theorem Reverse_any (g n c : Nat) (cs : Array Value) (R : Nat → RB) (w : World) (h : Blk w g 23 cs) (hR : HoldU cs n R) (hn : n ≤ 2097152) :
    Calls Tryz.prog 144 #[.slice (some ⟨g, 0, none⟩) n c] w fun e w' => e = .returned (.tuple #[]) ∧ ∃ cs', Blk w' g 23 cs' ∧ HoldU cs' n (fun k => R (n - 1 - k)) ∧ w.grownBy w' (some g) := by
  go_enter Tryz.func144, Tryz.ntmps144
  go_wp2
  go_loopw [2, 3] (fun s2 s3 wr => ∃ (i : Nat) (m : Int) (cs' : Array Value), s2 = .int .i64 i ∧ s3 = .int .i64 m ∧ m = (n : Int) - 1 - i ∧ 2 * i ≤ n + 1 ∧ Blk wr g 23 cs' ∧ HoldU cs' n (fun k => if k < i ∨ n ≤ k + i then R (n - 1 - k) else R k) ∧ w.grownBy wr (some g))
    (fun s2 s3 _ => (intOf s3 - intOf s2).toNat)
  case atStart => exact ⟨0, (n : Int) - 1, cs, rfl, by go_num, by omega, by omega, h, hR.congr (fun k hk => by rw [if_neg (by omega)]), (Ext.refl w).by _⟩
  case round =>
    obtain ⟨i, m, cs', rfl, rfl, hm, hi, hb, hH, hg⟩ := hrel
    by_cases hlt : (i : Int) < m
    · obtain ⟨j, rfl⟩ : ∃ j : Nat, m = j := ⟨m.toNat, by omega⟩
      have hji : j < n := by omega
      have hin : i < n := by omega
      have hij : i < j := by omega
      have hc := hb.cell; have hf := hb.free; have hz := hb.lt
      have gi : ∀ t, t < 5 → cs'[i * 5 + t]? = (ru5 (R i))[t]? := fun t ht => by
        have := hH i hin t ht
        dsimp only at this
        rwa [if_neg (by omega)] at this
      have gj : ∀ t, t < 5 → cs'[j * 5 + t]? = (ru5 (R j))[t]? := fun t ht => by
        have := hH j hji t ht
        dsimp only at this
        rwa [if_neg (by omega)] at this
      have a0 := (hc (i * 5)).trans (gi 0 (by decide)); have a1 := (hc (i * 5 + 1)).trans (gi 1 (by decide)); have a2 := (hc (i * 5 + 2)).trans (gi 2 (by decide)); have a3 := (hc (i * 5 + 3)).trans (gi 3 (by decide)); have a4 := (hc (i * 5 + 4)).trans (gi 4 (by decide))
      have d0 := (hc (j * 5)).trans (gj 0 (by decide)); have d1 := (hc (j * 5 + 1)).trans (gj 1 (by decide)); have d2 := (hc (j * 5 + 2)).trans (gj 2 (by decide)); have d3 := (hc (j * 5 + 3)).trans (gj 3 (by decide)); have d4 := (hc (j * 5 + 4)).trans (gj 4 (by decide))
      simp only [ru5, List.getElem?_cons_zero, List.getElem?_cons_succ] at a0 a1 a2 a3 a4 d0 d1 d2 d3 d4
      have HH := Lib.hid hH
      have HM := Lib.hid hm
      clear hH gi gj hc hm
      go_wp2_with fail
      go_region
      go_wp2
      go_roundw
      case rel =>
        have hmo := HM.out
        refine ⟨i + 1, (j : Int) - 1, set5 (set5 cs' (i * 5) (R j)) (j * 5) (R i), by go_num, by go_num, by omega, by omega, (setR_blk (setR_blk hb _ _) _ _).ext ((Ext.refl _).drew), (hold_swap HH.out hin hji (R i) (R j)).congr (fun k hk => ?_), grown_thenR hg (grown_thenR (grown_thenR (setR_grown wr g _ _) (setR_grown _ g _ _)) (((Ext.refl _).drew).by _))⟩
        by_cases e : k = j
        · rw [if_pos e, if_pos (by omega), show n - 1 - k = i by omega]
        · rw [if_neg e]
          by_cases e2 : k = i
          · rw [if_pos e2, if_pos (by omega), show n - 1 - k = j by omega]
          · rw [if_neg e2]
            by_cases e3 : k < i ∨ n ≤ k + i
            · rw [if_pos e3, if_pos (by omega)]
            · rw [if_neg e3, if_neg (by omega)]
      case measure => simp [intOf]; omega
    · have HB := Lib.hid (show HoldU cs' n (fun k => R (n - 1 - k)) from hH.congr (fun k hk => by
        by_cases e : k < i ∨ n ≤ k + i
        · rw [if_pos e]
        · rw [if_neg e, show n - 1 - k = k by omega]))
      clear hm hH
      go_wp2
      go_end0
      exact ⟨rfl, cs', hb, HB.out, hg⟩
end Go.Proofs.YtghhjlcbcojcnaaGreatDoor

namespace Go.Proofs.YtghhjlcbcojcnaaGreatDoor
open Go.RowKit
open Go.Maps (Keyed has)

theorem eq_bs (x y : ByteArray) : (x.toList == y.toList) = (bs x == bs y) := by rw [ByteArray.toList_eq, ByteArray.toList_eq]
theorem under_tests (x key : ByteArray) : ((x.toList == key.toList) || belowL (bs x) (bs key)) = underL (bs x) (bs key) := by rw [eq_bs]; rfl
theorem under_size {x key : ByteArray} (h : underL (bs x) (bs key) = true) : key.size ≤ x.size := by
  obtain ⟨r, e, _⟩ := under_iff.1 h
  rw [← bs_length x, ← bs_length key, e, List.length_append]
  omega
theorem newKey_bytes (x key tt : ByteArray) : bs (tt ++ x.extract key.size x.size) = newKey (bs key) (bs tt) (bs x) := by
  rw [bs_append, newKey, bs_length]
  congr 1
  exact Lib.extract_to_end x key.size
/-- what stands behind a key that is another one or below it -/
theorem rbelow_any (x key : ByteArray) (w : World) (hk : key.size ≤ 2097152) (hx : x.size ≤ 2097152) :
    Calls Tryz.prog 150 #[.string x, .string key] w fun e w' => ∃ r : ByteArray, e = .returned (.tuple #[.string r, .bool (underL (bs x) (bs key))]) ∧ (underL (bs x) (bs key) = true → bs r = (bs x).drop (bs key).length) ∧ w = w' := by
  rw [← under_tests]
  cases h1 : (x.toList == key.toList)
  · have hc := cutPrefix_any x (key ++ (⟨#[47]⟩ : ByteArray)) w
    rw [prefix_eq] at hc
    have HB := Lib.hid (show belowL (bs x) (bs key) = true → bs (⟨#[47]⟩ ++ (⟨(Lib.trimPrefix (bs x) (bs (key ++ (⟨#[47]⟩ : ByteArray)))).toArray⟩ : ByteArray) : ByteArray) = (bs x).drop (bs key).length from fun hb => by
      obtain ⟨r, e⟩ := below_iff.1 hb
      rw [bs_append, bs_mk, bs_append, e]
      have : Lib.trimPrefix (bs key ++ 47 :: r) (bs key ++ bs (⟨#[47]⟩ : ByteArray)) = r := by
        have e2 : bs key ++ 47 :: r = (bs key ++ bs (⟨#[47]⟩ : ByteArray)) ++ r := by simp [bs]
        unfold Lib.trimPrefix
        rw [e2, if_pos (by simp [Lib.hasPrefix]), List.drop_left]
      rw [this]
      simp [bs])
    generalize belowL (bs x) (bs key) = B at *
    have hT : (Lib.trimPrefix (bs x) (bs (key ++ (⟨#[47]⟩ : ByteArray)))).length ≤ x.size := by
      unfold Lib.trimPrefix
      split
      · rw [List.length_drop, bs_length]; omega
      · rw [bs_length]; omega
    generalize Lib.trimPrefix (bs x) (bs (key ++ (⟨#[47]⟩ : ByteArray))) = T at *
    obtain ⟨tb, htb⟩ : ∃ tb : ByteArray, (⟨T.toArray⟩ : ByteArray) = tb := ⟨_, rfl⟩
    have hts : tb.size ≤ x.size := by rw [← htb, ← bs_length, bs_mk]; exact hT
    unfold S at hc
    rw [htb] at hc HB
    have HC := Lib.hid hc
    clear hc htb hT
    go_enter Tryz.func150, Tryz.ntmps150
    go_wp2_with fail
    refine HC.out.mono ?_
    rintro e w' ⟨rfl, rfl⟩
    go_wp2
    go_ret2
    exact ⟨_, rfl, HB.out, rfl⟩
  · have HE := Lib.hid (show bs (⟨#[]⟩ : ByteArray) = (bs x).drop (bs key).length from by
      rw [eq_bs, beq_iff_eq] at h1
      rw [h1, List.drop_length])
    go_enter Tryz.func150, Tryz.ntmps150
    go_wp2
    go_ret2
    exact ⟨_, rfl, fun _ => HE.out, rfl⟩
theorem enters_moved : ∀ xs w, Sem.run Tryz.prog (callFunc 245 xs) w = .ok (.enter 245 xs) w := enters_of Tryz.func245 (by kernel_rfl) rfl
/-- the closure that DeleteFunc asks -/
theorem moved1_any (x c key : ByteArray) (g : Nat) (w : World) (hb : Blk w g 9 #[.string key]) (hk : key.size ≤ 2097152) :
    Calls Tryz.prog 245 #[.string x, .string c, .pointer (some ⟨g, 0, none⟩)] w fun e w' => e = .returned (.bool (underL (bs x) (bs key))) ∧ w = w' := by
  rw [← under_tests]
  have CB := Lib.hid (below_any x key w hk)
  generalize belowL (bs x) (bs key) = B at *
  have hc := hb.cell
  cases h1 : (x.toList == key.toList)
  · go_enter Tryz.func245, Tryz.ntmps245
    go_wp2_with fail
    refine CB.out.mono ?_
    rintro e w' ⟨rfl, rfl⟩
    go_wp2
    go_ret
    exact ⟨rfl, rfl⟩
  · go_enter Tryz.func245, Tryz.ntmps245
    go_wp2
    go_ret
    exact ⟨rfl, rfl⟩

/-! ### What DeleteFunc and Copy leave -/
def pdT (key : Str) : Lit → DataW PUnit → Bool
  | .string s, _ => underL s key
  | _, _ => false
theorem delT_view {D : DataW PUnit} {f : Tb} {es : List (Lit × DataW PUnit)} (hD : D = .map es) (hv : ViewT D f) (_hes : ∀ p ∈ es, ∃ s, p.1 = .string s) (key : Str) : ViewT (Lib.deleteFuncD (pdT key) D) (cutT f key) := by
  subst hD
  have hfind : ∀ s, underL s key = false → (es.filter fun p => !pdT key p.1 p.2).find? (fun p => p.1.sameKey (.string s)) = es.find? (fun p => p.1.sameKey (.string s)) := fun s hs =>
    Maps.find_filter_keep (fun p hp => by
      have := WideAt.sameKey_eq hp
      rw [this]
      show (!underL s key) = true
      rw [hs]; rfl) es
  refine ⟨fun s hs => ?_, fun s v hs => ?_⟩
  · show List.any _ _ = false
    unfold cutT at hs
    by_cases hu : underL s key = true
    · refine List.any_eq_false.2 fun p hp => ?_
      obtain ⟨h1, h2⟩ := List.mem_filter.1 hp
      intro hk
      have := WideAt.sameKey_eq hk
      rw [this] at h2
      have h2 : (!underL s key) = true := h2
      rw [hu] at h2; cases h2
    · rw [if_neg hu] at hs
      have h0 := hv.1 s hs
      rw [Maps.has_eq] at h0
      refine List.any_eq_false.2 fun p hp => ?_
      have := List.any_eq_false.1 h0 p (List.mem_filter.1 hp).1
      exact this
  · unfold cutT at hs
    by_cases hu : underL s key = true
    · rw [if_pos hu] at hs; cases hs
    · rw [if_neg hu] at hs
      have hu : underL s key = false := by simpa using hu
      obtain ⟨h1, h2⟩ := hv.2 s v hs
      refine ⟨?_, fun z => ?_⟩
      · show List.any _ _ = true
        rw [Maps.any_filter_keep (fun p hp => by
          have := WideAt.sameKey_eq hp
          rw [this]
          show (!underL s key) = true
          rw [hu]; rfl)]
        exact h1
      · have h2 := h2 z
        unfold DataW.atKey at h2 ⊢
        unfold Lib.deleteFuncD
        dsimp only at h2 ⊢
        rw [hfind s hu]
        exact h2
theorem merge_view {w : World} {b1 b2 n1 n2 : Nat} {D1 D2 : DataW PUnit} {f g : Tb} (h1 : w.ownsMap Tryz.prog 9 elemS b1 n1 D1) (h2 : w.ownsMap Tryz.prog 9 elemS b2 n2 D2) (v1 : ViewT D1 f) (v2 : ViewT D2 g) :
    ViewT (Lib.mergeD D1 D2) (fun x => (g x).or (f x)) := by
  obtain ⟨es, rfl, hp, hk⟩ := h2.entries str_keyed
  have hhas : ∀ s, has (Lib.mergeD D1 (.map es)) (.string s) = ((f s).isSome || (g s).isSome) := fun s => by
    show has (es.foldl (fun D p => D.put p.1 p.2) D1) _ = _
    rw [Maps.has_foldPut _ es D1 h1.isMap hk, v1.has, ← v2.has, Maps.has_eq]
  have hat : ∀ s z, (Lib.mergeD D1 (.map es)).atKey (.string s) z = if (g s).isSome = true then (DataW.map es).atKey (.string s) z else D1.atKey (.string s) z := fun s z => by
    show (es.foldl (fun D p => D.put p.1 p.2) D1).atKey _ z = _
    rw [Maps.atKey_foldPut _ z es D1 h1.isMap hk hp, ← v2.has, Maps.has_eq]
    cases hf : es.find? (fun p => p.1.sameKey (.string s)) with
    | none =>
      rw [if_neg]
      intro ha
      obtain ⟨p, hp1, hp2⟩ := List.any_eq_true.1 ha
      have := List.find?_eq_none.1 hf p hp1
      exact this hp2
    | some p =>
      have h3 : es.any (fun p => p.1.sameKey (.string s)) = true := List.any_eq_true.2 ⟨p, List.mem_of_find?_eq_some hf, List.find?_some (p := fun (q : Lit × DataW PUnit) => q.1.sameKey (.string s)) hf⟩
      rw [if_pos h3]
      unfold DataW.atKey
      dsimp only
      rw [hf]
  refine ⟨fun s hs => ?_, fun s v hs => ?_⟩ <;> dsimp only at hs
  · rw [hhas]
    cases hg : g s with
    | some u => rw [hg] at hs; cases hs
    | none =>
      rw [hg] at hs
      have hs : f s = none := hs
      rw [hs]; rfl
  · refine ⟨?_, fun z => ?_⟩
    · rw [hhas]
      cases hg : g s with
      | some u => simp
      | none =>
        rw [hg] at hs
        have hs : f s = some v := hs
        rw [hs]; rfl
    · rw [hat]
      cases hg : g s with
      | some u =>
        rw [hg] at hs
        have hs : u = v := Option.some.inj hs
        subst hs
        rw [if_pos (by rfl)]
        exact (v2.2 s u hg).2 z
      | none =>
        rw [hg] at hs
        have hs : f s = some v := hs
        rw [if_neg (by simp)]
        exact (v1.2 s v hs).2 z
theorem DeleteFuncT_any (b n g : Nat) (f : Tb) (key : ByteArray) (w : World) (h : StrMap w b n f) (hb : Blk w g 9 #[.string key]) (hk : key.size ≤ 2097152) :
    Calls Tryz.prog 244 #[.map (some b), .func (.func 245) #[] #[.pointer (some ⟨g, 0, none⟩)]] w fun e w' =>
      e = .returned (.tuple #[]) ∧ StrMap w' b n (cutT f (bs key)) ∧ w.grownBy w' (some b) := by
  obtain ⟨D, hown, hv⟩ := h.view
  have hne : g ≠ b := fun e => by
    obtain ⟨es, clock, hx, _⟩ := hown
    unfold Blk at hb
    rw [e, hx] at hb; cases hb
  refine (AnyDf.maps_DeleteFunc Tryz.delP str_keyed elemS (pdT (bs key)) 245 #[.pointer (some ⟨g, 0, none⟩)] b n D w enters_moved hown ?_).mono ?_
  · intro W kv val kl yd yp hg hkey hval
    obtain ⟨x, e1, rfl, _⟩ := Maps.keyOf_str str_under hkey
    obtain ⟨c, rfl, _⟩ := plainElem_string_inv str_under hval
    have e1 : kv = .string ⟨x.toArray⟩ := e1
    subst e1
    refine (moved1_any ⟨x.toArray⟩ c key g W ((hg.block g hb.lt (by simpa using hne)).trans hb) hk).mono ?_
    rintro e w' ⟨rfl, rfl⟩
    exact ⟨by rw [bs_mk]; rfl, (Ext.refl _).by _⟩
  · rintro e w' ⟨rfl, h', hg⟩
    obtain ⟨es, hD, hko⟩ := hown.keysOf
    exact ⟨rfl, StrMap.of_view h' (delT_view hD hv (fun p hp => by obtain ⟨v, hv⟩ := hko p hp; obtain ⟨s, _, hs, _⟩ := Maps.keyOf_str str_under hv; exact ⟨s, hs⟩) (bs key)), hg⟩
theorem CopyP_any (b b2 n n2 : Nat) (f g : Tb) (w : World) (h : StrMap w b n f) (h2 : StrMap w b2 n2 g) (hne : b ≠ b2) (hn : n + n2 ≤ 1000000) :
    Calls Tryz.prog 246 #[.map (some b), .map (some b2)] w fun e w' => e = .returned (.tuple #[]) ∧ StrMap w' b (n + n2) (fun x => (g x).or (f x)) ∧ w.grownBy w' (some b) := by
  obtain ⟨D, hown, hv⟩ := h.view
  obtain ⟨D2, hown2, hv2⟩ := h2.view
  have hs := hown2.size_le
  refine (AnyX.maps_Copy Tryz.copyP str_keyed elemS b b2 n n2 D D2 w hown hown2 hne (by simp only [maxLen]; omega)).mono ?_
  rintro e w' ⟨rfl, h', _, hg⟩
  exact ⟨rfl, (StrMap.of_view h' (merge_view hown hown2 hv hv2)).mono (by omega), hg⟩
theorem CopyR_any (b b2 n n2 : Nat) (f g : Tb) (w : World) (h : StrMap w b n f) (h2 : StrMap w b2 n2 g) (hne : b ≠ b2) (hn : n + n2 ≤ 1000000) :
    Calls Tryz.prog 209 #[.map (some b), .map (some b2)] w fun e w' => e = .returned (.tuple #[]) ∧ StrMap w' b (n + n2) (fun x => (g x).or (f x)) ∧ w.grownBy w' (some b) := by
  obtain ⟨D, hown, hv⟩ := h.view
  obtain ⟨D2, hown2, hv2⟩ := h2.view
  have hs := hown2.size_le
  refine (AnyX.maps_Copy Tryz.copyR str_keyed elemS b b2 n n2 D D2 w hown hown2 hne (by simp only [maxLen]; omega)).mono ?_
  rintro e w' ⟨rfl, h', _, hg⟩
  exact ⟨rfl, (StrMap.of_view h' (merge_view hown hown2 hv hv2)).mono (by omega), hg⟩
end Go.Proofs.YtghhjlcbcojcnaaGreatDoor
