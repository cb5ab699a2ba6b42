/- A set of names that the call itself has made; its names in order. A map of marks that are known; a table from which names are taken out. Rules in a slice; slices.Equal at equal settings and at equal rules. Plain law: tables of settings that rules change. -/
import Derived.Test.YtghhjlcbcojcnaaGreatDoorMt24
import Derived.Sort.KeysCollected
import Derived.Lib.SlicesCompact
import Derived.Test.YtghhjlcbcojcnaaGreatDoorMt14
import Derived.Test.YtghhjlcbcojcnaaGreatDoorMt21
import Derived.Test.YtghhjlcbcojcnaaGreatDoorMt10
import Derived.Test.YtghhjlcbcojcnaaGreatDoorMt13

namespace Go.Proofs.YtghhjlcbcojcnaaGreatDoor
open Go.RowKit Go.Maps

/-- a list of names in order, each once -/
def inOrder (L : List Str) : List Str := oneEach (L.mergeSort leB)
theorem leB_trans (a b c : Str) (h1 : leB a b = true) (h2 : leB b c = true) : leB a c = true := by
  simp only [leB, decide_eq_true_eq] at *
  exact List.le_trans h1 h2
theorem leB_total (a b : Str) : (leB a b || leB b a) = true := by
  simp only [leB, Bool.or_eq_true, decide_eq_true_eq]
  exact List.le_total a b
theorem strLe_ne {a b : Str} (h : leB a b = true) (hne : a ≠ b) : a < b := by
  simp only [leB, decide_eq_true_eq] at h
  exact strLt_of (List.not_lt.2 h) (fun e => hne e.symm)
theorem strLt_le {a b c : Str} (h : a < b) (h2 : leB b c = true) : a < c := by
  by_cases e : b = c
  · subst e; exact h
  · exact strLt_trans h (strLe_ne h2 e)
theorem inOrder_strict (L : List Str) : (inOrder L).Pairwise (· < ·) :=
  oneEach_strict (le := fun a b => leB a b = true) (fun _ _ => strLe_ne) (fun _ _ _ => strLt_le) _ (List.pairwise_mergeSort leB_trans leB_total L)
theorem inOrder_mem (L : List Str) (x : Str) : x ∈ inOrder L ↔ x ∈ L := by
  rw [inOrder, oneEach_mem]
  exact (List.mergeSort_perm L leB).mem_iff
theorem sorted_strict {ss : List Str} (h : ss.Nodup) : (ss.mergeSort leB).Pairwise (· < ·) := by
  have h1 := List.pairwise_mergeSort leB_trans leB_total ss
  have h2 : (ss.mergeSort leB).Pairwise (· ≠ ·) := (List.mergeSort_perm ss leB).nodup_iff.2 h
  exact (h1.and h2).imp fun ⟨a, b⟩ => strLe_ne a b
theorem strKeys_are {H : Type} {P : Program} {k : TypeId} {R : Value → Option (DataW H × List MemPlace)} {w : World} {b n : Nat} {D : DataW H} (hown : w.ownsMap P k R b n D) (K : Keyed P k) (hk : P.underlying k = some .string) :
    (strKeys D).Nodup ∧ ∀ x, x ∈ strKeys D ↔ has D (.string x) = true := by
  obtain ⟨es, hD, hpw, _⟩ := hown.entries K
  obtain ⟨es', hD', hko⟩ := hown.keysOf
  obtain rfl : es = es' := by rw [hD] at hD'; simpa using hD'
  subst hD
  have hs : ∀ p ∈ es, ∃ x, p.1 = .string x := fun p hp => by obtain ⟨v, hv⟩ := hko p hp; obtain ⟨x, _, hx, _⟩ := Maps.keyOf_str hk hv; exact ⟨x, hx⟩
  refine ⟨?_, fun x => ?_⟩
  · show (es.map fun p => strOf p.1).Nodup
    refine List.pairwise_map.2 (hpw.imp_of_mem fun {p q} hp' hq' hne e => hne ?_)
    obtain ⟨a, ha⟩ := hs p hp'
    obtain ⟨b, hb⟩ := hs q hq'
    rw [ha, hb] at e ⊢
    exact congrArg _ e
  · rw [has_eq, List.any_eq_true]
    show x ∈ (es.map fun p => strOf p.1) ↔ _
    rw [List.mem_map]
    constructor
    · rintro ⟨p, hp', rfl⟩
      obtain ⟨a, ha⟩ := hs p hp'
      exact ⟨p, hp', by rw [ha]; simp [Lit.sameKey, strOf]⟩
    · rintro ⟨p, hp', he⟩
      obtain ⟨a, ha⟩ := hs p hp'
      rw [ha] at he
      exact ⟨p, hp', by rw [ha]; have he2 : a = x := (by simpa [Lit.sameKey] using he); exact he2⟩

/-! ### Doubles out -/
/-! ### In memory -/
/-- block b is a set of strings, of at most n entries: those of L -/
def StrSet (w : World) (b n : Nat) (L : List Str) : Prop :=
  ∃ D : DataW PUnit, w.ownsMap Tryz.prog 9 (plainElem Tryz.prog 4) b n D ∧ ∀ s, has D (.string s) = true ↔ s ∈ L
namespace StrSet
variable {w w' : World} {b n : Nat} {L : List Str}
theorem made (w : World) : StrSet (w.alloc (.map #[] 0)) w.heap.size 0 [] :=
  ⟨.map [], World.ownsMap_made w _ _ _, fun s => ⟨(fun h => by cases h), (fun h => by cases h)⟩⟩
theorem ext (h : StrSet w b n L) (hx : Ext w w') : StrSet w' b n L := by
  obtain ⟨D, h, r⟩ := h
  exact ⟨D, h.kept (row := none) ⟨hx.os, hx.tape, hx.output, hx.size, fun k hk _ => hx.block k hk⟩ (by simp), r⟩
theorem lt (h : StrSet w b n L) : b < w.heap.size := by
  obtain ⟨D, h, _⟩ := h
  exact h.lt
theorem upd (h : StrSet w b n L) {t : TypeId} (ht : Tryz.prog.underlying t = some (.map 9 4)) (k : ByteArray) (hk : k.size ≤ 4194304) (hn : n ≤ 2097152) :
    ∃ w', (Instr.mapUpdate t (.map (some b)) (.string k) (.bool true)).run Tryz.prog w = .ok () w' ∧ StrSet w' b (n + 1) (L ++ [bs k]) ∧ w.grownBy w' (some b) := by
  obtain ⟨D, h, r⟩ := h
  have hkey : keyOf Tryz.prog 9 (.string k) = some (.string (bs k)) := WideMaps.keyOf_string_mk str_under (by simp only [maxLen]; omega)
  have hval : plainElem (H := PUnit) Tryz.prog 4 (.bool true) = some (.lit (.bool true), []) := plainElem_bool (by kernel_rfl) true
  obtain ⟨w', hrun, h', hg⟩ := h.update (Maps.string_keyed str_under) ht (by simp only [maxLen]; omega) hkey hval
  refine ⟨w', hrun, ⟨_, h', fun s => ?_⟩, hg⟩
  rw [List.mem_append, List.mem_singleton]
  by_cases e : s = bs k
  · subst e
    exact ⟨fun _ => .inr rfl, fun _ => Maps.has_put_same h.isMap (by trivial) _⟩
  · rw [Maps.has_put_other (by intro e2; injection e2 with e2; exact e e2), r s]
    exact ⟨fun h => .inl h, fun h => h.resolve_right e⟩
end StrSet
end Go.Proofs.YtghhjlcbcojcnaaGreatDoor

namespace Go.Proofs.YtghhjlcbcojcnaaGreatDoor
open Go.RowKit
open Go.Maps (Keyed has)

theorem bool_under : Tryz.prog.underlying 4 = some .bool := by kernel_rfl
theorem bool_zero (w : World) : (zeroValue 4).run Tryz.prog w = .ok (.bool false) w := by go_simp
theorem elem_bool_inv {v : Value} {x : Bool} {ps : List MemPlace} (h : plainElem (H := PUnit) Tryz.prog 4 v = some (.lit (.bool x), ps)) : v = .bool x := by
  unfold plainElem at h
  rw [bool_under] at h
  cases v <;> simp at h
  rw [h.1]
/-- block b is a map that tells of texts whether they are among L -/
def KSet (w : World) (b n : Nat) (L : List Str) : Prop :=
  ∃ D : DataW PUnit, w.ownsMap Tryz.prog 9 (plainElem Tryz.prog 4) b n D ∧ ∀ s, (s ∈ L → has D (.string s) = true ∧ ∀ z, D.atKey (.string s) z = .lit (.bool true)) ∧ (s ∉ L → has D (.string s) = false)
namespace KSet
variable {w w' : World} {b n : Nat} {L : List Str}
theorem made (w : World) : KSet (w.alloc (.map #[] 0)) w.heap.size 0 [] :=
  ⟨.map [], World.ownsMap_made w _ _ _, fun s => ⟨(fun h => by cases h), (fun _ => rfl)⟩⟩
theorem ext (h : KSet w b n L) (hx : Ext w w') : KSet w' b n L := by
  obtain ⟨D, h, r⟩ := h
  exact ⟨D, h.kept (row := none) ⟨hx.os, hx.tape, hx.output, hx.size, fun k hk _ => hx.block k hk⟩ (by simp), r⟩
theorem lt (h : KSet w b n L) : b < w.heap.size := by
  obtain ⟨D, h, _⟩ := h
  exact h.lt
theorem far (h : KSet w b n L) {g : Nat} (hg : w.grownBy w' (some g)) (hne : b ≠ g) : KSet w' b n L := by
  obtain ⟨D, h, r⟩ := h
  exact ⟨D, h.kept (row := some g) hg (by simpa using hne), r⟩
theorem look (h : KSet w b n L) {t : TypeId} (ht : Tryz.prog.underlying t = some (.map 9 4)) (k : ByteArray) (hk : k.size ≤ 4194304) :
    (Instr.lookup t (.map (some b)) (.string k) false).run Tryz.prog w = .ok (.bool (decide (bs k ∈ L))) w := by
  obtain ⟨D, h, r⟩ := h
  have hkey : keyOf Tryz.prog 9 (.string k) = some (.string (bs k)) := WideMaps.keyOf_string_mk str_under (by simp only [maxLen]; omega)
  obtain ⟨v, ps, hrun, hv⟩ := h.lookup (Maps.string_keyed str_under) ht (bool_zero w) (plainElem_bool bool_under false) hkey
  rw [hrun]
  by_cases hm : bs k ∈ L
  · rw [((r (bs k)).1 hm).2] at hv
    rw [elem_bool_inv hv, decide_eq_true hm]
  · have h0 := (r (bs k)).2 hm
    rw [Maps.atKey_of_not_has h0] at hv
    rw [elem_bool_inv hv, decide_eq_false hm]
theorem upd (h : KSet w b n L) {t : TypeId} (ht : Tryz.prog.underlying t = some (.map 9 4)) (k : ByteArray) (hk : k.size ≤ 4194304) (hn : n ≤ 2097152) :
    ∃ w', (Instr.mapUpdate t (.map (some b)) (.string k) (.bool true)).run Tryz.prog w = .ok () w' ∧ KSet w' b (n + 1) (L ++ [bs k]) ∧ w.grownBy w' (some b) := by
  obtain ⟨D, h, r⟩ := h
  have hkey : keyOf Tryz.prog 9 (.string k) = some (.string (bs k)) := WideMaps.keyOf_string_mk str_under (by simp only [maxLen]; omega)
  obtain ⟨w', hrun, h', hg⟩ := h.update (Maps.string_keyed str_under) ht (by simp only [maxLen]; omega) hkey (plainElem_bool bool_under true)
  refine ⟨w', hrun, ⟨_, h', fun s => ?_⟩, hg⟩
  by_cases e : s = bs k
  · subst e
    exact ⟨fun _ => ⟨Maps.has_put_same h.isMap (by trivial) _, fun z => Maps.atKey_put_same h.isMap (by trivial) _ _⟩, fun hn => absurd (by simp) hn⟩
  · have hne : (Lit.string s : Lit) ≠ .string (bs k) := by intro e2; injection e2 with e2; exact e e2
    have hm : s ∈ L ++ [bs k] ↔ s ∈ L := by simp [e]
    rw [hm, Maps.has_put_other hne]
    exact ⟨fun hs => ⟨((r s).1 hs).1, fun z => by rw [Maps.atKey_put_other hne]; exact ((r s).1 hs).2 z⟩, (r s).2⟩
end KSet
namespace StrMap
variable {w w' : World} {b n : Nat} {f : Str → Option Str}
theorem far (h : StrMap w b n f) {g : Nat} (hg : w.grownBy w' (some g)) (hne : b ≠ g) : StrMap w' b n f := by
  obtain ⟨D, h, r⟩ := h
  exact ⟨D, h.kept (row := some g) hg (by simpa using hne), r⟩
theorem del (h : StrMap w b n f) {t : TypeId} (ht : Tryz.prog.underlying t = some (.map 9 9)) (k : ByteArray) (hk : k.size ≤ 2097152) (ty : TypeId) :
    ∃ w', (Builtin.delete_ #[t, 9] ty #[.map (some b), .string k]).run Tryz.prog w = .ok (.tuple #[]) w' ∧ StrMap w' b n (fun x => if x = bs k then none else f x) ∧ w.grownBy w' (some b) := by
  obtain ⟨D, h, r1, r2⟩ := h
  have hkey : keyOf Tryz.prog 9 (.string k) = some (.string (bs k)) := WideMaps.keyOf_string_mk str_under (by simp only [maxLen]; omega)
  obtain ⟨w', hrun, h', hg⟩ := h.drop (Maps.string_keyed str_under) ht hkey ty
  refine ⟨w', hrun, ⟨_, h', fun s hs => ?_, fun s u hs => ?_⟩, hg.grown⟩ <;> dsimp only at hs
  · by_cases e : s = bs k
    · subst e; exact Maps.has_del_same
    · rw [if_neg e] at hs
      rw [Maps.has_del_other (by intro e2; injection e2 with e2; exact e e2)]
      exact r1 s hs
  · by_cases e : s = bs k
    · rw [if_pos e] at hs; cases hs
    · rw [if_neg e] at hs
      have hne : (Lit.string s : Lit) ≠ .string (bs k) := by intro e2; injection e2 with e2; exact e e2
      obtain ⟨h1, h2⟩ := r2 s u hs
      exact ⟨by rw [Maps.has_del_other hne]; exact h1, fun z => by rw [Maps.atKey_del_other hne]; exact h2 z⟩
end StrMap
end Go.Proofs.YtghhjlcbcojcnaaGreatDoor

namespace Go.Proofs.YtghhjlcbcojcnaaGreatDoor
open Go.RowKit

structure RuS (w : World) (b o : Nat) (l : List RB) : Prop where
  c0 : ∀ k (h : k < l.length), w.cell? ⟨b, o + k * 5, none⟩ = some (.int .i64 l[k].kind)
  c1 : ∀ k (h : k < l.length), w.cell? ⟨b, o + k * 5 + 1, none⟩ = some (.string l[k].key)
  c2 : ∀ k (h : k < l.length), w.cell? ⟨b, o + k * 5 + 2, none⟩ = some (.string l[k].tt)
  c3 : ∀ k (h : k < l.length), w.cell? ⟨b, o + k * 5 + 3, none⟩ = some (.string l[k].old)
  c4 : ∀ k (h : k < l.length), w.cell? ⟨b, o + k * 5 + 4, none⟩ = some (.string l[k].new)
theorem RuS.ext {w w' : World} {b o : Nat} {l : List RB} (h : RuS w b o l) (hx : Ext w w') : RuS w' b o l :=
  ⟨fun k hk => hx.cell (h.c0 k hk), fun k hk => hx.cell (h.c1 k hk), fun k hk => hx.cell (h.c2 k hk), fun k hk => hx.cell (h.c3 k hk), fun k hk => hx.cell (h.c4 k hk)⟩
/-- a slice of rules -/
def RdU (w : World) (A : Option Addr) (l : List RB) : Prop := l ≠ [] → ∃ b o, A = some ⟨b, o, none⟩ ∧ RuS w b o l
theorem RdU.ext {w w' : World} {A : Option Addr} {l : List RB} (h : RdU w A l) (hx : Ext w w') : RdU w' A l := fun hn => by
  obtain ⟨b, o, e, k⟩ := h hn
  exact ⟨b, o, e, k.ext hx⟩
def SmallU (l : List RB) : Prop := ∀ r ∈ l, SmallR r
/-- a rule of texts as bytes -/
def Ru.b (r : Ru) : RB := ⟨r.kind, ⟨r.key.toArray⟩, ⟨r.tt.toArray⟩, ⟨r.old.toArray⟩, ⟨r.new.toArray⟩⟩
theorem Ru.b_l (r : Ru) : r.b.l = r := by simp [Ru.b, RB.l, bs]

theorem run_eqse (a b : ByteArray) (w : World) : (Op.equalIn 10000 74 (.agg #[.string a, .string b]) (.agg #[.string a, .string b])).run Tryz.prog w = .ok true w := by
  rw [run_equalIn_agg w 9999 74 _ _ (by kernel_rfl) (by kernel_rfl)]
  go_simp
theorem run_neqse (a b : ByteArray) (w : World) : (binOp .neq 74 (.agg #[.string a, .string b]) (.agg #[.string a, .string b])).run Tryz.prog w = .ok (.bool false) w := by
  rw [run_neq_struct, run_eqse]
  rfl
set_option maxHeartbeats 4000000 in
set_option maxRecDepth 100000 in
theorem EqualSe_any (A1 A2 : Option Addr) (c1 c2 n : Nat) (l : List Se) (w : World) (hn : l.length = n) (h1 : RdE w A1 l) (h2 : RdE w A2 l) (hl : n ≤ 2097152) :
    Calls Tryz.prog 65 #[.slice A1 n c1, .slice A2 n c2] w fun e w' => e = .returned (.bool true) ∧ Ext w w' := by
  have HN := Lib.hid hn
  rcases Nat.eq_zero_or_pos n with h0 | h0
  · subst h0
    clear h1 h2 hn
    go_enter Tryz.func65, Tryz.ntmps65
    go_wp2
    go_loop [13] (fun i => i = .int .i64 0) (fun i => 0)
    case atStart => rfl
    case round =>
      subst hrel
      go_wp2
      go_ret
      exact ⟨rfl, Ext.refl _⟩
  obtain ⟨g1, o1, rfl, hX⟩ := h1 (fun e => by rw [e] at hn; simp at hn; omega)
  obtain ⟨g2, o2, rfl, hY⟩ := h2 (fun e => by rw [e] at hn; simp at hn; omega)
  have HX := Lib.hid hX; have HY := Lib.hid hY
  clear hX hY h1 h2 hn
  go_enter Tryz.func65, Tryz.ntmps65
  go_wp2
  go_loopw [13] (fun i wr => ∃ k : Nat, k ≤ n ∧ i = .int .i64 k ∧ Ext w wr) (fun i _ => n - (intOf i).toNat)
  case atStart => exact ⟨0, Nat.zero_le _, rfl, Ext.refl _⟩
  case round =>
    obtain ⟨k, hk, rfl, hxr⟩ := hrel
    by_cases hlt : k < n
    · have hk1 : k < l.length := by rw [HN.out]; exact hlt
      have X := HX.out.ext hxr; have Y := HY.out.ext hxr
      have x0 := X.c0 k hk1; have y0 := Y.c0 k hk1
      have x1 := X.c1 k hk1; have y1 := Y.c1 k hk1
      generalize l[k] = s at *
      obtain ⟨sk, sv⟩ := s
      dsimp only at x0 y0 x1 y1
      clear X Y
      have hq := run_neqse sk sv
      go_wp2
      go_quiet (fail)
      go_wp2
      go_roundw
      case rel => exact ⟨k + 1, by omega, by go_num, hxr.drewN _⟩
      case measure => simp [intOf]; omega
    · obtain rfl : k = n := by omega
      go_wp2
      go_ret
      exact ⟨rfl, hxr⟩
end Go.Proofs.YtghhjlcbcojcnaaGreatDoor

namespace Go.Proofs.YtghhjlcbcojcnaaGreatDoor

/-! ### Tables and their keys -/
abbrev Tb := Str → Option Str
def FinT (f : Tb) : Prop := ∃ L : List Str, ∀ x, x ∈ L ↔ (f x).isSome = true
open Classical in
/-- a table's keys in order -/
noncomputable def keysOf (f : Tb) : List Str := if h : FinT f then inOrder h.choose else []
theorem keysOf_strict (f : Tb) : (keysOf f).Pairwise (· < ·) := by
  unfold keysOf
  split
  · exact inOrder_strict _
  · exact .nil
theorem mem_keysOf {f : Tb} (h : FinT f) (x : Str) : x ∈ keysOf f ↔ (f x).isSome = true := by
  unfold keysOf
  rw [dif_pos h, inOrder_mem]
  exact h.choose_spec x
theorem keysOf_eq {f : Tb} {L : List Str} (hs : L.Pairwise (· < ·)) (hm : ∀ x, x ∈ L ↔ (f x).isSome = true) : L = keysOf f :=
  strict_ext (lt := (· < ·)) strLt_irrefl (fun _ _ _ => strLt_trans) hs (keysOf_strict f) fun x => by rw [hm, mem_keysOf ⟨L, hm⟩]
def setT (f : Tb) (k v : Str) : Tb := fun x => if x = k then some v else f x
def delT (f : Tb) (k : Str) : Tb := fun x => if x = k then none else f x

/-! ### Keys below a key -/
def underL (x key : Str) : Bool := x == key || belowL x key
def newKey (key tt x : Str) : Str := tt ++ x.drop key.length
/-- the key that a new key was -/
def oldKey (key tt x : Str) : Option Str := if x = tt then some key else if belowL x tt = true then some (key ++ x.drop tt.length) else none
theorem below_iff {x key : Str} : belowL x key = true ↔ ∃ r, x = key ++ 47 :: r := by
  unfold belowL
  rw [List.isPrefixOf_iff_prefix]
  constructor
  · rintro ⟨r, hr⟩; exact ⟨r, by rw [← hr]; simp⟩
  · rintro ⟨r, hr⟩; exact ⟨r, by rw [hr]; simp⟩
theorem under_iff {x key : Str} : underL x key = true ↔ ∃ r, x = key ++ r ∧ (r = [] ∨ ∃ q, r = 47 :: q) := by
  unfold underL
  rw [Bool.or_eq_true, below_iff, beq_iff_eq]
  constructor
  · rintro (h | ⟨r, h⟩)
    · exact ⟨[], by rw [h]; simp, .inl rfl⟩
    · exact ⟨47 :: r, h, .inr ⟨r, rfl⟩⟩
  · rintro ⟨r, h, rfl | ⟨q, rfl⟩⟩
    · exact .inl (by rw [h]; simp)
    · exact .inr ⟨q, h⟩
theorem newKey_app (key tt r : Str) : newKey key tt (key ++ r) = tt ++ r := by simp [newKey]
theorem oldKey_app (key tt r : Str) (h : r = [] ∨ ∃ q, r = 47 :: q) : oldKey key tt (tt ++ r) = some (key ++ r) := by
  unfold oldKey
  rcases h with rfl | ⟨q, rfl⟩
  · simp
  · rw [if_neg (by intro e; have := congrArg List.length e; simp at this), if_pos (below_iff.2 ⟨q, rfl⟩)]
    simp
theorem oldKey_new {key tt y : Str} (h : underL y key = true) : oldKey key tt (newKey key tt y) = some y := by
  obtain ⟨r, rfl, hr⟩ := under_iff.1 h
  rw [newKey_app, oldKey_app _ _ _ hr]
theorem oldKey_some {key tt x y : Str} (h : oldKey key tt x = some y) : underL y key = true ∧ newKey key tt y = x ∧ underL x tt = true := by
  unfold oldKey at h
  by_cases h1 : x = tt
  · rw [if_pos h1] at h
    cases h
    subst h1
    exact ⟨by simp [underL], by simp [newKey], by simp [underL]⟩
  · rw [if_neg h1] at h
    by_cases h2 : belowL x tt = true
    · rw [if_pos h2] at h
      obtain ⟨r, rfl⟩ := below_iff.1 h2
      cases h
      refine ⟨under_iff.2 ⟨47 :: r, by simp, .inr ⟨r, rfl⟩⟩, by simp [newKey], under_iff.2 ⟨47 :: r, rfl, .inr ⟨r, rfl⟩⟩⟩
    · rw [if_neg h2] at h; cases h
theorem oldKey_none {key tt x : Str} (h : underL x tt = false) : oldKey key tt x = none := by
  cases ho : oldKey key tt x with
  | none => rfl
  | some y => rw [(oldKey_some ho).2.2] at h; cases h
theorem oldKey_eq {key tt x y : Str} (h : underL y key = true) : oldKey key tt x = some y ↔ x = newKey key tt y :=
  ⟨fun e => (oldKey_some e).2.1.symm, fun e => by rw [e]; exact oldKey_new h⟩
theorem newKey_len {key tt y : Str} : (newKey key tt y).length ≤ tt.length + y.length := by simp [newKey]

/-- what is moved, but for keys that are left -/
def movedT (f : Tb) (key tt : Str) (left : Str → Bool) : Tb := fun x => (oldKey key tt x).bind fun y => if left y = true then none else f y
def cutT (f : Tb) (key : Str) : Tb := fun x => if underL x key = true then none else f x
def moveT (f : Tb) (key tt : Str) : Tb := fun x => (movedT f key tt (fun _ => false) x).or (cutT f key x)
theorem movedT_start (f : Tb) (key tt : Str) (left : Str → Bool) (h : ∀ x, left x = (f x).isSome) : movedT f key tt left = fun _ => none := by
  funext x
  unfold movedT
  cases oldKey key tt x with
  | none => rfl
  | some y =>
    simp only [Option.bind_some, h]
    cases f y <;> rfl
theorem movedT_far {f : Tb} {key tt y : Str} {left : Str → Bool} (h : underL y key = false) : movedT f key tt (fun z => left z && !(z == y)) = movedT f key tt left := by
  funext x
  unfold movedT
  cases ho : oldKey key tt x with
  | none => rfl
  | some z =>
    have hne : z ≠ y := fun e => by rw [← e, (oldKey_some ho).1] at h; cases h
    have : (z == y) = false := by simpa using hne
    simp only [Option.bind_some, this, Bool.not_false, Bool.and_true]
theorem movedT_step {f : Tb} {key tt y v : Str} {left : Str → Bool} (h : underL y key = true) (hv : f y = some v) :
    movedT f key tt (fun z => left z && !(z == y)) = setT (movedT f key tt left) (newKey key tt y) v := by
  funext x
  unfold movedT setT
  by_cases e : x = newKey key tt y
  · rw [if_pos e, e, oldKey_new h]
    simp [hv]
  · rw [if_neg e]
    dsimp only
    cases ho : oldKey key tt x with
    | none => rfl
    | some z =>
      have hne : z ≠ y := fun e2 => e ((oldKey_eq h).1 (by rw [ho, e2]))
      have : (z == y) = false := by simpa using hne
      simp only [Option.bind_some, this, Bool.not_false, Bool.and_true]
theorem movedT_end {f : Tb} {key tt : Str} {left : Str → Bool} (h : ∀ x, left x = false) : movedT f key tt left = movedT f key tt (fun _ => false) := by
  have : left = fun _ => false := funext h
  rw [this]
/-- the table from which what has come is taken out -/
def leftT (f : Tb) (key : Str) (left : Str → Bool) : Tb := fun x => if (underL x key && !left x) = true then none else f x
theorem leftT_start (f : Tb) (key : Str) (left : Str → Bool) (h : ∀ x, left x = (f x).isSome) : leftT f key left = f := by
  funext x
  unfold leftT
  rw [h]
  cases hf : f x <;> simp
theorem leftT_far {f : Tb} {key y : Str} {left : Str → Bool} (h : underL y key = false) : leftT f key (fun z => left z && !(z == y)) = leftT f key left := by
  funext x
  unfold leftT
  by_cases e : x = y
  · subst e; simp [h]
  · have : (x == y) = false := by simpa using e
    simp [this]
theorem leftT_step {f : Tb} {key y : Str} {left : Str → Bool} (h : underL y key = true) : leftT f key (fun z => left z && !(z == y)) = delT (leftT f key left) y := by
  funext x
  unfold leftT delT
  by_cases e : x = y
  · subst e; simp [h]
  · have : (x == y) = false := by simpa using e
    simp [this, e]
theorem leftT_end {f : Tb} {key : Str} {left : Str → Bool} (h : ∀ x, left x = false) : leftT f key left = cutT f key := by
  funext x
  unfold leftT cutT
  simp [h]

/-! ### What a rule does -/
def doF (r : Ru) (f : Tb) : Tb :=
  if r.kind = 1 then (match f r.key with | some v => setT (delT f r.key) r.tt v | none => f)
  else if r.kind = 2 then moveT f r.key r.tt
  else if r.kind = 3 then (match f r.key with | some v => setT f r.tt v | none => f)
  else if r.kind = 4 then setT f r.key r.new
  else if r.kind = 5 then (match f r.key with | some _ => f | none => setT f r.key r.new)
  else if r.kind = 6 then delT f r.key
  else match f r.key with
    | none => f
    | some v => if v = r.old then setT f r.key r.new else if v = r.new ∧ r.kind = 8 then setT f r.key r.old else f
def badT (f : Tb) (key tt : Str) : Prop := ∃ y, (f y).isSome = true ∧ underL y key = true ∧ pathL (newKey key tt y) = false
def offT (f : Tb) : Prop := ∃ x, (f x).isSome = true ∧ pathL x = false
open Classical in
noncomputable def doE (r : Ru) (f : Tb) : Int := if r.kind = 2 ∧ badT f r.key r.tt then 5 else if 2000 < (keysOf (doF r f)).length then 4 else 0
open Classical in
noncomputable def refE (r : Ru) (f : Tb) : Int := if offT (doF r f) then 5 else if 2000 < (keysOf (doF r f)).length then 4 else 0
/-- right keys and values -/
def Okt (f : Tb) : Prop := ∀ x v, f x = some v → pathL x = true ∧ valueL v = true
theorem right_vals {r : Ru} (h : ruErr r = 0) : valueL r.old = true ∧ valueL r.new = true := by
  unfold ruErr at h
  by_cases h1 : r.kind < 1 ∨ 8 < r.kind
  · rw [if_pos h1] at h; omega
  rw [if_neg h1] at h
  by_cases h2 : (!pathL r.key || useTo r.kind && !pathL r.tt) = true
  · rw [if_pos h2] at h; omega
  rw [if_neg h2] at h
  by_cases h3 : (!useTo r.kind && !r.tt.isEmpty || !useOld r.kind && !r.old.isEmpty || !useNew r.kind && !r.new.isEmpty || !valueL r.old || !valueL r.new) = true
  · rw [if_pos h3] at h; omega
  simp only [Bool.or_eq_true, Bool.and_eq_true, Bool.not_eq_true', not_or, not_and, Bool.not_eq_false] at h3
  exact ⟨h3.1.2, h3.2⟩
theorem okt_set {f : Tb} {k v : Str} (h : Okt f) (hk : pathL k = true) (hv : valueL v = true) : Okt (setT f k v) := fun x u hx => by
  unfold setT at hx
  by_cases e : x = k
  · rw [if_pos e] at hx; cases hx; subst e; exact ⟨hk, hv⟩
  · rw [if_neg e] at hx; exact h x u hx
theorem okt_del {f : Tb} {k : Str} (h : Okt f) : Okt (delT f k) := fun x u hx => by
  unfold delT at hx
  by_cases e : x = k
  · rw [if_pos e] at hx; cases hx
  · rw [if_neg e] at hx; exact h x u hx
theorem moved_some {f : Tb} {key tt x v : Str} (h : movedT f key tt (fun _ => false) x = some v) : ∃ y, underL y key = true ∧ f y = some v ∧ newKey key tt y = x := by
  unfold movedT at h
  cases ho : oldKey key tt x with
  | none => rw [ho] at h; cases h
  | some y =>
    rw [ho] at h
    simp only [Option.bind_some, Bool.false_eq_true, if_false] at h
    exact ⟨y, (oldKey_some ho).1, h, (oldKey_some ho).2.1⟩
theorem okt_move {f : Tb} {key tt : Str} (h : Okt f) (hb : ¬ badT f key tt) : Okt (moveT f key tt) := fun x u hx => by
  unfold moveT at hx
  cases hm : movedT f key tt (fun _ => false) x with
  | some v =>
    rw [hm] at hx
    cases hx
    obtain ⟨y, h1, h2, h3⟩ := moved_some hm
    refine ⟨?_, (h y _ h2).2⟩
    cases hp : pathL x with
    | true => rfl
    | false => exact absurd ⟨y, by rw [h2]; rfl, h1, by rw [h3]; exact hp⟩ hb
  | none =>
    rw [hm] at hx
    simp only [Option.none_or, cutT] at hx
    by_cases e : underL x key = true
    · rw [if_pos e] at hx; cases hx
    · rw [if_neg e] at hx; exact h x u hx
theorem okt_do {r : Ru} {f : Tb} (h : Okt f) (hr : ruErr r = 0) (hb : ¬ (r.kind = 2 ∧ badT f r.key r.tt)) : Okt (doF r f) := by
  have hR := right_of hr
  obtain ⟨vo, vn⟩ := right_vals hr
  unfold doF
  by_cases h1 : r.kind = 1
  · rw [if_pos h1]
    have ht := hR.to1 (by rw [h1]; rfl)
    cases hf : f r.key with
    | none => exact h
    | some v => exact okt_set (okt_del h) ht (h _ _ hf).2
  rw [if_neg h1]
  by_cases h2 : r.kind = 2
  · rw [if_pos h2]
    exact okt_move h fun e => hb ⟨h2, e⟩
  rw [if_neg h2]
  by_cases h3 : r.kind = 3
  · rw [if_pos h3]
    have ht := hR.to1 (by rw [h3]; rfl)
    cases hf : f r.key with
    | none => exact h
    | some v => exact okt_set h ht (h _ _ hf).2
  rw [if_neg h3]
  by_cases h4 : r.kind = 4
  · rw [if_pos h4]; exact okt_set h hR.key vn
  rw [if_neg h4]
  by_cases h5 : r.kind = 5
  · rw [if_pos h5]
    cases hf : f r.key with
    | none => exact okt_set h hR.key vn
    | some _ => exact h
  rw [if_neg h5]
  by_cases h6 : r.kind = 6
  · rw [if_pos h6]; exact okt_del h
  rw [if_neg h6]
  cases hf : f r.key with
  | none => exact h
  | some v =>
    dsimp only
    split
    · exact okt_set h hR.key vn
    · split
      · exact okt_set h hR.key vo
      · exact h
theorem moveT_new {f : Tb} {key tt y : Str} (h : underL y key = true) (hs : (f y).isSome = true) : (moveT f key tt (newKey key tt y)).isSome = true := by
  unfold moveT movedT
  rw [oldKey_new h]
  simp only [Option.bind_some, Bool.false_eq_true, if_false]
  cases hf : f y with
  | none => rw [hf] at hs; cases hs
  | some v => rfl
theorem refE_eq {r : Ru} {f : Tb} (h : Okt f) (hr : ruErr r = 0) : refE r f = doE r f := by
  unfold refE doE
  by_cases hb : r.kind = 2 ∧ badT f r.key r.tt
  · rw [if_pos hb, if_pos]
    obtain ⟨h2, y, hy, hu, hp⟩ := hb
    refine ⟨newKey r.key r.tt y, ?_, hp⟩
    unfold doF
    rw [if_neg (by omega), if_pos h2]
    exact moveT_new hu hy
  · rw [if_neg hb, if_neg]
    rintro ⟨x, hx, hp⟩
    cases hf : doF r f x with
    | none => rw [hf] at hx; cases hx
    | some v => rw [(okt_do h hr hb x v hf).1] at hp; cases hp

/-! ### What rules do -/
noncomputable def runE : List Ru → Tb → Int
  | [], _ => 0
  | r :: l, f => if doE r f = 0 then runE l (doF r f) else doE r f
def runF (l : List Ru) (f : Tb) : Tb := l.foldl (fun g r => doF r g) f
def losesT (r : Ru) (f : Tb) : Prop :=
  (r.kind = 1 ∧ (f r.tt).isSome = true) ∨ (r.kind = 2 ∧ ∃ x, (f x).isSome = true ∧ underL x r.tt = true) ∨ (r.kind = 7 ∧ f r.key = some r.new)
open Classical in
noncomputable def cleanB : List Ru → Tb → Bool
  | [], _ => true
  | r :: l, f => if losesT r f then false else cleanB l (doF r f)
theorem doE_ok {r : Ru} {f : Tb} (h : doE r f = 0) : ¬ (r.kind = 2 ∧ badT f r.key r.tt) ∧ (keysOf (doF r f)).length ≤ 2000 := by
  unfold doE at h
  by_cases hb : r.kind = 2 ∧ badT f r.key r.tt
  · rw [if_pos hb] at h; cases h
  · rw [if_neg hb] at h
    refine ⟨hb, ?_⟩
    by_cases hl : 2000 < (keysOf (doF r f)).length
    · rw [if_pos hl] at h; cases h
    · omega
theorem okt_next {r : Ru} {f : Tb} (h : Okt f) (hr : ruErr r = 0) (h0 : doE r f = 0) : Okt (doF r f) := okt_do h hr (doE_ok h0).1
theorem okt_run : ∀ {l : List Ru} {f : Tb}, Okt f → (∀ r ∈ l, ruErr r = 0) → runE l f = 0 → Okt (runF l f)
  | [], _, h, _, _ => h
  | r :: l, f, h, hr, h0 => by
    unfold runE at h0
    by_cases h1 : doE r f = 0
    · rw [if_pos h1] at h0
      exact okt_run (l := l) (okt_next h (hr r (by simp)) h1) (fun q hq => hr q (by simp [hq])) h0
    · rw [if_neg h1] at h0; exact absurd h0 h1
/-- the settings of a table -/
noncomputable def seL (f : Tb) : List Se := (keysOf f).map fun k => ⟨⟨k.toArray⟩, ⟨((f k).getD []).toArray⟩⟩
theorem seL_length (f : Tb) : (seL f).length = (keysOf f).length := by simp [seL]
theorem seL_ok {f : Tb} (hf : FinT f) (h : Okt f) : seErr pathL (seL f) = 0 := by
  have hlen := seL_length f
  have hk : ∀ i (hi : i < (seL f).length), bs (seL f)[i].k = (keysOf f)[i]'(by omega) ∧ bs (seL f)[i].v = (f ((keysOf f)[i]'(by omega))).getD [] := fun i hi => by simp [seL, bs]
  have h1 : ∀ i (hi : i < (seL f).length), seOne pathL (seL f)[i] = 0 := fun i hi => by
    obtain ⟨e1, e2⟩ := hk i hi
    have hm := (mem_keysOf hf _).1 (List.getElem_mem (show i < (keysOf f).length by omega))
    cases hv : f ((keysOf f)[i]'(by omega)) with
    | none => rw [hv] at hm; cases hm
    | some v =>
      rw [hv] at e2
      obtain ⟨k1, k2⟩ := h _ _ hv
      exact seOne_ok (by rw [e1]; exact k1) (by rw [e2]; exact k2)
  refine seErr_all fun x hx => ?_
  obtain ⟨i, hi, rfl⟩ := List.getElem_of_mem hx
  rw [List.getElem_take, seErrs_get]
  have hi2 : i < (seL f).length := by rw [List.length_take, seErrs_length] at hi; omega
  rcases Nat.eq_zero_or_pos i with rfl | hp
  · rw [seAt_0 hi2]; exact h1 0 hi2
  · obtain ⟨j, rfl⟩ : ∃ j, i = j + 1 := ⟨i - 1, by omega⟩
    rw [seAt_gap hi2 (h1 _ hi2), seGap, if_neg]
    simp only [ByteArray.toList_eq, Proofs.bytesLess_eq, Bool.or_eq_true, decide_eq_true_eq, beq_iff_eq, not_or]
    have hs := List.pairwise_iff_getElem.1 (keysOf_strict f) j (j + 1) (by omega) (by omega) (by omega)
    have e1 := (hk (j + 1) hi2).1
    have e0 := (hk j (by omega)).1
    unfold bs at e0 e1
    rw [e0, e1]
    exact ⟨fun h => strLt_irrefl _ (strLt_trans hs h), fun h => by rw [h] at hs; exact strLt_irrefl _ hs⟩
/-- the error of settings and rules ahead of running -/
def runErr (es : List Se) (rs : List Ru) : Int := firstI (seErr pathL es :: (if 2000 < es.length ∨ 100 < rs.length then 4 else 0) :: rs.map ruErr)
theorem okt_tbl {es : List Se} (h : seErr pathL es = 0) : Okt (tbl es) := by
  have h1 : ∀ i (hi : i < es.length), seOne pathL es[i] = 0 := fun i hi => by
    have h0 := firstI_all h (seAt pathL es i) (by
      rw [← seErrs_get pathL es i (by rw [seErrs_length]; exact hi)]
      exact List.getElem_mem _)
    by_cases e : seOne pathL es[i] = 0
    · exact e
    · rw [seAt_bad hi e] at h0; exact h0
  suffices ∀ N, N ≤ es.length → Okt (tblN es N) from this _ (Nat.le_refl _)
  intro N
  induction N with
  | zero => intro _ x v hx; rw [tblN_zero] at hx; cases hx
  | succ N ih =>
    intro hN x v hx
    rw [tblN_succ (show N < es.length by omega)] at hx
    dsimp only at hx
    by_cases e : x = bs es[N].k
    · rw [if_pos e] at hx
      cases hx
      have h0 := h1 N (by omega)
      unfold seOne at h0
      by_cases a : pathL (bs es[N].k) = false
      · rw [if_pos a] at h0; cases h0
      · rw [if_neg a] at h0
        by_cases b : valueL (bs es[N].v) = false
        · rw [if_pos b] at h0; cases h0
        · subst e; exact ⟨by simpa using a, by simpa using b⟩
    · rw [if_neg e] at hx
      exact ih (by omega) x v hx
theorem fin_tbl (es : List Se) : FinT (tbl es) := by
  suffices ∀ N, N ≤ es.length → FinT (tblN es N) from this _ (Nat.le_refl _)
  intro N
  induction N with
  | zero => intro _; exact ⟨[], fun x => by rw [tblN_zero]; simp⟩
  | succ N ih =>
    intro hN
    obtain ⟨L, hL⟩ := ih (by omega)
    refine ⟨bs es[N].k :: L, fun x => ?_⟩
    rw [tblN_succ (show N < es.length by omega), List.mem_cons, hL]
    dsimp only
    by_cases e : x = bs es[N].k
    · rw [if_pos e]; simp [e]
    · rw [if_neg e]; simp [e]
noncomputable def runR (es : List Se) (rs : List Ru) : Int := if runErr es rs = 0 then runE rs (tbl es) else runErr es rs
noncomputable def runS (es : List Se) (rs : List Ru) : List Se := if runR es rs = 0 then seL (runF rs (tbl es)) else []
/-- rules that go back -/
def invE (rs : List Ru) : Int := if 100 < rs.length then 4 else firstI (rs.map fun r => (invL r).2)
def invS (rs : List Ru) : List Ru := if invE rs = 0 then (rs.map fun r => (invL r).1).reverse else []
open Classical in
noncomputable def cleanE (es : List Se) (rs : List Ru) : Int := if runR es rs = 0 then invE rs else runR es rs
end Go.Proofs.YtghhjlcbcojcnaaGreatDoor
