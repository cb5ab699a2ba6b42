/- A set of names that the call itself has made; its names in order. Texts in a slice; slices.Equal at equal texts. slices.Sort and slices.Compact at texts; slices.Sorted(maps.Keys(m)). Contract of outref2.CondParts with a visitor that appends to a list. (Printed by gen/usea.py.) -/
import Derived.Test.YtaobnifiengglaaGreatDoorCe38
import Derived.Test.YtaobnifiengglaaGreatDoorCe36
import Derived.Sort.KeysCollected
import Derived.Lib.SlicesCompact
import Derived.Test.YtaobnifiengglaaGreatDoorCe14
import Derived.Test.YtaobnifiengglaaGreatDoorCe01
import Derived.Test.YtaobnifiengglaaGreatDoorCe29
import Derived.Test.YtaobnifiengglaaGreatDoorShelfG
import Derived.Shelf.SortM.Plain
import Derived.Shelf.SortM.SortNone
import Derived.Shelf.SlIter.Nil
import Derived.Shelf.Slices.CompactS

namespace Go.Proofs.YtaobnifiengglaaGreatDoor
open Go.RowKit Go.Maps

/-- a list of names in order, each once -/
def inOrder (L : List Str) : List Str := oneEach (L.mergeSort leB)
theorem leB_trans (a b c : Str) (h1 : leB a b = true) (h2 : leB b c = true) : leB a c = true := by
  simp only [leB, decide_eq_true_eq] at *
  exact List.le_trans h1 h2
theorem leB_total (a b : Str) : (leB a b || leB b a) = true := by
  simp only [leB, Bool.or_eq_true, decide_eq_true_eq]
  exact List.le_total a b
theorem strLe_ne {a b : Str} (h : leB a b = true) (hne : a ≠ b) : a < b := by
  simp only [leB, decide_eq_true_eq] at h
  exact strLt_of (List.not_lt.2 h) (fun e => hne e.symm)
theorem strLt_le {a b c : Str} (h : a < b) (h2 : leB b c = true) : a < c := by
  by_cases e : b = c
  · subst e; exact h
  · exact strLt_trans h (strLe_ne h2 e)
theorem inOrder_strict (L : List Str) : (inOrder L).Pairwise (· < ·) :=
  oneEach_strict (le := fun a b => leB a b = true) (fun _ _ => strLe_ne) (fun _ _ _ => strLt_le) _ (List.pairwise_mergeSort leB_trans leB_total L)
theorem inOrder_mem (L : List Str) (x : Str) : x ∈ inOrder L ↔ x ∈ L := by
  rw [inOrder, oneEach_mem]
  exact (List.mergeSort_perm L leB).mem_iff
theorem sorted_strict {ss : List Str} (h : ss.Nodup) : (ss.mergeSort leB).Pairwise (· < ·) := by
  have h1 := List.pairwise_mergeSort leB_trans leB_total ss
  have h2 : (ss.mergeSort leB).Pairwise (· ≠ ·) := (List.mergeSort_perm ss leB).nodup_iff.2 h
  exact (h1.and h2).imp fun ⟨a, b⟩ => strLe_ne a b
/-- the keys of a set, sorted, are its members in order -/
theorem sorted_inOrder {ss L : List Str} (h : ss.Nodup) (hm : ∀ x, x ∈ ss ↔ x ∈ L) : ss.mergeSort leB = inOrder L :=
  strict_ext (lt := (· < ·)) strLt_irrefl (fun _ _ _ => strLt_trans) (sorted_strict h) (inOrder_strict L) fun x => by
    rw [inOrder_mem, ← hm x]
    exact (List.mergeSort_perm ss leB).mem_iff
theorem strKeys_are {H : Type} {P : Program} {k : TypeId} {R : Value → Option (DataW H × List MemPlace)} {w : World} {b n : Nat} {D : DataW H} (hown : w.ownsMap P k R b n D) (K : Keyed P k) (hk : P.underlying k = some .string) :
    (strKeys D).Nodup ∧ ∀ x, x ∈ strKeys D ↔ has D (.string x) = true := by
  obtain ⟨es, hD, hpw, _⟩ := hown.entries K
  obtain ⟨es', hD', hko⟩ := hown.keysOf
  obtain rfl : es = es' := by rw [hD] at hD'; simpa using hD'
  subst hD
  have hs : ∀ p ∈ es, ∃ x, p.1 = .string x := fun p hp => by obtain ⟨v, hv⟩ := hko p hp; obtain ⟨x, _, hx, _⟩ := Maps.keyOf_str hk hv; exact ⟨x, hx⟩
  refine ⟨?_, fun x => ?_⟩
  · show (es.map fun p => strOf p.1).Nodup
    refine List.pairwise_map.2 (hpw.imp_of_mem fun {p q} hp' hq' hne e => hne ?_)
    obtain ⟨a, ha⟩ := hs p hp'
    obtain ⟨b, hb⟩ := hs q hq'
    rw [ha, hb] at e ⊢
    exact congrArg _ e
  · rw [has_eq, List.any_eq_true]
    show x ∈ (es.map fun p => strOf p.1) ↔ _
    rw [List.mem_map]
    constructor
    · rintro ⟨p, hp', rfl⟩
      obtain ⟨a, ha⟩ := hs p hp'
      exact ⟨p, hp', by rw [ha]; simp [Lit.sameKey, strOf]⟩
    · rintro ⟨p, hp', he⟩
      obtain ⟨a, ha⟩ := hs p hp'
      rw [ha] at he
      exact ⟨p, hp', by rw [ha]; have he2 : a = x := (by simpa [Lit.sameKey] using he); exact he2⟩

/-! ### Doubles out -/
theorem get_zs (zs : List Str) (j : Nat) (h : j < zs.length) : zs.toArray[j]! = zs[j] := by simp [h]
theorem compact_strict {zs : List Str} (h : zs.Pairwise fun a b => leB a b = true) : (Lib.compact zs).Pairwise (· < ·) := by
  rw [List.pairwise_iff_getElem] at h
  have hle : ∀ i j, j < zs.length → i ≤ j → leB zs.toArray[i]! zs.toArray[j]! = true := fun i j hj hij => by
    rw [get_zs zs j hj, get_zs zs i (by omega)]
    by_cases e : i = j
    · subst e; simp only [leB, decide_eq_true_eq]; exact List.le_refl _
    · exact h i j (by omega) hj (by omega)
  unfold Lib.compact Lib.compactUpTo
  rw [List.pairwise_map]
  refine (List.Pairwise.filter _ (List.pairwise_lt_range (n := zs.length))).imp_of_mem ?_
  intro i j _ hj hij
  obtain ⟨hj1, hj2⟩ := List.mem_filter.1 hj
  have hj1 := List.mem_range.1 hj1
  simp only [Lib.keeps, decide_eq_true_eq] at hj2
  have hne := hj2.resolve_left (by omega)
  have h1 := strLe_ne (hle (j - 1) j hj1 (by omega)) (fun e => hne e.symm)
  by_cases e : zs.toArray[i]! = zs.toArray[j - 1]!
  · rw [e]; exact h1
  · exact strLt_trans (strLe_ne (hle i (j - 1) (by omega) (by omega)) e) h1
theorem compact_mem (zs : List Str) (x : Str) : x ∈ Lib.compact zs ↔ x ∈ zs := by
  unfold Lib.compact Lib.compactUpTo
  rw [List.mem_map]
  constructor
  · rintro ⟨j, hj, rfl⟩
    have hj1 := List.mem_range.1 (List.mem_filter.1 hj).1
    rw [get_zs zs j hj1]
    exact List.getElem_mem hj1
  · intro h
    obtain ⟨i, hi, rfl⟩ := List.mem_iff_getElem.1 h
    have : ∀ i, i < zs.length → ∃ j, j ≤ i ∧ Lib.keeps zs.toArray j = true ∧ zs.toArray[j]! = zs.toArray[i]! := by
      intro i
      induction i with
      | zero => intro _; exact ⟨0, Nat.le_refl _, by simp [Lib.keeps], rfl⟩
      | succ i ih =>
        intro hi
        by_cases e : zs.toArray[i + 1]! = zs.toArray[i]!
        · obtain ⟨j, h1, h2, h3⟩ := ih (by omega)
          exact ⟨j, by omega, h2, by rw [h3, e]⟩
        · exact ⟨i + 1, Nat.le_refl _, by simp only [Lib.keeps, decide_eq_true_eq]; exact .inr (by rw [Nat.add_sub_cancel]; exact e), rfl⟩
    obtain ⟨j, h1, h2, h3⟩ := this i hi
    exact ⟨j, List.mem_filter.2 ⟨List.mem_range.2 (by omega), h2⟩, by rw [h3, get_zs zs i hi]⟩
theorem compact_inOrder (L : List Str) : Lib.compact (L.mergeSort leB) = inOrder L :=
  strict_ext (lt := (· < ·)) strLt_irrefl (fun _ _ _ => strLt_trans) (compact_strict (List.pairwise_mergeSort leB_trans leB_total L)) (inOrder_strict L) fun x => by
    rw [compact_mem, inOrder_mem]
    exact (List.mergeSort_perm L leB).mem_iff

/-! ### In memory -/
/-- block b is a set of strings, of at most n entries: those of L -/
def StrSet (w : World) (b n : Nat) (L : List Str) : Prop :=
  ∃ D : DataW PUnit, w.ownsMap Tryz.prog 9 (plainElem Tryz.prog 4) b n D ∧ ∀ s, has D (.string s) = true ↔ s ∈ L
namespace StrSet
variable {w w' : World} {b n : Nat} {L : List Str}
theorem made (w : World) : StrSet (w.alloc (.map #[] 0)) w.heap.size 0 [] :=
  ⟨.map [], World.ownsMap_made w _ _ _, fun s => ⟨(fun h => by cases h), (fun h => by cases h)⟩⟩
theorem ext (h : StrSet w b n L) (hx : Ext w w') : StrSet w' b n L := by
  obtain ⟨D, h, r⟩ := h
  exact ⟨D, h.kept (row := none) ⟨hx.os, hx.tape, hx.output, hx.size, fun k hk _ => hx.block k hk⟩ (by simp), r⟩
theorem lt (h : StrSet w b n L) : b < w.heap.size := by
  obtain ⟨D, h, _⟩ := h
  exact h.lt
theorem upd (h : StrSet w b n L) {t : TypeId} (ht : Tryz.prog.underlying t = some (.map 9 4)) (k : ByteArray) (hk : k.size ≤ 4194304) (hn : n ≤ 2097152) :
    ∃ w', (Instr.mapUpdate t (.map (some b)) (.string k) (.bool true)).run Tryz.prog w = .ok () w' ∧ StrSet w' b (n + 1) (L ++ [bs k]) ∧ w.grownBy w' (some b) := by
  obtain ⟨D, h, r⟩ := h
  have hkey : keyOf Tryz.prog 9 (.string k) = some (.string (bs k)) := WideMaps.keyOf_string_mk str_under (by simp only [maxLen]; omega)
  have hval : plainElem (H := PUnit) Tryz.prog 4 (.bool true) = some (.lit (.bool true), []) := plainElem_bool (by kernel_rfl) true
  obtain ⟨w', hrun, h', hg⟩ := h.update (Maps.string_keyed str_under) ht (by simp only [maxLen]; omega) hkey hval
  refine ⟨w', hrun, ⟨_, h', fun s => ?_⟩, hg⟩
  rw [List.mem_append, List.mem_singleton]
  by_cases e : s = bs k
  · subst e
    exact ⟨fun _ => .inr rfl, fun _ => Maps.has_put_same h.isMap (by trivial) _⟩
  · rw [Maps.has_put_other (by intro e2; injection e2 with e2; exact e e2), r s]
    exact ⟨fun h => .inl h, fun h => h.resolve_right e⟩
end StrSet
end Go.Proofs.YtaobnifiengglaaGreatDoor

namespace Go.Proofs.YtaobnifiengglaaGreatDoor
open Go.RowKit

/-- a slice of texts -/
def RdT (w : World) (A : Option Addr) (l : List Str) : Prop := l ≠ [] → ∃ g, A = some ⟨g, 0, none⟩ ∧ ∀ k (h : k < l.length), w.cell? ⟨g, k, none⟩ = some (S l[k])
theorem RdT.ext {w w' : World} {A : Option Addr} {l : List Str} (h : RdT w A l) (hx : Ext w w') : RdT w' A l := fun hn => by
  obtain ⟨g, e, k⟩ := h hn
  exact ⟨g, e, fun i hi => hx.cell (k i hi)⟩
theorem RdT.nil (w : World) (A : Option Addr) : RdT w A [] := fun h => absurd rfl h
theorem RdT.own {w : World} {B n : Nat} {v : Value} {l : List Str} (h : w.ownsRow B 9 1 v n (l.map S)) (hn : l.length = n) : ∃ A c, v = .slice A n c ∧ RdT w A l := by
  rcases Nat.eq_zero_or_pos n with h0 | h0
  · subst h0
    obtain rfl : l = [] := List.eq_nil_of_length_eq_zero hn
    rcases h.2 with ⟨rfl, _⟩ | ⟨g, cap, cur, rfl, _⟩
    · exact ⟨none, 0, rfl, RdT.nil _ _⟩
    · exact ⟨_, _, rfl, RdT.nil _ _⟩
  · obtain ⟨g, c, rfl, _, _, _, hc⟩ := own_form h h0
    exact ⟨_, _, rfl, fun _ => ⟨g, rfl, fun k hk => hc k _ (by rw [List.getElem?_map, List.getElem?_eq_getElem hk]; rfl)⟩⟩
set_option maxHeartbeats 4000000 in
theorem EqualT_same (A1 A2 : Option Addr) (c1 c2 n : Nat) (l : List Str) (w : World) (hn : l.length = n) (h1 : RdT w A1 l) (h2 : RdT w A2 l) (hl : n ≤ 100000000) :
    Calls Tryz.prog 69 #[.slice A1 n c1, .slice A2 n c2] w fun e w' => e = .returned (.bool true) ∧ Ext w w' := by
  have hne : ((n : Int) != (n : Int)) = false := by rw [bne, beq_iff_eq.2 rfl]; rfl
  have HN := Lib.hid hn; have H1 := Lib.hid h1; have H2 := Lib.hid h2
  clear hn h1 h2
  go_enter Tryz.func69, Tryz.ntmps69
  go_wp2
  go_loopw [13] (fun t wr => ∃ j : Nat, t = .int .i64 j ∧ j ≤ n ∧ Ext w wr) (fun t _ => n - (intOf t).toNat)
  case atStart => exact ⟨0, by go_num, Nat.zero_le _, Ext.refl w⟩
  case round =>
    obtain ⟨j, rfl, hj, hxr⟩ := hrel
    by_cases hlt : j < n
    · have hk : j < l.length := by rw [HN.out]; exact hlt
      have hne0 : l ≠ [] := fun e => by rw [e] at hk; exact absurd hk (Nat.not_lt_zero _)
      obtain ⟨g1, rfl, k1⟩ := H1.out hne0
      obtain ⟨g2, rfl, k2⟩ := H2.out hne0
      have x1 := hxr.cell (k1 j hk)
      have x2 := hxr.cell (k2 j hk)
      obtain ⟨t, ht⟩ : ∃ t : ByteArray, S l[j] = .string t := ⟨_, rfl⟩
      rw [ht] at x1 x2
      have hq0 : (0 : Int) ≤ (j : Int) := by omega
      have hlb1 := lt_of_cell x1; have hlb2 := lt_of_cell x2
      clear k1 k2 ht
      go_wp2_with fail
      refine wp_region_ext (by kernel_rfl) (by kernel_rfl) ?_
      repeat (first | go_big_quiet_skip | (refine wpQuiet_step (fun K hK => ?_); go_simp; first | (refine hK _ ?_; clear hK K) | (apply Exists.intro; refine ⟨fun wq hwq => ?_, hK _ ?_⟩; (obtain ⟨hqc, hqf⟩ := hwq.cells; have hqs := hwq.size; (try go_simp); first | rfl | ((first | rw [if_neg (by omega)] | rw [if_pos (by omega)]); (try go_simp); rfl) | ((fail))); clear hK K)))
      refine wpQuiet_nil ?_
      intro wN hxN
      obtain ⟨hcN, hfN⟩ := hxN.cells
      have hsN := hxN.size
      go_wp2
      go_roundw
      case rel => exact ⟨j + 1, by go_num, hlt, hxr.trans hxN⟩
      case measure => simp [intOf]; omega
    · go_wp2
      go_ret
      exact ⟨rfl, hxr⟩
end Go.Proofs.YtaobnifiengglaaGreatDoor

namespace Go.Proofs.YtaobnifiengglaaGreatDoor
open Go.RowKit Go.Maps Go.Sort Go.Shelf

theorem row_extC (w : World) (g n : Nat) (d : Array Str) (os : Array Obj) : ExtC (· = g) w (grow (putRow encStr (Sort.ahead w n) g 0 d) os) := by
  refine ⟨rfl, rfl, rfl, ?_, fun k hk hne => ?_⟩
  · unfold grow putRow mapBlock
    simp [Sort.ahead]
  · unfold grow putRow mapBlock
    show (_ ++ os)[k]? = _
    rw [Array.getElem?_append]
    simp only [Sort.ahead, Array.size_modify, Array.getElem?_modify]
    rw [if_pos hk, if_neg (fun e => hne e.symm)]
theorem put_extC (w : World) (g n : Nat) (d : Array Str) : ExtC (· = g) w (putRow encStr (Sort.ahead w n) g 0 d) := by
  have := row_extC w g n d #[]
  rwa [grow_empty] at this
theorem own_holds {w : World} {B n : Nat} {g c : Nat} {l : List Str} (h : w.ownsRow B 9 1 (.slice (some ⟨g, 0, none⟩) n c) n (l.map S)) (_hn : l.length = n) : Holds encStr w g 0 l.toArray ∧ B ≤ g ∧ g < w.heap.size ∧ n ≤ c := by
  have hlt := h.lt g rfl
  rcases h.2 with ⟨e, _⟩ | ⟨g', cap, cur, e, hb, hgg, hnc, _⟩
  · cases e
  · injection e with e1 e2 e3
    injection e1 with e1
    injection e1 with e1 _ _
    subst e1 e3
    refine ⟨fun j hj => ?_, hb, hlt.2, hnc⟩
    have hj2 : j < l.length := by simpa using hj
    have hc := h.cells (g := g) rfl j (S l[j]) (by rw [List.getElem?_map, List.getElem?_eq_getElem hj2]; rfl)
    have hadd : (⟨g, 0, none⟩ : Addr).add j = ⟨g, j, none⟩ := by unfold Addr.add; split <;> simp_all
    rw [hadd] at hc
    rw [Nat.zero_add]
    have hB : Blk w g 9 cur := hgg
    refine ⟨?_, hB.free j⟩
    rw [hc]
    have e : l.toArray[j]! = l[j] := by simp [hj2]
    rw [e]
theorem holds_rd {w : World} {g : Nat} {l : List Str} (h : Holds encStr w g 0 l.toArray) : RdT w (some ⟨g, 0, none⟩) l := fun _ => ⟨g, rfl, fun k hk => by
  have := (h k (by simpa using hk)).1
  rw [Nat.zero_add] at this
  rw [this]
  have e : l.toArray[k]! = l[k] := by simp [hk]
  rw [e]⟩
theorem SortT_any (g c : Nat) (l : List Str) (w : World) (hr : Holds encStr w g 0 l.toArray) (hg : g < w.heap.size) (hl : l.length ≤ 100000000) :
    Calls Tryz.prog 158 #[.slice (some ⟨g, 0, none⟩) l.length c] w fun e w' => e = .returned (.tuple #[]) ∧ Holds encStr w' g 0 (l.mergeSort leB).toArray ∧ ExtC (· = g) w w' := by
  refine (AnyM.slices_Sort_string Tryz.sortT g 0 c l w hr hg (by omega)).mono ?_
  rintro e w' ⟨rfl, n, os, rfl⟩
  refine ⟨rfl, holds_grow encStr _ _ _ _ _ (by show g < (putRow encStr (Sort.ahead w n) g 0 _).heap.size; unfold putRow mapBlock; simpa [Sort.ahead] using hg) (holds_putRow encStr _ _ _ l.toArray _ hr (by simp [List.length_mergeSort])), row_extC w g n _ os⟩
theorem SortT_none (p : Option Addr) (c : Nat) (w : World) :
    Calls Tryz.prog 158 #[.slice p 0 c] w fun e w' => e = .returned (.tuple #[]) ∧ w' = w := AnyM.slices_Sort_string_none Tryz.sortT p c w
theorem CompactT_any (g c : Nat) (l : List Str) (w : World) (hr : Holds encStr w g 0 l.toArray) (hc : l.length ≤ c) (hl : l.length ≤ 100000000) :
    Calls Tryz.prog 159 #[.slice (some ⟨g, 0, none⟩) l.length c] w fun e w' => e = .returned (.slice (some ⟨g, 0, none⟩) (Lib.compact l).length c) ∧ RdT w' (some ⟨g, 0, none⟩) (Lib.compact l) ∧ ExtC (· = g) w w' := by
  refine (Any.slices_Compact_string Tryz.compactT g 0 c l w hr (by omega) hc).mono ?_
  rintro e w' ⟨rfl, q, rfl⟩
  have hle : (Lib.compact l).length ≤ l.length := by
    unfold Lib.compact Lib.compactUpTo
    rw [List.length_map]
    exact Nat.le_trans (List.length_filter_le _ _) (by simp)
  have hh := holds_putRow encStr (Sort.ahead w q) g 0 l.toArray (Lib.compact l ++ List.replicate (l.length - (Lib.compact l).length) []).toArray hr (by simp; omega)
  refine ⟨rfl, holds_rd fun j hj => ?_, put_extC w g q _⟩
  have hj2 : j < (Lib.compact l).length := by simpa using hj
  have h1 := hh j (by simp; omega)
  have e : (Lib.compact l ++ List.replicate (l.length - (Lib.compact l).length) []).toArray[j]! = (Lib.compact l).toArray[j]! := by
    rw [get_zs _ j (by rw [List.length_append]; omega), get_zs _ j hj2, List.getElem_append_left hj2]
  rw [e] at h1
  exact h1
theorem CompactT_none (p : Option Addr) (c : Nat) (w : World) :
    Calls Tryz.prog 159 #[.slice p 0 c] w fun e w' => e = .returned (.slice p 0 c) ∧ w' = w := Any.slices_Compact_string_empty Tryz.compactT p c w

/-! ### slices.Sorted(maps.Keys(m)) -/
theorem sorts_in (m : Nat) : AnyZ.SortsIn Tryz.prog Tryz.sortedM_ren Fence.wide m :=
  ⟨fun blk off cap ss W hH hblk hsz => callsIn_wide.2 (AnyM.slices_Sort_string Tryz.sortT blk off cap ss W hH hblk hsz),
   fun p cap W => callsIn_wide.2 (AnyM.slices_Sort_string_none Tryz.sortT p cap W)⟩
theorem Keys_any (mb : Option Nat) (W : World) :
    Calls Tryz.prog 149 #[.map mb] W fun e w' => e = .returned (.func (.func 213) #[] #[.pointer (some ⟨W.heap.size, 0, none⟩)]) ∧ w' = W.alloc (.cells #[.map mb] 206) :=
  (callsIn_wide (n := 5)).1 (AnyZ.keys_in Tryz.keysM Fence.wide 5 trivial rfl mb W)
set_option maxHeartbeats 1000000 in
theorem Sorted_keys {H : Type} (b nn : Nat) (D0 : DataW H) (R : Value → Option (DataW H × List MemPlace)) (w : World) (hown : w.ownsMap Tryz.prog 9 R b nn D0) (hmax : Maps.size D0 ≤ maxLen) (hbytes : Maps.size D0 * 16 ≤ 140737488355328) :
    Calls Tryz.prog 148 #[.func (.func 213) #[] #[.pointer (some ⟨w.heap.size, 0, none⟩)]] (w.alloc (.cells #[.map (some b)] 206)) fun e w' => ∃ (v : Value) (ss : List (List UInt8)), e = .returned v ∧ ss.Perm (strKeys D0) ∧
      w'.ownsRow (w.alloc (.cells #[.map (some b)] 206)).heap.size 9 1 v ss.length ((ss.mergeSort (fun x y => decide (x ≤ y))).map encStr) ∧ (v = .slice none 0 0 ↔ ss = []) ∧ Below (w.alloc (.cells #[.map (some b)] 206)).heap.size (w.alloc (.cells #[.map (some b)] 206)) w' := by
  have hbl := hown.lt
  have hseq : SeqGives Fence.wide 2 Tryz.prog 213 #[.pointer (some ⟨w.heap.size, 0, none⟩)] encStr (fun ss => ss.Perm (strKeys D0)) (Maps.size D0) (w.alloc (.cells #[.map (some b)] 206)) :=
    AnyZ.keys_gives (ρ := Tryz.keysM_ren) { Tryz.keysM with } Fence.wide _ trivial rfl (by omega) w.heap.size b nn D0 _ (by simp) (by simp) (by
      obtain ⟨es, clock, hb, Ft, hs, hD⟩ := hown
      exact ⟨es, clock, (Below.heap_alloc _ _ b hbl).trans hb, Ft, hs, hD⟩)
  exact (callsIn_wide (n := 5)).1 (AnyZ.sorted_in Tryz.sortedM Fence.wide 5 trivial trivial trivial trivial rfl (by omega) (sorts_in _) (enters_of Tryz.func158 (by kernel_rfl) rfl) 213 #[.pointer (some ⟨w.heap.size, 0, none⟩)] trivial (enters_of Tryz.func213 (by kernel_rfl) rfl) _ _ hmax hbytes _ hseq)
theorem SortedSet_any (b n : Nat) (L : List Str) (w : World) (h : StrSet w b n L) (hn : n ≤ 1000000) :
    Calls Tryz.prog 148 #[.func (.func 213) #[] #[.pointer (some ⟨w.heap.size, 0, none⟩)]] (w.alloc (.cells #[.map (some b)] 206)) fun e w' =>
      ∃ A m c, e = .returned (.slice A m c) ∧ (inOrder L).length = m ∧ RdT w' A (inOrder L) ∧ Ext (w.alloc (.cells #[.map (some b)] 206)) w' := by
  obtain ⟨D, hown, hmem⟩ := h
  have hsz := hown.size_le
  refine (Sorted_keys b n D _ w hown (by simp only [maxLen]; omega) (by omega)).mono ?_
  rintro e w' ⟨v, ss, rfl, hp, hrow, _, hb⟩
  obtain ⟨k1, k2⟩ := strKeys_are hown (Maps.string_keyed str_under) str_under
  have e1 : ss.mergeSort leB = inOrder L := sorted_inOrder (hp.nodup_iff.2 k1) fun x => by rw [hp.mem_iff, k2, hmem]
  have hl : (inOrder L).length = ss.length := by rw [← e1, List.length_mergeSort]
  have hrow2 := hrow
  rw [show ss.mergeSort (fun x y => decide (x ≤ y)) = inOrder L from e1] at hrow2
  obtain ⟨A, c, rfl, hr⟩ := RdT.own hrow2 hl
  exact ⟨A, _, c, rfl, hl, hr, hb⟩
end Go.Proofs.YtaobnifiengglaaGreatDoor

namespace Go.Proofs.YtaobnifiengglaaGreatDoor
open Go.RowKit

/-! ### A world in which a list of texts has grown: its variable, and rows of texts from B on -/
structure ExtT (B V : Nat) (a b : World) : Prop where
  os : b.os = a.os
  tape : b.tape = a.tape
  output : b.output = a.output
  size : a.heap.size ≤ b.heap.size
  block : ∀ k, k < a.heap.size → k ≠ V → (k < B ∨ ∀ cs p, a.heap[k]? ≠ some (.cells cs 9 p)) → b.heap[k]? = a.heap[k]?
namespace ExtT
variable {B V : Nat} {a b c : World}
theorem ofExt (h : Ext a b) : ExtT B V a b := ⟨h.os, h.tape, h.output, h.size, fun k hk _ _ => h.block k hk⟩
theorem refl (a : World) : ExtT B V a a := ofExt (Ext.refl a)
theorem trans (h : ExtT B V a b) (k : ExtT B V b c) : ExtT B V a c :=
  ⟨k.os.trans h.os, k.tape.trans h.tape, k.output.trans h.output, Nat.le_trans h.size k.size, fun i hi hv hc => by
    have e := h.block i hi hv hc
    rw [← e]
    refine k.block i (Nat.lt_of_lt_of_le hi h.size) hv ?_
    rw [e]
    exact hc⟩
theorem cell (h : ExtT B V a b) {k o : Nat} {v : Value} (hk : k < B ∧ k ≠ V) (hc : a.cell? ⟨k, o, none⟩ = some v) : b.cell? ⟨k, o, none⟩ = some v := by
  have hl := lt_of_cell hc
  unfold World.cell? at hc ⊢
  rw [h.block k hl hk.2 (.inl hk.1)]
  exact hc
/-- behind it a world that lay ahead of the variable and the rows has only grown -/
theorem ext {w : World} (h : Ext w a) (k : ExtT B V a b) (hB : w.heap.size ≤ B) (hV : w.heap.size ≤ V) : Ext w b :=
  ⟨k.os.trans h.os, k.tape.trans h.tape, k.output.trans h.output, Nat.le_trans h.size k.size, fun i hi => (k.block i (Nat.lt_of_lt_of_le hi h.size) (by omega) (.inl (by omega))).trans (h.block i hi)⟩
end ExtT
theorem Blk.extT {B V : Nat} {w w' : World} {k : Nat} {t : TypeId} {cs : Array Value} (h : Blk w k t cs) (hx : ExtT B V w w') (ht : t ≠ 9) (hk : k ≠ V) : Blk w' k t cs :=
  (hx.block k h.lt hk (.inr fun cs p e => by rw [show w.heap[k]? = _ from h] at e; injection e with e; injection e with _ e; exact ht e)).trans h
theorem CdIn.extT {B V : Nat} {P : Nat → Prop} {w w' : World} {c : Cd} {v : Value} (h : CdIn P w c v) (hx : ExtT B V w w') (hP : ∀ k, P k → k < B ∧ k ≠ V) : CdIn P w' c v := h.keep fun b _ _ hb e => hx.cell (hP b hb) e
/-- what parts use, in their order -/
def uses (l : List (Cd × Nat)) : List Str := l.flatMap fun p => useOf p.1
theorem uses_append (a b : List (Cd × Nat)) : uses (a ++ b) = uses a ++ uses b := List.flatMap_append
theorem use_one (c : Cd) : (useOf c).length ≤ 1 := by
  unfold useOf
  split
  · exact Nat.le_refl _
  · split <;> simp
theorem uses_len : ∀ l : List (Cd × Nat), (uses l).length ≤ l.length
  | [] => Nat.le_refl _
  | p :: l => by
    have := uses_len l
    have := use_one p.1
    show (useOf p.1 ++ uses l).length ≤ _
    rw [List.length_append, List.length_cons]
    omega
theorem cnts_take : ∀ (l : List Cd) (j : Nat) (h : j < l.length), cnts (l.take j) + cnt l[j] ≤ cnts l
  | c :: l, 0, _ => by simp only [List.take_zero, cnts, List.getElem_cons_zero]; omega
  | c :: l, j + 1, h => by
    have := cnts_take l j (by simpa using h)
    simp only [List.take_succ_cons, cnts, List.getElem_cons_succ]
    omega
theorem use_len {l : List Cd} {lev j M : Nat} {st sj : List Str} {hsj : st ++ uses (prts lev (l.take j)) = sj} (h : j < l.length) (hl : st.length + cnts l ≤ M) : sj.length + cnt l[j] ≤ M := by
  have h1 := uses_len (prts lev (l.take j))
  rw [prts_len] at h1
  have h2 := cnts_take l j h
  rw [← hsj, List.length_append]
  omega
set_option maxRecDepth 100000 in
set_option maxHeartbeats 8000000 in
theorem CondPartsT_any (f : FuncId) (caps : Array Value) (hen : ∀ xs w, Sem.run Tryz.prog (callFunc f xs) w = .ok (.enter f xs) w) (P : Nat → Prop) (B V : Nat) (Inv : List Str → World → Prop)
    (hal : ∀ st w w', Inv st w → Ext w w' → Inv st w') (hV : ∀ st w, Inv st w → V < w.heap.size) (hP : ∀ k, P k → k < B ∧ k ≠ V) (M : Nat)
    (hf : ∀ c v (lev : Nat) st w, lev ≤ 1000000000 → SmallC c → CdIn P w c v → Inv st w → st.length ≤ M → Calls Tryz.prog f (#[v, .int .i64 lev] ++ caps) w fun e w' => e = .returned (.tuple #[]) ∧ Inv (st ++ useOf c) w' ∧ ExtT B V w w') :
    ∀ (N : Nat) (c : Cd), cnt c ≤ N → ∀ (lev : Nat) (v : Value) (st : List Str) (w : World), lev + N ≤ 1000000000 → st.length + cnt c ≤ M → SmallC c → CdIn P w c v → Inv st w →
      Calls Tryz.prog 140 #[v, .int .i64 lev, .func (.func f) #[] caps] w fun e w' => e = .returned (.tuple #[]) ∧ Inv (st ++ uses (prt lev c)) w' ∧ ExtT B V w w' := by
  intro N
  induction N with
  | zero => intro c hc; have := cnt_pos c; omega
  | succ N ih =>
    intro c hc lev v st w hlev hlen hsm hcd hinv
    have hc0 := hcd
    cases hcd with
    | mk k n x l A cp b o u0 u1 u2 u3 hA hb h0 h1 h2 h3 hr =>
      obtain ⟨_, _, _, _, hsn, hsx, hsl, hsr⟩ := hsm
      have hnw : w.heap.size ≤ w.heap.size := Nat.le_refl _
      have hVw := hV _ _ hinv
      have hnV : w.heap.size ≠ V := by omega
      have hxb : Ext w (w.alloc (.cells #[.int .i64 k, .string n, .string x, .slice A l.length cp] 61)) := (Ext.refl w).alloc _
      have hlen0 : st.length ≤ M := by omega
      have hfb := hf (.mk k n x l) _ lev st _ (by omega) ⟨k, n, x, l, hsn, hsx, hsl, hsr⟩ (hc0.ext hxb) (hal _ _ _ hinv hxb) hlen0
      have bx := Blk.new w 61 #[.int .i64 k, .string n, .string x, .slice A l.length cp]
      have hrun : st ++ uses (prt lev (.mk k n x l)) = (st ++ useOf (.mk k n x l)) ++ uses (prts (lev + 1) l) := by rw [List.append_assoc]; rfl
      rw [hrun]
      have hcl : cnts l ≤ N := by unfold cnt at hc; omega
      have hlw : IntKind.i64.wrap ((lev : Int) + 1) = (lev : Int) + 1 := by rw [IntKind.wrap_i64]; omega
      have hll := cnts_len l
      have hul : (useOf (.mk k n x l)).length ≤ 1 := use_one _
      have hlen1 : (st ++ useOf (.mk k n x l)).length + cnts l ≤ M := by
        rw [List.length_append]
        have : cnt (.mk k n x l) = 1 + cnts l := rfl
        omega
      generalize st ++ useOf (.mk k n x l) = st1 at *
      obtain ⟨R, hR⟩ : ∃ R, st1 ++ uses (prts (lev + 1) l) = R := ⟨_, rfl⟩
      rw [hR]
      clear hul hlen hlen0
      have HF := Lib.hid hfb
      have HEN := hen
      clear hfb hrun hc hinv
      have HR := Lib.hid hR
      have HIHs := Lib.hid ih
      have HSR := Lib.hid hsr
      have HH0 := Lib.hid h0; have HH1 := Lib.hid h1; have HH2 := Lib.hid h2; have HH3 := Lib.hid h3; have HHR := Lib.hid hr
      have HP := Lib.hid hP; have HA := Lib.hid hA; have HBB := Lib.hid hb; have HAL := Lib.hid hal
      clear hR ih hf hV h0 h1 h2 h3 hr hsr hP hA hb hc0 hal
      go_enter Tryz.func140, Tryz.ntmps140
      go_wp2_with fail
      refine HF.out.mono ?_
      rintro e w1 ⟨rfl, hinv1, hx1⟩
      have bx1 := bx.extT hx1 (by decide) hnV
      have bc := bx1.cell; have bf := bx1.free; have bz := bx1.lt
      have hxa := (ExtT.ofExt hxb).trans hx1
      clear bx
      go_wp2
      go_loopw [15] (fun t wr => ∃ (j : Nat) (sj : List Str), t = .int .i64 j ∧ j ≤ l.length ∧ Inv sj wr ∧ ExtT B V w wr ∧ st1 ++ uses (prts (lev + 1) (l.take j)) = sj) (fun t _ => l.length - (intOf t).toNat)
      case atStart => exact ⟨0, st1, by go_num, Nat.zero_le _, hinv1, hxa, by simp [prts, uses]⟩
      case round =>
        obtain ⟨j, sj, rfl, hj, hinvr, hxr, hdone⟩ := hrel
        have HXR := Lib.hid hxr
        clear bc bf bz bx1 hx1 hinv1 HF hxa
        by_cases hlt : j < l.length
        · obtain rfl := HA.out (by omega)
          have hPb := HBB.out (by omega)
          have hnb := HP.out b hPb
          have g0 := hxr.cell hnb (HH0.out j hlt)
          have g1 := hxr.cell hnb (HH1.out j hlt)
          have g2 := hxr.cell hnb (HH2.out j hlt)
          have g3 := hxr.cell hnb (HH3.out j hlt)
          have hcj := HHR.out j hlt
          obtain ⟨ck, cn, cx, cA, cm, ccp, hcc⟩ := hcj.cells
          have hcc2 := hcc
          simp only [Value.agg.injEq, Array.mk.injEq, List.cons.injEq, and_true] at hcc2
          obtain ⟨q0, q1, q2, q3⟩ := hcc2
          rw [hcc] at hcj
          rw [q0] at g0; rw [q1] at g1; rw [q2] at g2; rw [q3] at g3
          clear hcc q0 q1 q2 q3
          have hxc : Ext wr (wr.alloc (.cells #[.int .i64 ck, .string cn, .string cx, .slice cA cm ccp] 61)) := (Ext.refl wr).alloc _
          have hih := HIHs.out l[j] (Nat.le_trans (cnts_at l j hlt) hcl) (lev + 1) _ sj _ (by omega) (use_len (hsj := hdone) hlt hlen1) (HSR.out _ (List.getElem_mem hlt)) ((hcj.extT hxr HP.out).ext hxc) (HAL.out _ _ _ hinvr hxc)
          rw [show ((lev + 1 : Nat) : Int) = (lev : Int) + 1 by omega] at hih
          have hq0 : (0 : Int) ≤ (j : Int) := by omega
          clear hxr hxc hcj
          have hnx : st1 ++ uses (prts (lev + 1) (l.take (j + 1))) = sj ++ uses (prt (lev + 1) l[j]) := by rw [prts_take (lev + 1) l j hlt, uses_append, ← List.append_assoc, hdone]
          generalize sj ++ uses (prt (lev + 1) l[j]) = s2 at *
          have HIH := Lib.hid hih
          have HNX := Lib.hid hnx
          clear hdone hnx hih
          go_wp2_with fail
          refine HIH.out.mono ?_
          rintro e w3 ⟨rfl, hinv3, hx3⟩
          go_wp2
          go_roundw
          case rel => exact ⟨j + 1, s2, by go_num, hlt, hinv3, (HXR.out.trans (ExtT.ofExt ((Ext.refl wr).alloc _))).trans hx3, HNX.out⟩
          case measure => simp [intOf]; omega
        · have hjl : l.take j = l := List.take_of_length_le (by omega)
          rw [hjl, HR.out] at hdone
          subst hdone
          go_wp2
          refine bodyPost_end (results_none rfl _ _ _) rfl ⟨rfl, hinvr, HXR.out⟩
end Go.Proofs.YtaobnifiengglaaGreatDoor
