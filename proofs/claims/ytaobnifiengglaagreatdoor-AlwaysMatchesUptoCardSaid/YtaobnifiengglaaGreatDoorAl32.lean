/- slices.Sort and slices.Compact at texts; slices.Sorted(maps.Keys(m)). Contract of outref2.CondParts with a visitor that appends to a list. (Printed by gen/usea.py.) Contract of outref2.Uses. -/
import Derived.Test.YtaobnifiengglaaGreatDoorAl31
import Derived.Test.YtaobnifiengglaaGreatDoorAl25
import Derived.Test.YtaobnifiengglaaGreatDoorShelfG
import Derived.Shelf.SortM.Plain
import Derived.Shelf.SortM.SortNone
import Derived.Shelf.SlIter.Nil
import Derived.Shelf.Slices.CompactS
import Derived.Test.YtaobnifiengglaaGreatDoorAl26
import Derived.Test.YtaobnifiengglaaGreatDoorAl16
import Derived.Test.YtaobnifiengglaaGreatDoorAl28

namespace Go.Proofs.YtaobnifiengglaaGreatDoor
open Go.RowKit Go.Maps Go.Sort Go.Shelf

theorem row_extC (w : World) (g n : Nat) (d : Array Str) (os : Array Obj) : ExtC (· = g) w (grow (putRow encStr (Sort.ahead w n) g 0 d) os) := by
  refine ⟨rfl, rfl, rfl, ?_, fun k hk hne => ?_⟩
  · unfold grow putRow mapBlock
    simp [Sort.ahead]
  · unfold grow putRow mapBlock
    show (_ ++ os)[k]? = _
    rw [Array.getElem?_append]
    simp only [Sort.ahead, Array.size_modify, Array.getElem?_modify]
    rw [if_pos hk, if_neg (fun e => hne e.symm)]
theorem put_extC (w : World) (g n : Nat) (d : Array Str) : ExtC (· = g) w (putRow encStr (Sort.ahead w n) g 0 d) := by
  have := row_extC w g n d #[]
  rwa [grow_empty] at this
theorem own_holds {w : World} {B n : Nat} {g c : Nat} {l : List Str} (h : w.ownsRow B 9 1 (.slice (some ⟨g, 0, none⟩) n c) n (l.map S)) (_hn : l.length = n) : Holds encStr w g 0 l.toArray ∧ B ≤ g ∧ g < w.heap.size ∧ n ≤ c := by
  have hlt := h.lt g rfl
  rcases h.2 with ⟨e, _⟩ | ⟨g', cap, cur, e, hb, hgg, hnc, _⟩
  · cases e
  · injection e with e1 e2 e3
    injection e1 with e1
    injection e1 with e1 _ _
    subst e1 e3
    refine ⟨fun j hj => ?_, hb, hlt.2, hnc⟩
    have hj2 : j < l.length := by simpa using hj
    have hc := h.cells (g := g) rfl j (S l[j]) (by rw [List.getElem?_map, List.getElem?_eq_getElem hj2]; rfl)
    have hadd : (⟨g, 0, none⟩ : Addr).add j = ⟨g, j, none⟩ := by unfold Addr.add; split <;> simp_all
    rw [hadd] at hc
    rw [Nat.zero_add]
    have hB : Blk w g 9 cur := hgg
    refine ⟨?_, hB.free j⟩
    rw [hc]
    have e : l.toArray[j]! = l[j] := by simp [hj2]
    rw [e]
theorem holds_rd {w : World} {g : Nat} {l : List Str} (h : Holds encStr w g 0 l.toArray) : RdT w (some ⟨g, 0, none⟩) l := fun _ => ⟨g, rfl, fun k hk => by
  have := (h k (by simpa using hk)).1
  rw [Nat.zero_add] at this
  rw [this]
  have e : l.toArray[k]! = l[k] := by simp [hk]
  rw [e]⟩
theorem SortT_any (g c : Nat) (l : List Str) (w : World) (hr : Holds encStr w g 0 l.toArray) (hg : g < w.heap.size) (hl : l.length ≤ 100000000) :
    Calls Tryz.prog 158 #[.slice (some ⟨g, 0, none⟩) l.length c] w fun e w' => e = .returned (.tuple #[]) ∧ Holds encStr w' g 0 (l.mergeSort leB).toArray ∧ ExtC (· = g) w w' := by
  refine (AnyM.slices_Sort_string Tryz.sortT g 0 c l w hr hg (by omega)).mono ?_
  rintro e w' ⟨rfl, n, os, rfl⟩
  refine ⟨rfl, holds_grow encStr _ _ _ _ _ (by show g < (putRow encStr (Sort.ahead w n) g 0 _).heap.size; unfold putRow mapBlock; simpa [Sort.ahead] using hg) (holds_putRow encStr _ _ _ l.toArray _ hr (by simp [List.length_mergeSort])), row_extC w g n _ os⟩
theorem SortT_none (p : Option Addr) (c : Nat) (w : World) :
    Calls Tryz.prog 158 #[.slice p 0 c] w fun e w' => e = .returned (.tuple #[]) ∧ w' = w := AnyM.slices_Sort_string_none Tryz.sortT p c w
theorem CompactT_any (g c : Nat) (l : List Str) (w : World) (hr : Holds encStr w g 0 l.toArray) (hc : l.length ≤ c) (hl : l.length ≤ 100000000) :
    Calls Tryz.prog 159 #[.slice (some ⟨g, 0, none⟩) l.length c] w fun e w' => e = .returned (.slice (some ⟨g, 0, none⟩) (Lib.compact l).length c) ∧ RdT w' (some ⟨g, 0, none⟩) (Lib.compact l) ∧ ExtC (· = g) w w' := by
  refine (Any.slices_Compact_string Tryz.compactT g 0 c l w hr (by omega) hc).mono ?_
  rintro e w' ⟨rfl, q, rfl⟩
  have hle : (Lib.compact l).length ≤ l.length := by
    unfold Lib.compact Lib.compactUpTo
    rw [List.length_map]
    exact Nat.le_trans (List.length_filter_le _ _) (by simp)
  have hh := holds_putRow encStr (Sort.ahead w q) g 0 l.toArray (Lib.compact l ++ List.replicate (l.length - (Lib.compact l).length) []).toArray hr (by simp; omega)
  refine ⟨rfl, holds_rd fun j hj => ?_, put_extC w g q _⟩
  have hj2 : j < (Lib.compact l).length := by simpa using hj
  have h1 := hh j (by simp; omega)
  have e : (Lib.compact l ++ List.replicate (l.length - (Lib.compact l).length) []).toArray[j]! = (Lib.compact l).toArray[j]! := by
    rw [get_zs _ j (by rw [List.length_append]; omega), get_zs _ j hj2, List.getElem_append_left hj2]
  rw [e] at h1
  exact h1
theorem CompactT_none (p : Option Addr) (c : Nat) (w : World) :
    Calls Tryz.prog 159 #[.slice p 0 c] w fun e w' => e = .returned (.slice p 0 c) ∧ w' = w := Any.slices_Compact_string_empty Tryz.compactT p c w

/-! ### slices.Sorted(maps.Keys(m)) -/
theorem sorts_in (m : Nat) : AnyZ.SortsIn Tryz.prog Tryz.sortedM_ren Fence.wide m :=
  ⟨fun blk off cap ss W hH hblk hsz => callsIn_wide.2 (AnyM.slices_Sort_string Tryz.sortT blk off cap ss W hH hblk hsz),
   fun p cap W => callsIn_wide.2 (AnyM.slices_Sort_string_none Tryz.sortT p cap W)⟩
theorem Keys_any (mb : Option Nat) (W : World) :
    Calls Tryz.prog 149 #[.map mb] W fun e w' => e = .returned (.func (.func 213) #[] #[.pointer (some ⟨W.heap.size, 0, none⟩)]) ∧ w' = W.alloc (.cells #[.map mb] 206) :=
  (callsIn_wide (n := 5)).1 (AnyZ.keys_in Tryz.keysM Fence.wide 5 trivial rfl mb W)
set_option maxHeartbeats 1000000 in
theorem Sorted_keys {H : Type} (b nn : Nat) (D0 : DataW H) (R : Value → Option (DataW H × List MemPlace)) (w : World) (hown : w.ownsMap Tryz.prog 9 R b nn D0) (hmax : Maps.size D0 ≤ maxLen) (hbytes : Maps.size D0 * 16 ≤ 140737488355328) :
    Calls Tryz.prog 148 #[.func (.func 213) #[] #[.pointer (some ⟨w.heap.size, 0, none⟩)]] (w.alloc (.cells #[.map (some b)] 206)) fun e w' => ∃ (v : Value) (ss : List (List UInt8)), e = .returned v ∧ ss.Perm (strKeys D0) ∧
      w'.ownsRow (w.alloc (.cells #[.map (some b)] 206)).heap.size 9 1 v ss.length ((ss.mergeSort (fun x y => decide (x ≤ y))).map encStr) ∧ (v = .slice none 0 0 ↔ ss = []) ∧ Below (w.alloc (.cells #[.map (some b)] 206)).heap.size (w.alloc (.cells #[.map (some b)] 206)) w' := by
  have hbl := hown.lt
  have hseq : SeqGives Fence.wide 2 Tryz.prog 213 #[.pointer (some ⟨w.heap.size, 0, none⟩)] encStr (fun ss => ss.Perm (strKeys D0)) (Maps.size D0) (w.alloc (.cells #[.map (some b)] 206)) :=
    AnyZ.keys_gives (ρ := Tryz.keysM_ren) { Tryz.keysM with } Fence.wide _ trivial rfl (by omega) w.heap.size b nn D0 _ (by simp) (by simp) (by
      obtain ⟨es, clock, hb, Ft, hs, hD⟩ := hown
      exact ⟨es, clock, (Below.heap_alloc _ _ b hbl).trans hb, Ft, hs, hD⟩)
  exact (callsIn_wide (n := 5)).1 (AnyZ.sorted_in Tryz.sortedM Fence.wide 5 trivial trivial trivial trivial rfl (by omega) (sorts_in _) (enters_of Tryz.func158 (by kernel_rfl) rfl) 213 #[.pointer (some ⟨w.heap.size, 0, none⟩)] trivial (enters_of Tryz.func213 (by kernel_rfl) rfl) _ _ hmax hbytes _ hseq)
theorem SortedSet_any (b n : Nat) (L : List Str) (w : World) (h : StrSet w b n L) (hn : n ≤ 1000000) :
    Calls Tryz.prog 148 #[.func (.func 213) #[] #[.pointer (some ⟨w.heap.size, 0, none⟩)]] (w.alloc (.cells #[.map (some b)] 206)) fun e w' =>
      ∃ A m c, e = .returned (.slice A m c) ∧ (inOrder L).length = m ∧ RdT w' A (inOrder L) ∧ Ext (w.alloc (.cells #[.map (some b)] 206)) w' := by
  obtain ⟨D, hown, hmem⟩ := h
  have hsz := hown.size_le
  refine (Sorted_keys b n D _ w hown (by simp only [maxLen]; omega) (by omega)).mono ?_
  rintro e w' ⟨v, ss, rfl, hp, hrow, _, hb⟩
  obtain ⟨k1, k2⟩ := strKeys_are hown (Maps.string_keyed str_under) str_under
  have e1 : ss.mergeSort leB = inOrder L := sorted_inOrder (hp.nodup_iff.2 k1) fun x => by rw [hp.mem_iff, k2, hmem]
  have hl : (inOrder L).length = ss.length := by rw [← e1, List.length_mergeSort]
  have hrow2 := hrow
  rw [show ss.mergeSort (fun x y => decide (x ≤ y)) = inOrder L from e1] at hrow2
  obtain ⟨A, c, rfl, hr⟩ := RdT.own hrow2 hl
  exact ⟨A, _, c, rfl, hl, hr, hb⟩
end Go.Proofs.YtaobnifiengglaaGreatDoor

namespace Go.Proofs.YtaobnifiengglaaGreatDoor
open Go.RowKit

/-! ### A world in which a list of texts has grown: its variable, and rows of texts from B on -/
structure ExtT (B V : Nat) (a b : World) : Prop where
  os : b.os = a.os
  tape : b.tape = a.tape
  output : b.output = a.output
  size : a.heap.size ≤ b.heap.size
  block : ∀ k, k < a.heap.size → k ≠ V → (k < B ∨ ∀ cs p, a.heap[k]? ≠ some (.cells cs 9 p)) → b.heap[k]? = a.heap[k]?
namespace ExtT
variable {B V : Nat} {a b c : World}
theorem ofExt (h : Ext a b) : ExtT B V a b := ⟨h.os, h.tape, h.output, h.size, fun k hk _ _ => h.block k hk⟩
theorem refl (a : World) : ExtT B V a a := ofExt (Ext.refl a)
theorem trans (h : ExtT B V a b) (k : ExtT B V b c) : ExtT B V a c :=
  ⟨k.os.trans h.os, k.tape.trans h.tape, k.output.trans h.output, Nat.le_trans h.size k.size, fun i hi hv hc => by
    have e := h.block i hi hv hc
    rw [← e]
    refine k.block i (Nat.lt_of_lt_of_le hi h.size) hv ?_
    rw [e]
    exact hc⟩
theorem cell (h : ExtT B V a b) {k o : Nat} {v : Value} (hk : k < B ∧ k ≠ V) (hc : a.cell? ⟨k, o, none⟩ = some v) : b.cell? ⟨k, o, none⟩ = some v := by
  have hl := lt_of_cell hc
  unfold World.cell? at hc ⊢
  rw [h.block k hl hk.2 (.inl hk.1)]
  exact hc
/-- behind it a world that lay ahead of the variable and the rows has only grown -/
theorem ext {w : World} (h : Ext w a) (k : ExtT B V a b) (hB : w.heap.size ≤ B) (hV : w.heap.size ≤ V) : Ext w b :=
  ⟨k.os.trans h.os, k.tape.trans h.tape, k.output.trans h.output, Nat.le_trans h.size k.size, fun i hi => (k.block i (Nat.lt_of_lt_of_le hi h.size) (by omega) (.inl (by omega))).trans (h.block i hi)⟩
end ExtT
theorem Blk.extT {B V : Nat} {w w' : World} {k : Nat} {t : TypeId} {cs : Array Value} (h : Blk w k t cs) (hx : ExtT B V w w') (ht : t ≠ 9) (hk : k ≠ V) : Blk w' k t cs :=
  (hx.block k h.lt hk (.inr fun cs p e => by rw [show w.heap[k]? = _ from h] at e; injection e with e; injection e with _ e; exact ht e)).trans h
theorem CdIn.extT {B V : Nat} {P : Nat → Prop} {w w' : World} {c : Cd} {v : Value} (h : CdIn P w c v) (hx : ExtT B V w w') (hP : ∀ k, P k → k < B ∧ k ≠ V) : CdIn P w' c v := h.keep fun b _ _ hb e => hx.cell (hP b hb) e
/-- what parts use, in their order -/
def uses (l : List (Cd × Nat)) : List Str := l.flatMap fun p => useOf p.1
theorem uses_append (a b : List (Cd × Nat)) : uses (a ++ b) = uses a ++ uses b := List.flatMap_append
theorem use_one (c : Cd) : (useOf c).length ≤ 1 := by
  unfold useOf
  split
  · exact Nat.le_refl _
  · split <;> simp
theorem uses_len : ∀ l : List (Cd × Nat), (uses l).length ≤ l.length
  | [] => Nat.le_refl _
  | p :: l => by
    have := uses_len l
    have := use_one p.1
    show (useOf p.1 ++ uses l).length ≤ _
    rw [List.length_append, List.length_cons]
    omega
theorem cnts_take : ∀ (l : List Cd) (j : Nat) (h : j < l.length), cnts (l.take j) + cnt l[j] ≤ cnts l
  | c :: l, 0, _ => by simp only [List.take_zero, cnts, List.getElem_cons_zero]; omega
  | c :: l, j + 1, h => by
    have := cnts_take l j (by simpa using h)
    simp only [List.take_succ_cons, cnts, List.getElem_cons_succ]
    omega
theorem use_len {l : List Cd} {lev j M : Nat} {st sj : List Str} {hsj : st ++ uses (prts lev (l.take j)) = sj} (h : j < l.length) (hl : st.length + cnts l ≤ M) : sj.length + cnt l[j] ≤ M := by
  have h1 := uses_len (prts lev (l.take j))
  rw [prts_len] at h1
  have h2 := cnts_take l j h
  rw [← hsj, List.length_append]
  omega
set_option maxRecDepth 100000 in
set_option maxHeartbeats 8000000 in
theorem CondPartsT_any (f : FuncId) (caps : Array Value) (hen : ∀ xs w, Sem.run Tryz.prog (callFunc f xs) w = .ok (.enter f xs) w) (P : Nat → Prop) (B V : Nat) (Inv : List Str → World → Prop)
    (hal : ∀ st w w', Inv st w → Ext w w' → Inv st w') (hV : ∀ st w, Inv st w → V < w.heap.size) (hP : ∀ k, P k → k < B ∧ k ≠ V) (M : Nat)
    (hf : ∀ c v (lev : Nat) st w, lev ≤ 1000000000 → SmallC c → CdIn P w c v → Inv st w → st.length ≤ M → Calls Tryz.prog f (#[v, .int .i64 lev] ++ caps) w fun e w' => e = .returned (.tuple #[]) ∧ Inv (st ++ useOf c) w' ∧ ExtT B V w w') :
    ∀ (N : Nat) (c : Cd), cnt c ≤ N → ∀ (lev : Nat) (v : Value) (st : List Str) (w : World), lev + N ≤ 1000000000 → st.length + cnt c ≤ M → SmallC c → CdIn P w c v → Inv st w →
      Calls Tryz.prog 140 #[v, .int .i64 lev, .func (.func f) #[] caps] w fun e w' => e = .returned (.tuple #[]) ∧ Inv (st ++ uses (prt lev c)) w' ∧ ExtT B V w w' := by
  intro N
  induction N with
  | zero => intro c hc; have := cnt_pos c; omega
  | succ N ih =>
    intro c hc lev v st w hlev hlen hsm hcd hinv
    have hc0 := hcd
    cases hcd with
    | mk k n x l A cp b o u0 u1 u2 u3 hA hb h0 h1 h2 h3 hr =>
      obtain ⟨_, _, _, _, hsn, hsx, hsl, hsr⟩ := hsm
      have hnw : w.heap.size ≤ w.heap.size := Nat.le_refl _
      have hVw := hV _ _ hinv
      have hnV : w.heap.size ≠ V := by omega
      have hxb : Ext w (w.alloc (.cells #[.int .i64 k, .string n, .string x, .slice A l.length cp] 61)) := (Ext.refl w).alloc _
      have hlen0 : st.length ≤ M := by omega
      have hfb := hf (.mk k n x l) _ lev st _ (by omega) ⟨k, n, x, l, hsn, hsx, hsl, hsr⟩ (hc0.ext hxb) (hal _ _ _ hinv hxb) hlen0
      have bx := Blk.new w 61 #[.int .i64 k, .string n, .string x, .slice A l.length cp]
      have hrun : st ++ uses (prt lev (.mk k n x l)) = (st ++ useOf (.mk k n x l)) ++ uses (prts (lev + 1) l) := by rw [List.append_assoc]; rfl
      rw [hrun]
      have hcl : cnts l ≤ N := by unfold cnt at hc; omega
      have hlw : IntKind.i64.wrap ((lev : Int) + 1) = (lev : Int) + 1 := by rw [IntKind.wrap_i64]; omega
      have hll := cnts_len l
      have hul : (useOf (.mk k n x l)).length ≤ 1 := use_one _
      have hlen1 : (st ++ useOf (.mk k n x l)).length + cnts l ≤ M := by
        rw [List.length_append]
        have : cnt (.mk k n x l) = 1 + cnts l := rfl
        omega
      generalize st ++ useOf (.mk k n x l) = st1 at *
      obtain ⟨R, hR⟩ : ∃ R, st1 ++ uses (prts (lev + 1) l) = R := ⟨_, rfl⟩
      rw [hR]
      clear hul hlen hlen0
      have HF := Lib.hid hfb
      have HEN := hen
      clear hfb hrun hc hinv
      have HR := Lib.hid hR
      have HIHs := Lib.hid ih
      have HSR := Lib.hid hsr
      have HH0 := Lib.hid h0; have HH1 := Lib.hid h1; have HH2 := Lib.hid h2; have HH3 := Lib.hid h3; have HHR := Lib.hid hr
      have HP := Lib.hid hP; have HA := Lib.hid hA; have HBB := Lib.hid hb; have HAL := Lib.hid hal
      clear hR ih hf hV h0 h1 h2 h3 hr hsr hP hA hb hc0 hal
      go_enter Tryz.func140, Tryz.ntmps140
      go_wp2_with fail
      refine HF.out.mono ?_
      rintro e w1 ⟨rfl, hinv1, hx1⟩
      have bx1 := bx.extT hx1 (by decide) hnV
      have bc := bx1.cell; have bf := bx1.free; have bz := bx1.lt
      have hxa := (ExtT.ofExt hxb).trans hx1
      clear bx
      go_wp2
      go_loopw [15] (fun t wr => ∃ (j : Nat) (sj : List Str), t = .int .i64 j ∧ j ≤ l.length ∧ Inv sj wr ∧ ExtT B V w wr ∧ st1 ++ uses (prts (lev + 1) (l.take j)) = sj) (fun t _ => l.length - (intOf t).toNat)
      case atStart => exact ⟨0, st1, by go_num, Nat.zero_le _, hinv1, hxa, by simp [prts, uses]⟩
      case round =>
        obtain ⟨j, sj, rfl, hj, hinvr, hxr, hdone⟩ := hrel
        have HXR := Lib.hid hxr
        clear bc bf bz bx1 hx1 hinv1 HF hxa
        by_cases hlt : j < l.length
        · obtain rfl := HA.out (by omega)
          have hPb := HBB.out (by omega)
          have hnb := HP.out b hPb
          have g0 := hxr.cell hnb (HH0.out j hlt)
          have g1 := hxr.cell hnb (HH1.out j hlt)
          have g2 := hxr.cell hnb (HH2.out j hlt)
          have g3 := hxr.cell hnb (HH3.out j hlt)
          have hcj := HHR.out j hlt
          obtain ⟨ck, cn, cx, cA, cm, ccp, hcc⟩ := hcj.cells
          have hcc2 := hcc
          simp only [Value.agg.injEq, Array.mk.injEq, List.cons.injEq, and_true] at hcc2
          obtain ⟨q0, q1, q2, q3⟩ := hcc2
          rw [hcc] at hcj
          rw [q0] at g0; rw [q1] at g1; rw [q2] at g2; rw [q3] at g3
          clear hcc q0 q1 q2 q3
          have hxc : Ext wr (wr.alloc (.cells #[.int .i64 ck, .string cn, .string cx, .slice cA cm ccp] 61)) := (Ext.refl wr).alloc _
          have hih := HIHs.out l[j] (Nat.le_trans (cnts_at l j hlt) hcl) (lev + 1) _ sj _ (by omega) (use_len (hsj := hdone) hlt hlen1) (HSR.out _ (List.getElem_mem hlt)) ((hcj.extT hxr HP.out).ext hxc) (HAL.out _ _ _ hinvr hxc)
          rw [show ((lev + 1 : Nat) : Int) = (lev : Int) + 1 by omega] at hih
          have hq0 : (0 : Int) ≤ (j : Int) := by omega
          clear hxr hxc hcj
          have hnx : st1 ++ uses (prts (lev + 1) (l.take (j + 1))) = sj ++ uses (prt (lev + 1) l[j]) := by rw [prts_take (lev + 1) l j hlt, uses_append, ← List.append_assoc, hdone]
          generalize sj ++ uses (prt (lev + 1) l[j]) = s2 at *
          have HIH := Lib.hid hih
          have HNX := Lib.hid hnx
          clear hdone hnx hih
          go_wp2_with fail
          refine HIH.out.mono ?_
          rintro e w3 ⟨rfl, hinv3, hx3⟩
          go_wp2
          go_roundw
          case rel => exact ⟨j + 1, s2, by go_num, hlt, hinv3, (HXR.out.trans (ExtT.ofExt ((Ext.refl wr).alloc _))).trans hx3, HNX.out⟩
          case measure => simp [intOf]; omega
        · have hjl : l.take j = l := List.take_of_length_le (by omega)
          rw [hjl, HR.out] at hdone
          subst hdone
          go_wp2
          refine bodyPost_end (results_none rfl _ _ _) rfl ⟨rfl, hinvr, HXR.out⟩
end Go.Proofs.YtaobnifiengglaaGreatDoor

namespace Go.Proofs.YtaobnifiengglaaGreatDoor
open Go.RowKit

theorem ExtT.grown {B V : Nat} {w w' : World} {v : Value} {n : Nat} {xs : List Value} (hown : w.ownsRow B 9 1 v n xs) (hg : w.grownBy w' v.ownBlock) : ExtT B V w w' :=
  ⟨hg.os, hg.tape, hg.output, hg.size, fun k hk _ hc => hg.block k hk fun e => by
    have h1 := hown.lt k e.symm
    rcases hc with hc | hc
    · omega
    · rcases hown.2 with ⟨rfl, _⟩ | ⟨g, cap, cur, rfl, _, hb, _⟩
      · cases e
      · have e2 : k = g := by simpa [Value.ownBlock] using e
        subst e2
        exact hc _ _ hb⟩
theorem ExtT.setV {B V : Nat} (w : World) (u : Value) : ExtT B V w (w.setCell ⟨V, 0, none⟩ u) :=
  ⟨rfl, rfl, rfl, by simp [World.setCell], fun k hk hne _ => by
    simp only [World.setCell, Array.getElem?_modify]
    rw [if_neg (fun e => hne e.symm)]⟩
theorem own_setV {w : World} {B V n size : Nat} {e : TypeId} {v : Value} {xs : List Value} (h : w.ownsRow B e size v n xs) (hV : V < B) (u : Value) : (w.setCell ⟨V, 0, none⟩ u).ownsRow B e size v n xs :=
  h.kept (row := some V) ⟨rfl, rfl, rfl, by simp [World.setCell], fun k hk hne => by
    simp only [World.setCell, Array.getElem?_modify]
    rw [if_neg (fun e => hne (by rw [e]))]⟩ (.inr fun e => by have := (h.lt V e).1; omega)
section
variable {P : Program}
theorem wpList_app1t {ops : Array Oper} {rest : List Oper} {o : Oper} {a : Act} {Q : Exit → Act → World → Prop} (wr : World) (cs : Array Value) (e : TypeId) (hgd : o.guard = none) (s x : Operand) (t : TypeId)
    (ho : o.op = .call { callee := .builtin .append, args := #[s, x], argTypes := #[t, t] })
    (z : Value) (size bytes : Nat) (ht : P.underlying t = some (.slice e)) (hinfo : (P.info? e).map (fun i => (i.zero, i.size, i.bytes)) = some (some z, size, bytes)) (hzs : z.cells.size = size) (hsz : 0 < size) (hby : bytes ≤ 1000)
    (B : Nat) (v : Value) (n : Nat) (xs : List Value) (hs : a.eval s = v) (hown : wr.ownsRow B e size v n xs)
    (c gA : Nat) (hx : a.eval x = .slice (some ⟨gA, 0, none⟩) 1 c) (hgA : wr.heap.size = gA) (hcs : cs.size = size) (h1 : ∀ u ∈ cs.toList, u.oneCell' = true) (hn : n ≤ 100000000) (hbase : B ≤ wr.heap.size)
    (h : ∀ v' w', w'.ownsRow B e size v' (n + 1) (xs ++ cs.toList) → (wr.alloc (.cells cs e)).grownBy w' v.ownBlock → wpList P ops Q rest (a.put o.dst v') w') :
    wpList P ops Q (o :: rest) a (wr.alloc (.cells cs e)) := by
  obtain ⟨i, hi, hz0, hz1, hz2⟩ := info_parts hinfo
  have hnew := Blk.new wr e cs
  refine wpList_append_own (wr.alloc (.cells cs e)) hgd s x t ho B e i z size bytes ht hi hz0 hz1 hz2 hzs hsz v n xs hs (hown.alloc _) ⟨wr.heap.size, 0, none⟩ 1 c cs.toList (by rw [hgA]; exact hx) (by simp [hcs]) ?_ h1 ?_ ?_ (by simp; omega) ?_
  · intro j u hu
    have hadd : (⟨wr.heap.size, 0, none⟩ : Addr).add j = ⟨wr.heap.size, j, none⟩ := by unfold Addr.add; split <;> simp_all
    rw [hadd, hnew.cell]
    simpa using hu
  · simp only [maxLen]; omega
  · have : (n + 1) * bytes ≤ 100000001 * 1000 := Nat.mul_le_mul (by omega) hby
    omega
  · exact fun v' w' hown' hg _ => h v' w' hown' hg
end
/-- the list of Uses: in its variable V, its texts in a row of its own from B on -/
def UseInv (V B : Nat) (st : List Str) (w : World) : Prop := ∃ v, Blk w V 100 #[v] ∧ w.ownsRow B 9 1 v st.length (st.map S) ∧ B ≤ w.heap.size ∧ V < B
theorem UseInv.ext {V B : Nat} {st : List Str} {w w' : World} (h : UseInv V B st w) (hx : Ext w w') : UseInv V B st w' := by
  obtain ⟨v, hb, ho, hB, hV⟩ := h
  exact ⟨v, hb.ext hx, own_ext ho hx, Nat.le_trans hB hx.size, hV⟩
theorem use_kind (k : Int) (n x : ByteArray) (l : List Cd) : (k = 2 ∨ k = 5) ∧ useOf (.mk k n x l) = [wFactS ++ bs n] ∨ (k = 3 ∨ k = 4) ∧ useOf (.mk k n x l) = [wSettingS ++ bs n] ∨ (¬ k = 2 ∧ ¬ k = 5 ∧ ¬ k = 3 ∧ ¬ k = 4) ∧ useOf (.mk k n x l) = [] := by
  unfold useOf
  by_cases h1 : k = 2 ∨ k = 5
  · exact .inl ⟨h1, if_pos h1⟩
  · by_cases h2 : k = 3 ∨ k = 4
    · exact .inr (.inl ⟨h2, (if_neg h1).trans (if_pos h2)⟩)
    · exact .inr (.inr ⟨by omega, (if_neg h1).trans (if_neg h2)⟩)
set_option maxRecDepth 100000 in
set_option maxHeartbeats 8000000 in
theorem visitU_any (V B : Nat) (P : Nat → Prop) (c : Cd) (v : Value) (lev : Nat) (st : List Str) (w : World) (hsm : SmallC c) (hcd : CdIn P w c v) (hinv : UseInv V B st w) (hl : st.length ≤ 2000000) :
    Calls Tryz.prog 157 #[v, .int .i64 lev, .pointer (some ⟨V, 0, none⟩)] w fun e w' => e = .returned (.tuple #[]) ∧ UseInv V B (st ++ useOf c) w' ∧ ExtT B V w w' := by
  obtain ⟨k, n, x, l⟩ := c
  obtain ⟨_, _, _, _, hsn, hsx, hsl, hsr⟩ := hsm
  obtain ⟨A, cp, b, o, rfl, _, _⟩ := hcd.arg
  obtain ⟨vv, hb, hown, hB, hV⟩ := hinv
  have hVw := hb.lt
  have hnV : ¬ V = w.heap.size := by omega
  have hxb : Ext w (w.alloc (.cells #[.int .i64 k, .string n, .string x, .slice A l.length cp] 61)) := (Ext.refl w).alloc _
  have hb1 := hb.ext hxb
  have hown1 := own_ext hown hxb
  have hB1 := Nat.le_trans hB hxb.size
  have bX := Blk.new w 61 #[.int .i64 k, .string n, .string x, .slice A l.length cp]
  have cX := bX.cell; have fX := bX.free; have lX := bX.lt
  have cV := hb1.cell; have fV := hb1.free; have lV := hb1.lt
  clear hcd hsr hown hb
  rcases use_kind k n x l with ⟨hk, hu⟩ | ⟨hk, hu⟩ | ⟨⟨n2, n5, n3, n4⟩, hu⟩
  rotate_left 2
  · rw [hu, List.append_nil]
    have e2 : (k == 2) = false := beq_eq_false_iff_ne.2 n2
    have e3 : (k == 3) = false := beq_eq_false_iff_ne.2 n3
    have e4 : (k == 4) = false := beq_eq_false_iff_ne.2 n4
    have e5 : (k == 5) = false := beq_eq_false_iff_ne.2 n5
    have HO := Lib.hid hown1
    clear hu hown1
    go_enter Tryz.func157, Tryz.ntmps157
    go_wp2
    refine bodyPost_end (results_none rfl _ _ _) rfl ⟨rfl, ⟨vv, hb1, HO.out, hB1, hV⟩, ExtT.ofExt hxb⟩
  all_goals
    rw [hu]
    have HV := Lib.hid hV
    have HB := Lib.hid hb1
    clear hu
    rcases hk with rfl | rfl
    all_goals
      go_enter Tryz.func157, Tryz.ntmps157
      go_wp2_with (at_builtin; refine wpList_app1t _ _ _ rfl _ _ 100 rfl (.string ⟨#[]⟩) 1 16 Tryz.underlying100 info_string rfl (by decide) (by decide) B _ st.length _ rfl hown1 _ _ rfl (by first | rfl | simp) rfl (by simp [Value.oneCell']) (by omega) hB1 ?_; intro v' w9 hown9 hg9; (obtain ⟨g9, cp9, hv9, _, _, _, _⟩ := own_form hown9 (by omega)); subst hv9; have hx9 : ExtT B V _ _ := ExtT.grown (hown1.alloc _) hg9; have hb9 := (HB.out.alloc (.cells _ 9)).grown (hown1.alloc _) HV.out hg9; have c9 := hb9.cell; have f9 := hb9.free; have l9 := hb9.lt)
      refine bodyPost_end (results_none rfl _ _ _) rfl ⟨rfl, ⟨_, by simpa using hb9.set 0 (.slice (some ⟨g9, 0, none⟩) (st.length + 1) cp9), ?_, Nat.le_trans hB1 (by have := hx9.size; rw [World.size_alloc] at this; simp [World.setCell]; omega), HV.out⟩, ?_⟩
      · have := own_setV hown9 HV.out (.slice (some ⟨g9, 0, none⟩) (st.length + 1) cp9)
        rw [List.map_append]
        rw [List.length_append]
        simp only [List.map_cons, List.map_nil]
        first
          | rw [← str_S (x := ⟨#[102, 97, 99, 116, 32]⟩ ++ n) (l := 102 :: 97 :: 99 :: 116 :: 32 :: bs n) (by rw [bs_append]; rfl)]; simpa using this
          | rw [← str_S (x := ⟨#[115, 101, 116, 116, 105, 110, 103, 32]⟩ ++ n) (l := 115 :: 101 :: 116 :: 116 :: 105 :: 110 :: 103 :: 32 :: bs n) (by rw [bs_append]; rfl)]; simpa using this
      · exact ((ExtT.ofExt (hxb.alloc _)).trans hx9).trans (ExtT.setV _ _)
end Go.Proofs.YtaobnifiengglaaGreatDoor
