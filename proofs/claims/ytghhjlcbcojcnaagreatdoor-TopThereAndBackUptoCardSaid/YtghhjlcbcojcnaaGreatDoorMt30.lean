/- Settings of tables: the program's and the reference's. (Printed by gen/tabs.py.) Plain law: rules that are clean lead back; the settings of a table, and the table of settings. -/
import Derived.Test.YtghhjlcbcojcnaaGreatDoorMt26
import Derived.Test.YtghhjlcbcojcnaaGreatDoorMt10
import Derived.Test.YtghhjlcbcojcnaaGreatDoorShelfG
import Derived.Shelf.SortM.Plain
import Derived.Shelf.SortM.SortNone
import Derived.Shelf.SlIter.Nil
import Derived.Test.YtghhjlcbcojcnaaGreatDoorMt25

namespace Go.Proofs.YtghhjlcbcojcnaaGreatDoor
open Go.RowKit Go.Maps Go.Sort Go.Shelf

theorem info_setting : (Tryz.prog.info? 74).map (fun i => (i.zero, i.size, i.bytes)) = some (some (.agg #[.string ⟨#[]⟩, .string ⟨#[]⟩]), 2, 32) := by kernel_rfl
def rowsE (l : List Se) : List Value := l.flatMap fun s => [.string s.k, .string s.v]
theorem rowsE_snoc (l : List Se) (s : Se) : rowsE (l ++ [s]) = rowsE l ++ [.string s.k, .string s.v] := by simp [rowsE]
/-- settings in new memory -/
def SeOwn (B : Nat) (l : List Se) (v : Value) (w' : World) : Prop := w'.ownsRow B 74 2 v l.length (rowsE l)
theorem SeOwn.snoc {B K : Nat} {l : List Se} {s : Se} {v : Value} {w : World} {xs : List Value} (h : w.ownsRow B 74 2 v (K + 1) (rowsE l ++ xs)) (hK : K = l.length) (hx : xs = [.string s.k, .string s.v]) : SeOwn B (l ++ [s]) v w := by
  subst hK hx
  unfold SeOwn
  rw [List.length_append, rowsE_snoc]
  exact h
theorem tab_base {w : World} {B B' : Nat} {e : TypeId} {size n : Nat} {v : Value} {xs : List Value} (h : w.ownsRow B e size v n xs) (hb : B' ≤ B) : w.ownsRow B' e size v n xs :=
  ⟨h.1, h.2.imp id fun ⟨g, cap, cur, a, b, r⟩ => ⟨g, cap, cur, a, Nat.le_trans hb b, r⟩⟩
theorem rowsE_at : ∀ (l : List Se) (k : Nat) (h : k < l.length), (rowsE l)[k * 2]? = some (.string l[k].k) ∧ (rowsE l)[k * 2 + 1]? = some (.string l[k].v)
  | s :: l, 0, _ => ⟨rfl, rfl⟩
  | s :: l, k + 1, h => by
    have ih := rowsE_at l k (by simpa using h)
    have e : rowsE (s :: l) = .string s.k :: .string s.v :: rowsE l := rfl
    rw [e, show (k + 1) * 2 = k * 2 + 1 + 1 by omega]
    exact ih
theorem SeOwn.rd {B : Nat} {l : List Se} {v : Value} {w : World} (h : SeOwn B l v w) : ∃ A c, v = .slice A l.length c ∧ l.length ≤ c ∧ RdE w A l := by
  unfold SeOwn at h
  rcases Nat.eq_zero_or_pos l.length with h0 | h0
  · obtain rfl : l = [] := List.eq_nil_of_length_eq_zero h0
    rcases h.2 with ⟨rfl, _⟩ | ⟨g, cap, cur, rfl, _⟩
    · exact ⟨none, 0, rfl, Nat.zero_le _, fun h => absurd rfl h⟩
    · exact ⟨_, _, rfl, Nat.zero_le _, fun h => absurd rfl h⟩
  · obtain ⟨g, c, rfl, _, _, hc, hcell⟩ := own_form h h0
    exact ⟨_, _, rfl, hc, fun _ => ⟨g, 0, rfl, ⟨fun k hk => by rw [Nat.zero_add]; exact hcell _ _ (rowsE_at l k hk).1, fun k hk => by rw [Nat.zero_add]; exact hcell _ _ (rowsE_at l k hk).2⟩⟩⟩
theorem SeOwn.ext {B : Nat} {l : List Se} {v : Value} {w w' : World} (h : SeOwn B l v w) (hx : Ext w w') : SeOwn B l v w' := own_ext h hx
/-- the keys of settings in a slice of texts -/
def RdKS (w : World) (A : Option Addr) (l : List Se) : Prop := l ≠ [] → ∃ g, A = some ⟨g, 0, none⟩ ∧ ∀ k (h : k < l.length), w.cell? ⟨g, k, none⟩ = some (.string l[k].k)
theorem RdKS.ext {w w' : World} {A : Option Addr} {l : List Se} (h : RdKS w A l) (hx : Ext w w') : RdKS w' A l := fun hn => by
  obtain ⟨g, e, k⟩ := h hn
  exact ⟨g, e, fun i hi => hx.cell (k i hi)⟩
theorem RdKS.own {w : World} {B n : Nat} {v : Value} {f : Tb} (h : w.ownsRow B 9 1 v n ((keysOf f).map encStr)) (hn : (keysOf f).length = n) : ∃ A c, v = .slice A n c ∧ RdKS w A (seL f) := by
  rcases Nat.eq_zero_or_pos n with h0 | h0
  · subst h0
    have he : seL f = [] := List.eq_nil_of_length_eq_zero (by rw [seL_length, hn])
    rcases h.2 with ⟨rfl, _⟩ | ⟨g, cap, cur, rfl, _⟩
    · exact ⟨none, 0, rfl, fun h => absurd he h⟩
    · exact ⟨_, _, rfl, fun h => absurd he h⟩
  · obtain ⟨g, c, rfl, _, _, _, hc⟩ := own_form h h0
    refine ⟨_, _, rfl, fun _ => ⟨g, rfl, fun k hk => hc k _ ?_⟩⟩
    have hk2 : k < (keysOf f).length := by rw [← seL_length]; exact hk
    rw [List.getElem?_map, List.getElem?_eq_getElem hk2]
    simp [seL, encStr]
theorem seL_look {w : World} {b n : Nat} {f : Tb} (h : StrMap w b n f) (hf : Okt f) {t : TypeId} (ht : Tryz.prog.underlying t = some (.map 9 9)) (k : Nat) (hk : k < (seL f).length) :
    (Instr.lookup t (.map (some b)) (.string (seL f)[k].k) false).run Tryz.prog w = .ok (.string (seL f)[k].v) w := by
  have hk2 : k < (keysOf f).length := by rw [← seL_length]; exact hk
  have e1 : bs (seL f)[k].k = (keysOf f)[k] := by simp [seL, bs]
  have e2 : S ((f (keysOf f)[k]).getD []) = .string (seL f)[k].v := by simp [seL, S]
  have hm := (mem_keysOf h.fin _).1 (List.getElem_mem hk2)
  have hsz : (seL f)[k].k.size ≤ 4194304 := by
    rw [← bs_length, e1]
    cases hv : f (keysOf f)[k] with
    | none => rw [hv] at hm; cases hm
    | some v =>
      have := (hf _ _ hv).1
      simp only [pathL, Bool.and_eq_true, decide_eq_true_eq] at this
      omega
  rw [h.look1 ht _ hsz, e1, e2]
theorem tsorts_in (m : Nat) : AnyZ.SortsIn Tryz.prog Tryz.sortedM_ren Fence.wide m :=
  ⟨fun blk off cap ss W hH hblk hsz => callsIn_wide.2 (AnyM.slices_Sort_string Tryz.sortT blk off cap ss W hH hblk hsz),
   fun p cap W => callsIn_wide.2 (AnyM.slices_Sort_string_none Tryz.sortT p cap W)⟩

theorem KeysP_any (mb : Option Nat) (W : World) :
    Calls Tryz.prog 208 #[.map mb] W fun e w' => e = .returned (.func (.func 249) #[] #[.pointer (some ⟨W.heap.size, 0, none⟩)]) ∧ w' = W.alloc (.cells #[.map mb] 179) :=
  (callsIn_wide (n := 5)).1 (AnyZ.keys_in Tryz.keysP Fence.wide 5 trivial rfl mb W)
set_option maxHeartbeats 1000000 in
theorem SortedP_keys {H : Type} (b nn : Nat) (D0 : DataW H) (R : Value → Option (DataW H × List MemPlace)) (w : World) (hown : w.ownsMap Tryz.prog 9 R b nn D0) (hmax : Maps.size D0 ≤ maxLen) (hbytes : Maps.size D0 * 16 ≤ 140737488355328) :
    Calls Tryz.prog 207 #[.func (.func 249) #[] #[.pointer (some ⟨w.heap.size, 0, none⟩)]] (w.alloc (.cells #[.map (some b)] 179)) fun e w' => ∃ (v : Value) (ss : List (List UInt8)), e = .returned v ∧ ss.Perm (strKeys D0) ∧
      w'.ownsRow (w.alloc (.cells #[.map (some b)] 179)).heap.size 9 1 v ss.length ((ss.mergeSort (fun x y => decide (x ≤ y))).map encStr) ∧ (v = .slice none 0 0 ↔ ss = []) ∧ Below (w.alloc (.cells #[.map (some b)] 179)).heap.size (w.alloc (.cells #[.map (some b)] 179)) w' := by
  have hbl := hown.lt
  have hseq : SeqGives Fence.wide 2 Tryz.prog 249 #[.pointer (some ⟨w.heap.size, 0, none⟩)] encStr (fun ss => ss.Perm (strKeys D0)) (Maps.size D0) (w.alloc (.cells #[.map (some b)] 179)) :=
    AnyZ.keys_gives (ρ := Tryz.keysP_ren) { Tryz.keysP with } Fence.wide _ trivial rfl (by omega) w.heap.size b nn D0 _ (by simp) (by simp) (by
      obtain ⟨es, clock, hb, Ft, hs, hD⟩ := hown
      exact ⟨es, clock, (Below.heap_alloc _ _ b hbl).trans hb, Ft, hs, hD⟩)
  exact (callsIn_wide (n := 5)).1 (AnyZ.sorted_in Tryz.sortedM Fence.wide 5 trivial trivial trivial trivial rfl (by omega) (tsorts_in _) (enters_of Tryz.func248 (by kernel_rfl) rfl) 249 #[.pointer (some ⟨w.heap.size, 0, none⟩)] trivial (enters_of Tryz.func249 (by kernel_rfl) rfl) _ _ hmax hbytes _ hseq)
theorem SortedP_any (b n N : Nat) (f : Tb) (w : World) (h : StrMap w b n f) (hn : n ≤ 1000000) (hN : (seL f).length = N) :
    Calls Tryz.prog 207 #[.func (.func 249) #[] #[.pointer (some ⟨w.heap.size, 0, none⟩)]] (w.alloc (.cells #[.map (some b)] 179)) fun e w' =>
      ∃ A c, e = .returned (.slice A N c) ∧ RdKS w' A (seL f) ∧ Ext (w.alloc (.cells #[.map (some b)] 179)) w' := by
  obtain ⟨D, hown, hv⟩ := h.view
  have hsz := hown.size_le
  refine (SortedP_keys b n D _ w hown (by simp only [maxLen]; omega) (by omega)).mono ?_
  rintro e w' ⟨v, ss, rfl, hp, hrow, _, hb⟩
  obtain ⟨hf, hk, hz⟩ := view_keys hown hv
  have e1 : ss.mergeSort leB = keysOf f := by rw [← hk]; exact mergeSort_of_perm hp
  have hl : (keysOf f).length = ss.length := by rw [← e1, List.length_mergeSort]
  have hrow2 := hrow
  rw [show ss.mergeSort (fun x y => decide (x ≤ y)) = keysOf f from e1] at hrow2
  obtain ⟨A, c, rfl, hr⟩ := RdKS.own hrow2 hl
  exact ⟨A, c, by rw [← hN, seL_length, hl], hr, hb⟩

set_option maxHeartbeats 8000000 in
theorem settings_any (b n : Nat) (f : Tb) (w : World) (h : StrMap w b n f) (hn : n ≤ 1000000) (hf : Okt f) :
    Calls Tryz.prog 143 #[.map (some b)] w fun e w' => ∃ v, e = .returned v ∧ SeOwn w.heap.size (seL f) v w' ∧ Ext w w' := by
  have hlen : (seL f).length ≤ n := by rw [seL_length]; exact h.size
  have KA := Lib.hid (fun W => KeysP_any (some b) W)
  obtain ⟨N, hLN⟩ : ∃ N, (seL f).length = N := ⟨_, rfl⟩
  have SA := Lib.hid (SortedP_any b n N f w h hn hLN)
  have HLN := Lib.hid hLN
  rw [hLN] at hlen
  have HLK := Lib.hid (fun W (hx : Ext w W) k (hk : k < (seL f).length) => seL_look (h.ext hx) hf Tryz.underlying179 k hk)
  have HTK := Lib.hid (fun k (hk : k < (seL f).length) => List.take_append_getElem hk)
  have HT0 := Lib.hid (show (seL f).take (seL f).length = seL f from List.take_length)
  generalize seL f = l at *
  clear h hf
  clear hLN
  go_enter Tryz.func143, Tryz.ntmps143
  go_wp2_with fail
  refine (KA.out _).mono ?_
  rintro e w1 ⟨rfl, rfl⟩
  go_wp2_with fail
  refine SA.out.mono ?_
  rintro e w2 ⟨A, c, rfl, hrd, hx2⟩
  have hxw2 : Ext w w2 := Ext.trans (by repeat (first | with_reducible exact Ext.refl _ | with_reducible assumption | with_reducible apply Ext.drewN | with_reducible apply Ext.drew | with_reducible apply Ext.alloc | exact Ext.refl _ | assumption | apply Ext.drewN | apply Ext.drew | apply Ext.alloc)) hx2
  have HRD := Lib.hid hrd
  clear hrd hx2
  have hB2 := hxw2.size
  go_wp2
  go_loopw [10, 3] (fun i v wr => ∃ k : Nat, k ≤ N ∧ i = .int .i64 k ∧ SeOwn w2.heap.size (l.take k) v wr ∧ Ext w2 wr) (fun i _ _ => N - (intOf i).toNat)
  case atStart => exact ⟨0, Nat.zero_le _, rfl, World.ownsRow_nil _ _ _ _, Ext.refl _⟩
  case round =>
    obtain ⟨k, hk, rfl, hown, hxr⟩ := hrel
    by_cases hlt : k < N
    · have hk1 : k < l.length := by rw [HLN.out]; exact hlt
      obtain ⟨g, rfl, hX⟩ := (HRD.out.ext hxr) (fun e => by rw [e] at hk1; exact absurd hk1 (Nat.not_lt_zero _))
      have x0 := hX k hk1
      have hlook := HLK.out wr (hxw2.trans hxr) k hk1
      have HT := Lib.hid (HTK.out k hk1)
      have hGl : (l.take k).length ≤ n := by rw [List.length_take]; omega
      have hsz := hxr.size
      generalize l.take k = G at *
      generalize l[k] = s at *
      obtain ⟨sk, sv⟩ := s
      dsimp only at x0 hlook
      clear hX
      go_wp2_with (at_builtin; refine wpList_app1g _ _ _ rfl _ _ 65 rfl (.agg #[.string ⟨#[]⟩, .string ⟨#[]⟩]) 2 32 Tryz.underlying65 info_setting rfl (by decide) (by decide) w2.heap.size _ G.length _ rfl hown _ _ rfl rfl rfl (by simp [Value.oneCell']) (by omega) hsz ?_; intro v' w5 hown5 hx5 _)
      go_roundw
      case rel => exact ⟨k + 1, by omega, by go_num, by rw [← HT.out]; exact SeOwn.snoc hown5 rfl rfl, hx5 _ hxr (Nat.le_refl _)⟩
      case measure => simp [intOf]; omega
    · obtain rfl : k = N := by omega
      have e1 := HT0.out
      rw [HLN.out] at e1
      rw [e1] at hown
      clear e1
      go_wp2
      go_ret
      exact ⟨_, rfl, tab_base hown hB2, hxw2.trans hxr⟩

theorem KeysR_any (mb : Option Nat) (W : World) :
    Calls Tryz.prog 210 #[.map mb] W fun e w' => e = .returned (.func (.func 250) #[] #[.pointer (some ⟨W.heap.size, 0, none⟩)]) ∧ w' = W.alloc (.cells #[.map mb] 178) :=
  (callsIn_wide (n := 5)).1 (AnyZ.keys_in Tryz.keysR Fence.wide 5 trivial rfl mb W)
set_option maxHeartbeats 1000000 in
theorem SortedR_keys {H : Type} (b nn : Nat) (D0 : DataW H) (R : Value → Option (DataW H × List MemPlace)) (w : World) (hown : w.ownsMap Tryz.prog 9 R b nn D0) (hmax : Maps.size D0 ≤ maxLen) (hbytes : Maps.size D0 * 16 ≤ 140737488355328) :
    Calls Tryz.prog 207 #[.func (.func 250) #[] #[.pointer (some ⟨w.heap.size, 0, none⟩)]] (w.alloc (.cells #[.map (some b)] 178)) fun e w' => ∃ (v : Value) (ss : List (List UInt8)), e = .returned v ∧ ss.Perm (strKeys D0) ∧
      w'.ownsRow (w.alloc (.cells #[.map (some b)] 178)).heap.size 9 1 v ss.length ((ss.mergeSort (fun x y => decide (x ≤ y))).map encStr) ∧ (v = .slice none 0 0 ↔ ss = []) ∧ Below (w.alloc (.cells #[.map (some b)] 178)).heap.size (w.alloc (.cells #[.map (some b)] 178)) w' := by
  have hbl := hown.lt
  have hseq : SeqGives Fence.wide 2 Tryz.prog 250 #[.pointer (some ⟨w.heap.size, 0, none⟩)] encStr (fun ss => ss.Perm (strKeys D0)) (Maps.size D0) (w.alloc (.cells #[.map (some b)] 178)) :=
    AnyZ.keys_gives (ρ := Tryz.keysR_ren) { Tryz.keysR with } Fence.wide _ trivial rfl (by omega) w.heap.size b nn D0 _ (by simp) (by simp) (by
      obtain ⟨es, clock, hb, Ft, hs, hD⟩ := hown
      exact ⟨es, clock, (Below.heap_alloc _ _ b hbl).trans hb, Ft, hs, hD⟩)
  exact (callsIn_wide (n := 5)).1 (AnyZ.sorted_in Tryz.sortedM Fence.wide 5 trivial trivial trivial trivial rfl (by omega) (tsorts_in _) (enters_of Tryz.func248 (by kernel_rfl) rfl) 250 #[.pointer (some ⟨w.heap.size, 0, none⟩)] trivial (enters_of Tryz.func250 (by kernel_rfl) rfl) _ _ hmax hbytes _ hseq)
theorem SortedR_any (b n N : Nat) (f : Tb) (w : World) (h : StrMap w b n f) (hn : n ≤ 1000000) (hN : (seL f).length = N) :
    Calls Tryz.prog 207 #[.func (.func 250) #[] #[.pointer (some ⟨w.heap.size, 0, none⟩)]] (w.alloc (.cells #[.map (some b)] 178)) fun e w' =>
      ∃ A c, e = .returned (.slice A N c) ∧ RdKS w' A (seL f) ∧ Ext (w.alloc (.cells #[.map (some b)] 178)) w' := by
  obtain ⟨D, hown, hv⟩ := h.view
  have hsz := hown.size_le
  refine (SortedR_keys b n D _ w hown (by simp only [maxLen]; omega) (by omega)).mono ?_
  rintro e w' ⟨v, ss, rfl, hp, hrow, _, hb⟩
  obtain ⟨hf, hk, hz⟩ := view_keys hown hv
  have e1 : ss.mergeSort leB = keysOf f := by rw [← hk]; exact mergeSort_of_perm hp
  have hl : (keysOf f).length = ss.length := by rw [← e1, List.length_mergeSort]
  have hrow2 := hrow
  rw [show ss.mergeSort (fun x y => decide (x ≤ y)) = keysOf f from e1] at hrow2
  obtain ⟨A, c, rfl, hr⟩ := RdKS.own hrow2 hl
  exact ⟨A, c, by rw [← hN, seL_length, hl], hr, hb⟩

set_option maxHeartbeats 8000000 in
theorem Listed_any (b n : Nat) (f : Tb) (w : World) (h : StrMap w b n f) (hn : n ≤ 1000000) (hf : Okt f) :
    Calls Tryz.prog 149 #[.map (some b)] w fun e w' => ∃ v, e = .returned v ∧ SeOwn w.heap.size (seL f) v w' ∧ Ext w w' := by
  have hlen : (seL f).length ≤ n := by rw [seL_length]; exact h.size
  have KA := Lib.hid (fun W => KeysR_any (some b) W)
  obtain ⟨N, hLN⟩ : ∃ N, (seL f).length = N := ⟨_, rfl⟩
  have SA := Lib.hid (SortedR_any b n N f w h hn hLN)
  have HLN := Lib.hid hLN
  rw [hLN] at hlen
  have HLK := Lib.hid (fun W (hx : Ext w W) k (hk : k < (seL f).length) => seL_look (h.ext hx) hf Tryz.underlying178 k hk)
  have HTK := Lib.hid (fun k (hk : k < (seL f).length) => List.take_append_getElem hk)
  have HT0 := Lib.hid (show (seL f).take (seL f).length = seL f from List.take_length)
  generalize seL f = l at *
  clear h hf
  clear hLN
  go_enter Tryz.func149, Tryz.ntmps149
  go_wp2_with fail
  refine (KA.out _).mono ?_
  rintro e w1 ⟨rfl, rfl⟩
  go_wp2_with fail
  refine SA.out.mono ?_
  rintro e w2 ⟨A, c, rfl, hrd, hx2⟩
  have hxw2 : Ext w w2 := Ext.trans (by repeat (first | with_reducible exact Ext.refl _ | with_reducible assumption | with_reducible apply Ext.drewN | with_reducible apply Ext.drew | with_reducible apply Ext.alloc | exact Ext.refl _ | assumption | apply Ext.drewN | apply Ext.drew | apply Ext.alloc)) hx2
  have HRD := Lib.hid hrd
  clear hrd hx2
  have hB2 := hxw2.size
  go_wp2
  go_loopw [10, 3] (fun i v wr => ∃ k : Nat, k ≤ N ∧ i = .int .i64 k ∧ SeOwn w2.heap.size (l.take k) v wr ∧ Ext w2 wr) (fun i _ _ => N - (intOf i).toNat)
  case atStart => exact ⟨0, Nat.zero_le _, rfl, World.ownsRow_nil _ _ _ _, Ext.refl _⟩
  case round =>
    obtain ⟨k, hk, rfl, hown, hxr⟩ := hrel
    by_cases hlt : k < N
    · have hk1 : k < l.length := by rw [HLN.out]; exact hlt
      obtain ⟨g, rfl, hX⟩ := (HRD.out.ext hxr) (fun e => by rw [e] at hk1; exact absurd hk1 (Nat.not_lt_zero _))
      have x0 := hX k hk1
      have hlook := HLK.out wr (hxw2.trans hxr) k hk1
      have HT := Lib.hid (HTK.out k hk1)
      have hGl : (l.take k).length ≤ n := by rw [List.length_take]; omega
      have hsz := hxr.size
      generalize l.take k = G at *
      generalize l[k] = s at *
      obtain ⟨sk, sv⟩ := s
      dsimp only at x0 hlook
      clear hX
      go_wp2_with (at_builtin; refine wpList_app1g _ _ _ rfl _ _ 65 rfl (.agg #[.string ⟨#[]⟩, .string ⟨#[]⟩]) 2 32 Tryz.underlying65 info_setting rfl (by decide) (by decide) w2.heap.size _ G.length _ rfl hown _ _ rfl rfl rfl (by simp [Value.oneCell']) (by omega) hsz ?_; intro v' w5 hown5 hx5 _)
      go_roundw
      case rel => exact ⟨k + 1, by omega, by go_num, by rw [← HT.out]; exact SeOwn.snoc hown5 rfl rfl, hx5 _ hxr (Nat.le_refl _)⟩
      case measure => simp [intOf]; omega
    · obtain rfl : k = N := by omega
      have e1 := HT0.out
      rw [HLN.out] at e1
      rw [e1] at hown
      clear e1
      go_wp2
      go_ret
      exact ⟨_, rfl, tab_base hown hB2, hxw2.trans hxr⟩
end Go.Proofs.YtghhjlcbcojcnaaGreatDoor

namespace Go.Proofs.YtghhjlcbcojcnaaGreatDoor

/-! ### A rule, and the rule that goes back -/
theorem under_cut {x a b : Str} (hx : underL x a = true) (hy : underL x b = true) : underL a b = true ∨ underL b a = true := by
  obtain ⟨r, e1, h1⟩ := under_iff.1 hx
  obtain ⟨s, e2, h2⟩ := under_iff.1 hy
  have h : a ++ r = b ++ s := by rw [← e1, ← e2]
  rcases List.append_eq_append_iff.1 h with ⟨t, e3, e4⟩ | ⟨t, e3, e4⟩
  · -- b = a ++ t, r = t ++ s
    refine .inr (under_iff.2 ⟨t, e3, ?_⟩)
    cases t with
    | nil => exact .inl rfl
    | cons c t =>
      rcases h1 with h1 | ⟨q, h1⟩
      · rw [h1] at e4; simp at e4
      · rw [h1] at e4
        refine .inr ⟨t, ?_⟩
        have : c = 47 := by simpa using (List.cons.inj e4).1.symm
        rw [this]
  · refine .inl (under_iff.2 ⟨t, e3, ?_⟩)
    cases t with
    | nil => exact .inl rfl
    | cons c t =>
      rcases h2 with h2 | ⟨q, h2⟩
      · rw [h2] at e4; simp at e4
      · rw [h2] at e4
        refine .inr ⟨t, ?_⟩
        have : c = 47 := by simpa using (List.cons.inj e4).1.symm
        rw [this]
/-- neither is the other one, or below it -/
def Apart (a b : Str) : Prop := underL a b = false ∧ underL b a = false
theorem Apart.symm {a b : Str} (h : Apart a b) : Apart b a := ⟨h.2, h.1⟩
theorem Apart.not {a b x : Str} (h : Apart a b) (hx : underL x a = true) : underL x b = false := by
  cases hy : underL x b with
  | false => rfl
  | true =>
    rcases under_cut hx hy with h1 | h1
    · rw [h.1] at h1; cases h1
    · rw [h.2] at h1; cases h1
theorem newKey_under {x key tt : Str} (h : underL x key = true) : underL (newKey key tt x) tt = true := by
  obtain ⟨r, rfl, hr⟩ := under_iff.1 h
  rw [newKey_app]
  exact under_iff.2 ⟨r, rfl, hr⟩
theorem newKey_back {x key tt : Str} (h : underL x key = true) : newKey tt key (newKey key tt x) = x := by
  obtain ⟨r, rfl, hr⟩ := under_iff.1 h
  rw [newKey_app, newKey_app]
theorem move_back {f : Tb} {key tt : Str} (ha : Apart key tt) (hl : ∀ x, underL x tt = true → f x = none) : moveT (moveT f key tt) tt key = f := by
  have hat : ∀ x, underL x key = true → moveT f key tt (newKey key tt x) = f x := fun x hx => by
    unfold moveT movedT cutT
    rw [oldKey_new hx]
    simp only [Option.bind_some, Bool.false_eq_true, if_false]
    rw [hl _ (newKey_under hx)]
    cases hf : f x with
    | some v => rfl
    | none => simp
  have hcut : ∀ x, underL x key = true → moveT f key tt x = none := fun x hx => by
    unfold moveT movedT cutT
    rw [oldKey_none (ha.not hx), if_pos hx]
    rfl
  have hfar : ∀ x, underL x key = false → underL x tt = false → moveT f key tt x = f x := fun x h1 h2 => by
    unfold moveT movedT cutT
    rw [oldKey_none h2, if_neg (by rw [h1]; decide)]
    rfl
  funext x
  by_cases h1 : underL x key = true
  · have hb := newKey_back (tt := tt) h1
    have hu := newKey_under (tt := tt) h1
    have e : moveT (moveT f key tt) tt key x = moveT (moveT f key tt) tt key (newKey tt key (newKey key tt x)) := by rw [hb]
    rw [e, moveT, movedT, oldKey_new hu]
    simp only [Option.bind_some, Bool.false_eq_true, if_false]
    rw [hat x h1]
    cases hf : f x with
    | some v => rfl
    | none =>
      rw [hb]
      unfold cutT
      rw [if_neg (by rw [ha.not h1]; decide), hcut x h1]
      rfl
  · have h1 : underL x key = false := by simpa using h1
    rw [moveT, movedT, oldKey_none h1]
    simp only [Option.bind_none, Option.none_or]
    unfold cutT
    by_cases h2 : underL x tt = true
    · rw [if_pos h2, hl x h2]
    · have h2 : underL x tt = false := by simpa using h2
      rw [if_neg (by rw [h2]; decide), hfar x h1 h2]
/-- the rule that goes back -/
def backR (r : Ru) : Ru := if r.kind = 1 ∨ r.kind = 2 then ⟨r.kind, r.tt, r.key, r.old, r.new⟩ else if r.kind = 7 then ⟨r.kind, r.key, r.tt, r.new, r.old⟩ else r
def goesBack (r : Ru) : Prop := r.kind = 1 ∨ r.kind = 2 ∨ r.kind = 7 ∨ r.kind = 8
theorem inv_ok {r : Ru} (h : ruErr r = 0) (h2 : (invL r).2 = 0) : (invL r).1 = backR r ∧ goesBack r := by
  unfold invL at h2 ⊢
  unfold backR goesBack
  rw [if_neg (by rw [h]; decide)] at h2 ⊢
  by_cases h1 : r.kind = 1 ∨ r.kind = 2
  · rw [if_pos h1, if_pos h1]
    exact ⟨rfl, by rcases h1 with h1 | h1 <;> simp [h1]⟩
  rw [if_neg h1] at h2 ⊢
  rw [if_neg h1]
  by_cases h7 : r.kind = 7
  · rw [if_pos h7, if_pos h7]; exact ⟨rfl, by simp [h7]⟩
  rw [if_neg h7] at h2 ⊢
  rw [if_neg h7]
  by_cases h8 : r.kind = 8
  · rw [if_pos h8]; exact ⟨rfl, by simp [h8]⟩
  · rw [if_neg h8] at h2
    exact absurd h2 (by decide)
theorem back_right {r : Ru} (h : ruErr r = 0) : ruErr (backR r) = 0 := by
  unfold ruErr at h
  by_cases h1 : r.kind < 1 ∨ 8 < r.kind
  · rw [if_pos h1] at h; omega
  rw [if_neg h1] at h
  by_cases h2 : (!pathL r.key || useTo r.kind && !pathL r.tt) = true
  · rw [if_pos h2] at h; omega
  rw [if_neg h2] at h
  by_cases h3 : (!useTo r.kind && !r.tt.isEmpty || !useOld r.kind && !r.old.isEmpty || !useNew r.kind && !r.new.isEmpty || !valueL r.old || !valueL r.new) = true
  · rw [if_pos h3] at h; omega
  rw [if_neg h3] at h
  by_cases h4 : (useTo r.kind && decide (r.key = r.tt)) = true
  · rw [if_pos h4] at h; omega
  rw [if_neg h4] at h
  by_cases h5 : (decide (r.kind = 2) && (belowL r.key r.tt || belowL r.tt r.key)) = true
  · rw [if_pos h5] at h; omega
  rw [if_neg h5] at h
  by_cases h6 : (useOld r.kind && decide (r.old = r.new)) = true
  · rw [if_pos h6] at h; omega
  have c1 : ∀ a b : Str, decide (a = b) = decide (b = a) := fun a b => by rw [decide_eq_decide]; exact eq_comm
  unfold backR
  by_cases k1 : r.kind = 1 ∨ r.kind = 2
  · have u : useTo r.kind = true := by rcases k1 with k | k <;> rw [k] <;> rfl
    rw [if_pos k1]
    unfold ruErr
    dsimp only
    rw [u] at h2 h4 h3 ⊢
    rw [if_neg h1, if_neg (by simpa [or_comm, and_comm] using h2), if_neg (by simpa using h3), if_neg (by rw [c1]; exact h4), if_neg (by rw [Bool.or_comm]; exact h5), if_neg h6]
  rw [if_neg k1]
  by_cases k7 : r.kind = 7
  · have u : useOld r.kind = true := by rw [k7]; rfl
    have u2 : useNew r.kind = true := by rw [k7]; rfl
    rw [if_pos k7]
    unfold ruErr
    dsimp only
    rw [u] at h3 h6 ⊢
    rw [u2] at h3 ⊢
    rw [if_neg h1, if_neg h2, if_neg (by simp at h3 ⊢; exact ⟨⟨h3.1.1, h3.2⟩, h3.1.2⟩), if_neg h4, if_neg h5, if_neg (by rw [c1]; exact h6)]
  rw [if_neg k7]
  unfold ruErr
  rw [if_neg h1, if_neg h2, if_neg h3, if_neg h4, if_neg h5, if_neg h6]
theorem right_apart {r : Ru} (h : ruErr r = 0) (h1 : r.kind = 1 ∨ r.kind = 2) : r.key ≠ r.tt := fun e => by
  unfold ruErr at h
  have u : useTo r.kind = true := by rcases h1 with k | k <;> rw [k] <;> rfl
  repeat' split at h
  all_goals first | omega | (simp_all)
theorem right_apart2 {r : Ru} (h : ruErr r = 0) (h1 : r.kind = 2) : Apart r.key r.tt := by
  have hne := right_apart h (.inr h1)
  unfold ruErr at h
  by_cases h5 : (decide (r.kind = 2) && (belowL r.key r.tt || belowL r.tt r.key)) = true
  · rw [if_pos h5] at h
    repeat' split at h
    all_goals omega
  · rw [decide_eq_true h1, Bool.true_and, Bool.or_eq_true, not_or] at h5
    refine ⟨?_, ?_⟩
    · have e1 : (r.key == r.tt) = false := by simpa using hne
      simp [underL, e1, h5.1]
    · have e1 : (r.tt == r.key) = false := by simpa using fun e : r.tt = r.key => hne e.symm
      simp [underL, e1, h5.2]
theorem right_other {r : Ru} (h : ruErr r = 0) (h1 : r.kind = 7 ∨ r.kind = 8) : r.old ≠ r.new := fun e => by
  unfold ruErr at h
  have u : useOld r.kind = true := by rcases h1 with k | k <;> rw [k] <;> rfl
  repeat' split at h
  all_goals first | omega | (simp_all)
theorem back_one {r : Ru} {f : Tb} (hr : ruErr r = 0) (hg : goesBack r) (hl : ¬ losesT r f) : doF (backR r) (doF r f) = f := by
  unfold losesT at hl
  simp only [not_or, not_and, not_exists] at hl
  obtain ⟨l1, l2, l7⟩ := hl
  rcases hg with k | k | k | k
  · have hne := right_apart hr (.inl k)
    have hn : f r.tt = none := by
      have := l1 k
      cases hf : f r.tt with
      | none => rfl
      | some v => rw [hf] at this; exact absurd rfl this
    have e1 : doF (backR r) = doF ⟨r.kind, r.tt, r.key, r.old, r.new⟩ := by rw [backR, if_pos (.inl k)]
    rw [e1, doF, if_pos k]
    cases hf : f r.key with
    | none =>
      have : doF r f = f := by rw [doF, if_pos k, hf]
      rw [this]
      dsimp only
      rw [hn]
    | some v =>
      have : doF r f = setT (delT f r.key) r.tt v := by rw [doF, if_pos k, hf]
      rw [this]
      dsimp only
      have e2 : setT (delT f r.key) r.tt v r.tt = some v := by simp [setT]
      rw [e2]
      dsimp only
      funext x
      unfold setT delT
      by_cases h1 : x = r.key
      · rw [if_pos h1, h1, hf]
      · by_cases h2 : x = r.tt
        · simp [h2, hn]
          intro h3; exact absurd h3.symm hne
        · simp [h1, h2]
  · have e1 : doF (backR r) = doF ⟨r.kind, r.tt, r.key, r.old, r.new⟩ := by rw [backR, if_pos (.inr k)]
    have k1 : ¬ r.kind = 1 := by omega
    rw [e1, doF, if_neg (by exact k1), if_pos k, doF, if_neg k1, if_pos k]
    refine move_back (right_apart2 hr k) fun x hx => ?_
    have := l2 k x
    cases hf : f x with
    | none => rfl
    | some v => rw [hf] at this; exact absurd hx (this rfl)
  · have hne := right_other hr (.inl k)
    have e1 : doF (backR r) = doF ⟨r.kind, r.key, r.tt, r.new, r.old⟩ := by rw [backR, if_neg (by omega), if_pos k]
    have hl7 := l7 k
    have d : ∀ (q : Ru) (g : Tb), q.kind = 7 → doF q g = match g q.key with | none => g | some v => if v = q.old then setT g q.key q.new else if v = q.new ∧ q.kind = 8 then setT g q.key q.old else g := fun q g hq => by
      rw [doF, if_neg (by omega), if_neg (by omega), if_neg (by omega), if_neg (by omega), if_neg (by omega), if_neg (by omega)]
      rfl
    rw [e1, d r f k, d _ _ (by exact k)]
    dsimp only
    cases hf : f r.key with
    | none => dsimp only; rw [hf]
    | some v =>
      dsimp only
      by_cases h1 : v = r.old
      · rw [if_pos h1]
        have e2 : setT f r.key r.new r.key = some r.new := by simp [setT]
        rw [e2]
        dsimp only
        rw [if_pos rfl]
        funext x
        unfold setT
        by_cases hx : x = r.key
        · rw [if_pos hx, hx, hf, h1]
        · rw [if_neg hx, if_neg hx]
      · rw [if_neg h1, if_neg (by omega), hf]
        dsimp only
        rw [if_neg (fun e => hl7 (by rw [hf, e])), if_neg (by omega)]
  · have hne := right_other hr (.inr k)
    have e1 : backR r = r := by rw [backR, if_neg (by omega), if_neg (by omega)]
    have d : ∀ (g : Tb), doF r g = match g r.key with | none => g | some v => if v = r.old then setT g r.key r.new else if v = r.new then setT g r.key r.old else g := fun g => by
      rw [doF, if_neg (by omega), if_neg (by omega), if_neg (by omega), if_neg (by omega), if_neg (by omega), if_neg (by omega)]
      simp only [k, and_true]
      rfl
    rw [e1, d f, d]
    cases hf : f r.key with
    | none => dsimp only; rw [hf]
    | some v =>
      dsimp only
      by_cases h1 : v = r.old
      · rw [if_pos h1]
        have e2 : setT f r.key r.new r.key = some r.new := by simp [setT]
        rw [e2]
        dsimp only
        rw [if_neg (fun e => hne e.symm), if_pos rfl]
        funext x
        unfold setT
        by_cases hx : x = r.key
        · rw [if_pos hx, hx, hf, h1]
        · rw [if_neg hx, if_neg hx]
      · rw [if_neg h1]
        by_cases h2 : v = r.new
        · rw [if_pos h2]
          have e2 : setT f r.key r.old r.key = some r.old := by simp [setT]
          rw [e2]
          dsimp only
          rw [if_pos rfl]
          funext x
          unfold setT
          by_cases hx : x = r.key
          · rw [if_pos hx, hx, hf, h2]
          · rw [if_neg hx, if_neg hx]
        · rw [if_neg h2, hf]
          dsimp only
          rw [if_neg h1, if_neg h2]
theorem back_err {r : Ru} {f : Tb} (hr : ruErr r = 0) (hg : goesBack r) (hl : ¬ losesT r f) (hf : Okt f) (hn : (keysOf f).length ≤ 2000) : doE (backR r) (doF r f) = 0 := by
  unfold doE
  rw [back_one hr hg hl, if_neg, if_neg (by omega)]
  rintro ⟨k, y, hy, hu, hp⟩
  have k2 : r.kind = 2 := by
    unfold backR at k
    repeat' split at k
    all_goals exact k
  have e1 : backR r = ⟨r.kind, r.tt, r.key, r.old, r.new⟩ := by rw [backR, if_pos (.inr k2)]
  have e2 : doF r f = moveT f r.key r.tt := by rw [doF, if_neg (by omega), if_pos k2]
  rw [e1] at hu hp
  dsimp only at hu hp
  rw [e2] at hy
  have ha := right_apart2 hr k2
  have hlt : ∀ x, underL x r.tt = true → f x = none := fun x hx => by
    cases hfx : f x with
    | none => rfl
    | some v => exact absurd (.inr (.inl ⟨k2, x, by rw [hfx]; rfl, hx⟩)) hl
  cases hm : movedT f r.key r.tt (fun _ => false) y with
  | some v =>
    obtain ⟨z, z1, z2, rfl⟩ := moved_some hm
    rw [newKey_back z1] at hp
    rw [(hf z _ z2).1] at hp; cases hp
  | none =>
    unfold moveT at hy
    rw [hm] at hy
    simp only [Option.none_or, cutT] at hy
    split at hy
    · cases hy
    · rw [hlt y hu] at hy; cases hy

/-! ### All rules, and back -/
theorem runF_app (l m : List Ru) (f : Tb) : runF (l ++ m) f = runF m (runF l f) := by unfold runF; rw [List.foldl_append]
theorem runE_app : ∀ (l m : List Ru) (f : Tb), runE l f = 0 → runE (l ++ m) f = runE m (runF l f)
  | [], _, _, _ => rfl
  | r :: l, m, f, h => by
    unfold runE at h
    by_cases h1 : doE r f = 0
    · rw [if_pos h1] at h
      show (if doE r f = 0 then runE (l ++ m) (doF r f) else doE r f) = _
      rw [if_pos h1, runE_app l m _ h]
      rfl
    · rw [if_neg h1] at h; exact absurd h h1
theorem back_all : ∀ {rs : List Ru} {f : Tb}, (∀ r ∈ rs, ruErr r = 0) → (∀ r ∈ rs, goesBack r) → Okt f → (keysOf f).length ≤ 2000 → runE rs f = 0 → cleanB rs f = true →
    runF (rs.map backR).reverse (runF rs f) = f ∧ runE (rs.map backR).reverse (runF rs f) = 0
  | [], f, _, _, _, _, _, _ => ⟨rfl, rfl⟩
  | r :: rs, f, hr, hg, hf, hn, he, hc => by
    unfold runE at he
    unfold cleanB at hc
    by_cases h1 : doE r f = 0
    · rw [if_pos h1] at he
      by_cases h2 : losesT r f
      · rw [if_pos h2] at hc; cases hc
      · rw [if_neg h2] at hc
        have hr0 := hr r (by simp)
        obtain ⟨i1, i2⟩ := back_all (rs := rs) (f := doF r f) (fun q hq => hr q (by simp [hq])) (fun q hq => hg q (by simp [hq])) (okt_next hf hr0 h1) (doE_ok h1).2 he hc
        have e : runF (r :: rs) f = runF rs (doF r f) := rfl
        rw [List.map_cons, List.reverse_cons, e, runF_app, i1, runE_app _ _ _ i2, i1]
        refine ⟨back_one hr0 (hg r (by simp)) h2, ?_⟩
        have hb := back_err hr0 (hg r (by simp)) h2 hf hn
        show (if doE (backR r) (doF r f) = 0 then runE [] _ else _) = (0 : Int)
        rw [if_pos hb]
        rfl
    · rw [if_neg h1] at he; exact absurd he h1

/-! ### Settings and tables -/
theorem seL_asc (f : Tb) : Asc (seL f) := fun i j hj hi => by
  have h := List.pairwise_iff_getElem.1 (keysOf_strict f) i j (by rw [seL_length] at hj; omega) (by rw [seL_length] at hj; exact hj) hi
  simpa [seL, bs] using h
theorem seL_at (f : Tb) (i : Nat) (h : i < (seL f).length) : bs (seL f)[i].k = (keysOf f)[i]'(by rw [seL_length] at h; exact h) ∧ bs (seL f)[i].v = (f ((keysOf f)[i]'(by rw [seL_length] at h; exact h))).getD [] := by simp [seL, bs]
theorem tbl_seL {f : Tb} (hf : FinT f) : tbl (seL f) = f := by
  funext x
  cases hx : f x with
  | some v =>
    have hm := (mem_keysOf hf x).2 (by rw [hx]; rfl)
    obtain ⟨i, hi, e⟩ := List.getElem_of_mem hm
    have hi2 : i < (seL f).length := by rw [seL_length]; exact hi
    obtain ⟨h1, h2⟩ := seL_at f i hi2
    have h3 := tbl_some (seL_asc f) (seL f).length (Nat.le_refl _) i hi2 hi2
    rw [h1, h2, e, hx] at h3
    exact h3
  | none =>
    refine tbl_none (seL f).length (Nat.le_refl _) fun i h e => ?_
    obtain ⟨h1, _⟩ := seL_at f i h
    have := (mem_keysOf hf _).1 (List.getElem_mem (show i < (keysOf f).length by rw [seL_length] at h; exact h))
    rw [← h1, ← e, hx] at this
    cases this
theorem keysOf_tbl {es : List Se} (ha : Asc es) : keysOf (tbl es) = es.map fun s => bs s.k := by
  refine (keysOf_eq (List.pairwise_map.2 (List.pairwise_iff_getElem.2 fun i j _ hj hij => ha i j hj hij)) fun x => ?_).symm
  constructor
  · intro hx
    obtain ⟨s, hs, rfl⟩ := List.mem_map.1 hx
    obtain ⟨i, hi, rfl⟩ := List.getElem_of_mem hs
    show (tblN es es.length _).isSome = true
    rw [tbl_some ha es.length (Nat.le_refl _) i hi hi]
    rfl
  · intro hx
    rcases Classical.em (x ∈ es.map fun s => bs s.k) with h | h
    · exact h
    · have : tbl es x = none := tbl_none es.length (Nat.le_refl _) fun i hi e => h (List.mem_map.2 ⟨es[i], List.getElem_mem _, e.symm⟩)
      rw [this] at hx; cases hx
theorem seL_tbl {es : List Se} (h : seErr pathL es = 0) : seL (tbl es) = es := by
  have ha := seErr_asc h
  have hk := keysOf_tbl ha
  have hl : (seL (tbl es)).length = es.length := by rw [seL_length, hk, List.length_map]
  refine List.ext_getElem hl fun i h1 h2 => ?_
  obtain ⟨k1, k2⟩ := seL_at (tbl es) i h1
  have e : (keysOf (tbl es))[i]'(by rw [seL_length] at h1; exact h1) = bs es[i].k := by
    have := congrArg (fun l => l[i]?) hk
    rw [List.getElem?_eq_getElem (by rw [seL_length] at h1; exact h1), List.getElem?_map, List.getElem?_eq_getElem h2] at this
    exact Option.some.inj this
  rw [e] at k1 k2
  have h3 : tbl es (bs es[i].k) = some (bs es[i].v) := tbl_some ha es.length (Nat.le_refl _) i h2 h2
  rw [h3] at k2
  generalize (seL (tbl es))[i] = s at *
  obtain ⟨sk, sv⟩ := s
  have e1 : sk = es[i].k := bs_inj k1
  have e2 : sv = es[i].v := bs_inj k2
  rw [e1, e2]
end Go.Proofs.YtghhjlcbcojcnaaGreatDoor
