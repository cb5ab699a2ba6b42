/- Settings of tables: the program's and the reference's. (Printed by gen/tabs.py.) Plain law: rules that are clean lead back; the settings of a table, and the table of settings. Plain law: what rules leave is finite, small and right. -/
import Derived.Test.YtghhjlcbcojcnaaGreatDoorRn29
import Derived.Test.YtghhjlcbcojcnaaGreatDoorRn09
import Derived.Test.YtghhjlcbcojcnaaGreatDoorShelfG
import Derived.Shelf.SortM.Plain
import Derived.Shelf.SortM.SortNone
import Derived.Shelf.SlIter.Nil
import Derived.Test.YtghhjlcbcojcnaaGreatDoorRn28

namespace Go.Proofs.YtghhjlcbcojcnaaGreatDoor
open Go.RowKit Go.Maps Go.Sort Go.Shelf

theorem info_setting : (Tryz.prog.info? 74).map (fun i => (i.zero, i.size, i.bytes)) = some (some (.agg #[.string ⟨#[]⟩, .string ⟨#[]⟩]), 2, 32) := by kernel_rfl
def rowsE (l : List Se) : List Value := l.flatMap fun s => [.string s.k, .string s.v]
theorem rowsE_snoc (l : List Se) (s : Se) : rowsE (l ++ [s]) = rowsE l ++ [.string s.k, .string s.v] := by simp [rowsE]
/-- settings in new memory -/
def SeOwn (B : Nat) (l : List Se) (v : Value) (w' : World) : Prop := w'.ownsRow B 74 2 v l.length (rowsE l)
theorem SeOwn.snoc {B K : Nat} {l : List Se} {s : Se} {v : Value} {w : World} {xs : List Value} (h : w.ownsRow B 74 2 v (K + 1) (rowsE l ++ xs)) (hK : K = l.length) (hx : xs = [.string s.k, .string s.v]) : SeOwn B (l ++ [s]) v w := by
  subst hK hx
  unfold SeOwn
  rw [List.length_append, rowsE_snoc]
  exact h
theorem tab_base {w : World} {B B' : Nat} {e : TypeId} {size n : Nat} {v : Value} {xs : List Value} (h : w.ownsRow B e size v n xs) (hb : B' ≤ B) : w.ownsRow B' e size v n xs :=
  ⟨h.1, h.2.imp id fun ⟨g, cap, cur, a, b, r⟩ => ⟨g, cap, cur, a, Nat.le_trans hb b, r⟩⟩
theorem rowsE_at : ∀ (l : List Se) (k : Nat) (h : k < l.length), (rowsE l)[k * 2]? = some (.string l[k].k) ∧ (rowsE l)[k * 2 + 1]? = some (.string l[k].v)
  | s :: l, 0, _ => ⟨rfl, rfl⟩
  | s :: l, k + 1, h => by
    have ih := rowsE_at l k (by simpa using h)
    have e : rowsE (s :: l) = .string s.k :: .string s.v :: rowsE l := rfl
    rw [e, show (k + 1) * 2 = k * 2 + 1 + 1 by omega]
    exact ih
theorem SeOwn.rd {B : Nat} {l : List Se} {v : Value} {w : World} (h : SeOwn B l v w) : ∃ A c, v = .slice A l.length c ∧ l.length ≤ c ∧ RdE w A l := by
  unfold SeOwn at h
  rcases Nat.eq_zero_or_pos l.length with h0 | h0
  · obtain rfl : l = [] := List.eq_nil_of_length_eq_zero h0
    rcases h.2 with ⟨rfl, _⟩ | ⟨g, cap, cur, rfl, _⟩
    · exact ⟨none, 0, rfl, Nat.zero_le _, fun h => absurd rfl h⟩
    · exact ⟨_, _, rfl, Nat.zero_le _, fun h => absurd rfl h⟩
  · obtain ⟨g, c, rfl, _, _, hc, hcell⟩ := own_form h h0
    exact ⟨_, _, rfl, hc, fun _ => ⟨g, 0, rfl, ⟨fun k hk => by rw [Nat.zero_add]; exact hcell _ _ (rowsE_at l k hk).1, fun k hk => by rw [Nat.zero_add]; exact hcell _ _ (rowsE_at l k hk).2⟩⟩⟩
theorem SeOwn.ext {B : Nat} {l : List Se} {v : Value} {w w' : World} (h : SeOwn B l v w) (hx : Ext w w') : SeOwn B l v w' := own_ext h hx
/-- the keys of settings in a slice of texts -/
def RdKS (w : World) (A : Option Addr) (l : List Se) : Prop := l ≠ [] → ∃ g, A = some ⟨g, 0, none⟩ ∧ ∀ k (h : k < l.length), w.cell? ⟨g, k, none⟩ = some (.string l[k].k)
theorem RdKS.ext {w w' : World} {A : Option Addr} {l : List Se} (h : RdKS w A l) (hx : Ext w w') : RdKS w' A l := fun hn => by
  obtain ⟨g, e, k⟩ := h hn
  exact ⟨g, e, fun i hi => hx.cell (k i hi)⟩
theorem RdKS.own {w : World} {B n : Nat} {v : Value} {f : Tb} (h : w.ownsRow B 9 1 v n ((keysOf f).map encStr)) (hn : (keysOf f).length = n) : ∃ A c, v = .slice A n c ∧ RdKS w A (seL f) := by
  rcases Nat.eq_zero_or_pos n with h0 | h0
  · subst h0
    have he : seL f = [] := List.eq_nil_of_length_eq_zero (by rw [seL_length, hn])
    rcases h.2 with ⟨rfl, _⟩ | ⟨g, cap, cur, rfl, _⟩
    · exact ⟨none, 0, rfl, fun h => absurd he h⟩
    · exact ⟨_, _, rfl, fun h => absurd he h⟩
  · obtain ⟨g, c, rfl, _, _, _, hc⟩ := own_form h h0
    refine ⟨_, _, rfl, fun _ => ⟨g, rfl, fun k hk => hc k _ ?_⟩⟩
    have hk2 : k < (keysOf f).length := by rw [← seL_length]; exact hk
    rw [List.getElem?_map, List.getElem?_eq_getElem hk2]
    simp [seL, encStr]
theorem seL_look {w : World} {b n : Nat} {f : Tb} (h : StrMap w b n f) (hf : Okt f) {t : TypeId} (ht : Tryz.prog.underlying t = some (.map 9 9)) (k : Nat) (hk : k < (seL f).length) :
    (Instr.lookup t (.map (some b)) (.string (seL f)[k].k) false).run Tryz.prog w = .ok (.string (seL f)[k].v) w := by
  have hk2 : k < (keysOf f).length := by rw [← seL_length]; exact hk
  have e1 : bs (seL f)[k].k = (keysOf f)[k] := by simp [seL, bs]
  have e2 : S ((f (keysOf f)[k]).getD []) = .string (seL f)[k].v := by simp [seL, S]
  have hm := (mem_keysOf h.fin _).1 (List.getElem_mem hk2)
  have hsz : (seL f)[k].k.size ≤ 4194304 := by
    rw [← bs_length, e1]
    cases hv : f (keysOf f)[k] with
    | none => rw [hv] at hm; cases hm
    | some v =>
      have := (hf _ _ hv).1
      simp only [pathL, Bool.and_eq_true, decide_eq_true_eq] at this
      omega
  rw [h.look1 ht _ hsz, e1, e2]
theorem tsorts_in (m : Nat) : AnyZ.SortsIn Tryz.prog Tryz.sortedM_ren Fence.wide m :=
  ⟨fun blk off cap ss W hH hblk hsz => callsIn_wide.2 (AnyM.slices_Sort_string Tryz.sortT blk off cap ss W hH hblk hsz),
   fun p cap W => callsIn_wide.2 (AnyM.slices_Sort_string_none Tryz.sortT p cap W)⟩

theorem KeysP_any (mb : Option Nat) (W : World) :
    Calls Tryz.prog 208 #[.map mb] W fun e w' => e = .returned (.func (.func 249) #[] #[.pointer (some ⟨W.heap.size, 0, none⟩)]) ∧ w' = W.alloc (.cells #[.map mb] 179) :=
  (callsIn_wide (n := 5)).1 (AnyZ.keys_in Tryz.keysP Fence.wide 5 trivial rfl mb W)
set_option maxHeartbeats 1000000 in
theorem SortedP_keys {H : Type} (b nn : Nat) (D0 : DataW H) (R : Value → Option (DataW H × List MemPlace)) (w : World) (hown : w.ownsMap Tryz.prog 9 R b nn D0) (hmax : Maps.size D0 ≤ maxLen) (hbytes : Maps.size D0 * 16 ≤ 140737488355328) :
    Calls Tryz.prog 207 #[.func (.func 249) #[] #[.pointer (some ⟨w.heap.size, 0, none⟩)]] (w.alloc (.cells #[.map (some b)] 179)) fun e w' => ∃ (v : Value) (ss : List (List UInt8)), e = .returned v ∧ ss.Perm (strKeys D0) ∧
      w'.ownsRow (w.alloc (.cells #[.map (some b)] 179)).heap.size 9 1 v ss.length ((ss.mergeSort (fun x y => decide (x ≤ y))).map encStr) ∧ (v = .slice none 0 0 ↔ ss = []) ∧ Below (w.alloc (.cells #[.map (some b)] 179)).heap.size (w.alloc (.cells #[.map (some b)] 179)) w' := by
  have hbl := hown.lt
  have hseq : SeqGives Fence.wide 2 Tryz.prog 249 #[.pointer (some ⟨w.heap.size, 0, none⟩)] encStr (fun ss => ss.Perm (strKeys D0)) (Maps.size D0) (w.alloc (.cells #[.map (some b)] 179)) :=
    AnyZ.keys_gives (ρ := Tryz.keysP_ren) { Tryz.keysP with } Fence.wide _ trivial rfl (by omega) w.heap.size b nn D0 _ (by simp) (by simp) (by
      obtain ⟨es, clock, hb, Ft, hs, hD⟩ := hown
      exact ⟨es, clock, (Below.heap_alloc _ _ b hbl).trans hb, Ft, hs, hD⟩)
  exact (callsIn_wide (n := 5)).1 (AnyZ.sorted_in Tryz.sortedM Fence.wide 5 trivial trivial trivial trivial rfl (by omega) (tsorts_in _) (enters_of Tryz.func248 (by kernel_rfl) rfl) 249 #[.pointer (some ⟨w.heap.size, 0, none⟩)] trivial (enters_of Tryz.func249 (by kernel_rfl) rfl) _ _ hmax hbytes _ hseq)
theorem SortedP_any (b n N : Nat) (f : Tb) (w : World) (h : StrMap w b n f) (hn : n ≤ 1000000) (hN : (seL f).length = N) :
    Calls Tryz.prog 207 #[.func (.func 249) #[] #[.pointer (some ⟨w.heap.size, 0, none⟩)]] (w.alloc (.cells #[.map (some b)] 179)) fun e w' =>
      ∃ A c, e = .returned (.slice A N c) ∧ RdKS w' A (seL f) ∧ Ext (w.alloc (.cells #[.map (some b)] 179)) w' := by
  obtain ⟨D, hown, hv⟩ := h.view
  have hsz := hown.size_le
  refine (SortedP_keys b n D _ w hown (by simp only [maxLen]; omega) (by omega)).mono ?_
  rintro e w' ⟨v, ss, rfl, hp, hrow, _, hb⟩
  obtain ⟨hf, hk, hz⟩ := view_keys hown hv
  have e1 : ss.mergeSort leB = keysOf f := by rw [← hk]; exact mergeSort_of_perm hp
  have hl : (keysOf f).length = ss.length := by rw [← e1, List.length_mergeSort]
  have hrow2 := hrow
  rw [show ss.mergeSort (fun x y => decide (x ≤ y)) = keysOf f from e1] at hrow2
  obtain ⟨A, c, rfl, hr⟩ := RdKS.own hrow2 hl
  exact ⟨A, c, by rw [← hN, seL_length, hl], hr, hb⟩

set_option maxHeartbeats 8000000 in
theorem settings_any (b n : Nat) (f : Tb) (w : World) (h : StrMap w b n f) (hn : n ≤ 1000000) (hf : Okt f) :
    Calls Tryz.prog 143 #[.map (some b)] w fun e w' => ∃ v, e = .returned v ∧ SeOwn w.heap.size (seL f) v w' ∧ Ext w w' := by
  have hlen : (seL f).length ≤ n := by rw [seL_length]; exact h.size
  have KA := Lib.hid (fun W => KeysP_any (some b) W)
  obtain ⟨N, hLN⟩ : ∃ N, (seL f).length = N := ⟨_, rfl⟩
  have SA := Lib.hid (SortedP_any b n N f w h hn hLN)
  have HLN := Lib.hid hLN
  rw [hLN] at hlen
  have HLK := Lib.hid (fun W (hx : Ext w W) k (hk : k < (seL f).length) => seL_look (h.ext hx) hf Tryz.underlying179 k hk)
  have HTK := Lib.hid (fun k (hk : k < (seL f).length) => List.take_append_getElem hk)
  have HT0 := Lib.hid (show (seL f).take (seL f).length = seL f from List.take_length)
  generalize seL f = l at *
  clear h hf
  clear hLN
  go_enter Tryz.func143, Tryz.ntmps143
  go_wp2_with fail
  refine (KA.out _).mono ?_
  rintro e w1 ⟨rfl, rfl⟩
  go_wp2_with fail
  refine SA.out.mono ?_
  rintro e w2 ⟨A, c, rfl, hrd, hx2⟩
  have hxw2 : Ext w w2 := Ext.trans (by repeat (first | with_reducible exact Ext.refl _ | with_reducible assumption | with_reducible apply Ext.drewN | with_reducible apply Ext.drew | with_reducible apply Ext.alloc | exact Ext.refl _ | assumption | apply Ext.drewN | apply Ext.drew | apply Ext.alloc)) hx2
  have HRD := Lib.hid hrd
  clear hrd hx2
  have hB2 := hxw2.size
  go_wp2
  go_loopw [10, 3] (fun i v wr => ∃ k : Nat, k ≤ N ∧ i = .int .i64 k ∧ SeOwn w2.heap.size (l.take k) v wr ∧ Ext w2 wr) (fun i _ _ => N - (intOf i).toNat)
  case atStart => exact ⟨0, Nat.zero_le _, rfl, World.ownsRow_nil _ _ _ _, Ext.refl _⟩
  case round =>
    obtain ⟨k, hk, rfl, hown, hxr⟩ := hrel
    by_cases hlt : k < N
    · have hk1 : k < l.length := by rw [HLN.out]; exact hlt
      obtain ⟨g, rfl, hX⟩ := (HRD.out.ext hxr) (fun e => by rw [e] at hk1; exact absurd hk1 (Nat.not_lt_zero _))
      have x0 := hX k hk1
      have hlook := HLK.out wr (hxw2.trans hxr) k hk1
      have HT := Lib.hid (HTK.out k hk1)
      have hGl : (l.take k).length ≤ n := by rw [List.length_take]; omega
      have hsz := hxr.size
      generalize l.take k = G at *
      generalize l[k] = s at *
      obtain ⟨sk, sv⟩ := s
      dsimp only at x0 hlook
      clear hX
      go_wp2_with (at_builtin; refine wpList_app1g _ _ _ rfl _ _ 65 rfl (.agg #[.string ⟨#[]⟩, .string ⟨#[]⟩]) 2 32 Tryz.underlying65 info_setting rfl (by decide) (by decide) w2.heap.size _ G.length _ rfl hown _ _ rfl rfl rfl (by simp [Value.oneCell']) (by omega) hsz ?_; intro v' w5 hown5 hx5 _)
      go_roundw
      case rel => exact ⟨k + 1, by omega, by go_num, by rw [← HT.out]; exact SeOwn.snoc hown5 rfl rfl, hx5 _ hxr (Nat.le_refl _)⟩
      case measure => simp [intOf]; omega
    · obtain rfl : k = N := by omega
      have e1 := HT0.out
      rw [HLN.out] at e1
      rw [e1] at hown
      clear e1
      go_wp2
      go_ret
      exact ⟨_, rfl, tab_base hown hB2, hxw2.trans hxr⟩

theorem KeysR_any (mb : Option Nat) (W : World) :
    Calls Tryz.prog 210 #[.map mb] W fun e w' => e = .returned (.func (.func 250) #[] #[.pointer (some ⟨W.heap.size, 0, none⟩)]) ∧ w' = W.alloc (.cells #[.map mb] 178) :=
  (callsIn_wide (n := 5)).1 (AnyZ.keys_in Tryz.keysR Fence.wide 5 trivial rfl mb W)
set_option maxHeartbeats 1000000 in
theorem SortedR_keys {H : Type} (b nn : Nat) (D0 : DataW H) (R : Value → Option (DataW H × List MemPlace)) (w : World) (hown : w.ownsMap Tryz.prog 9 R b nn D0) (hmax : Maps.size D0 ≤ maxLen) (hbytes : Maps.size D0 * 16 ≤ 140737488355328) :
    Calls Tryz.prog 207 #[.func (.func 250) #[] #[.pointer (some ⟨w.heap.size, 0, none⟩)]] (w.alloc (.cells #[.map (some b)] 178)) fun e w' => ∃ (v : Value) (ss : List (List UInt8)), e = .returned v ∧ ss.Perm (strKeys D0) ∧
      w'.ownsRow (w.alloc (.cells #[.map (some b)] 178)).heap.size 9 1 v ss.length ((ss.mergeSort (fun x y => decide (x ≤ y))).map encStr) ∧ (v = .slice none 0 0 ↔ ss = []) ∧ Below (w.alloc (.cells #[.map (some b)] 178)).heap.size (w.alloc (.cells #[.map (some b)] 178)) w' := by
  have hbl := hown.lt
  have hseq : SeqGives Fence.wide 2 Tryz.prog 250 #[.pointer (some ⟨w.heap.size, 0, none⟩)] encStr (fun ss => ss.Perm (strKeys D0)) (Maps.size D0) (w.alloc (.cells #[.map (some b)] 178)) :=
    AnyZ.keys_gives (ρ := Tryz.keysR_ren) { Tryz.keysR with } Fence.wide _ trivial rfl (by omega) w.heap.size b nn D0 _ (by simp) (by simp) (by
      obtain ⟨es, clock, hb, Ft, hs, hD⟩ := hown
      exact ⟨es, clock, (Below.heap_alloc _ _ b hbl).trans hb, Ft, hs, hD⟩)
  exact (callsIn_wide (n := 5)).1 (AnyZ.sorted_in Tryz.sortedM Fence.wide 5 trivial trivial trivial trivial rfl (by omega) (tsorts_in _) (enters_of Tryz.func248 (by kernel_rfl) rfl) 250 #[.pointer (some ⟨w.heap.size, 0, none⟩)] trivial (enters_of Tryz.func250 (by kernel_rfl) rfl) _ _ hmax hbytes _ hseq)
theorem SortedR_any (b n N : Nat) (f : Tb) (w : World) (h : StrMap w b n f) (hn : n ≤ 1000000) (hN : (seL f).length = N) :
    Calls Tryz.prog 207 #[.func (.func 250) #[] #[.pointer (some ⟨w.heap.size, 0, none⟩)]] (w.alloc (.cells #[.map (some b)] 178)) fun e w' =>
      ∃ A c, e = .returned (.slice A N c) ∧ RdKS w' A (seL f) ∧ Ext (w.alloc (.cells #[.map (some b)] 178)) w' := by
  obtain ⟨D, hown, hv⟩ := h.view
  have hsz := hown.size_le
  refine (SortedR_keys b n D _ w hown (by simp only [maxLen]; omega) (by omega)).mono ?_
  rintro e w' ⟨v, ss, rfl, hp, hrow, _, hb⟩
  obtain ⟨hf, hk, hz⟩ := view_keys hown hv
  have e1 : ss.mergeSort leB = keysOf f := by rw [← hk]; exact mergeSort_of_perm hp
  have hl : (keysOf f).length = ss.length := by rw [← e1, List.length_mergeSort]
  have hrow2 := hrow
  rw [show ss.mergeSort (fun x y => decide (x ≤ y)) = keysOf f from e1] at hrow2
  obtain ⟨A, c, rfl, hr⟩ := RdKS.own hrow2 hl
  exact ⟨A, c, by rw [← hN, seL_length, hl], hr, hb⟩

set_option maxHeartbeats 8000000 in
theorem Listed_any (b n : Nat) (f : Tb) (w : World) (h : StrMap w b n f) (hn : n ≤ 1000000) (hf : Okt f) :
    Calls Tryz.prog 149 #[.map (some b)] w fun e w' => ∃ v, e = .returned v ∧ SeOwn w.heap.size (seL f) v w' ∧ Ext w w' := by
  have hlen : (seL f).length ≤ n := by rw [seL_length]; exact h.size
  have KA := Lib.hid (fun W => KeysR_any (some b) W)
  obtain ⟨N, hLN⟩ : ∃ N, (seL f).length = N := ⟨_, rfl⟩
  have SA := Lib.hid (SortedR_any b n N f w h hn hLN)
  have HLN := Lib.hid hLN
  rw [hLN] at hlen
  have HLK := Lib.hid (fun W (hx : Ext w W) k (hk : k < (seL f).length) => seL_look (h.ext hx) hf Tryz.underlying178 k hk)
  have HTK := Lib.hid (fun k (hk : k < (seL f).length) => List.take_append_getElem hk)
  have HT0 := Lib.hid (show (seL f).take (seL f).length = seL f from List.take_length)
  generalize seL f = l at *
  clear h hf
  clear hLN
  go_enter Tryz.func149, Tryz.ntmps149
  go_wp2_with fail
  refine (KA.out _).mono ?_
  rintro e w1 ⟨rfl, rfl⟩
  go_wp2_with fail
  refine SA.out.mono ?_
  rintro e w2 ⟨A, c, rfl, hrd, hx2⟩
  have hxw2 : Ext w w2 := Ext.trans (by repeat (first | with_reducible exact Ext.refl _ | with_reducible assumption | with_reducible apply Ext.drewN | with_reducible apply Ext.drew | with_reducible apply Ext.alloc | exact Ext.refl _ | assumption | apply Ext.drewN | apply Ext.drew | apply Ext.alloc)) hx2
  have HRD := Lib.hid hrd
  clear hrd hx2
  have hB2 := hxw2.size
  go_wp2
  go_loopw [10, 3] (fun i v wr => ∃ k : Nat, k ≤ N ∧ i = .int .i64 k ∧ SeOwn w2.heap.size (l.take k) v wr ∧ Ext w2 wr) (fun i _ _ => N - (intOf i).toNat)
  case atStart => exact ⟨0, Nat.zero_le _, rfl, World.ownsRow_nil _ _ _ _, Ext.refl _⟩
  case round =>
    obtain ⟨k, hk, rfl, hown, hxr⟩ := hrel
    by_cases hlt : k < N
    · have hk1 : k < l.length := by rw [HLN.out]; exact hlt
      obtain ⟨g, rfl, hX⟩ := (HRD.out.ext hxr) (fun e => by rw [e] at hk1; exact absurd hk1 (Nat.not_lt_zero _))
      have x0 := hX k hk1
      have hlook := HLK.out wr (hxw2.trans hxr) k hk1
      have HT := Lib.hid (HTK.out k hk1)
      have hGl : (l.take k).length ≤ n := by rw [List.length_take]; omega
      have hsz := hxr.size
      generalize l.take k = G at *
      generalize l[k] = s at *
      obtain ⟨sk, sv⟩ := s
      dsimp only at x0 hlook
      clear hX
      go_wp2_with (at_builtin; refine wpList_app1g _ _ _ rfl _ _ 65 rfl (.agg #[.string ⟨#[]⟩, .string ⟨#[]⟩]) 2 32 Tryz.underlying65 info_setting rfl (by decide) (by decide) w2.heap.size _ G.length _ rfl hown _ _ rfl rfl rfl (by simp [Value.oneCell']) (by omega) hsz ?_; intro v' w5 hown5 hx5 _)
      go_roundw
      case rel => exact ⟨k + 1, by omega, by go_num, by rw [← HT.out]; exact SeOwn.snoc hown5 rfl rfl, hx5 _ hxr (Nat.le_refl _)⟩
      case measure => simp [intOf]; omega
    · obtain rfl : k = N := by omega
      have e1 := HT0.out
      rw [HLN.out] at e1
      rw [e1] at hown
      clear e1
      go_wp2
      go_ret
      exact ⟨_, rfl, tab_base hown hB2, hxw2.trans hxr⟩
end Go.Proofs.YtghhjlcbcojcnaaGreatDoor

namespace Go.Proofs.YtghhjlcbcojcnaaGreatDoor

/-! ### A rule, and the rule that goes back -/
theorem under_cut {x a b : Str} (hx : underL x a = true) (hy : underL x b = true) : underL a b = true ∨ underL b a = true := by
  obtain ⟨r, e1, h1⟩ := under_iff.1 hx
  obtain ⟨s, e2, h2⟩ := under_iff.1 hy
  have h : a ++ r = b ++ s := by rw [← e1, ← e2]
  rcases List.append_eq_append_iff.1 h with ⟨t, e3, e4⟩ | ⟨t, e3, e4⟩
  · -- b = a ++ t, r = t ++ s
    refine .inr (under_iff.2 ⟨t, e3, ?_⟩)
    cases t with
    | nil => exact .inl rfl
    | cons c t =>
      rcases h1 with h1 | ⟨q, h1⟩
      · rw [h1] at e4; simp at e4
      · rw [h1] at e4
        refine .inr ⟨t, ?_⟩
        have : c = 47 := by simpa using (List.cons.inj e4).1.symm
        rw [this]
  · refine .inl (under_iff.2 ⟨t, e3, ?_⟩)
    cases t with
    | nil => exact .inl rfl
    | cons c t =>
      rcases h2 with h2 | ⟨q, h2⟩
      · rw [h2] at e4; simp at e4
      · rw [h2] at e4
        refine .inr ⟨t, ?_⟩
        have : c = 47 := by simpa using (List.cons.inj e4).1.symm
        rw [this]
/-- neither is the other one, or below it -/
def Apart (a b : Str) : Prop := underL a b = false ∧ underL b a = false
theorem Apart.symm {a b : Str} (h : Apart a b) : Apart b a := ⟨h.2, h.1⟩
theorem Apart.not {a b x : Str} (h : Apart a b) (hx : underL x a = true) : underL x b = false := by
  cases hy : underL x b with
  | false => rfl
  | true =>
    rcases under_cut hx hy with h1 | h1
    · rw [h.1] at h1; cases h1
    · rw [h.2] at h1; cases h1
/-! ### All rules, and back -/
/-! ### Settings and tables -/
theorem keysOf_tbl {es : List Se} (ha : Asc es) : keysOf (tbl es) = es.map fun s => bs s.k := by
  refine (keysOf_eq (List.pairwise_map.2 (List.pairwise_iff_getElem.2 fun i j _ hj hij => ha i j hj hij)) fun x => ?_).symm
  constructor
  · intro hx
    obtain ⟨s, hs, rfl⟩ := List.mem_map.1 hx
    obtain ⟨i, hi, rfl⟩ := List.getElem_of_mem hs
    show (tblN es es.length _).isSome = true
    rw [tbl_some ha es.length (Nat.le_refl _) i hi hi]
    rfl
  · intro hx
    rcases Classical.em (x ∈ es.map fun s => bs s.k) with h | h
    · exact h
    · have : tbl es x = none := tbl_none es.length (Nat.le_refl _) fun i hi e => h (List.mem_map.2 ⟨es[i], List.getElem_mem _, e.symm⟩)
      rw [this] at hx; cases hx
end Go.Proofs.YtghhjlcbcojcnaaGreatDoor

namespace Go.Proofs.YtghhjlcbcojcnaaGreatDoor

theorem keysOf_nofin {f : Tb} (h : ¬ FinT f) : keysOf f = [] := by unfold keysOf; rw [dif_neg h]
theorem seL_small {f : Tb} (h : Okt f) : SmallE (seL f) := fun s hs => by
  obtain ⟨k, hk, rfl⟩ := List.mem_map.1 hs
  by_cases hf : FinT f
  · have hm := (mem_keysOf hf k).1 hk
    cases hv : f k with
    | none => rw [hv] at hm; cases hm
    | some v =>
      obtain ⟨p1, p2⟩ := h k v hv
      simp only [pathL, valueL, Bool.and_eq_true, decide_eq_true_eq] at p1 p2
      dsimp only
      rw [← bs_length, ← bs_length, bs_mk, bs_mk, Option.getD_some]
      omega
  · rw [keysOf_nofin hf] at hk; cases hk
theorem seL_right {f : Tb} (h : Okt f) : seErr pathL (seL f) = 0 := by
  by_cases hf : FinT f
  · exact seL_ok hf h
  · rw [seL, keysOf_nofin hf]; rfl
theorem run_len : ∀ {rs : List Ru} {f : Tb}, (keysOf f).length ≤ 2000 → runE rs f = 0 → (keysOf (runF rs f)).length ≤ 2000
  | [], _, h, _ => h
  | r :: rs, f, h, h0 => by
    unfold runE at h0
    by_cases h1 : doE r f = 0
    · rw [if_pos h1] at h0
      exact run_len (rs := rs) (doE_ok h1).2 h0
    · rw [if_neg h1] at h0; exact absurd h0 h1
theorem runErr_parts {es : List Se} {rs : List Ru} (h : runErr es rs = 0) : seErr pathL es = 0 ∧ es.length ≤ 2000 ∧ rs.length ≤ 100 ∧ ∀ r ∈ rs, ruErr r = 0 := by
  have h1 := firstI_all h
  have h2 := h1 (if 2000 < es.length ∨ 100 < rs.length then 4 else 0) (by simp)
  by_cases h3 : 2000 < es.length ∨ 100 < rs.length
  · rw [if_pos h3] at h2; cases h2
  · exact ⟨h1 _ (by simp), by omega, by omega, fun r hr => h1 _ (by simp only [List.mem_cons, List.mem_map]; exact .inr (.inr ⟨r, hr, rfl⟩))⟩
theorem runR_parts {es : List Se} {rs : List Ru} (h : runR es rs = 0) : runErr es rs = 0 ∧ runE rs (tbl es) = 0 := by
  unfold runR at h
  by_cases h1 : runErr es rs = 0
  · rw [if_pos h1] at h; exact ⟨h1, h⟩
  · rw [if_neg h1] at h; exact absurd h h1
theorem tbl_len {es : List Se} (h : seErr pathL es = 0) : (keysOf (tbl es)).length = es.length := by rw [keysOf_tbl (seErr_asc h), List.length_map]
/-- what Run returns -/
theorem run_out (es : List Se) (rs : List Ru) : (runS es rs).length ≤ 2000 ∧ SmallE (runS es rs) ∧ seErr pathL (runS es rs) = 0 := by
  unfold runS
  by_cases h : runR es rs = 0
  · rw [if_pos h]
    obtain ⟨h1, h2⟩ := runR_parts h
    obtain ⟨a, b, c, d⟩ := runErr_parts h1
    have ho := okt_run (okt_tbl a) d h2
    refine ⟨?_, seL_small ho, seL_right ho⟩
    rw [seL_length]
    exact run_len (by rw [tbl_len a]; exact b) h2
  · rw [if_neg h]
    exact ⟨Nat.zero_le _, (fun _ h => by cases h), rfl⟩

/-! ### Finite tables -/
/-! ### There and back -/
end Go.Proofs.YtghhjlcbcojcnaaGreatDoor
