/- Tables of settings: the program's and the reference's. Printed by gen/setb.py. Contracts of ver.Holds at the condition that always holds, and of migrate.settingsFault. What makes settings of others: plain words. -/
import Derived.Test.YtghhjlcbcojcnaaGreatDoorRn22
import Derived.Test.YtghhjlcbcojcnaaGreatDoorRn09
import Derived.Test.YtghhjlcbcojcnaaGreatDoorRn23
import Derived.Deep.RegionHeld3
import Derived.Laws.EntriesVeiled

namespace Go.Proofs.YtghhjlcbcojcnaaGreatDoor
open Go.RowKit

set_option maxHeartbeats 4000000 in
theorem tableOf_any (A : Option Addr) (n c : Nat) (l : List Se) (w : World) (hn : l.length = n) (hr : RdE w A l) (hs : SmallE l) (hl : n ≤ 2097152) :
    Calls Tryz.prog 128 #[.slice A n c] w fun e w' => e = .returned (.map (some w.heap.size)) ∧ StrMap w' w.heap.size n (tbl l) ∧ Ext w w' := by
  have HN := Lib.hid hn
  have hmm := @run_makeMap Tryz.prog
  have hmade := StrMap.made w
  have hxm : Ext w (w.alloc (.map #[] 0)) := (Ext.refl w).alloc _
  rcases Nat.eq_zero_or_pos n with h0 | h0
  · subst h0
    have he : l = [] := List.eq_nil_of_length_eq_zero hn
    have hT : tbl l = fun _ => none := by rw [he]; rfl
    have HT := Lib.hid hT
    clear he hT hr hs hn
    go_enter Tryz.func128, Tryz.ntmps128
    go_wp2
    go_loop [9] (fun i => i = .int .i64 0) (fun i => 0)
    case atStart => rfl
    case round =>
      subst hrel
      go_wp2
      go_ret
      exact ⟨rfl, by rw [HT.out]; exact hmade, hxm⟩
  obtain ⟨b, o, rfl, hX⟩ := hr (fun e => by rw [e] at hn; simp at hn; omega)
  clear hr hn
  go_enter Tryz.func128, Tryz.ntmps128
  go_wp2
  go_loopw [9] (fun i wr => ∃ k : Nat, k ≤ n ∧ i = .int .i64 k ∧ StrMap wr w.heap.size k (tblN l k) ∧ Ext w wr) (fun i _ => n - (intOf i).toNat)
  case atStart => exact ⟨0, Nat.zero_le _, rfl, by rw [tblN_zero]; exact hmade, hxm⟩
  case round =>
    obtain ⟨k, hk, rfl, hM, hxr⟩ := hrel
    by_cases hlt : k < n
    · have hk1 : k < l.length := by rw [HN.out]; exact hlt
      have X := hX.ext hxr
      have x0 := X.c0 k hk1
      have x1 := X.c1 k hk1
      have hz1 := hs l[k] (List.getElem_mem hk1)
      have HS := Lib.hid (tblN_succ hk1)
      generalize l[k] = s at *
      obtain ⟨sk, sv⟩ := s
      dsimp only at x0 x1 hz1 HS
      obtain ⟨hz1, hz2⟩ := hz1
      clear X
      obtain ⟨w', hrun, hM', hg⟩ := (hM.ext ((Ext.refl wr).alloc (.cells #[.string sk, .string sv] 74))).upd (t := 179) Tryz.underlying179 sk sv hz1 hz2 (by omega)
      have hxn : Ext w w' := Below.grown (hxr.alloc (.cells #[.string sk, .string sv] 74)) hg (Nat.le_trans hxr.size (by rw [World.size_alloc]; omega)) (fun j hj => by simp only [Option.some.injEq] at hj; omega)
      have HX := Lib.hid hxn
      have HM := Lib.hid hM'
      clear hM hM' hg hxn
      go_wp2
      go_roundw
      case rel => exact ⟨k + 1, by omega, by go_num, by rw [HS.out]; exact HM.out, HX.out⟩
      case measure => simp [intOf]; omega
    · obtain rfl : k = n := by omega
      have HT := Lib.hid (show tblN l k = tbl l from by rw [tbl, HN.out])
      go_wp2
      go_ret
      exact ⟨rfl, by rw [← HT.out]; exact hM, hxr⟩

set_option maxHeartbeats 4000000 in
theorem Facts_any (A : Option Addr) (n c : Nat) (l : List Se) (w : World) (hn : l.length = n) (hr : RdE w A l) (hs : SmallE l) (hl : n ≤ 2097152) :
    Calls Tryz.prog 129 #[.slice A n c] w fun e w' => e = .returned (.map (some w.heap.size)) ∧ StrMap w' w.heap.size n (tbl l) ∧ Ext w w' := by
  have HN := Lib.hid hn
  have hmm := @run_makeMap Tryz.prog
  have hmade := StrMap.made w
  have hxm : Ext w (w.alloc (.map #[] 0)) := (Ext.refl w).alloc _
  rcases Nat.eq_zero_or_pos n with h0 | h0
  · subst h0
    have he : l = [] := List.eq_nil_of_length_eq_zero hn
    have hT : tbl l = fun _ => none := by rw [he]; rfl
    have HT := Lib.hid hT
    clear he hT hr hs hn
    go_enter Tryz.func129, Tryz.ntmps129
    go_wp2
    go_loop [9] (fun i => i = .int .i64 0) (fun i => 0)
    case atStart => rfl
    case round =>
      subst hrel
      go_wp2
      go_ret
      exact ⟨rfl, by rw [HT.out]; exact hmade, hxm⟩
  obtain ⟨b, o, rfl, hX⟩ := hr (fun e => by rw [e] at hn; simp at hn; omega)
  clear hr hn
  go_enter Tryz.func129, Tryz.ntmps129
  go_wp2
  go_loopw [9] (fun i wr => ∃ k : Nat, k ≤ n ∧ i = .int .i64 k ∧ StrMap wr w.heap.size k (tblN l k) ∧ Ext w wr) (fun i _ => n - (intOf i).toNat)
  case atStart => exact ⟨0, Nat.zero_le _, rfl, by rw [tblN_zero]; exact hmade, hxm⟩
  case round =>
    obtain ⟨k, hk, rfl, hM, hxr⟩ := hrel
    by_cases hlt : k < n
    · have hk1 : k < l.length := by rw [HN.out]; exact hlt
      have X := hX.ext hxr
      have x0 := X.c0 k hk1
      have x1 := X.c1 k hk1
      have hz1 := hs l[k] (List.getElem_mem hk1)
      have HS := Lib.hid (tblN_succ hk1)
      generalize l[k] = s at *
      obtain ⟨sk, sv⟩ := s
      dsimp only at x0 x1 hz1 HS
      obtain ⟨hz1, hz2⟩ := hz1
      clear X
      obtain ⟨w', hrun, hM', hg⟩ := (hM.ext ((Ext.refl wr).alloc (.cells #[.string sk, .string sv] 74))).upd (t := 178) Tryz.underlying178 sk sv hz1 hz2 (by omega)
      have hxn : Ext w w' := Below.grown (hxr.alloc (.cells #[.string sk, .string sv] 74)) hg (Nat.le_trans hxr.size (by rw [World.size_alloc]; omega)) (fun j hj => by simp only [Option.some.injEq] at hj; omega)
      have HX := Lib.hid hxn
      have HM := Lib.hid hM'
      clear hM hM' hg hxn
      go_wp2
      go_roundw
      case rel => exact ⟨k + 1, by omega, by go_num, by rw [HS.out]; exact HM.out, HX.out⟩
      case measure => simp [intOf]; omega
    · obtain rfl : k = n := by omega
      have HT := Lib.hid (show tblN l k = tbl l from by rw [tbl, HN.out])
      go_wp2
      go_ret
      exact ⟨rfl, by rw [← HT.out]; exact hM, hxr⟩
end Go.Proofs.YtghhjlcbcojcnaaGreatDoor

namespace Go.Proofs.YtghhjlcbcojcnaaGreatDoor
open Go.RowKit

theorem Holds1_any (A : Option Addr) (n c : Nat) (w : World) :
    Calls Tryz.prog 237 #[.slice A n c] w fun e w' => e = .returned (.func (.func 238) #[] #[.pointer (some ⟨w.heap.size, 0, none⟩)]) ∧ w' = w.alloc (.cells #[.slice A n c] 65) := by
  go_enter Tryz.func237, Tryz.ntmps237
  go_wp2
  go_ret
  exact ⟨rfl, rfl⟩
set_option maxHeartbeats 2000000 in
set_option maxRecDepth 100000 in
theorem holds_true (g1 g2 : Nat) (w : World) :
    Calls Tryz.prog 240 #[.agg #[.int .i64 1, .string ⟨#[]⟩, .string ⟨#[]⟩, .slice none 0 0], .func (.func 238) #[] #[.pointer (some ⟨g1, 0, none⟩)], .func (.func 238) #[] #[.pointer (some ⟨g2, 0, none⟩)]] w
      fun e w' => e = .returned (.bool true) ∧ Ext w w' := by
  go_enter Tryz.func240, Tryz.ntmps240
  go_wp2
  go_ret
  exact ⟨rfl, (by repeat (first | with_reducible exact Ext.refl _ | with_reducible assumption | with_reducible apply Ext.drewN | with_reducible apply Ext.drew | with_reducible apply Ext.alloc | exact Ext.refl _ | assumption | apply Ext.drewN | apply Ext.drew | apply Ext.alloc))⟩
theorem leaf_small (k : Int) : SmallC (.mk k ⟨#[]⟩ ⟨#[]⟩ []) := .mk k _ _ [] (by decide) (by decide) (by decide) (fun _ h => by cases h)
set_option maxHeartbeats 4000000 in
set_option maxRecDepth 100000 in
theorem Holds_always (A : Option Addr) (n c : Nat) (l : List Se) (w : World) (hg : GoodN w) (hn : l.length = n) (hr : RdE w A l) (hs : SmallE l) (hl : n ≤ 2097152) :
    Calls Tryz.prog 195 #[.agg #[.int .i64 1, .string ⟨#[]⟩, .string ⟨#[]⟩, .slice none 0 0], .slice none 0 0, .slice A n c] w fun e w' => e = .returned (.tuple #[.bool (decide (seErr pathL l = 0)), .int .i64 (seErr pathL l)]) ∧ Ext w w' := by
  have cC : ∀ W, Ext w W → Calls Tryz.prog 121 #[.agg #[.int .i64 1, .string ⟨#[]⟩, .string ⟨#[]⟩, .slice none 0 0]] W fun e w' => e = .returned (.int .i64 0) ∧ Ext W w' := fun W hx =>
    CheckCond_any (.mk 1 ⟨#[]⟩ ⟨#[]⟩ []) _ (fun _ => True) W (hg.ext hx) (CdIn.leaf _ _ _ _ _) (leaf_small 1) (by decide)
  have cF : ∀ W, Ext w W → Calls Tryz.prog 236 #[.slice none 0 0, .func (.func 29) #[] #[]] W fun e w' => e = .returned (.int .i64 0) ∧ Ext W w' := fun W hx =>
    faultF_any none 0 0 [] W (hg.toGood.ext hx) rfl (fun h => absurd rfl h) (fun _ h => by cases h) (by decide)
  have cS : ∀ W, Ext w W → Calls Tryz.prog 236 #[.slice A n c, .func (.func 31) #[] #[]] W fun e w' => e = .returned (.int .i64 (seErr pathL l)) ∧ Ext W w' := fun W hx =>
    faultS_any A n c l W (hg.toGood.ext hx) hn (hr.ext hx) hs hl
  have CC := Lib.hid cC; have CF := Lib.hid cF; have CS := Lib.hid cS
  clear cC cF cS hn hr hs
  generalize seErr pathL l = E at *
  have bX := Blk.new w 61 #[.int .i64 1, .string ⟨#[]⟩, .string ⟨#[]⟩, .slice none 0 0]
  go_enter Tryz.func195, Tryz.ntmps195
  go_wp2_with fail
  refine (CC.out _ (by repeat (first | with_reducible exact Ext.refl _ | with_reducible assumption | with_reducible apply Ext.drewN | with_reducible apply Ext.drew | with_reducible apply Ext.alloc | exact Ext.refl _ | assumption | apply Ext.drewN | apply Ext.drew | apply Ext.alloc))).mono ?_
  rintro e w1 ⟨rfl, hx1⟩
  have hxa : Ext w w1 := Ext.trans (by repeat (first | with_reducible exact Ext.refl _ | with_reducible assumption | with_reducible apply Ext.drewN | with_reducible apply Ext.drew | with_reducible apply Ext.alloc | exact Ext.refl _ | assumption | apply Ext.drewN | apply Ext.drew | apply Ext.alloc)) hx1
  go_wp2_with fail
  refine (CF.out _ hxa).mono ?_
  rintro e w2 ⟨rfl, hx2⟩
  have hxb := hxa.trans hx2
  go_wp2_with fail
  refine (CS.out _ hxb).mono ?_
  rintro e w3 ⟨rfl, hx3⟩
  have hxc := hxb.trans hx3
  have bX3 := ((bX.ext hx1).ext hx2).ext hx3
  by_cases hE : E = 0
  · subst hE
    have d0 : w3.cell? ⟨w.heap.size, 0, none⟩ = some (.int .i64 1) := bX3.cell 0
    have d1 : w3.cell? ⟨w.heap.size, 1, none⟩ = some (.string ⟨#[]⟩) := bX3.cell 1
    have d2 : w3.cell? ⟨w.heap.size, 2, none⟩ = some (.string ⟨#[]⟩) := bX3.cell 2
    have d3 : w3.cell? ⟨w.heap.size, 3, none⟩ = some (.slice none 0 0) := bX3.cell 3
    have dl := bX3.lt
    go_wp2_with fail
    go_region_held3 (fun w' => w'.cell? ⟨w.heap.size, 0, none⟩ = some (.int .i64 1) ∧ w'.cell? ⟨w.heap.size, 1, none⟩ = some (.string ⟨#[]⟩) ∧ w'.cell? ⟨w.heap.size, 2, none⟩ = some (.string ⟨#[]⟩) ∧ w'.cell? ⟨w.heap.size, 3, none⟩ = some (.slice none 0 0)) (first | (go_keep; done) | ((try go_split_ands); (try dsimp only); (repeat' apply And.intro); all_goals (first | (go_keep; done) | (with_reducible exact hxh.cell (by assumption)) | (refine hxh.cell ?_; go_simp))))
      (first
      | (go_at_call 237; refine (Holds1_any _ _ _ _).mono ?_; rintro e w' ⟨rfl, rfl⟩)
      | (go_at_call 240; refine (holds_true _ _ _).mono ?_; rintro e w' ⟨rfl, hxh⟩))
    all_goals
      go_wp2
      go_ret2
      refine ⟨rfl, ?_⟩
      exact hxc.trans (Ext.trans (by repeat (first | with_reducible exact Ext.refl _ | with_reducible assumption | with_reducible apply Ext.drewN | with_reducible apply Ext.drew | with_reducible apply Ext.alloc | exact Ext.refl _ | assumption | apply Ext.drewN | apply Ext.drew | apply Ext.alloc)) hxh)
  · have hne : (E != 0) = true := by rw [bne_iff_ne]; exact hE
    go_wp2
    go_ret2
    refine ⟨?_, hxc⟩
    simp [hE]
set_option maxHeartbeats 2000000 in
theorem mFault_any (A : Option Addr) (n c : Nat) (l : List Se) (w : World) (hg : GoodN w) (hn : l.length = n) (hr : RdE w A l) (hs : SmallE l) (hl : n ≤ 2097152) :
    Calls Tryz.prog 127 #[.slice A n c] w fun e w' => e = .returned (.int .i64 (seErr pathL l)) ∧ Ext w w' := by
  have HN := Lib.hid hn
  clear hn
  go_enter Tryz.func127, Tryz.ntmps127
  go_wp2_with fail
  refine (Holds_always A n c l _ hg HN.out hr hs hl).mono ?_
  rintro e w1 ⟨rfl, hx1⟩
  go_wp2
  go_ret
  exact ⟨rfl, hx1⟩
end Go.Proofs.YtghhjlcbcojcnaaGreatDoor

namespace Go.Proofs.YtghhjlcbcojcnaaGreatDoor
open Go.RowKit

/-- the cells of a change of a setting -/
def chV (k : Int) (s v : ByteArray) : List Value := [.int .i64 k, .string ⟨#[]⟩, .string ⟨#[]⟩, .bool false, .string s, .string v, .string ⟨#[]⟩, .string ⟨#[]⟩, .bool false, .bool false]
theorem chV_length (k : Int) (s v : ByteArray) : (chV k s v).length = 10 := rfl
/-- a change of a setting: its kind, key and value -/
structure Ch where
  kind : Int
  k : ByteArray
  v : ByteArray
deriving DecidableEq
def chRow (c : Ch) : List Value := chV c.kind c.k c.v
def goneL (f : Str → Option Str) (l : List Se) : List Ch := (l.filter fun s => (f (bs s.k)).isNone).map fun s => ⟨4, s.k, ⟨#[]⟩⟩
def putL (f : Str → Option Str) (l : List Se) : List Ch := (l.filter fun s => f (bs s.k) != some (bs s.v)).map fun s => ⟨3, s.k, s.v⟩
/-- what makes settings of others -/
def chgL (old new : List Se) : List Ch := goneL (tbl new) old ++ putL (tbl old) new
theorem goneL_length (f : Str → Option Str) (l : List Se) : (goneL f l).length ≤ l.length := by
  unfold goneL; rw [List.length_map]; exact List.length_filter_le _ _
theorem putL_length (f : Str → Option Str) (l : List Se) : (putL f l).length ≤ l.length := by
  unfold putL; rw [List.length_map]; exact List.length_filter_le _ _
theorem goneL_no {f : Str → Option Str} {l : List Se} {k : Nat} (h : k < l.length) {v : Str} (hf : f (bs l[k].k) = some v) : goneL f (l.take (k + 1)) = goneL f (l.take k) := by
  unfold goneL
  rw [List.take_succ_eq_append_getElem h, List.filter_append]
  simp [hf]
theorem goneL_yes {f : Str → Option Str} {l : List Se} {k : Nat} (h : k < l.length) (hf : f (bs l[k].k) = none) : goneL f (l.take (k + 1)) = goneL f (l.take k) ++ [⟨4, l[k].k, ⟨#[]⟩⟩] := by
  unfold goneL
  rw [List.take_succ_eq_append_getElem h, List.filter_append]
  simp [hf]
theorem putL_no {f : Str → Option Str} {l : List Se} {k : Nat} (h : k < l.length) (hf : f (bs l[k].k) = some (bs l[k].v)) : putL f (l.take (k + 1)) = putL f (l.take k) := by
  unfold putL
  rw [List.take_succ_eq_append_getElem h, List.filter_append]
  simp [hf]
theorem putL_yes {f : Str → Option Str} {l : List Se} {k : Nat} (h : k < l.length) (hf : f (bs l[k].k) ≠ some (bs l[k].v)) : putL f (l.take (k + 1)) = putL f (l.take k) ++ [⟨3, l[k].k, l[k].v⟩] := by
  unfold putL
  rw [List.take_succ_eq_append_getElem h, List.filter_append]
  simp [hf]
theorem goneL_all (f : Str → Option Str) (l : List Se) : goneL f (l.take l.length) = goneL f l := by rw [List.take_length]
theorem putL_all (f : Str → Option Str) (l : List Se) : putL f (l.take l.length) = putL f l := by rw [List.take_length]
/-- the cells of changes, one behind the other -/
def rowsC (l : List Ch) : List Value := l.flatMap chRow
theorem rowsC_snoc (l : List Ch) (c : Ch) : rowsC (l ++ [c]) = rowsC l ++ chV c.kind c.k c.v := by simp [rowsC, chRow]
theorem rowsC_get : ∀ (l : List Ch) (k j : Nat) (h : k < l.length) (_ : j < 10), (rowsC l)[k * 10 + j]? = (chRow l[k])[j]?
  | c :: l, 0, j, _, hj => by
    simp only [rowsC, List.flatMap_cons, Nat.zero_mul, Nat.zero_add, List.getElem_cons_zero]
    rw [List.getElem?_append_left (by rw [chRow, chV_length]; exact hj)]
  | c :: l, k + 1, j, h, hj => by
    have ih := rowsC_get l k j (by simpa using h) hj
    simp only [rowsC, List.flatMap_cons, List.getElem_cons_succ] at ih ⊢
    rw [List.getElem?_append_right (by rw [chRow, chV_length]; omega), chRow, chV_length, show (k + 1) * 10 + j - 10 = k * 10 + j by omega]
    exact ih
end Go.Proofs.YtghhjlcbcojcnaaGreatDoor
