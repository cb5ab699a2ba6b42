/- migrate.table.do, but for the kind 2. (Printed by gen/tabc.py.) -/
import Derived.Test.YtghhjlcbcojcnaaGreatDoorMt26
import Derived.Test.YtghhjlcbcojcnaaGreatDoorMt14

namespace Go.Proofs.YtghhjlcbcojcnaaGreatDoor
open Go.RowKit

set_option maxHeartbeats 8000000 in
set_option maxRecDepth 100000 in
theorem do1_any (b n : Nat) (f : Tb) (key tt old new : ByteArray) (w : World) (h : StrMap w b n f) (hv : ∀ x v, f x = some v → v.length ≤ 2097152) (hn : n ≤ 1000000) (s1 : key.size ≤ 2097152) (s2 : tt.size ≤ 2097152) (_s3 : old.size ≤ 2097152) (_s4 : new.size ≤ 2097152) :
    Calls Tryz.prog 141 #[.map (some b), .agg #[.int .i64 1, .string key, .string tt, .string old, .string new]] w fun e w' => ∃ F m, doF ⟨1, bs key, bs tt, bs old, bs new⟩ f = F ∧ StrMap w' b m F ∧ m ≤ n + 2 ∧ e = .returned (.int .i64 (if 2000 < (keysOf F).length then 4 else 0)) ∧ w.grownBy w' (some b) := by
  have hlt := h.lt
  have b0 := Blk.new w 23 #[.int .i64 1, .string key, .string tt, .string old, .string new]
  have c0 := b0.cell; have f0 := b0.free; have z0 := b0.lt
  have h0 := h.ext ((Ext.refl w).alloc (.cells #[.int .i64 1, .string key, .string tt, .string old, .string new] 23))
  have hg0 : w.grownBy (w.alloc (.cells #[.int .i64 1, .string key, .string tt, .string old, .string new] 23)) (some b) := ((Ext.refl w).alloc _).by _
  have hlook := h0.look (t := 179) Tryz.underlying179 key s1
  cases hf : f (bs key) with
  | none =>
    rw [hf] at hlook
    simp only [Option.isSome_none, Option.getD_none] at hlook
    have HF := Lib.hid (show doF ⟨1, bs key, bs tt, bs old, bs new⟩ f = f from by rw [doF, if_pos rfl]; dsimp only; rw [hf])
    have hlen := h0.len (t := 179) Tryz.underlying179 3
    obtain ⟨L, hL⟩ : ∃ L, (keysOf (f)).length = L := ⟨_, rfl⟩
    rw [hL] at hlen
    have HL := Lib.hid hL
    have HS := Lib.hid h0
    have HG := Lib.hid hg0
    clear hL
    by_cases h2 : 2000 < L
    · go_enter Tryz.func141, Tryz.ntmps141
      go_wp2
      go_ret
      exact ⟨_, _, HF.out, HS.out, by omega, by rw [HL.out, if_pos h2] <;> rfl, HG.out⟩
    · go_enter Tryz.func141, Tryz.ntmps141
      go_wp2
      go_ret
      exact ⟨_, _, HF.out, HS.out, by omega, by rw [HL.out, if_neg h2] <;> rfl, HG.out⟩
  | some v =>
    obtain ⟨ub, rfl⟩ : ∃ ub : ByteArray, v = bs ub := ⟨⟨v.toArray⟩, (bs_mk v).symm⟩
    rw [hf] at hlook
    simp only [Option.isSome_some, Option.getD_some, S_bs] at hlook
    have hub : ub.size ≤ 2097152 := by rw [← bs_length]; exact hv _ _ hf
    have HF := Lib.hid (show doF ⟨1, bs key, bs tt, bs old, bs new⟩ f = setT (delT f (bs key)) (bs tt) (bs ub) from by rw [doF, if_pos rfl]; dsimp only; rw [hf])
    obtain ⟨w1, hr1, h1, hg1⟩ := h0.delS (t := 179) Tryz.underlying179 key s1 0
    have b1 := b0.turned hg1 (by simp; omega)
    have c1 := b1.cell; have f1 := b1.free; have z1 := b1.lt
    have hgw1 := hg0.andThen hg1 (fun _ e => .inr e)
    obtain ⟨w2, hr2, h2, hg2⟩ := h1.setS (t := 179) Tryz.underlying179 tt ub s2 hub (by omega)
    have b2 := b1.turned hg2 (by simp; omega)
    have c2 := b2.cell; have f2 := b2.free; have z2 := b2.lt
    have hgw2 := hgw1.andThen hg2 (fun _ e => .inr e)
    have hlen := h2.len (t := 179) Tryz.underlying179 3
    obtain ⟨L, hL⟩ : ∃ L, (keysOf (setT (delT f (bs key)) (bs tt) (bs ub))).length = L := ⟨_, rfl⟩
    rw [hL] at hlen
    have HL := Lib.hid hL
    have HS := Lib.hid h2
    have HG := Lib.hid hgw2
    clear hL
    by_cases h2 : 2000 < L
    · go_enter Tryz.func141, Tryz.ntmps141
      go_wp2
      go_ret
      exact ⟨_, _, HF.out, HS.out, by omega, by rw [HL.out, if_pos h2] <;> rfl, HG.out⟩
    · go_enter Tryz.func141, Tryz.ntmps141
      go_wp2
      go_ret
      exact ⟨_, _, HF.out, HS.out, by omega, by rw [HL.out, if_neg h2] <;> rfl, HG.out⟩
set_option maxHeartbeats 8000000 in
set_option maxRecDepth 100000 in
theorem do3_any (b n : Nat) (f : Tb) (key tt old new : ByteArray) (w : World) (h : StrMap w b n f) (hv : ∀ x v, f x = some v → v.length ≤ 2097152) (hn : n ≤ 1000000) (s1 : key.size ≤ 2097152) (s2 : tt.size ≤ 2097152) (_s3 : old.size ≤ 2097152) (_s4 : new.size ≤ 2097152) :
    Calls Tryz.prog 141 #[.map (some b), .agg #[.int .i64 3, .string key, .string tt, .string old, .string new]] w fun e w' => ∃ F m, doF ⟨3, bs key, bs tt, bs old, bs new⟩ f = F ∧ StrMap w' b m F ∧ m ≤ n + 2 ∧ e = .returned (.int .i64 (if 2000 < (keysOf F).length then 4 else 0)) ∧ w.grownBy w' (some b) := by
  have hlt := h.lt
  have b0 := Blk.new w 23 #[.int .i64 3, .string key, .string tt, .string old, .string new]
  have c0 := b0.cell; have f0 := b0.free; have z0 := b0.lt
  have h0 := h.ext ((Ext.refl w).alloc (.cells #[.int .i64 3, .string key, .string tt, .string old, .string new] 23))
  have hg0 : w.grownBy (w.alloc (.cells #[.int .i64 3, .string key, .string tt, .string old, .string new] 23)) (some b) := ((Ext.refl w).alloc _).by _
  have hlook := h0.look (t := 179) Tryz.underlying179 key s1
  cases hf : f (bs key) with
  | none =>
    rw [hf] at hlook
    simp only [Option.isSome_none, Option.getD_none] at hlook
    have HF := Lib.hid (show doF ⟨3, bs key, bs tt, bs old, bs new⟩ f = f from by rw [doF, if_neg (by dsimp only; decide), if_neg (by dsimp only; decide), if_pos rfl]; dsimp only; rw [hf])
    have hlen := h0.len (t := 179) Tryz.underlying179 3
    obtain ⟨L, hL⟩ : ∃ L, (keysOf (f)).length = L := ⟨_, rfl⟩
    rw [hL] at hlen
    have HL := Lib.hid hL
    have HS := Lib.hid h0
    have HG := Lib.hid hg0
    clear hL
    by_cases h2 : 2000 < L
    · go_enter Tryz.func141, Tryz.ntmps141
      go_wp2
      go_ret
      exact ⟨_, _, HF.out, HS.out, by omega, by rw [HL.out, if_pos h2] <;> rfl, HG.out⟩
    · go_enter Tryz.func141, Tryz.ntmps141
      go_wp2
      go_ret
      exact ⟨_, _, HF.out, HS.out, by omega, by rw [HL.out, if_neg h2] <;> rfl, HG.out⟩
  | some v =>
    obtain ⟨ub, rfl⟩ : ∃ ub : ByteArray, v = bs ub := ⟨⟨v.toArray⟩, (bs_mk v).symm⟩
    rw [hf] at hlook
    simp only [Option.isSome_some, Option.getD_some, S_bs] at hlook
    have hub : ub.size ≤ 2097152 := by rw [← bs_length]; exact hv _ _ hf
    have HF := Lib.hid (show doF ⟨3, bs key, bs tt, bs old, bs new⟩ f = setT f (bs tt) (bs ub) from by rw [doF, if_neg (by dsimp only; decide), if_neg (by dsimp only; decide), if_pos rfl]; dsimp only; rw [hf])
    obtain ⟨w1, hr1, h1, hg1⟩ := h0.setS (t := 179) Tryz.underlying179 tt ub s2 hub (by omega)
    have b1 := b0.turned hg1 (by simp; omega)
    have c1 := b1.cell; have f1 := b1.free; have z1 := b1.lt
    have hgw1 := hg0.andThen hg1 (fun _ e => .inr e)
    have hlen := h1.len (t := 179) Tryz.underlying179 3
    obtain ⟨L, hL⟩ : ∃ L, (keysOf (setT f (bs tt) (bs ub))).length = L := ⟨_, rfl⟩
    rw [hL] at hlen
    have HL := Lib.hid hL
    have HS := Lib.hid h1
    have HG := Lib.hid hgw1
    clear hL
    by_cases h2 : 2000 < L
    · go_enter Tryz.func141, Tryz.ntmps141
      go_wp2
      go_ret
      exact ⟨_, _, HF.out, HS.out, by omega, by rw [HL.out, if_pos h2] <;> rfl, HG.out⟩
    · go_enter Tryz.func141, Tryz.ntmps141
      go_wp2
      go_ret
      exact ⟨_, _, HF.out, HS.out, by omega, by rw [HL.out, if_neg h2] <;> rfl, HG.out⟩
set_option maxHeartbeats 8000000 in
set_option maxRecDepth 100000 in
theorem do4_any (b n : Nat) (f : Tb) (key tt old new : ByteArray) (w : World) (h : StrMap w b n f) (hn : n ≤ 1000000) (s1 : key.size ≤ 2097152) (_s2 : tt.size ≤ 2097152) (_s3 : old.size ≤ 2097152) (s4 : new.size ≤ 2097152) :
    Calls Tryz.prog 141 #[.map (some b), .agg #[.int .i64 4, .string key, .string tt, .string old, .string new]] w fun e w' => ∃ F m, doF ⟨4, bs key, bs tt, bs old, bs new⟩ f = F ∧ StrMap w' b m F ∧ m ≤ n + 2 ∧ e = .returned (.int .i64 (if 2000 < (keysOf F).length then 4 else 0)) ∧ w.grownBy w' (some b) := by
  have hlt := h.lt
  have b0 := Blk.new w 23 #[.int .i64 4, .string key, .string tt, .string old, .string new]
  have c0 := b0.cell; have f0 := b0.free; have z0 := b0.lt
  have h0 := h.ext ((Ext.refl w).alloc (.cells #[.int .i64 4, .string key, .string tt, .string old, .string new] 23))
  have hg0 : w.grownBy (w.alloc (.cells #[.int .i64 4, .string key, .string tt, .string old, .string new] 23)) (some b) := ((Ext.refl w).alloc _).by _
  have hlook := h0.look (t := 179) Tryz.underlying179 key s1
  generalize (f (bs key)).isSome = I at hlook
  generalize (f (bs key)).getD [] = V at hlook
  cases I
  all_goals
    have HF := Lib.hid (show doF ⟨4, bs key, bs tt, bs old, bs new⟩ f = setT f (bs key) (bs new) from by rw [doF, if_neg (by dsimp only; decide), if_neg (by dsimp only; decide), if_neg (by dsimp only; decide), if_pos rfl])
    obtain ⟨w1, hr1, h1, hg1⟩ := h0.setS (t := 179) Tryz.underlying179 key new s1 s4 (by omega)
    have b1 := b0.turned hg1 (by simp; omega)
    have c1 := b1.cell; have f1 := b1.free; have z1 := b1.lt
    have hgw1 := hg0.andThen hg1 (fun _ e => .inr e)
    have hlen := h1.len (t := 179) Tryz.underlying179 3
    obtain ⟨L, hL⟩ : ∃ L, (keysOf (setT f (bs key) (bs new))).length = L := ⟨_, rfl⟩
    rw [hL] at hlen
    have HL := Lib.hid hL
    have HS := Lib.hid h1
    have HG := Lib.hid hgw1
    clear hL
    by_cases h2 : 2000 < L
    · go_enter Tryz.func141, Tryz.ntmps141
      go_wp2
      go_ret
      exact ⟨_, _, HF.out, HS.out, by omega, by rw [HL.out, if_pos h2] <;> rfl, HG.out⟩
    · go_enter Tryz.func141, Tryz.ntmps141
      go_wp2
      go_ret
      exact ⟨_, _, HF.out, HS.out, by omega, by rw [HL.out, if_neg h2] <;> rfl, HG.out⟩
set_option maxHeartbeats 8000000 in
set_option maxRecDepth 100000 in
theorem do5_any (b n : Nat) (f : Tb) (key tt old new : ByteArray) (w : World) (h : StrMap w b n f) (hn : n ≤ 1000000) (s1 : key.size ≤ 2097152) (_s2 : tt.size ≤ 2097152) (_s3 : old.size ≤ 2097152) (s4 : new.size ≤ 2097152) :
    Calls Tryz.prog 141 #[.map (some b), .agg #[.int .i64 5, .string key, .string tt, .string old, .string new]] w fun e w' => ∃ F m, doF ⟨5, bs key, bs tt, bs old, bs new⟩ f = F ∧ StrMap w' b m F ∧ m ≤ n + 2 ∧ e = .returned (.int .i64 (if 2000 < (keysOf F).length then 4 else 0)) ∧ w.grownBy w' (some b) := by
  have hlt := h.lt
  have b0 := Blk.new w 23 #[.int .i64 5, .string key, .string tt, .string old, .string new]
  have c0 := b0.cell; have f0 := b0.free; have z0 := b0.lt
  have h0 := h.ext ((Ext.refl w).alloc (.cells #[.int .i64 5, .string key, .string tt, .string old, .string new] 23))
  have hg0 : w.grownBy (w.alloc (.cells #[.int .i64 5, .string key, .string tt, .string old, .string new] 23)) (some b) := ((Ext.refl w).alloc _).by _
  have hlook := h0.look (t := 179) Tryz.underlying179 key s1
  cases hf : f (bs key) with
  | none =>
    rw [hf] at hlook
    simp only [Option.isSome_none, Option.getD_none] at hlook
    have HF := Lib.hid (show doF ⟨5, bs key, bs tt, bs old, bs new⟩ f = setT f (bs key) (bs new) from by rw [doF, if_neg (by dsimp only; decide), if_neg (by dsimp only; decide), if_neg (by dsimp only; decide), if_neg (by dsimp only; decide), if_pos rfl]; dsimp only; rw [hf])
    obtain ⟨w1, hr1, h1, hg1⟩ := h0.setS (t := 179) Tryz.underlying179 key new s1 s4 (by omega)
    have b1 := b0.turned hg1 (by simp; omega)
    have c1 := b1.cell; have f1 := b1.free; have z1 := b1.lt
    have hgw1 := hg0.andThen hg1 (fun _ e => .inr e)
    have hlen := h1.len (t := 179) Tryz.underlying179 3
    obtain ⟨L, hL⟩ : ∃ L, (keysOf (setT f (bs key) (bs new))).length = L := ⟨_, rfl⟩
    rw [hL] at hlen
    have HL := Lib.hid hL
    have HS := Lib.hid h1
    have HG := Lib.hid hgw1
    clear hL
    by_cases h2 : 2000 < L
    · go_enter Tryz.func141, Tryz.ntmps141
      go_wp2
      go_ret
      exact ⟨_, _, HF.out, HS.out, by omega, by rw [HL.out, if_pos h2] <;> rfl, HG.out⟩
    · go_enter Tryz.func141, Tryz.ntmps141
      go_wp2
      go_ret
      exact ⟨_, _, HF.out, HS.out, by omega, by rw [HL.out, if_neg h2] <;> rfl, HG.out⟩
  | some v =>
    obtain ⟨ub, rfl⟩ : ∃ ub : ByteArray, v = bs ub := ⟨⟨v.toArray⟩, (bs_mk v).symm⟩
    rw [hf] at hlook
    simp only [Option.isSome_some, Option.getD_some, S_bs] at hlook
    have HF := Lib.hid (show doF ⟨5, bs key, bs tt, bs old, bs new⟩ f = f from by rw [doF, if_neg (by dsimp only; decide), if_neg (by dsimp only; decide), if_neg (by dsimp only; decide), if_neg (by dsimp only; decide), if_pos rfl]; dsimp only; rw [hf])
    have hlen := h0.len (t := 179) Tryz.underlying179 3
    obtain ⟨L, hL⟩ : ∃ L, (keysOf (f)).length = L := ⟨_, rfl⟩
    rw [hL] at hlen
    have HL := Lib.hid hL
    have HS := Lib.hid h0
    have HG := Lib.hid hg0
    clear hL
    by_cases h2 : 2000 < L
    · go_enter Tryz.func141, Tryz.ntmps141
      go_wp2
      go_ret
      exact ⟨_, _, HF.out, HS.out, by omega, by rw [HL.out, if_pos h2] <;> rfl, HG.out⟩
    · go_enter Tryz.func141, Tryz.ntmps141
      go_wp2
      go_ret
      exact ⟨_, _, HF.out, HS.out, by omega, by rw [HL.out, if_neg h2] <;> rfl, HG.out⟩
set_option maxHeartbeats 8000000 in
set_option maxRecDepth 100000 in
theorem do6_any (b n : Nat) (f : Tb) (key tt old new : ByteArray) (w : World) (h : StrMap w b n f) (_hn : n ≤ 1000000) (s1 : key.size ≤ 2097152) (_s2 : tt.size ≤ 2097152) (_s3 : old.size ≤ 2097152) (_s4 : new.size ≤ 2097152) :
    Calls Tryz.prog 141 #[.map (some b), .agg #[.int .i64 6, .string key, .string tt, .string old, .string new]] w fun e w' => ∃ F m, doF ⟨6, bs key, bs tt, bs old, bs new⟩ f = F ∧ StrMap w' b m F ∧ m ≤ n + 2 ∧ e = .returned (.int .i64 (if 2000 < (keysOf F).length then 4 else 0)) ∧ w.grownBy w' (some b) := by
  have hlt := h.lt
  have b0 := Blk.new w 23 #[.int .i64 6, .string key, .string tt, .string old, .string new]
  have c0 := b0.cell; have f0 := b0.free; have z0 := b0.lt
  have h0 := h.ext ((Ext.refl w).alloc (.cells #[.int .i64 6, .string key, .string tt, .string old, .string new] 23))
  have hg0 : w.grownBy (w.alloc (.cells #[.int .i64 6, .string key, .string tt, .string old, .string new] 23)) (some b) := ((Ext.refl w).alloc _).by _
  have hlook := h0.look (t := 179) Tryz.underlying179 key s1
  generalize (f (bs key)).isSome = I at hlook
  generalize (f (bs key)).getD [] = V at hlook
  cases I
  all_goals
    have HF := Lib.hid (show doF ⟨6, bs key, bs tt, bs old, bs new⟩ f = delT f (bs key) from by rw [doF, if_neg (by dsimp only; decide), if_neg (by dsimp only; decide), if_neg (by dsimp only; decide), if_neg (by dsimp only; decide), if_neg (by dsimp only; decide), if_pos rfl])
    obtain ⟨w1, hr1, h1, hg1⟩ := h0.delS (t := 179) Tryz.underlying179 key s1 0
    have b1 := b0.turned hg1 (by simp; omega)
    have c1 := b1.cell; have f1 := b1.free; have z1 := b1.lt
    have hgw1 := hg0.andThen hg1 (fun _ e => .inr e)
    have hlen := h1.len (t := 179) Tryz.underlying179 3
    obtain ⟨L, hL⟩ : ∃ L, (keysOf (delT f (bs key))).length = L := ⟨_, rfl⟩
    rw [hL] at hlen
    have HL := Lib.hid hL
    have HS := Lib.hid h1
    have HG := Lib.hid hgw1
    clear hL
    by_cases h2 : 2000 < L
    · go_enter Tryz.func141, Tryz.ntmps141
      go_wp2
      go_ret
      exact ⟨_, _, HF.out, HS.out, by omega, by rw [HL.out, if_pos h2] <;> rfl, HG.out⟩
    · go_enter Tryz.func141, Tryz.ntmps141
      go_wp2
      go_ret
      exact ⟨_, _, HF.out, HS.out, by omega, by rw [HL.out, if_neg h2] <;> rfl, HG.out⟩
set_option maxHeartbeats 8000000 in
set_option maxRecDepth 100000 in
theorem do7_any (b n : Nat) (f : Tb) (key tt old new : ByteArray) (w : World) (h : StrMap w b n f) (hn : n ≤ 1000000) (s1 : key.size ≤ 2097152) (_s2 : tt.size ≤ 2097152) (_s3 : old.size ≤ 2097152) (s4 : new.size ≤ 2097152) :
    Calls Tryz.prog 141 #[.map (some b), .agg #[.int .i64 7, .string key, .string tt, .string old, .string new]] w fun e w' => ∃ F m, doF ⟨7, bs key, bs tt, bs old, bs new⟩ f = F ∧ StrMap w' b m F ∧ m ≤ n + 2 ∧ e = .returned (.int .i64 (if 2000 < (keysOf F).length then 4 else 0)) ∧ w.grownBy w' (some b) := by
  have hlt := h.lt
  have b0 := Blk.new w 23 #[.int .i64 7, .string key, .string tt, .string old, .string new]
  have c0 := b0.cell; have f0 := b0.free; have z0 := b0.lt
  have h0 := h.ext ((Ext.refl w).alloc (.cells #[.int .i64 7, .string key, .string tt, .string old, .string new] 23))
  have hg0 : w.grownBy (w.alloc (.cells #[.int .i64 7, .string key, .string tt, .string old, .string new] 23)) (some b) := ((Ext.refl w).alloc _).by _
  have hlook := h0.look (t := 179) Tryz.underlying179 key s1
  cases hf : f (bs key) with
  | none =>
    rw [hf] at hlook
    simp only [Option.isSome_none, Option.getD_none] at hlook
    have HF := Lib.hid (show doF ⟨7, bs key, bs tt, bs old, bs new⟩ f = f from by rw [doF, if_neg (by dsimp only; decide), if_neg (by dsimp only; decide), if_neg (by dsimp only; decide), if_neg (by dsimp only; decide), if_neg (by dsimp only; decide), if_neg (by dsimp only; decide)]; dsimp only; rw [hf])
    have hlen := h0.len (t := 179) Tryz.underlying179 3
    obtain ⟨L, hL⟩ : ∃ L, (keysOf (f)).length = L := ⟨_, rfl⟩
    rw [hL] at hlen
    have HL := Lib.hid hL
    have HS := Lib.hid h0
    have HG := Lib.hid hg0
    clear hL
    by_cases h2 : 2000 < L
    · go_enter Tryz.func141, Tryz.ntmps141
      go_wp2
      go_ret
      exact ⟨_, _, HF.out, HS.out, by omega, by rw [HL.out, if_pos h2] <;> rfl, HG.out⟩
    · go_enter Tryz.func141, Tryz.ntmps141
      go_wp2
      go_ret
      exact ⟨_, _, HF.out, HS.out, by omega, by rw [HL.out, if_neg h2] <;> rfl, HG.out⟩
  | some v =>
    obtain ⟨ub, rfl⟩ : ∃ ub : ByteArray, v = bs ub := ⟨⟨v.toArray⟩, (bs_mk v).symm⟩
    rw [hf] at hlook
    simp only [Option.isSome_some, Option.getD_some, S_bs] at hlook
    by_cases e1 : ub = old
    · have e2 : (ub.toList == old.toList) = true := by rw [e1, beq_iff_eq]
      have HF := Lib.hid (show doF ⟨7, bs key, bs tt, bs old, bs new⟩ f = setT f (bs key) (bs new) from by rw [doF, if_neg (by dsimp only; decide), if_neg (by dsimp only; decide), if_neg (by dsimp only; decide), if_neg (by dsimp only; decide), if_neg (by dsimp only; decide), if_neg (by dsimp only; decide)]; dsimp only; rw [hf]; dsimp only; rw [if_pos (congrArg bs e1)])
      obtain ⟨w1, hr1, h1, hg1⟩ := h0.setS (t := 179) Tryz.underlying179 key new s1 s4 (by omega)
      have b1 := b0.turned hg1 (by simp; omega)
      have c1 := b1.cell; have f1 := b1.free; have z1 := b1.lt
      have hgw1 := hg0.andThen hg1 (fun _ e => .inr e)
      have hlen := h1.len (t := 179) Tryz.underlying179 3
      obtain ⟨L, hL⟩ : ∃ L, (keysOf (setT f (bs key) (bs new))).length = L := ⟨_, rfl⟩
      rw [hL] at hlen
      have HL := Lib.hid hL
      have HS := Lib.hid h1
      have HG := Lib.hid hgw1
      clear hL
      by_cases h2 : 2000 < L
      · go_enter Tryz.func141, Tryz.ntmps141
        go_wp2
        go_ret
        exact ⟨_, _, HF.out, HS.out, by omega, by rw [HL.out, if_pos h2] <;> rfl, HG.out⟩
      · go_enter Tryz.func141, Tryz.ntmps141
        go_wp2
        go_ret
        exact ⟨_, _, HF.out, HS.out, by omega, by rw [HL.out, if_neg h2] <;> rfl, HG.out⟩
    have e2 : (ub.toList == old.toList) = false := beq_eq_false_iff_ne.2 (by rw [ne_eq, str_eq]; exact e1)
    cases e3 : (ub.toList == new.toList)
    all_goals
      have HF := Lib.hid (show doF ⟨7, bs key, bs tt, bs old, bs new⟩ f = f from by rw [doF, if_neg (by dsimp only; decide), if_neg (by dsimp only; decide), if_neg (by dsimp only; decide), if_neg (by dsimp only; decide), if_neg (by dsimp only; decide), if_neg (by dsimp only; decide)]; dsimp only; rw [hf]; dsimp only; rw [if_neg (fun e => e1 (bs_inj e)), if_neg (fun e => absurd e.2 (by decide))])
      have hlen := h0.len (t := 179) Tryz.underlying179 3
      obtain ⟨L, hL⟩ : ∃ L, (keysOf (f)).length = L := ⟨_, rfl⟩
      rw [hL] at hlen
      have HL := Lib.hid hL
      have HS := Lib.hid h0
      have HG := Lib.hid hg0
      clear hL
      by_cases h2 : 2000 < L
      · go_enter Tryz.func141, Tryz.ntmps141
        go_wp2
        go_ret
        exact ⟨_, _, HF.out, HS.out, by omega, by rw [HL.out, if_pos h2] <;> rfl, HG.out⟩
      · go_enter Tryz.func141, Tryz.ntmps141
        go_wp2
        go_ret
        exact ⟨_, _, HF.out, HS.out, by omega, by rw [HL.out, if_neg h2] <;> rfl, HG.out⟩
set_option maxHeartbeats 8000000 in
set_option maxRecDepth 100000 in
theorem do8_any (b n : Nat) (f : Tb) (key tt old new : ByteArray) (w : World) (h : StrMap w b n f) (hn : n ≤ 1000000) (s1 : key.size ≤ 2097152) (_s2 : tt.size ≤ 2097152) (s3 : old.size ≤ 2097152) (s4 : new.size ≤ 2097152) :
    Calls Tryz.prog 141 #[.map (some b), .agg #[.int .i64 8, .string key, .string tt, .string old, .string new]] w fun e w' => ∃ F m, doF ⟨8, bs key, bs tt, bs old, bs new⟩ f = F ∧ StrMap w' b m F ∧ m ≤ n + 2 ∧ e = .returned (.int .i64 (if 2000 < (keysOf F).length then 4 else 0)) ∧ w.grownBy w' (some b) := by
  have hlt := h.lt
  have b0 := Blk.new w 23 #[.int .i64 8, .string key, .string tt, .string old, .string new]
  have c0 := b0.cell; have f0 := b0.free; have z0 := b0.lt
  have h0 := h.ext ((Ext.refl w).alloc (.cells #[.int .i64 8, .string key, .string tt, .string old, .string new] 23))
  have hg0 : w.grownBy (w.alloc (.cells #[.int .i64 8, .string key, .string tt, .string old, .string new] 23)) (some b) := ((Ext.refl w).alloc _).by _
  have hlook := h0.look (t := 179) Tryz.underlying179 key s1
  cases hf : f (bs key) with
  | none =>
    rw [hf] at hlook
    simp only [Option.isSome_none, Option.getD_none] at hlook
    have HF := Lib.hid (show doF ⟨8, bs key, bs tt, bs old, bs new⟩ f = f from by rw [doF, if_neg (by dsimp only; decide), if_neg (by dsimp only; decide), if_neg (by dsimp only; decide), if_neg (by dsimp only; decide), if_neg (by dsimp only; decide), if_neg (by dsimp only; decide)]; dsimp only; rw [hf])
    have hlen := h0.len (t := 179) Tryz.underlying179 3
    obtain ⟨L, hL⟩ : ∃ L, (keysOf (f)).length = L := ⟨_, rfl⟩
    rw [hL] at hlen
    have HL := Lib.hid hL
    have HS := Lib.hid h0
    have HG := Lib.hid hg0
    clear hL
    by_cases h2 : 2000 < L
    · go_enter Tryz.func141, Tryz.ntmps141
      go_wp2
      go_ret
      exact ⟨_, _, HF.out, HS.out, by omega, by rw [HL.out, if_pos h2] <;> rfl, HG.out⟩
    · go_enter Tryz.func141, Tryz.ntmps141
      go_wp2
      go_ret
      exact ⟨_, _, HF.out, HS.out, by omega, by rw [HL.out, if_neg h2] <;> rfl, HG.out⟩
  | some v =>
    obtain ⟨ub, rfl⟩ : ∃ ub : ByteArray, v = bs ub := ⟨⟨v.toArray⟩, (bs_mk v).symm⟩
    rw [hf] at hlook
    simp only [Option.isSome_some, Option.getD_some, S_bs] at hlook
    by_cases e1 : ub = old
    · have e2 : (ub.toList == old.toList) = true := by rw [e1, beq_iff_eq]
      have HF := Lib.hid (show doF ⟨8, bs key, bs tt, bs old, bs new⟩ f = setT f (bs key) (bs new) from by rw [doF, if_neg (by dsimp only; decide), if_neg (by dsimp only; decide), if_neg (by dsimp only; decide), if_neg (by dsimp only; decide), if_neg (by dsimp only; decide), if_neg (by dsimp only; decide)]; dsimp only; rw [hf]; dsimp only; rw [if_pos (congrArg bs e1)])
      obtain ⟨w1, hr1, h1, hg1⟩ := h0.setS (t := 179) Tryz.underlying179 key new s1 s4 (by omega)
      have b1 := b0.turned hg1 (by simp; omega)
      have c1 := b1.cell; have f1 := b1.free; have z1 := b1.lt
      have hgw1 := hg0.andThen hg1 (fun _ e => .inr e)
      have hlen := h1.len (t := 179) Tryz.underlying179 3
      obtain ⟨L, hL⟩ : ∃ L, (keysOf (setT f (bs key) (bs new))).length = L := ⟨_, rfl⟩
      rw [hL] at hlen
      have HL := Lib.hid hL
      have HS := Lib.hid h1
      have HG := Lib.hid hgw1
      clear hL
      by_cases h2 : 2000 < L
      · go_enter Tryz.func141, Tryz.ntmps141
        go_wp2
        go_ret
        exact ⟨_, _, HF.out, HS.out, by omega, by rw [HL.out, if_pos h2] <;> rfl, HG.out⟩
      · go_enter Tryz.func141, Tryz.ntmps141
        go_wp2
        go_ret
        exact ⟨_, _, HF.out, HS.out, by omega, by rw [HL.out, if_neg h2] <;> rfl, HG.out⟩
    have e2 : (ub.toList == old.toList) = false := beq_eq_false_iff_ne.2 (by rw [ne_eq, str_eq]; exact e1)
    by_cases e3 : ub = new
    · have e4 : (ub.toList == new.toList) = true := by rw [e3, beq_iff_eq]
      have HF := Lib.hid (show doF ⟨8, bs key, bs tt, bs old, bs new⟩ f = setT f (bs key) (bs old) from by rw [doF, if_neg (by dsimp only; decide), if_neg (by dsimp only; decide), if_neg (by dsimp only; decide), if_neg (by dsimp only; decide), if_neg (by dsimp only; decide), if_neg (by dsimp only; decide)]; dsimp only; rw [hf]; dsimp only; rw [if_neg (fun e => e1 (bs_inj e)), if_pos ⟨congrArg bs e3, rfl⟩])
      clear e3
      obtain ⟨w1, hr1, h1, hg1⟩ := h0.setS (t := 179) Tryz.underlying179 key old s1 s3 (by omega)
      have b1 := b0.turned hg1 (by simp; omega)
      have c1 := b1.cell; have f1 := b1.free; have z1 := b1.lt
      have hgw1 := hg0.andThen hg1 (fun _ e => .inr e)
      have hlen := h1.len (t := 179) Tryz.underlying179 3
      obtain ⟨L, hL⟩ : ∃ L, (keysOf (setT f (bs key) (bs old))).length = L := ⟨_, rfl⟩
      rw [hL] at hlen
      have HL := Lib.hid hL
      have HS := Lib.hid h1
      have HG := Lib.hid hgw1
      clear hL
      by_cases h2 : 2000 < L
      · go_enter Tryz.func141, Tryz.ntmps141
        go_wp2
        go_ret
        exact ⟨_, _, HF.out, HS.out, by omega, by rw [HL.out, if_pos h2] <;> rfl, HG.out⟩
      · go_enter Tryz.func141, Tryz.ntmps141
        go_wp2
        go_ret
        exact ⟨_, _, HF.out, HS.out, by omega, by rw [HL.out, if_neg h2] <;> rfl, HG.out⟩
    have e4 : (ub.toList == new.toList) = false := beq_eq_false_iff_ne.2 (by rw [ne_eq, str_eq]; exact e3)
    have HF := Lib.hid (show doF ⟨8, bs key, bs tt, bs old, bs new⟩ f = f from by rw [doF, if_neg (by dsimp only; decide), if_neg (by dsimp only; decide), if_neg (by dsimp only; decide), if_neg (by dsimp only; decide), if_neg (by dsimp only; decide), if_neg (by dsimp only; decide)]; dsimp only; rw [hf]; dsimp only; rw [if_neg (fun e => e1 (bs_inj e)), if_neg (fun e => e3 (bs_inj e.1))])
    have hlen := h0.len (t := 179) Tryz.underlying179 3
    obtain ⟨L, hL⟩ : ∃ L, (keysOf (f)).length = L := ⟨_, rfl⟩
    rw [hL] at hlen
    have HL := Lib.hid hL
    have HS := Lib.hid h0
    have HG := Lib.hid hg0
    clear hL
    by_cases h2 : 2000 < L
    · go_enter Tryz.func141, Tryz.ntmps141
      go_wp2
      go_ret
      exact ⟨_, _, HF.out, HS.out, by omega, by rw [HL.out, if_pos h2] <;> rfl, HG.out⟩
    · go_enter Tryz.func141, Tryz.ntmps141
      go_wp2
      go_ret
      exact ⟨_, _, HF.out, HS.out, by omega, by rw [HL.out, if_neg h2] <;> rfl, HG.out⟩
end Go.Proofs.YtghhjlcbcojcnaaGreatDoor
