/- outref2.one, but for the kind 2. (Printed by gen/tabc.py.) Contract of migrate.table.prefix. -/
import Derived.Test.YtghhjlcbcojcnaaGreatDoorMt26
import Derived.Test.YtghhjlcbcojcnaaGreatDoorMt14
import Derived.Test.YtghhjlcbcojcnaaGreatDoorMt02

namespace Go.Proofs.YtghhjlcbcojcnaaGreatDoor
open Go.RowKit

set_option maxHeartbeats 8000000 in
set_option maxRecDepth 100000 in
theorem one1_any (b n : Nat) (f : Tb) (key tt old new : ByteArray) (w : World) (h : StrMap w b n f) (hv : ∀ x v, f x = some v → v.length ≤ 2097152) (hn : n ≤ 1000000) (s1 : key.size ≤ 2097152) (s2 : tt.size ≤ 2097152) (_s3 : old.size ≤ 2097152) (_s4 : new.size ≤ 2097152) :
    Calls Tryz.prog 148 #[.map (some b), .agg #[.int .i64 1, .string key, .string tt, .string old, .string new]] w fun e w' => e = .returned (.tuple #[]) ∧ ∃ F m, doF ⟨1, bs key, bs tt, bs old, bs new⟩ f = F ∧ StrMap w' b m F ∧ m ≤ n + 2 ∧ w.grownBy w' (some b) := by
  have hlt := h.lt
  have b0 := Blk.new w 23 #[.int .i64 1, .string key, .string tt, .string old, .string new]
  have c0 := b0.cell; have f0 := b0.free; have z0 := b0.lt
  have h0 := h.ext ((Ext.refl w).alloc (.cells #[.int .i64 1, .string key, .string tt, .string old, .string new] 23))
  have hg0 : w.grownBy (w.alloc (.cells #[.int .i64 1, .string key, .string tt, .string old, .string new] 23)) (some b) := ((Ext.refl w).alloc _).by _
  have hlook := h0.look (t := 178) Tryz.underlying178 key s1
  cases hf : f (bs key) with
  | none =>
    rw [hf] at hlook
    simp only [Option.isSome_none, Option.getD_none] at hlook
    have HF := Lib.hid (show doF ⟨1, bs key, bs tt, bs old, bs new⟩ f = f from by rw [doF, if_pos rfl]; dsimp only; rw [hf])
    have HS := Lib.hid h0
    have HG := Lib.hid hg0
    go_enter Tryz.func148, Tryz.ntmps148
    go_wp2
    go_end0
    exact ⟨rfl, _, _, HF.out, HS.out, by omega, HG.out⟩
  | some v =>
    obtain ⟨ub, rfl⟩ : ∃ ub : ByteArray, v = bs ub := ⟨⟨v.toArray⟩, (bs_mk v).symm⟩
    rw [hf] at hlook
    simp only [Option.isSome_some, Option.getD_some, S_bs] at hlook
    have hub : ub.size ≤ 2097152 := by rw [← bs_length]; exact hv _ _ hf
    have HF := Lib.hid (show doF ⟨1, bs key, bs tt, bs old, bs new⟩ f = setT (delT f (bs key)) (bs tt) (bs ub) from by rw [doF, if_pos rfl]; dsimp only; rw [hf])
    obtain ⟨w1, hr1, h1, hg1⟩ := h0.delS (t := 178) Tryz.underlying178 key s1 0
    have b1 := b0.turned hg1 (by simp; omega)
    have c1 := b1.cell; have f1 := b1.free; have z1 := b1.lt
    have hgw1 := hg0.andThen hg1 (fun _ e => .inr e)
    obtain ⟨w2, hr2, h2, hg2⟩ := h1.setS (t := 178) Tryz.underlying178 tt ub s2 hub (by omega)
    have b2 := b1.turned hg2 (by simp; omega)
    have c2 := b2.cell; have f2 := b2.free; have z2 := b2.lt
    have hgw2 := hgw1.andThen hg2 (fun _ e => .inr e)
    have HS := Lib.hid h2
    have HG := Lib.hid hgw2
    go_enter Tryz.func148, Tryz.ntmps148
    go_wp2
    go_end0
    exact ⟨rfl, _, _, HF.out, HS.out, by omega, HG.out⟩
set_option maxHeartbeats 8000000 in
set_option maxRecDepth 100000 in
theorem one3_any (b n : Nat) (f : Tb) (key tt old new : ByteArray) (w : World) (h : StrMap w b n f) (hv : ∀ x v, f x = some v → v.length ≤ 2097152) (hn : n ≤ 1000000) (s1 : key.size ≤ 2097152) (s2 : tt.size ≤ 2097152) (_s3 : old.size ≤ 2097152) (_s4 : new.size ≤ 2097152) :
    Calls Tryz.prog 148 #[.map (some b), .agg #[.int .i64 3, .string key, .string tt, .string old, .string new]] w fun e w' => e = .returned (.tuple #[]) ∧ ∃ F m, doF ⟨3, bs key, bs tt, bs old, bs new⟩ f = F ∧ StrMap w' b m F ∧ m ≤ n + 2 ∧ w.grownBy w' (some b) := by
  have hlt := h.lt
  have b0 := Blk.new w 23 #[.int .i64 3, .string key, .string tt, .string old, .string new]
  have c0 := b0.cell; have f0 := b0.free; have z0 := b0.lt
  have h0 := h.ext ((Ext.refl w).alloc (.cells #[.int .i64 3, .string key, .string tt, .string old, .string new] 23))
  have hg0 : w.grownBy (w.alloc (.cells #[.int .i64 3, .string key, .string tt, .string old, .string new] 23)) (some b) := ((Ext.refl w).alloc _).by _
  have hlook := h0.look (t := 178) Tryz.underlying178 key s1
  cases hf : f (bs key) with
  | none =>
    rw [hf] at hlook
    simp only [Option.isSome_none, Option.getD_none] at hlook
    have HF := Lib.hid (show doF ⟨3, bs key, bs tt, bs old, bs new⟩ f = f from by rw [doF, if_neg (by dsimp only; decide), if_neg (by dsimp only; decide), if_pos rfl]; dsimp only; rw [hf])
    have HS := Lib.hid h0
    have HG := Lib.hid hg0
    go_enter Tryz.func148, Tryz.ntmps148
    go_wp2
    go_end0
    exact ⟨rfl, _, _, HF.out, HS.out, by omega, HG.out⟩
  | some v =>
    obtain ⟨ub, rfl⟩ : ∃ ub : ByteArray, v = bs ub := ⟨⟨v.toArray⟩, (bs_mk v).symm⟩
    rw [hf] at hlook
    simp only [Option.isSome_some, Option.getD_some, S_bs] at hlook
    have hub : ub.size ≤ 2097152 := by rw [← bs_length]; exact hv _ _ hf
    have HF := Lib.hid (show doF ⟨3, bs key, bs tt, bs old, bs new⟩ f = setT f (bs tt) (bs ub) from by rw [doF, if_neg (by dsimp only; decide), if_neg (by dsimp only; decide), if_pos rfl]; dsimp only; rw [hf])
    obtain ⟨w1, hr1, h1, hg1⟩ := h0.setS (t := 178) Tryz.underlying178 tt ub s2 hub (by omega)
    have b1 := b0.turned hg1 (by simp; omega)
    have c1 := b1.cell; have f1 := b1.free; have z1 := b1.lt
    have hgw1 := hg0.andThen hg1 (fun _ e => .inr e)
    have HS := Lib.hid h1
    have HG := Lib.hid hgw1
    go_enter Tryz.func148, Tryz.ntmps148
    go_wp2
    go_end0
    exact ⟨rfl, _, _, HF.out, HS.out, by omega, HG.out⟩
set_option maxHeartbeats 8000000 in
set_option maxRecDepth 100000 in
theorem one4_any (b n : Nat) (f : Tb) (key tt old new : ByteArray) (w : World) (h : StrMap w b n f) (hn : n ≤ 1000000) (s1 : key.size ≤ 2097152) (_s2 : tt.size ≤ 2097152) (_s3 : old.size ≤ 2097152) (s4 : new.size ≤ 2097152) :
    Calls Tryz.prog 148 #[.map (some b), .agg #[.int .i64 4, .string key, .string tt, .string old, .string new]] w fun e w' => e = .returned (.tuple #[]) ∧ ∃ F m, doF ⟨4, bs key, bs tt, bs old, bs new⟩ f = F ∧ StrMap w' b m F ∧ m ≤ n + 2 ∧ w.grownBy w' (some b) := by
  have hlt := h.lt
  have b0 := Blk.new w 23 #[.int .i64 4, .string key, .string tt, .string old, .string new]
  have c0 := b0.cell; have f0 := b0.free; have z0 := b0.lt
  have h0 := h.ext ((Ext.refl w).alloc (.cells #[.int .i64 4, .string key, .string tt, .string old, .string new] 23))
  have hg0 : w.grownBy (w.alloc (.cells #[.int .i64 4, .string key, .string tt, .string old, .string new] 23)) (some b) := ((Ext.refl w).alloc _).by _
  have hlook := h0.look (t := 178) Tryz.underlying178 key s1
  generalize (f (bs key)).isSome = I at hlook
  generalize (f (bs key)).getD [] = V at hlook
  cases I
  all_goals
    have HF := Lib.hid (show doF ⟨4, bs key, bs tt, bs old, bs new⟩ f = setT f (bs key) (bs new) from by rw [doF, if_neg (by dsimp only; decide), if_neg (by dsimp only; decide), if_neg (by dsimp only; decide), if_pos rfl])
    obtain ⟨w1, hr1, h1, hg1⟩ := h0.setS (t := 178) Tryz.underlying178 key new s1 s4 (by omega)
    have b1 := b0.turned hg1 (by simp; omega)
    have c1 := b1.cell; have f1 := b1.free; have z1 := b1.lt
    have hgw1 := hg0.andThen hg1 (fun _ e => .inr e)
    have HS := Lib.hid h1
    have HG := Lib.hid hgw1
    go_enter Tryz.func148, Tryz.ntmps148
    go_wp2
    go_end0
    exact ⟨rfl, _, _, HF.out, HS.out, by omega, HG.out⟩
set_option maxHeartbeats 8000000 in
set_option maxRecDepth 100000 in
theorem one5_any (b n : Nat) (f : Tb) (key tt old new : ByteArray) (w : World) (h : StrMap w b n f) (hn : n ≤ 1000000) (s1 : key.size ≤ 2097152) (_s2 : tt.size ≤ 2097152) (_s3 : old.size ≤ 2097152) (s4 : new.size ≤ 2097152) :
    Calls Tryz.prog 148 #[.map (some b), .agg #[.int .i64 5, .string key, .string tt, .string old, .string new]] w fun e w' => e = .returned (.tuple #[]) ∧ ∃ F m, doF ⟨5, bs key, bs tt, bs old, bs new⟩ f = F ∧ StrMap w' b m F ∧ m ≤ n + 2 ∧ w.grownBy w' (some b) := by
  have hlt := h.lt
  have b0 := Blk.new w 23 #[.int .i64 5, .string key, .string tt, .string old, .string new]
  have c0 := b0.cell; have f0 := b0.free; have z0 := b0.lt
  have h0 := h.ext ((Ext.refl w).alloc (.cells #[.int .i64 5, .string key, .string tt, .string old, .string new] 23))
  have hg0 : w.grownBy (w.alloc (.cells #[.int .i64 5, .string key, .string tt, .string old, .string new] 23)) (some b) := ((Ext.refl w).alloc _).by _
  have hlook := h0.look (t := 178) Tryz.underlying178 key s1
  cases hf : f (bs key) with
  | none =>
    rw [hf] at hlook
    simp only [Option.isSome_none, Option.getD_none] at hlook
    have HF := Lib.hid (show doF ⟨5, bs key, bs tt, bs old, bs new⟩ f = setT f (bs key) (bs new) from by rw [doF, if_neg (by dsimp only; decide), if_neg (by dsimp only; decide), if_neg (by dsimp only; decide), if_neg (by dsimp only; decide), if_pos rfl]; dsimp only; rw [hf])
    obtain ⟨w1, hr1, h1, hg1⟩ := h0.setS (t := 178) Tryz.underlying178 key new s1 s4 (by omega)
    have b1 := b0.turned hg1 (by simp; omega)
    have c1 := b1.cell; have f1 := b1.free; have z1 := b1.lt
    have hgw1 := hg0.andThen hg1 (fun _ e => .inr e)
    have HS := Lib.hid h1
    have HG := Lib.hid hgw1
    go_enter Tryz.func148, Tryz.ntmps148
    go_wp2
    go_end0
    exact ⟨rfl, _, _, HF.out, HS.out, by omega, HG.out⟩
  | some v =>
    obtain ⟨ub, rfl⟩ : ∃ ub : ByteArray, v = bs ub := ⟨⟨v.toArray⟩, (bs_mk v).symm⟩
    rw [hf] at hlook
    simp only [Option.isSome_some, Option.getD_some, S_bs] at hlook
    have HF := Lib.hid (show doF ⟨5, bs key, bs tt, bs old, bs new⟩ f = f from by rw [doF, if_neg (by dsimp only; decide), if_neg (by dsimp only; decide), if_neg (by dsimp only; decide), if_neg (by dsimp only; decide), if_pos rfl]; dsimp only; rw [hf])
    have HS := Lib.hid h0
    have HG := Lib.hid hg0
    go_enter Tryz.func148, Tryz.ntmps148
    go_wp2
    go_end0
    exact ⟨rfl, _, _, HF.out, HS.out, by omega, HG.out⟩
set_option maxHeartbeats 8000000 in
set_option maxRecDepth 100000 in
theorem one6_any (b n : Nat) (f : Tb) (key tt old new : ByteArray) (w : World) (h : StrMap w b n f) (_hn : n ≤ 1000000) (s1 : key.size ≤ 2097152) (_s2 : tt.size ≤ 2097152) (_s3 : old.size ≤ 2097152) (_s4 : new.size ≤ 2097152) :
    Calls Tryz.prog 148 #[.map (some b), .agg #[.int .i64 6, .string key, .string tt, .string old, .string new]] w fun e w' => e = .returned (.tuple #[]) ∧ ∃ F m, doF ⟨6, bs key, bs tt, bs old, bs new⟩ f = F ∧ StrMap w' b m F ∧ m ≤ n + 2 ∧ w.grownBy w' (some b) := by
  have hlt := h.lt
  have b0 := Blk.new w 23 #[.int .i64 6, .string key, .string tt, .string old, .string new]
  have c0 := b0.cell; have f0 := b0.free; have z0 := b0.lt
  have h0 := h.ext ((Ext.refl w).alloc (.cells #[.int .i64 6, .string key, .string tt, .string old, .string new] 23))
  have hg0 : w.grownBy (w.alloc (.cells #[.int .i64 6, .string key, .string tt, .string old, .string new] 23)) (some b) := ((Ext.refl w).alloc _).by _
  have hlook := h0.look (t := 178) Tryz.underlying178 key s1
  generalize (f (bs key)).isSome = I at hlook
  generalize (f (bs key)).getD [] = V at hlook
  cases I
  all_goals
    have HF := Lib.hid (show doF ⟨6, bs key, bs tt, bs old, bs new⟩ f = delT f (bs key) from by rw [doF, if_neg (by dsimp only; decide), if_neg (by dsimp only; decide), if_neg (by dsimp only; decide), if_neg (by dsimp only; decide), if_neg (by dsimp only; decide), if_pos rfl])
    obtain ⟨w1, hr1, h1, hg1⟩ := h0.delS (t := 178) Tryz.underlying178 key s1 0
    have b1 := b0.turned hg1 (by simp; omega)
    have c1 := b1.cell; have f1 := b1.free; have z1 := b1.lt
    have hgw1 := hg0.andThen hg1 (fun _ e => .inr e)
    have HS := Lib.hid h1
    have HG := Lib.hid hgw1
    go_enter Tryz.func148, Tryz.ntmps148
    go_wp2
    go_end0
    exact ⟨rfl, _, _, HF.out, HS.out, by omega, HG.out⟩
set_option maxHeartbeats 8000000 in
set_option maxRecDepth 100000 in
theorem one7_any (b n : Nat) (f : Tb) (key tt old new : ByteArray) (w : World) (h : StrMap w b n f) (hn : n ≤ 1000000) (s1 : key.size ≤ 2097152) (_s2 : tt.size ≤ 2097152) (_s3 : old.size ≤ 2097152) (s4 : new.size ≤ 2097152) :
    Calls Tryz.prog 148 #[.map (some b), .agg #[.int .i64 7, .string key, .string tt, .string old, .string new]] w fun e w' => e = .returned (.tuple #[]) ∧ ∃ F m, doF ⟨7, bs key, bs tt, bs old, bs new⟩ f = F ∧ StrMap w' b m F ∧ m ≤ n + 2 ∧ w.grownBy w' (some b) := by
  have hlt := h.lt
  have b0 := Blk.new w 23 #[.int .i64 7, .string key, .string tt, .string old, .string new]
  have c0 := b0.cell; have f0 := b0.free; have z0 := b0.lt
  have h0 := h.ext ((Ext.refl w).alloc (.cells #[.int .i64 7, .string key, .string tt, .string old, .string new] 23))
  have hg0 : w.grownBy (w.alloc (.cells #[.int .i64 7, .string key, .string tt, .string old, .string new] 23)) (some b) := ((Ext.refl w).alloc _).by _
  have hlook := h0.look (t := 178) Tryz.underlying178 key s1
  cases hf : f (bs key) with
  | none =>
    rw [hf] at hlook
    simp only [Option.isSome_none, Option.getD_none] at hlook
    have HF := Lib.hid (show doF ⟨7, bs key, bs tt, bs old, bs new⟩ f = f from by rw [doF, if_neg (by dsimp only; decide), if_neg (by dsimp only; decide), if_neg (by dsimp only; decide), if_neg (by dsimp only; decide), if_neg (by dsimp only; decide), if_neg (by dsimp only; decide)]; dsimp only; rw [hf])
    have HS := Lib.hid h0
    have HG := Lib.hid hg0
    go_enter Tryz.func148, Tryz.ntmps148
    go_wp2
    go_end0
    exact ⟨rfl, _, _, HF.out, HS.out, by omega, HG.out⟩
  | some v =>
    obtain ⟨ub, rfl⟩ : ∃ ub : ByteArray, v = bs ub := ⟨⟨v.toArray⟩, (bs_mk v).symm⟩
    rw [hf] at hlook
    simp only [Option.isSome_some, Option.getD_some, S_bs] at hlook
    by_cases e1 : ub = old
    · have e2 : (ub.toList == old.toList) = true := by rw [e1, beq_iff_eq]
      have HF := Lib.hid (show doF ⟨7, bs key, bs tt, bs old, bs new⟩ f = setT f (bs key) (bs new) from by rw [doF, if_neg (by dsimp only; decide), if_neg (by dsimp only; decide), if_neg (by dsimp only; decide), if_neg (by dsimp only; decide), if_neg (by dsimp only; decide), if_neg (by dsimp only; decide)]; dsimp only; rw [hf]; dsimp only; rw [if_pos (congrArg bs e1)])
      obtain ⟨w1, hr1, h1, hg1⟩ := h0.setS (t := 178) Tryz.underlying178 key new s1 s4 (by omega)
      have b1 := b0.turned hg1 (by simp; omega)
      have c1 := b1.cell; have f1 := b1.free; have z1 := b1.lt
      have hgw1 := hg0.andThen hg1 (fun _ e => .inr e)
      have HS := Lib.hid h1
      have HG := Lib.hid hgw1
      go_enter Tryz.func148, Tryz.ntmps148
      go_wp2
      go_end0
      exact ⟨rfl, _, _, HF.out, HS.out, by omega, HG.out⟩
    have e2 : (ub.toList == old.toList) = false := beq_eq_false_iff_ne.2 (by rw [ne_eq, str_eq]; exact e1)
    cases e3 : (ub.toList == new.toList)
    all_goals
      have HF := Lib.hid (show doF ⟨7, bs key, bs tt, bs old, bs new⟩ f = f from by rw [doF, if_neg (by dsimp only; decide), if_neg (by dsimp only; decide), if_neg (by dsimp only; decide), if_neg (by dsimp only; decide), if_neg (by dsimp only; decide), if_neg (by dsimp only; decide)]; dsimp only; rw [hf]; dsimp only; rw [if_neg (fun e => e1 (bs_inj e)), if_neg (fun e => absurd e.2 (by decide))])
      have HS := Lib.hid h0
      have HG := Lib.hid hg0
      go_enter Tryz.func148, Tryz.ntmps148
      go_wp2
      go_end0
      exact ⟨rfl, _, _, HF.out, HS.out, by omega, HG.out⟩
set_option maxHeartbeats 8000000 in
set_option maxRecDepth 100000 in
theorem one8_any (b n : Nat) (f : Tb) (key tt old new : ByteArray) (w : World) (h : StrMap w b n f) (hn : n ≤ 1000000) (s1 : key.size ≤ 2097152) (_s2 : tt.size ≤ 2097152) (s3 : old.size ≤ 2097152) (s4 : new.size ≤ 2097152) :
    Calls Tryz.prog 148 #[.map (some b), .agg #[.int .i64 8, .string key, .string tt, .string old, .string new]] w fun e w' => e = .returned (.tuple #[]) ∧ ∃ F m, doF ⟨8, bs key, bs tt, bs old, bs new⟩ f = F ∧ StrMap w' b m F ∧ m ≤ n + 2 ∧ w.grownBy w' (some b) := by
  have hlt := h.lt
  have b0 := Blk.new w 23 #[.int .i64 8, .string key, .string tt, .string old, .string new]
  have c0 := b0.cell; have f0 := b0.free; have z0 := b0.lt
  have h0 := h.ext ((Ext.refl w).alloc (.cells #[.int .i64 8, .string key, .string tt, .string old, .string new] 23))
  have hg0 : w.grownBy (w.alloc (.cells #[.int .i64 8, .string key, .string tt, .string old, .string new] 23)) (some b) := ((Ext.refl w).alloc _).by _
  have hlook := h0.look (t := 178) Tryz.underlying178 key s1
  cases hf : f (bs key) with
  | none =>
    rw [hf] at hlook
    simp only [Option.isSome_none, Option.getD_none] at hlook
    have HF := Lib.hid (show doF ⟨8, bs key, bs tt, bs old, bs new⟩ f = f from by rw [doF, if_neg (by dsimp only; decide), if_neg (by dsimp only; decide), if_neg (by dsimp only; decide), if_neg (by dsimp only; decide), if_neg (by dsimp only; decide), if_neg (by dsimp only; decide)]; dsimp only; rw [hf])
    have HS := Lib.hid h0
    have HG := Lib.hid hg0
    go_enter Tryz.func148, Tryz.ntmps148
    go_wp2
    go_end0
    exact ⟨rfl, _, _, HF.out, HS.out, by omega, HG.out⟩
  | some v =>
    obtain ⟨ub, rfl⟩ : ∃ ub : ByteArray, v = bs ub := ⟨⟨v.toArray⟩, (bs_mk v).symm⟩
    rw [hf] at hlook
    simp only [Option.isSome_some, Option.getD_some, S_bs] at hlook
    by_cases e1 : ub = old
    · have e2 : (ub.toList == old.toList) = true := by rw [e1, beq_iff_eq]
      have HF := Lib.hid (show doF ⟨8, bs key, bs tt, bs old, bs new⟩ f = setT f (bs key) (bs new) from by rw [doF, if_neg (by dsimp only; decide), if_neg (by dsimp only; decide), if_neg (by dsimp only; decide), if_neg (by dsimp only; decide), if_neg (by dsimp only; decide), if_neg (by dsimp only; decide)]; dsimp only; rw [hf]; dsimp only; rw [if_pos (congrArg bs e1)])
      obtain ⟨w1, hr1, h1, hg1⟩ := h0.setS (t := 178) Tryz.underlying178 key new s1 s4 (by omega)
      have b1 := b0.turned hg1 (by simp; omega)
      have c1 := b1.cell; have f1 := b1.free; have z1 := b1.lt
      have hgw1 := hg0.andThen hg1 (fun _ e => .inr e)
      have HS := Lib.hid h1
      have HG := Lib.hid hgw1
      go_enter Tryz.func148, Tryz.ntmps148
      go_wp2
      go_end0
      exact ⟨rfl, _, _, HF.out, HS.out, by omega, HG.out⟩
    have e2 : (ub.toList == old.toList) = false := beq_eq_false_iff_ne.2 (by rw [ne_eq, str_eq]; exact e1)
    by_cases e3 : ub = new
    · have e4 : (ub.toList == new.toList) = true := by rw [e3, beq_iff_eq]
      have HF := Lib.hid (show doF ⟨8, bs key, bs tt, bs old, bs new⟩ f = setT f (bs key) (bs old) from by rw [doF, if_neg (by dsimp only; decide), if_neg (by dsimp only; decide), if_neg (by dsimp only; decide), if_neg (by dsimp only; decide), if_neg (by dsimp only; decide), if_neg (by dsimp only; decide)]; dsimp only; rw [hf]; dsimp only; rw [if_neg (fun e => e1 (bs_inj e)), if_pos ⟨congrArg bs e3, rfl⟩])
      clear e3
      obtain ⟨w1, hr1, h1, hg1⟩ := h0.setS (t := 178) Tryz.underlying178 key old s1 s3 (by omega)
      have b1 := b0.turned hg1 (by simp; omega)
      have c1 := b1.cell; have f1 := b1.free; have z1 := b1.lt
      have hgw1 := hg0.andThen hg1 (fun _ e => .inr e)
      have HS := Lib.hid h1
      have HG := Lib.hid hgw1
      go_enter Tryz.func148, Tryz.ntmps148
      go_wp2
      go_end0
      exact ⟨rfl, _, _, HF.out, HS.out, by omega, HG.out⟩
    have e4 : (ub.toList == new.toList) = false := beq_eq_false_iff_ne.2 (by rw [ne_eq, str_eq]; exact e3)
    have HF := Lib.hid (show doF ⟨8, bs key, bs tt, bs old, bs new⟩ f = f from by rw [doF, if_neg (by dsimp only; decide), if_neg (by dsimp only; decide), if_neg (by dsimp only; decide), if_neg (by dsimp only; decide), if_neg (by dsimp only; decide), if_neg (by dsimp only; decide)]; dsimp only; rw [hf]; dsimp only; rw [if_neg (fun e => e1 (bs_inj e)), if_neg (fun e => e3 (bs_inj e.1))])
    have HS := Lib.hid h0
    have HG := Lib.hid hg0
    go_enter Tryz.func148, Tryz.ntmps148
    go_wp2
    go_end0
    exact ⟨rfl, _, _, HF.out, HS.out, by omega, HG.out⟩
end Go.Proofs.YtghhjlcbcojcnaaGreatDoor

namespace Go.Proofs.YtghhjlcbcojcnaaGreatDoor
open Go.RowKit

theorem path_size {s : ByteArray} (h : pathL (bs s) = true) : s.size ≤ 200 := by
  simp only [pathL, Bool.and_eq_true, decide_eq_true_eq] at h
  rw [← bs_length]; exact h.2
theorem okt_key {f : Tb} (h : Okt f) {x v : ByteArray} (hx : f (bs x) = some (bs v)) : x.size ≤ 200 ∧ v.size ≤ 1000 := by
  obtain ⟨h1, h2⟩ := h _ _ hx
  refine ⟨path_size h1, ?_⟩
  simp only [valueL, Bool.and_eq_true, decide_eq_true_eq] at h2
  rw [← bs_length]; exact h2.2
theorem right_size {r : RB} (hr : ruErr r.l = 0) : r.key.size ≤ 200 ∧ r.tt.size ≤ 200 ∧ r.old.size ≤ 1000 ∧ r.new.size ≤ 1000 := by
  have hR := right_of hr
  obtain ⟨v1, v2⟩ := right_vals hr
  simp only [valueL, Bool.and_eq_true, decide_eq_true_eq] at v1 v2
  have e1 : (bs r.old).length ≤ 1000 := v1.2
  have e2 : (bs r.new).length ≤ 1000 := v2.2
  rw [bs_length] at e1 e2
  refine ⟨path_size (s := r.key) hR.key, ?_, e1, e2⟩
  cases ht : useTo r.l.kind with
  | true => exact path_size (s := r.tt) (hR.to1 ht)
  | false =>
    have e3 : (bs r.tt) = [] := hR.to0 ht
    rw [← bs_length, e3]
    exact Nat.zero_le _
theorem grown_none {a w : World} (h : a.grownBy w none) : Ext a w := ⟨h.os, h.tape, h.output, h.size, fun k hk => h.block k hk (by simp)⟩
theorem app_size (a b : ByteArray) : (a ++ b).size = a.size + b.size := ByteArray.size_append
set_option maxHeartbeats 16000000 in
set_option maxRecDepth 100000 in
theorem prefix_any (b n : Nat) (f : Tb) (key tt : ByteArray) (w : World) (hg : Good w) (h : StrMap w b n f) (hf : Okt f) (hn : n ≤ 400000) (hk : pathL (bs key) = true) (ht : pathL (bs tt) = true) :
    Calls Tryz.prog 206 #[.map (some b), .string key, .string tt] w fun e w' =>
      ((e = .returned (.bool false) ∧ badT f (bs key) (bs tt)) ∨ (e = .returned (.bool true) ∧ ¬ badT f (bs key) (bs tt) ∧ StrMap w' b (n + n) (moveT f (bs key) (bs tt)))) ∧ w.grownBy w' (some b) := by
  have hlt := h.lt
  have ks := path_size hk
  have ts := path_size ht
  have HOK := Lib.hid hf
  have HG := Lib.hid hg
  clear hk ht hf hg
  have hm0 := (h.ext ((Ext.refl w).alloc (.cells #[.string key] 9))).ext ((Ext.refl _).alloc (.map #[] 0))
  have bK0 := (Blk.new w 9 #[.string key]).alloc (.map #[] 0)
  have hM0 : StrMap ((w.alloc (.cells #[.string key] 9)).alloc (.map #[] 0)) (w.heap.size + 1) 0 (fun _ => none) := by
    have := StrMap.made (w.alloc (.cells #[.string key] 9))
    rwa [World.size_alloc] at this
  have hx0 : Ext w ((w.alloc (.cells #[.string key] 9)).alloc (.map #[] 0)) := ((Ext.refl w).alloc _).alloc _
  have hmm := @run_makeMap Tryz.prog
  go_enter Tryz.func206, Tryz.ntmps206
  go_wp2_with (first
    | (at_range; refine wp_range_t _ rfl _ 179 rfl Tryz.underlying179 b n f rfl hm0 ?_; intro w0 cnt0 hrg0 hg0 hs0; simp only [World.size_alloc] at hrg0 ⊢)
    | go_in)
  go_frame
  have hxw0 : Ext w w0 := hx0.trans (grown_none hg0)
  have bK1 := bK0.ext (grown_none hg0)
  have hM1 := hM0.ext (grown_none hg0)
  have hc0 := hrg0.cnt_le
  clear hm0 bK0 hM0 hx0 hg0 hmm
  go_loopw [8] (fun _ wr => ∃ (left : Str → Bool) (cnt : Nat), RangeT wr b (w.heap.size + 1 + 1) n f left cnt ∧ cnt ≤ cnt0 ∧ StrMap wr (w.heap.size + 1) (cnt0 - cnt) (movedT f (bs key) (bs tt) left) ∧
      Hid (∀ y, (f y).isSome = true → left y = false → underL y (bs key) = true → pathL (newKey (bs key) (bs tt) y) = true) ∧ Blk wr w.heap.size 9 #[.string key] ∧ Ext w wr) (fun _ wr => wr.rangeLeft b (w.heap.size + 1 + 1))
  case atStart =>
    refine ⟨_, cnt0, hrg0, Nat.le_refl _, ?_, (fun y h1 h2 _ => by rw [h1] at h2; cases h2), bK1, hxw0⟩
    rw [Nat.sub_self, movedT_start _ _ _ _ (fun _ => rfl)]
    exact hM1
  case round =>
    clear hrg0 hM1 bK1 hxw0
    obtain ⟨left, cnt, hrg, hcc, hmv, HP, bK, hxr⟩ := hrel
    go_wp2_with (first
      | (at_next; refine wp_next_t _ rfl _ rfl b (w.heap.size + 1 + 1) n f left cnt rfl hrg ?_ ?_)
      | go_in)
    · intro hl0
      have HNB := Lib.hid (show ¬ badT f (bs key) (bs tt) from by
        rintro ⟨y, hy, hu, hp⟩
        rw [HP.out y hy (hl0 y) hu] at hp; cases hp)
      rw [movedT_end hl0] at hmv
      have DF := DeleteFuncT_any b n w.heap.size f key wr hrg.owns bK (by omega)
      go_wp2_with fail
      refine DF.mono ?_
      rintro e w5 ⟨rfl, hm5, hg5⟩
      have hmv5 := hmv.grown hg5 (by simp; omega)
      have CP := CopyP_any b (w.heap.size + 1) n (cnt0 - cnt) _ _ w5 hm5 hmv5 (by omega) (by omega)
      go_wp2_with fail
      refine CP.mono ?_
      rintro e w6 ⟨rfl, hm6, hg6⟩
      go_wp2
      go_ret
      exact ⟨.inr ⟨rfl, HNB.out, hm6.mono (by omega)⟩, grown_then (grown_then (hxr.by _) hg5) hg6⟩
    · intro x c w1 cnt1 hlx hfx hrg1 hcl hg1 hs1 hen
      obtain ⟨xs, cs⟩ := okt_key HOK.out hfx
      have hx1 : Ext w w1 := hxr.row hg1 (by omega)
      have b1 := bK.turned hg1 (by simp; omega)
      have hmv1 := hmv.grown hg1 (by simp)
      have HLX := Lib.hid hlx; have HFX := Lib.hid hfx
      have HMV := Lib.hid hmv1; have HRG := Lib.hid hrg1
      have HLE := Lib.hid hrg.left_eq
      have hcb := b1.cell; have hfb := b1.free; have hzb := b1.lt
      have CB := Lib.hid (below_any x key w1 (by omega))
      clear hrg hmv hlx hfx hmv1 hrg1 bK hg1
      have HUT := Lib.hid (under_tests x key)
      have no : ∀ z, underL (bs x) (bs key) = false → z = w1 → ∃ (left : Str → Bool) (cnt : Nat), RangeT z b (w.heap.size + 1 + 1) n f left cnt ∧ cnt ≤ cnt0 ∧ StrMap z (w.heap.size + 1) (cnt0 - cnt) (movedT f (bs key) (bs tt) left) ∧
          Hid (∀ y, (f y).isSome = true → left y = false → underL y (bs key) = true → pathL (newKey (bs key) (bs tt) y) = true) ∧ Blk z w.heap.size 9 #[.string key] ∧ Ext w z := by
        rintro z hu rfl
        refine ⟨_, cnt1, HRG.out, by omega, ?_, (fun y h1 h2 h3 => ?_), b1, hx1⟩
        · rw [movedT_far hu]
          exact HMV.out.mono (by omega)
        · refine HP.out y h1 ?_ h3
          by_cases e : y = bs x
          · rw [e, hu] at h3; cases h3
          · have e2 : (y == bs x) = false := by simpa using e
            simpa [e2] using h2
      have NO := Lib.hid no
      clear no
      cases hu : underL (bs x) (bs key)
      · have HU := Lib.hid hu
        have hut := HUT.out
        rw [hu, Bool.or_eq_false_iff] at hut
        obtain ⟨h1, hB⟩ := hut
        rw [hB] at CB
        clear hu hB
        go_wp2_with fail
        refine CB.out.mono ?_
        rintro e w' ⟨rfl, rfl⟩
        go_wp2
        go_roundw
        case rel => exact NO.out _ HU.out rfl
        case measure => rw [HRG.out.left_eq, HLE.out]; exact hcl
      have HU := Lib.hid hu
      have hkx := under_size hu
      have hns : (tt ++ x.extract key.size x.size).size ≤ 400 := by rw [app_size, ByteArray.size_extract]; omega
      have HNL := Lib.hid (newKey_bytes x key tt)
      have CI := Lib.hid (IsPath_any (tt ++ x.extract key.size x.size) w1 (HG.out.ext hx1) (by omega))
      have STEP := Lib.hid (fun w2 (hx2 : Ext w1 w2) => (HMV.out.ext hx2).setS (t := 179) Tryz.underlying179 (tt ++ x.extract key.size x.size) c (by omega) (by omega) (by omega))
      have YES := Lib.hid (show ∀ w2 w3 : World, pathL (bs (tt ++ x.extract key.size x.size)) = true → Ext w1 w2 → StrMap w3 (w.heap.size + 1) (cnt0 - cnt + 1) (setT (movedT f (bs key) (bs tt) left) (bs (tt ++ x.extract key.size x.size)) (bs c)) → w2.grownBy w3 (some (w.heap.size + 1)) →
          ∃ (left : Str → Bool) (cnt : Nat), RangeT w3 b (w.heap.size + 1 + 1) n f left cnt ∧ cnt ≤ cnt0 ∧ StrMap w3 (w.heap.size + 1) (cnt0 - cnt) (movedT f (bs key) (bs tt) left) ∧
          Hid (∀ y, (f y).isSome = true → left y = false → underL y (bs key) = true → pathL (newKey (bs key) (bs tt) y) = true) ∧ Blk w3 w.heap.size 9 #[.string key] ∧ Ext w w3 from by
        intro w2 w3 hp hx2 hm3 hg3
        refine ⟨_, cnt1, (HRG.out.grown (hx2.by none) (by simp) (by simp)).grown hg3 (by simp; omega) (by simp), by omega, ?_, (fun y h1 h2 h3 => ?_), (b1.ext hx2).turned hg3 (by simp), (hx1.trans hx2).row hg3 (by omega)⟩
        · rw [movedT_step hu HFX.out, ← HNL.out]
          exact hm3.mono (by omega)
        · by_cases e : y = bs x
          · rw [e, ← HNL.out]; exact hp
          · have e2 : (y == bs x) = false := by simpa using e
            exact HP.out y h1 (by simpa [e2] using h2) h3)
      clear hu
      cases hp : pathL (bs (tt ++ x.extract key.size x.size))
      · have HB := Lib.hid (show badT f (bs key) (bs tt) from ⟨bs x, by rw [HFX.out]; rfl, HU.out, by rw [← HNL.out]; exact hp⟩)
        rw [hp] at CI
        cases h1 : (x.toList == key.toList)
        · have h1n : (x.toList != key.toList) = true := by rw [bne, h1]; rfl
          have hut := HUT.out
          rw [h1, HU.out, Bool.false_or] at hut
          rw [hut] at CB
          clear hut
          go_wp2_with fail
          refine CB.out.mono ?_
          rintro e w' ⟨rfl, rfl⟩
          go_wp2_with fail
          refine CI.out.mono ?_
          rintro e w2 ⟨rfl, hx2⟩
          go_wp2
          go_ret
          exact ⟨.inl ⟨rfl, HB.out⟩, (hx1.trans hx2).by _⟩
        · have h1n : (x.toList != key.toList) = false := by rw [bne, h1]; rfl
          go_wp2_with fail
          refine CI.out.mono ?_
          rintro e w2 ⟨rfl, hx2⟩
          go_wp2
          go_ret
          exact ⟨.inl ⟨rfl, HB.out⟩, (hx1.trans hx2).by _⟩
      · have HPP := Lib.hid hp
        rw [hp] at CI
        clear hp
        cases h1 : (x.toList == key.toList)
        · have h1n : (x.toList != key.toList) = true := by rw [bne, h1]; rfl
          have hut := HUT.out
          rw [h1, HU.out, Bool.false_or] at hut
          rw [hut] at CB
          clear hut
          go_wp2_with fail
          refine CB.out.mono ?_
          rintro e w' ⟨rfl, rfl⟩
          go_wp2_with fail
          refine CI.out.mono ?_
          rintro e w2 ⟨rfl, hx2⟩
          obtain ⟨w3, hr3, hm3, hg3⟩ := STEP.out w2 hx2
          have RL := Lib.hid (YES.out w2 w3 HPP.out hx2 hm3 hg3)
          have LE := Lib.hid (show w3.rangeLeft b (w.heap.size + 1 + 1) = cnt1 from ((HRG.out.grown (hx2.by none) (by simp) (by simp)).grown hg3 (by simp; omega) (by simp)).left_eq)
          go_wp2
          go_roundw
          case rel => exact RL.out
          case measure => rw [LE.out, HLE.out]; exact hcl
        · have h1n : (x.toList != key.toList) = false := by rw [bne, h1]; rfl
          go_wp2_with fail
          refine CI.out.mono ?_
          rintro e w2 ⟨rfl, hx2⟩
          obtain ⟨w3, hr3, hm3, hg3⟩ := STEP.out w2 hx2
          have RL := Lib.hid (YES.out w2 w3 HPP.out hx2 hm3 hg3)
          have LE := Lib.hid (show w3.rangeLeft b (w.heap.size + 1 + 1) = cnt1 from ((HRG.out.grown (hx2.by none) (by simp) (by simp)).grown hg3 (by simp; omega) (by simp)).left_eq)
          go_wp2
          go_roundw
          case rel => exact RL.out
          case measure => rw [LE.out, HLE.out]; exact hcl
end Go.Proofs.YtghhjlcbcojcnaaGreatDoor
