/- Contracts of migrate.uses, ruleWords, below, CheckRule, and of outref2.ruleWord, RuleError. -/
import Derived.Test.YtncagihilplliaaGreatDoorRulM
import Derived.Test.YtncagihilplliaaGreatDoorVerC
import Derived.Test.YtncagihilplliaaGreatDoorRefB
namespace Go.Proofs.YtncagihilplliaaGreatDoor
open Go.RowKit

/-- a rule as memory has it -/
structure RB where
  kind : Int
  key : ByteArray
  tt : ByteArray
  old : ByteArray
  new : ByteArray
abbrev ruV (r : RB) : Value := .agg #[.int .i64 r.kind, .string r.key, .string r.tt, .string r.old, .string r.new]
def RB.l (r : RB) : Ru := ⟨r.kind, bs r.key, bs r.tt, bs r.old, bs r.new⟩
structure SmallR (r : RB) : Prop where
  key : r.key.size ≤ 2097152
  tt : r.tt.size ≤ 2097152
  old : r.old.size ≤ 2097152
  new : r.new.size ≤ 2097152

theorem kind_or (k : Int) : k = 1 ∨ k = 2 ∨ k = 3 ∨ k = 4 ∨ k = 5 ∨ k = 6 ∨ k = 7 ∨ k = 8 ∨ ((k == 1) = false ∧ (k == 2) = false ∧ (k == 3) = false ∧ (k == 4) = false ∧ (k == 5) = false ∧ (k == 6) = false ∧ (k == 7) = false ∧ (k == 8) = false) := by
  simp only [beq_eq_false_iff_ne]
  omega
theorem uses_any (k : Int) (w : World) :
    Calls Tryz.prog 45 #[.int .i64 k] w fun e w' => e = .returned (.tuple #[.bool (useTo k), .bool (useOld k), .bool (useNew k)]) ∧ w = w' := by
  rcases kind_or k with rfl | rfl | rfl | rfl | rfl | rfl | rfl | rfl | ⟨n1, n2, n3, n4, n5, n6, n7, n8⟩
  all_goals
    go_enter Tryz.func45, Tryz.ntmps45
    go_wp2
    go_ret3
  all_goals first
    | exact ⟨rfl, rfl⟩
    | exact ⟨by simp [useTo, useOld, useNew, n1, n2, n3, n4, n5, n7, n8], rfl⟩
theorem below_any (key head : ByteArray) (w : World) (hs : head.size ≤ 2097152) :
    Calls Tryz.prog 48 #[.string key, .string head] w fun e w' => e = .returned (.bool (belowL (bs key) (bs head))) ∧ w = w' := by
  go_enter Tryz.func48, Tryz.ntmps48
  go_wp2_with fail
  refine (hasPrefix_any _ _ _).mono ?_
  rintro e w' ⟨rfl, rfl⟩
  go_wp2
  go_ret
  exact ⟨rfl, rfl⟩
def ruWords : List ByteArray := [⟨#[]⟩, ⟨#[114, 101, 110, 97, 109, 101]⟩, ⟨#[112, 114, 101, 102, 105, 120]⟩, ⟨#[99, 111, 112, 121]⟩, ⟨#[115, 101, 116]⟩, ⟨#[100, 101, 102, 97, 117, 108, 116]⟩, ⟨#[100, 114, 111, 112]⟩, ⟨#[109, 97, 112]⟩, ⟨#[115, 119, 97, 112]⟩]
theorem ruWords_at {k : Int} (h1 : 1 ≤ k) (h2 : k ≤ 8) : ∃ x, ruWords[k.toNat]? = some x ∧ bs x = ruWord k := by
  rcases kind_cases h1 h2 with rfl | rfl | rfl | rfl | rfl | rfl | rfl | rfl <;> exact ⟨_, rfl, rfl⟩
theorem ruleWords_any (w : World) :
    Calls Tryz.prog 46 #[] w fun e w' => ∃ b, e = .returned (.slice (some ⟨b, 0, none⟩) 9 9) ∧ w.heap.size ≤ b ∧ Strs w' b ruWords ∧ Ext w w' := by
  go_enter Tryz.func46, Tryz.ntmps46
  go_wp2
  go_ret
  refine ⟨w.heap.size, rfl, Nat.le_refl _, ⟨by simp, fun k hk => ?_⟩, (Ext.refl w).alloc _⟩
  rw [World.cell?_alloc_at _ _ _ _ rfl]
  match k, hk with
  | 0, _ => rfl
  | 1, _ => rfl
  | 2, _ => rfl
  | 3, _ => rfl
  | 4, _ => rfl
  | 5, _ => rfl
  | 6, _ => rfl
  | 7, _ => rfl
  | 8, _ => rfl
  | n + 9, h => exact absurd h (by simp [ruWords])

theorem ruleWord_any (k : Int) (w : World) :
    Calls Tryz.prog 43 #[.int .i64 k] w fun e w' => e = .returned (.tuple #[S (ruWord k), .bool (useTo k), .bool (useOld k), .bool (useNew k)]) ∧ w = w' := by
  rcases kind_or k with rfl | rfl | rfl | rfl | rfl | rfl | rfl | rfl | ⟨n1, n2, n3, n4, n5, n6, n7, n8⟩
  all_goals
    go_enter Tryz.func43, Tryz.ntmps43
    go_wp2
  all_goals first
    | exact bodyPost_ret (v := .tuple #[S (ruWord 1), .bool true, .bool false, .bool false]) (by simp [results, Tryz.results43, go_sem]; rfl) rfl ⟨rfl, rfl⟩
    | exact bodyPost_ret (v := .tuple #[S (ruWord 2), .bool true, .bool false, .bool false]) (by simp [results, Tryz.results43, go_sem]; rfl) rfl ⟨rfl, rfl⟩
    | exact bodyPost_ret (v := .tuple #[S (ruWord 3), .bool true, .bool false, .bool false]) (by simp [results, Tryz.results43, go_sem]; rfl) rfl ⟨rfl, rfl⟩
    | exact bodyPost_ret (v := .tuple #[S (ruWord 4), .bool false, .bool false, .bool true]) (by simp [results, Tryz.results43, go_sem]; rfl) rfl ⟨rfl, rfl⟩
    | exact bodyPost_ret (v := .tuple #[S (ruWord 5), .bool false, .bool false, .bool true]) (by simp [results, Tryz.results43, go_sem]; rfl) rfl ⟨rfl, rfl⟩
    | exact bodyPost_ret (v := .tuple #[S (ruWord 6), .bool false, .bool false, .bool false]) (by simp [results, Tryz.results43, go_sem]; rfl) rfl ⟨rfl, rfl⟩
    | exact bodyPost_ret (v := .tuple #[S (ruWord 7), .bool false, .bool true, .bool true]) (by simp [results, Tryz.results43, go_sem]; rfl) rfl ⟨rfl, rfl⟩
    | exact bodyPost_ret (v := .tuple #[S (ruWord 8), .bool false, .bool true, .bool true]) (by simp [results, Tryz.results43, go_sem]; rfl) rfl ⟨rfl, rfl⟩
    | skip
  have e : ruWord k = [] := by
    simp only [beq_eq_false_iff_ne] at n1 n2 n3 n4 n5 n6 n7 n8
    unfold ruWord
    rw [if_neg n1, if_neg n2, if_neg n3, if_neg n4, if_neg n5, if_neg n6, if_neg n7, if_neg n8]
  exact bodyPost_ret (v := .tuple #[S [], .bool false, .bool false, .bool false]) (by simp [results, Tryz.results43, go_sem]) rfl ⟨by rw [e]; simp [useTo, useOld, useNew, n1, n2, n3, n4, n5, n7, n8], rfl⟩
/-! ### CheckRule -/
theorem ru_kind {r : Ru} (h : r.kind < 1 ∨ 8 < r.kind) : ruErr r = 1 := by unfold ruErr; rw [if_pos h]
theorem ru_key {r : Ru} (h1 : 1 ≤ r.kind) (h2 : r.kind ≤ 8) (h : pathL r.key = false) : ruErr r = 5 := by
  unfold ruErr; rw [if_neg (by omega), if_pos (by rw [h]; rfl)]
theorem ru_to {r : Ru} (h1 : 1 ≤ r.kind) (h2 : r.kind ≤ 8) (ht : useTo r.kind = true) (h : pathL r.tt = false) : ruErr r = 5 := by
  unfold ruErr; rw [if_neg (by omega), if_pos (by rw [h, ht]; simp)]
/-- the tests behind the names -/
def ruRest (r : Ru) : Int :=
  if (!useTo r.kind && !r.tt.isEmpty || !useOld r.kind && !r.old.isEmpty || !useNew r.kind && !r.new.isEmpty || !valueL r.old || !valueL r.new) = true then 2
  else if (useTo r.kind && decide (r.key = r.tt)) = true then 11
  else if (decide (r.kind = 2) && (belowL r.key r.tt || belowL r.tt r.key)) = true then 13
  else if (useOld r.kind && decide (r.old = r.new)) = true then 11 else 0
theorem ru_rest {r : Ru} (h1 : 1 ≤ r.kind) (h2 : r.kind ≤ 8) (hk : pathL r.key = true) (ht : useTo r.kind = true → pathL r.tt = true) : ruErr r = ruRest r := by
  unfold ruErr ruRest
  rw [if_neg (by omega), if_neg]
  rw [hk]
  cases h : useTo r.kind
  · simp
  · rw [ht h]; simp
end Go.Proofs.YtncagihilplliaaGreatDoor
