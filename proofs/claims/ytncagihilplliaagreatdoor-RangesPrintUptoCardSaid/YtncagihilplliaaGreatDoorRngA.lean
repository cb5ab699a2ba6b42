/- Spans and ranges in memory; the struct equalities that the walks meet; slices.Equal over spans. -/
import Derived.Test.YtncagihilplliaaGreatDoorRngL
import Derived.Test.YtncagihilplliaaGreatDoorTail
import Derived.Laws.StructEq
import Derived.Deep.QuietTactic
namespace Go.Proofs.YtncagihilplliaaGreatDoor
open Go.RowKit

abbrev verV (v : V4) : Value := .agg #[.int .i64 v.a1, .int .i64 v.a2, .int .i64 v.a3, .string v.a]
abbrev spV (s : Sp) : Value := .agg #[.bool s.hf, .bool s.ht, .int .i64 s.f.a1, .int .i64 s.f.a2, .int .i64 s.f.a3, .string s.f.a, .int .i64 s.t.a1, .int .i64 s.t.a2, .int .i64 s.t.a3, .string s.t.a]
theorem str_eq (a b : ByteArray) : (a.toList = b.toList) = (a = b) := by
  rw [ByteArray.toList_eq, ByteArray.toList_eq]
  exact propext ⟨fun h => bs_inj h, fun h => by rw [h]⟩
theorem run_eqv (d : Nat) (u v : V4) (w : World) : (Op.equalIn (d + 2) 35 (verV u) (verV v)).run Tryz.prog w = .ok (decide (u = v)) w := by
  obtain ⟨u1, u2, u3, u⟩ := u
  obtain ⟨v1, v2, v3, v⟩ := v
  dsimp only [verV]
  rw [run_equalIn_agg w (d + 1) 35 _ _ (by kernel_rfl) (by kernel_rfl)]
  go_simp
  simp only [str_eq, V4.mk.injEq]
  by_cases h1 : u1 = v1 <;> by_cases h2 : u2 = v2 <;> by_cases h3 : u3 = v3 <;> by_cases h4 : u = v <;> simp [h1, h2, h3, h4]
theorem run_neqv (u v : V4) (w : World) : (binOp .neq 35 (verV u) (verV v)).run Tryz.prog w = .ok (.bool (!decide (u = v))) w := by
  rw [run_neq_struct, run_eqv 9998]
  rfl
theorem run_eqs (d : Nat) (u v : Sp) (w : World) : (Op.equalIn (d + 3) 103 (spV u) (spV v)).run Tryz.prog w = .ok (decide (u = v)) w := by
  obtain ⟨uf, ut, ⟨u1, u2, u3, ua⟩, ⟨u4, u5, u6, ub⟩⟩ := u
  obtain ⟨vf, vt, ⟨v1, v2, v3, va⟩, ⟨v4, v5, v6, vb⟩⟩ := v
  dsimp only [spV]
  rw [run_equalIn_agg w (d + 2) 103 _ _ (by kernel_rfl) (by kernel_rfl)]
  simp only [Sp.mk.injEq, V4.mk.injEq]
  go_simp
  simp only [str_eq]
  repeat' split
  all_goals simp_all
theorem run_neqs (u v : Sp) (w : World) : (binOp .neq 103 (spV u) (spV v)).run Tryz.prog w = .ok (.bool (!decide (u = v))) w := by
  rw [run_neq_struct, run_eqs 9997]
  rfl

/-! ### Spans in memory -/
/-- spans at an address: cell by cell -/
structure SpS (w : World) (b o : Nat) (l : List Sp) : Prop where
  c0 : ∀ k (h : k < l.length), w.cell? ⟨b, o + k * 10, none⟩ = some (.bool l[k].hf)
  c1 : ∀ k (h : k < l.length), w.cell? ⟨b, o + k * 10 + 1, none⟩ = some (.bool l[k].ht)
  c2 : ∀ k (h : k < l.length), w.cell? ⟨b, o + k * 10 + 2, none⟩ = some (.int .i64 l[k].f.a1)
  c3 : ∀ k (h : k < l.length), w.cell? ⟨b, o + k * 10 + 3, none⟩ = some (.int .i64 l[k].f.a2)
  c4 : ∀ k (h : k < l.length), w.cell? ⟨b, o + k * 10 + 4, none⟩ = some (.int .i64 l[k].f.a3)
  c5 : ∀ k (h : k < l.length), w.cell? ⟨b, o + k * 10 + 5, none⟩ = some (.string l[k].f.a)
  c6 : ∀ k (h : k < l.length), w.cell? ⟨b, o + k * 10 + 6, none⟩ = some (.int .i64 l[k].t.a1)
  c7 : ∀ k (h : k < l.length), w.cell? ⟨b, o + k * 10 + 7, none⟩ = some (.int .i64 l[k].t.a2)
  c8 : ∀ k (h : k < l.length), w.cell? ⟨b, o + k * 10 + 8, none⟩ = some (.int .i64 l[k].t.a3)
  c9 : ∀ k (h : k < l.length), w.cell? ⟨b, o + k * 10 + 9, none⟩ = some (.string l[k].t.a)
theorem SpS.ext {w w' : World} {b o : Nat} {l : List Sp} (h : SpS w b o l) (hx : Ext w w') : SpS w' b o l :=
  ⟨fun k hk => hx.cell (h.c0 k hk), fun k hk => hx.cell (h.c1 k hk), fun k hk => hx.cell (h.c2 k hk), fun k hk => hx.cell (h.c3 k hk), fun k hk => hx.cell (h.c4 k hk),
    fun k hk => hx.cell (h.c5 k hk), fun k hk => hx.cell (h.c6 k hk), fun k hk => hx.cell (h.c7 k hk), fun k hk => hx.cell (h.c8 k hk), fun k hk => hx.cell (h.c9 k hk)⟩
/-- a slice of spans: its address where it has any -/
def RdS (w : World) (A : Option Addr) (l : List Sp) : Prop := l ≠ [] → ∃ b o, A = some ⟨b, o, none⟩ ∧ SpS w b o l
theorem RdS.ext {w w' : World} {A : Option Addr} {l : List Sp} (h : RdS w A l) (hx : Ext w w') : RdS w' A l := fun hn => by
  obtain ⟨b, o, e, k⟩ := h hn
  exact ⟨b, o, e, k.ext hx⟩
set_option maxHeartbeats 4000000 in
theorem EqualS_any (A B : Option Addr) (n m c d : Nat) (xs ys : List Sp) (w : World) (hn : xs.length = n) (hm : ys.length = m) (hx : RdS w A xs) (hy : RdS w B ys) (hl : n ≤ 2097152) (hl2 : m ≤ 2097152) :
    Calls Tryz.prog 83 #[.slice A n c, .slice B m d] w fun e w' => e = .returned (.bool (decide (xs = ys))) ∧ Ext w w' := by
  by_cases hnm : n = m
  rotate_left
  · have h1 : ¬ (n : Int) = (m : Int) := by omega
    have hne : ¬ xs = ys := fun e => hnm (by rw [← hn, ← hm, e])
    have HNE := Lib.hid hne
    clear hne hnm hn hm
    go_enter Tryz.func83, Tryz.ntmps83
    go_wp2
    go_ret
    exact ⟨ret_bool (decide_eq_false HNE.out).symm, Ext.refl _⟩
  subst hnm
  have HN := Lib.hid hn
  have HM := Lib.hid hm
  clear hn hm
  rcases Nat.eq_zero_or_pos n with h0 | h0
  · subst h0
    have he : xs = ys := by rw [List.eq_nil_of_length_eq_zero HN.out, List.eq_nil_of_length_eq_zero HM.out]
    have HE := Lib.hid he
    clear he
    go_enter Tryz.func83, Tryz.ntmps83
    go_wp2
    go_loop [13] (fun i => i = .int .i64 0) (fun i => 0)
    case atStart => rfl
    case round =>
      subst hrel
      go_wp2
      go_ret
      exact ⟨ret_bool (decide_eq_true HE.out).symm, Ext.refl _⟩
  obtain ⟨b1, o1, rfl, hX⟩ := hx (fun e => by have := HN.out; rw [e] at this; simp at this; omega)
  obtain ⟨b2, o2, rfl, hY⟩ := hy (fun e => by have := HM.out; rw [e] at this; simp at this; omega)
  go_enter Tryz.func83, Tryz.ntmps83
  go_wp2
  go_loopw [13] (fun i wr => ∃ k : Nat, k ≤ n ∧ i = .int .i64 k ∧ (∀ j (h1 : j < xs.length) (h2 : j < ys.length), j < k → xs[j] = ys[j]) ∧ Ext w wr) (fun i _ => n - (intOf i).toNat)
  case atStart => exact ⟨0, Nat.zero_le _, rfl, fun j _ _ h => absurd h (by omega), Ext.refl _⟩
  case round =>
    obtain ⟨k, hk, rfl, hall, hxr⟩ := hrel
    have HALL := Lib.hid hall
    clear hall
    by_cases hlt : k < n
    · have hk1 : k < xs.length := by rw [HN.out]; exact hlt
      have hk2 : k < ys.length := by rw [HM.out]; exact hlt
      have X := hX.ext hxr
      have Y := hY.ext hxr
      have x0 := X.c0 k hk1; have x1 := X.c1 k hk1; have x2 := X.c2 k hk1; have x3 := X.c3 k hk1; have x4 := X.c4 k hk1
      have x5 := X.c5 k hk1; have x6 := X.c6 k hk1; have x7 := X.c7 k hk1; have x8 := X.c8 k hk1; have x9 := X.c9 k hk1
      have y0 := Y.c0 k hk2; have y1 := Y.c1 k hk2; have y2 := Y.c2 k hk2; have y3 := Y.c3 k hk2; have y4 := Y.c4 k hk2
      have y5 := Y.c5 k hk2; have y6 := Y.c6 k hk2; have y7 := Y.c7 k hk2; have y8 := Y.c8 k hk2; have y9 := Y.c9 k hk2
      clear X Y
      have hone : xs[k] = ys[k] → ∀ j (h1 : j < xs.length) (h2 : j < ys.length), j < k + 1 → xs[j] = ys[j] := fun e j h1 h2 h3 => by
        by_cases hj : j = k
        · subst hj; exact e
        · exact HALL.out j h1 h2 (by omega)
      have hno : ¬ xs[k] = ys[k] → decide (xs = ys) = false := fun e => decide_eq_false fun e2 => e (by subst e2; rfl)
      have HONE := Lib.hid hone
      have HNO := Lib.hid hno
      clear hone hno
      generalize xs[k] = x at *
      generalize ys[k] = y at *
      have hq := run_neqs x y
      obtain ⟨xf, xt, ⟨xa, xb, xc, xd⟩, ⟨xe, xg, xh, xi⟩⟩ := x
      obtain ⟨yf, yt, ⟨ya, yb, yc, yd⟩, ⟨ye, yg, yh, yi⟩⟩ := y
      dsimp only [spV] at hq x0 x1 x2 x3 x4 x5 x6 x7 x8 x9 y0 y1 y2 y3 y4 y5 y6 y7 y8 y9
      generalize hX : (⟨xf, xt, ⟨xa, xb, xc, xd⟩, ⟨xe, xg, xh, xi⟩⟩ : Sp) = X at *
      generalize hY : (⟨yf, yt, ⟨ya, yb, yc, yd⟩, ⟨ye, yg, yh, yi⟩⟩ : Sp) = Y at *
      clear hX hY
      by_cases hz : X = Y
      · rw [decide_eq_true hz] at hq
        have HZ := Lib.hid hz
        clear hz
        go_wp2
        go_quiet (fail)
        go_wp2
        go_roundw
        case rel => exact ⟨k + 1, by omega, by go_num, HONE.out HZ.out, hxr.drewN _⟩
        case measure => simp [intOf]; omega
      · rw [decide_eq_false hz] at hq
        have HZ := Lib.hid hz
        clear hz
        go_wp2
        go_quiet (fail)
        go_wp2
        go_ret
        exact ⟨ret_bool (HNO.out HZ.out).symm, hxr.drewN _⟩
    · obtain rfl : k = n := by omega
      go_wp2
      go_ret
      refine ⟨ret_bool (decide_eq_true ?_).symm, hxr⟩
      refine List.ext_getElem (by rw [HN.out, HM.out]) fun j h1 h2 => HALL.out j h1 h2 (by have := HN.out; omega)
end Go.Proofs.YtncagihilplliaaGreatDoor
