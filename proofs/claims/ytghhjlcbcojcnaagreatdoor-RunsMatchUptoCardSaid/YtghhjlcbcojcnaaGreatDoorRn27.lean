/- Rules in a slice; slices.Equal at equal settings and at equal rules. slices.Reverse over rules. -/
import Derived.Test.YtghhjlcbcojcnaaGreatDoorRn15
import Derived.Test.YtghhjlcbcojcnaaGreatDoorRn22
import Derived.Test.YtghhjlcbcojcnaaGreatDoorRn09
import Derived.Test.YtghhjlcbcojcnaaGreatDoorRn29

namespace Go.Proofs.YtghhjlcbcojcnaaGreatDoor
open Go.RowKit

structure RuS (w : World) (b o : Nat) (l : List RB) : Prop where
  c0 : ∀ k (h : k < l.length), w.cell? ⟨b, o + k * 5, none⟩ = some (.int .i64 l[k].kind)
  c1 : ∀ k (h : k < l.length), w.cell? ⟨b, o + k * 5 + 1, none⟩ = some (.string l[k].key)
  c2 : ∀ k (h : k < l.length), w.cell? ⟨b, o + k * 5 + 2, none⟩ = some (.string l[k].tt)
  c3 : ∀ k (h : k < l.length), w.cell? ⟨b, o + k * 5 + 3, none⟩ = some (.string l[k].old)
  c4 : ∀ k (h : k < l.length), w.cell? ⟨b, o + k * 5 + 4, none⟩ = some (.string l[k].new)
theorem RuS.ext {w w' : World} {b o : Nat} {l : List RB} (h : RuS w b o l) (hx : Ext w w') : RuS w' b o l :=
  ⟨fun k hk => hx.cell (h.c0 k hk), fun k hk => hx.cell (h.c1 k hk), fun k hk => hx.cell (h.c2 k hk), fun k hk => hx.cell (h.c3 k hk), fun k hk => hx.cell (h.c4 k hk)⟩
/-- a slice of rules -/
def RdU (w : World) (A : Option Addr) (l : List RB) : Prop := l ≠ [] → ∃ b o, A = some ⟨b, o, none⟩ ∧ RuS w b o l
theorem RdU.ext {w w' : World} {A : Option Addr} {l : List RB} (h : RdU w A l) (hx : Ext w w') : RdU w' A l := fun hn => by
  obtain ⟨b, o, e, k⟩ := h hn
  exact ⟨b, o, e, k.ext hx⟩
def SmallU (l : List RB) : Prop := ∀ r ∈ l, SmallR r
/-- a rule of texts as bytes -/
def Ru.b (r : Ru) : RB := ⟨r.kind, ⟨r.key.toArray⟩, ⟨r.tt.toArray⟩, ⟨r.old.toArray⟩, ⟨r.new.toArray⟩⟩
theorem Ru.b_l (r : Ru) : r.b.l = r := by simp [Ru.b, RB.l, bs]

theorem run_eqse (a b : ByteArray) (w : World) : (Op.equalIn 10000 74 (.agg #[.string a, .string b]) (.agg #[.string a, .string b])).run Tryz.prog w = .ok true w := by
  rw [run_equalIn_agg w 9999 74 _ _ (by kernel_rfl) (by kernel_rfl)]
  go_simp
theorem run_neqse (a b : ByteArray) (w : World) : (binOp .neq 74 (.agg #[.string a, .string b]) (.agg #[.string a, .string b])).run Tryz.prog w = .ok (.bool false) w := by
  rw [run_neq_struct, run_eqse]
  rfl
theorem run_eqru (k : Int) (a b c d : ByteArray) (w : World) : (Op.equalIn 10000 23 (.agg #[.int .i64 k, .string a, .string b, .string c, .string d]) (.agg #[.int .i64 k, .string a, .string b, .string c, .string d])).run Tryz.prog w = .ok true w := by
  rw [run_equalIn_agg w 9999 23 _ _ (by kernel_rfl) (by kernel_rfl)]
  go_simp
theorem run_nequ (k : Int) (a b c d : ByteArray) (w : World) : (binOp .neq 23 (.agg #[.int .i64 k, .string a, .string b, .string c, .string d]) (.agg #[.int .i64 k, .string a, .string b, .string c, .string d])).run Tryz.prog w = .ok (.bool false) w := by
  rw [run_neq_struct, run_eqru]
  rfl
set_option maxHeartbeats 4000000 in
set_option maxRecDepth 100000 in
theorem EqualSe_any (A1 A2 : Option Addr) (c1 c2 n : Nat) (l : List Se) (w : World) (hn : l.length = n) (h1 : RdE w A1 l) (h2 : RdE w A2 l) (hl : n ≤ 2097152) :
    Calls Tryz.prog 65 #[.slice A1 n c1, .slice A2 n c2] w fun e w' => e = .returned (.bool true) ∧ Ext w w' := by
  have HN := Lib.hid hn
  rcases Nat.eq_zero_or_pos n with h0 | h0
  · subst h0
    clear h1 h2 hn
    go_enter Tryz.func65, Tryz.ntmps65
    go_wp2
    go_loop [13] (fun i => i = .int .i64 0) (fun i => 0)
    case atStart => rfl
    case round =>
      subst hrel
      go_wp2
      go_ret
      exact ⟨rfl, Ext.refl _⟩
  obtain ⟨g1, o1, rfl, hX⟩ := h1 (fun e => by rw [e] at hn; simp at hn; omega)
  obtain ⟨g2, o2, rfl, hY⟩ := h2 (fun e => by rw [e] at hn; simp at hn; omega)
  have HX := Lib.hid hX; have HY := Lib.hid hY
  clear hX hY h1 h2 hn
  go_enter Tryz.func65, Tryz.ntmps65
  go_wp2
  go_loopw [13] (fun i wr => ∃ k : Nat, k ≤ n ∧ i = .int .i64 k ∧ Ext w wr) (fun i _ => n - (intOf i).toNat)
  case atStart => exact ⟨0, Nat.zero_le _, rfl, Ext.refl _⟩
  case round =>
    obtain ⟨k, hk, rfl, hxr⟩ := hrel
    by_cases hlt : k < n
    · have hk1 : k < l.length := by rw [HN.out]; exact hlt
      have X := HX.out.ext hxr; have Y := HY.out.ext hxr
      have x0 := X.c0 k hk1; have y0 := Y.c0 k hk1
      have x1 := X.c1 k hk1; have y1 := Y.c1 k hk1
      generalize l[k] = s at *
      obtain ⟨sk, sv⟩ := s
      dsimp only at x0 y0 x1 y1
      clear X Y
      have hq := run_neqse sk sv
      go_wp2
      go_quiet (fail)
      go_wp2
      go_roundw
      case rel => exact ⟨k + 1, by omega, by go_num, hxr.drewN _⟩
      case measure => simp [intOf]; omega
    · obtain rfl : k = n := by omega
      go_wp2
      go_ret
      exact ⟨rfl, hxr⟩
set_option maxHeartbeats 4000000 in
set_option maxRecDepth 100000 in
theorem EqualRu_any (A1 A2 : Option Addr) (c1 c2 n : Nat) (l : List RB) (w : World) (hn : l.length = n) (h1 : RdU w A1 l) (h2 : RdU w A2 l) (hl : n ≤ 2097152) :
    Calls Tryz.prog 70 #[.slice A1 n c1, .slice A2 n c2] w fun e w' => e = .returned (.bool true) ∧ Ext w w' := by
  have HN := Lib.hid hn
  rcases Nat.eq_zero_or_pos n with h0 | h0
  · subst h0
    clear h1 h2 hn
    go_enter Tryz.func70, Tryz.ntmps70
    go_wp2
    go_loop [13] (fun i => i = .int .i64 0) (fun i => 0)
    case atStart => rfl
    case round =>
      subst hrel
      go_wp2
      go_ret
      exact ⟨rfl, Ext.refl _⟩
  obtain ⟨g1, o1, rfl, hX⟩ := h1 (fun e => by rw [e] at hn; simp at hn; omega)
  obtain ⟨g2, o2, rfl, hY⟩ := h2 (fun e => by rw [e] at hn; simp at hn; omega)
  have HX := Lib.hid hX; have HY := Lib.hid hY
  clear hX hY h1 h2 hn
  go_enter Tryz.func70, Tryz.ntmps70
  go_wp2
  go_loopw [13] (fun i wr => ∃ k : Nat, k ≤ n ∧ i = .int .i64 k ∧ Ext w wr) (fun i _ => n - (intOf i).toNat)
  case atStart => exact ⟨0, Nat.zero_le _, rfl, Ext.refl _⟩
  case round =>
    obtain ⟨k, hk, rfl, hxr⟩ := hrel
    by_cases hlt : k < n
    · have hk1 : k < l.length := by rw [HN.out]; exact hlt
      have X := HX.out.ext hxr; have Y := HY.out.ext hxr
      have x0 := X.c0 k hk1; have y0 := Y.c0 k hk1
      have x1 := X.c1 k hk1; have y1 := Y.c1 k hk1
      have x2 := X.c2 k hk1; have y2 := Y.c2 k hk1
      have x3 := X.c3 k hk1; have y3 := Y.c3 k hk1
      have x4 := X.c4 k hk1; have y4 := Y.c4 k hk1
      generalize l[k] = s at *
      obtain ⟨rk, ra, rb, rc, rd⟩ := s
      dsimp only at x0 y0 x1 y1 x2 y2 x3 y3 x4 y4
      clear X Y
      have hq := run_nequ rk ra rb rc rd
      go_wp2
      go_quiet (fail)
      go_wp2
      go_roundw
      case rel => exact ⟨k + 1, by omega, by go_num, hxr.drewN _⟩
      case measure => simp [intOf]; omega
    · obtain rfl : k = n := by omega
      go_wp2
      go_ret
      exact ⟨rfl, hxr⟩
end Go.Proofs.YtghhjlcbcojcnaaGreatDoor

namespace Go.Proofs.YtghhjlcbcojcnaaGreatDoor
open Go.RowKit

def ru5 (r : RB) : List Value := [.int .i64 r.kind, .string r.key, .string r.tt, .string r.old, .string r.new]
/-- cells that hold n rules -/
def HoldU (cs : Array Value) (n : Nat) (R : Nat → RB) : Prop := ∀ k, k < n → ∀ j, j < 5 → cs[k * 5 + j]? = (ru5 (R k))[j]?
def set5 (cs : Array Value) (p : Nat) (r : RB) : Array Value := ((((cs.setIfInBounds p (.int .i64 r.kind)).setIfInBounds (p + 1) (.string r.key)).setIfInBounds (p + 2) (.string r.tt)).setIfInBounds (p + 3) (.string r.old)).setIfInBounds (p + 4) (.string r.new)
def setR (w : World) (g p : Nat) (r : RB) : World := ((((w.setCell ⟨g, p, none⟩ (.int .i64 r.kind)).setCell ⟨g, p + 1, none⟩ (.string r.key)).setCell ⟨g, p + 2, none⟩ (.string r.tt)).setCell ⟨g, p + 3, none⟩ (.string r.old)).setCell ⟨g, p + 4, none⟩ (.string r.new)
theorem setR_blk {w : World} {g : Nat} {t : TypeId} {cs : Array Value} (h : Blk w g t cs) (p : Nat) (r : RB) : Blk (setR w g p r) g t (set5 cs p r) := ((((h.set p _).set (p + 1) _).set (p + 2) _).set (p + 3) _).set (p + 4) _
theorem grown_cell (w : World) (g p : Nat) (u : Value) : w.grownBy (w.setCell ⟨g, p, none⟩ u) (some g) :=
  ⟨rfl, rfl, rfl, by simp [World.setCell], fun k _ hne => Below.heap_setCell w ⟨g, p, none⟩ u k (fun e => hne (by rw [e]))⟩
theorem grown_thenR {a w w' : World} {g : Nat} (h : a.grownBy w (some g)) (hg : w.grownBy w' (some g)) : a.grownBy w' (some g) := h.andThen hg fun _ e => .inr e
theorem setR_grown (w : World) (g p : Nat) (r : RB) : w.grownBy (setR w g p r) (some g) :=
  grown_thenR (grown_thenR (grown_thenR (grown_thenR (grown_cell w g p _) (grown_cell _ g (p + 1) _)) (grown_cell _ g (p + 2) _)) (grown_cell _ g (p + 3) _)) (grown_cell _ g (p + 4) _)
theorem set5_size (cs : Array Value) (p : Nat) (r : RB) : (set5 cs p r).size = cs.size := by simp [set5]
theorem set5_get (cs : Array Value) (i : Nat) (r : RB) (hi : i * 5 + 4 < cs.size) (k j : Nat) (hj : j < 5) : (set5 cs (i * 5) r)[k * 5 + j]? = if k = i then (ru5 r)[j]? else cs[k * 5 + j]? := by
  unfold set5
  simp only [Array.getElem?_setIfInBounds, Array.size_setIfInBounds]
  by_cases e : k = i
  · subst e
    rw [if_pos rfl]
    match j, hj with
    | 0, _ => rw [if_neg (by omega), if_neg (by omega), if_neg (by omega), if_neg (by omega), if_pos (by omega), if_pos (by omega)]; rfl
    | 1, _ => rw [if_neg (by omega), if_neg (by omega), if_neg (by omega), if_pos (by omega), if_pos (by omega)]; rfl
    | 2, _ => rw [if_neg (by omega), if_neg (by omega), if_pos (by omega), if_pos (by omega)]; rfl
    | 3, _ => rw [if_neg (by omega), if_pos (by omega), if_pos (by omega)]; rfl
    | 4, _ => rw [if_pos (by omega), if_pos (by omega)]; rfl
  · rw [if_neg e, if_neg (by omega), if_neg (by omega), if_neg (by omega), if_neg (by omega), if_neg (by omega)]
theorem holdU_size {cs : Array Value} {n : Nat} {R : Nat → RB} (h : HoldU cs n R) {i : Nat} (hi : i < n) : i * 5 + 4 < cs.size := by
  have := h i hi 4 (by decide)
  rcases Nat.lt_or_ge (i * 5 + 4) cs.size with h1 | h1
  · exact h1
  · rw [Array.getElem?_eq_none h1] at this; cases this
theorem hold_swap {cs : Array Value} {n : Nat} {R : Nat → RB} (h : HoldU cs n R) {i j : Nat} (hi : i < n) (hj : j < n) (ri rj : RB) :
    HoldU (set5 (set5 cs (i * 5) rj) (j * 5) ri) n (fun k => if k = j then ri else if k = i then rj else R k) := by
  intro k hk t ht
  rw [set5_get _ j ri (by rw [set5_size]; exact holdU_size h hj) k t ht, set5_get _ i rj (holdU_size h hi) k t ht]
  dsimp only
  by_cases e : k = j
  · rw [if_pos e, if_pos e]
  · rw [if_neg e, if_neg e]
    by_cases e2 : k = i
    · rw [if_pos e2, if_pos e2]
    · rw [if_neg e2, if_neg e2]; exact h k hk t ht
theorem HoldU.congr {cs : Array Value} {n : Nat} {R R' : Nat → RB} (h : HoldU cs n R) (e : ∀ k, k < n → R k = R' k) : HoldU cs n R' := fun k hk t ht => by
  rw [← e k hk]; exact h k hk t ht
set_option maxHeartbeats 4000000 in
set_option maxRecDepth 100000 in
theorem Reverse_any (g n c : Nat) (cs : Array Value) (R : Nat → RB) (w : World) (h : Blk w g 23 cs) (hR : HoldU cs n R) (hn : n ≤ 2097152) :
    Calls Tryz.prog 144 #[.slice (some ⟨g, 0, none⟩) n c] w fun e w' => e = .returned (.tuple #[]) ∧ ∃ cs', Blk w' g 23 cs' ∧ HoldU cs' n (fun k => R (n - 1 - k)) ∧ w.grownBy w' (some g) := by
  go_enter Tryz.func144, Tryz.ntmps144
  go_wp2
  go_loopw [2, 3] (fun s2 s3 wr => ∃ (i : Nat) (m : Int) (cs' : Array Value), s2 = .int .i64 i ∧ s3 = .int .i64 m ∧ m = (n : Int) - 1 - i ∧ 2 * i ≤ n + 1 ∧ Blk wr g 23 cs' ∧ HoldU cs' n (fun k => if k < i ∨ n ≤ k + i then R (n - 1 - k) else R k) ∧ w.grownBy wr (some g))
    (fun s2 s3 _ => (intOf s3 - intOf s2).toNat)
  case atStart => exact ⟨0, (n : Int) - 1, cs, rfl, by go_num, by omega, by omega, h, hR.congr (fun k hk => by rw [if_neg (by omega)]), (Ext.refl w).by _⟩
  case round =>
    obtain ⟨i, m, cs', rfl, rfl, hm, hi, hb, hH, hg⟩ := hrel
    by_cases hlt : (i : Int) < m
    · obtain ⟨j, rfl⟩ : ∃ j : Nat, m = j := ⟨m.toNat, by omega⟩
      have hji : j < n := by omega
      have hin : i < n := by omega
      have hij : i < j := by omega
      have hc := hb.cell; have hf := hb.free; have hz := hb.lt
      have gi : ∀ t, t < 5 → cs'[i * 5 + t]? = (ru5 (R i))[t]? := fun t ht => by
        have := hH i hin t ht
        dsimp only at this
        rwa [if_neg (by omega)] at this
      have gj : ∀ t, t < 5 → cs'[j * 5 + t]? = (ru5 (R j))[t]? := fun t ht => by
        have := hH j hji t ht
        dsimp only at this
        rwa [if_neg (by omega)] at this
      have a0 := (hc (i * 5)).trans (gi 0 (by decide)); have a1 := (hc (i * 5 + 1)).trans (gi 1 (by decide)); have a2 := (hc (i * 5 + 2)).trans (gi 2 (by decide)); have a3 := (hc (i * 5 + 3)).trans (gi 3 (by decide)); have a4 := (hc (i * 5 + 4)).trans (gi 4 (by decide))
      have d0 := (hc (j * 5)).trans (gj 0 (by decide)); have d1 := (hc (j * 5 + 1)).trans (gj 1 (by decide)); have d2 := (hc (j * 5 + 2)).trans (gj 2 (by decide)); have d3 := (hc (j * 5 + 3)).trans (gj 3 (by decide)); have d4 := (hc (j * 5 + 4)).trans (gj 4 (by decide))
      simp only [ru5, List.getElem?_cons_zero, List.getElem?_cons_succ] at a0 a1 a2 a3 a4 d0 d1 d2 d3 d4
      have HH := Lib.hid hH
      have HM := Lib.hid hm
      clear hH gi gj hc hm
      go_wp2_with fail
      go_region
      go_wp2
      go_roundw
      case rel =>
        have hmo := HM.out
        refine ⟨i + 1, (j : Int) - 1, set5 (set5 cs' (i * 5) (R j)) (j * 5) (R i), by go_num, by go_num, by omega, by omega, (setR_blk (setR_blk hb _ _) _ _).ext ((Ext.refl _).drew), (hold_swap HH.out hin hji (R i) (R j)).congr (fun k hk => ?_), grown_thenR hg (grown_thenR (grown_thenR (setR_grown wr g _ _) (setR_grown _ g _ _)) (((Ext.refl _).drew).by _))⟩
        by_cases e : k = j
        · rw [if_pos e, if_pos (by omega), show n - 1 - k = i by omega]
        · rw [if_neg e]
          by_cases e2 : k = i
          · rw [if_pos e2, if_pos (by omega), show n - 1 - k = j by omega]
          · rw [if_neg e2]
            by_cases e3 : k < i ∨ n ≤ k + i
            · rw [if_pos e3, if_pos (by omega)]
            · rw [if_neg e3, if_neg (by omega)]
      case measure => simp [intOf]; omega
    · have HB := Lib.hid (show HoldU cs' n (fun k => R (n - 1 - k)) from hH.congr (fun k hk => by
        by_cases e : k < i ∨ n ≤ k + i
        · rw [if_pos e]
        · rw [if_neg e, show n - 1 - k = k by omega]))
      clear hm hH
      go_wp2
      go_end0
      exact ⟨rfl, cs', hb, HB.out, hg⟩
end Go.Proofs.YtghhjlcbcojcnaaGreatDoor
