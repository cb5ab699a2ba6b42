/- Contracts of slices.Grow and slices.Concat over spans. -/
import Derived.Test.YtcmceeihdhcmnaaGreatDoorRm26
import Derived.Laws.AppendOwn
import Derived.Maps.AppendAt

namespace Go.Proofs.YtcmceeihdhcmnaaGreatDoor
open Go.RowKit

theorem add_at (b o j : Nat) : (⟨b, o, none⟩ : Addr).add j = ⟨b, o + j, none⟩ := by unfold Addr.add; split <;> simp_all
theorem flat_cells {w : World} {b o : Nat} {l : List Sp} (h : SpS w b o l) (j : Nat) (u : Value) (hu : (l.flatMap spC)[j]? = some u) : w.cell? ⟨b, o + j, none⟩ = some u := by
  have hlen : (l.flatMap spC).length = l.length * 10 := by
    clear h hu
    induction l with
    | nil => rfl
    | cons s l ih => rw [List.flatMap_cons, List.length_append, ih, spC_length, List.length_cons]; omega
  have hj : j < l.length * 10 := by
    rw [← hlen]
    rcases Nat.lt_or_ge j (l.flatMap spC).length with h1 | h1
    · exact h1
    · rw [List.getElem?_eq_none h1] at hu; cases hu
  have hk : j / 10 < l.length := by omega
  have hi : j % 10 < 10 := Nat.mod_lt _ (by decide)
  have e : j = j / 10 * 10 + j % 10 := by omega
  rw [e, flat_get (f := spC) (m := 10) spC_length l (j / 10) (j % 10) hk hi] at hu
  rw [e, ← Nat.add_assoc]
  generalize j / 10 = k at *
  generalize j % 10 = i at *
  match i, hi, hu with
  | 0, _, hu => injection hu with hu; subst hu; exact h.c0 k hk
  | 1, _, hu => injection hu with hu; subst hu; exact h.c1 k hk
  | 2, _, hu => injection hu with hu; subst hu; exact h.c2 k hk
  | 3, _, hu => injection hu with hu; subst hu; exact h.c3 k hk
  | 4, _, hu => injection hu with hu; subst hu; exact h.c4 k hk
  | 5, _, hu => injection hu with hu; subst hu; exact h.c5 k hk
  | 6, _, hu => injection hu with hu; subst hu; exact h.c6 k hk
  | 7, _, hu => injection hu with hu; subst hu; exact h.c7 k hk
  | 8, _, hu => injection hu with hu; subst hu; exact h.c8 k hk
  | 9, _, hu => injection hu with hu; subst hu; exact h.c9 k hk
theorem flat_one (l : List Sp) : ∀ u ∈ l.flatMap spC, u.oneCell' = true := by
  intro u hu
  obtain ⟨s, _, h⟩ := List.mem_flatMap.1 hu
  simp only [spC, List.mem_cons, List.not_mem_nil, or_false] at h
  rcases h with rfl | rfl | rfl | rfl | rfl | rfl | rfl | rfl | rfl | rfl <;> rfl
theorem flat_length (l : List Sp) : (l.flatMap spC).length = l.length * 10 := by
  induction l with
  | nil => rfl
  | cons s l ih => rw [List.flatMap_cons, List.length_append, ih, spC_length, List.length_cons]; omega
theorem run_append_S (w : World) (ty : TypeId) (B : Nat) (v : Value) (n : Nat) (xs : List Value) (hown : w.ownsRow B 127 10 v n xs) (A : Option Addr) (m c : Nat) (l : List Sp) (hl : l.length = m) (hr : RdS w A l) (hn : n + m ≤ 1000000) (hbase : B ≤ w.heap.size) :
    ∃ v' w', (Builtin.append_ #[49, 49] ty #[v, .slice A m c]).run Tryz.prog w = .ok v' w' ∧ w'.ownsRow B 127 10 v' (n + m) (xs ++ l.flatMap spC) ∧ w.grownBy w' v.ownBlock := by
  obtain ⟨i, hi, hz0, hz1, hz2⟩ := info_parts info_span
  have go : ∀ ad, A = some ad → (∀ j u, (l.flatMap spC)[j]? = some u → w.cell? (ad.add j) = some u) → ∃ v' w', (Builtin.append_ #[49, 49] ty #[v, .slice A m c]).run Tryz.prog w = .ok v' w' ∧ w'.ownsRow B 127 10 v' (n + m) (xs ++ l.flatMap spC) ∧ w.grownBy w' v.ownBlock := fun ad e hc => by
    subst e
    obtain ⟨v', w', h1, h2, h3, _, _⟩ := run_append_own_at (P := Tryz.prog) w B 49 ty 127 i _ 10 88 Tryz.underlying49 hi hz0 hz1 hz2 rfl (by decide) v n xs hown ad m c (l.flatMap spC) (by rw [flat_length, hl]) hc (flat_one l) (by simp only [maxLen]; omega) (by omega) hbase
    exact ⟨v', w', h1, h2, h3⟩
  rcases Nat.eq_zero_or_pos m with h0 | h0
  · subst h0
    obtain rfl := List.eq_nil_of_length_eq_zero hl
    cases A with
    | some ad => exact go ad rfl (fun j u h => by simp at h)
    | none =>
      refine ⟨v, w, ?_, by simpa using hown, ⟨rfl, rfl, rfl, Nat.le_refl _, fun _ _ _ => rfl⟩⟩
      rcases hown.2 with ⟨rfl, rfl⟩ | ⟨g, cap, cur, rfl, _, _, hnc, _⟩
      · simp [Builtin.append_, run_underlying Tryz.underlying49, sizeOf, typeInfo, hi, Builtin.lenOf, Builtin.firstCells]
      · simp [Builtin.append_, run_underlying Tryz.underlying49, sizeOf, typeInfo, hi, Builtin.lenOf, Builtin.firstCells, hnc, storeCells]
  · obtain ⟨b, o, rfl, hX⟩ := hr (fun e => by rw [e] at hl; simp at hl; omega)
    exact go _ rfl fun j u hu => by rw [add_at]; exact flat_cells hX j u hu
/-- 'v = append(v, l...)', v a row of the call's own, l spans that came in -/
theorem wpList_appS {ops : Array Oper} {rest : List Oper} {o : Oper} {a : Act} {Q : Exit → Act → World → Prop} (w : World) (hgd : o.guard = none) (s x : Operand)
    (ho : o.op = .call { callee := .builtin .append, args := #[s, x], argTypes := #[49, 49] })
    (B : Nat) (v : Value) (n : Nat) (xs : List Value) (hs : a.eval s = v) (hown : w.ownsRow B 127 10 v n xs) (A : Option Addr) (m c : Nat) (l : List Sp) (hx : a.eval x = .slice A m c) (hl : l.length = m) (hr : RdS w A l) (hn : n + m ≤ 1000000) (hbase : B ≤ w.heap.size)
    (h : ∀ v' w', w'.ownsRow B 127 10 v' (n + m) (xs ++ l.flatMap spC) → (∀ a', Ext a' w → a'.heap.size ≤ B → Ext a' w') → wpList Tryz.prog ops Q rest (a.put o.dst v') w') :
    wpList Tryz.prog ops Q (o :: rest) a w := by
  refine wpList_plain hgd fun K hK => ?_
  obtain ⟨v', w', hrun, h2, h3⟩ := run_append_S w o.type B v n xs hown A m c l hl hr hn hbase
  unfold Oper.wp execOp
  simp only [ho, resolve, invoke, builtin, Sem.run_bind, Sem.run_pure, Result.andThen_ok, List.map_toArray, List.map_cons, List.map_nil, hs, hx, hrun]
  exact hK _ _ (h v' w' h2 fun a' ha hB => ha.grown hown hB h3)

theorem own_base {w : World} {B n m c : Nat} {e : TypeId} {size : Nat} {A : Option Addr} {xs : List Value} (h : w.ownsRow B e size (.slice A m c) n xs) : ∀ b o, A = some ⟨b, o, none⟩ → B ≤ b := by
  rintro b o rfl
  rcases h.2 with ⟨h1, _⟩ | ⟨g, cap, cur, h1, hb, _⟩
  · cases h1
  · injection h1 with h1
    injection h1 with h1
    injection h1 with h1
    omega

/-! ### slices.Grow of the nil slice -/
theorem run_append_make (w : World) (ty : TypeId) (k : Nat) (h0 : 0 < k) (hk : k ≤ 1000) :
    ∃ c w', k ≤ c ∧ (Builtin.append_ #[49, 3] ty #[.slice none 0 0, .int .i64 k]).run Tryz.prog w = .ok (.slice (some ⟨w.heap.size, 0, none⟩) k c) w' ∧ w'.ownsRow w.heap.size 127 10 (.slice (some ⟨w.heap.size, 0, none⟩) 0 c) 0 [] ∧ Ext w w' := by
  obtain ⟨i, hi, hz0, hz1, hz2⟩ := info_parts info_span
  have hw : IntKind.i64.wrap (k : Int) = (k : Int) := by rw [IntKind.wrap_i64]; omega
  have hn : k ≠ 0 := by omega
  have h63' : ¬ (9223372036854775807 < (k : Int)) := by omega
  have h48' : ¬ (281474976710656 < Builtin.nextslicecap k 0 * i.bytes) := by rw [nextslicecap_zero h0, hz2]; omega
  have hneg : ¬ ((k : Int) < 0) := by omega
  have hbig : ¬ (281474976710656 < (k : Int) * (i.bytes : Int)) := by rw [hz2]; omega
  have ha : ∀ W, Sem.run Tryz.prog (asIntOf (.int .i64 (k : Int))) W = .ok (.i64, (k : Int)) W := fun _ => rfl
  have hk0 : ¬ ((k : Int) ≤ 0) := by omega
  have hmax : ¬ (9223372036854775807 < max (k : Int) 0) := by omega
  have hge := grownCap_ge w k 0 127
  have hcm : grownCap w k 0 127 ≤ maxLen := grownCap_le_maxLen w k 0 127 (by simp only [maxLen]; omega)
  have hrun : ∃ cs : Array Value, cs.size = grownCap w k 0 127 * 10 ∧ (Builtin.append_ #[49, 3] ty #[.slice none 0 0, .int .i64 k]).run Tryz.prog w = .ok (.slice (some ⟨w.heap.size, 0, none⟩) k (grownCap w k 0 127)) (w.drew.alloc (.cells cs 127)) := by
    refine ⟨Builtin.zeroCells (Value.agg #[.bool false, .bool false, .int .i64 0, .int .i64 0, .int .i64 0, .string ⟨#[]⟩, .int .i64 0, .int .i64 0, .int .i64 0, .string ⟨#[]⟩]).cells k ++ Builtin.zeroCells (Value.agg #[.bool false, .bool false, .int .i64 0, .int .i64 0, .int .i64 0, .string ⟨#[]⟩, .int .i64 0, .int .i64 0, .int .i64 0, .string ⟨#[]⟩]).cells (grownCap w k 0 127 - k), ?_, ?_⟩
    · have h1 := size_zeroCells (Value.agg #[.bool false, .bool false, .int .i64 0, .int .i64 0, .int .i64 0, .string ⟨#[]⟩, .int .i64 0, .int .i64 0, .int .i64 0, .string ⟨#[]⟩]).cells k
      have h2 := size_zeroCells (Value.agg #[.bool false, .bool false, .int .i64 0, .int .i64 0, .int .i64 0, .string ⟨#[]⟩, .int .i64 0, .int .i64 0, .int .i64 0, .string ⟨#[]⟩]).cells (grownCap w k 0 127 - k)
      rw [Array.size_append, h1, h2, ← Nat.add_mul, Nat.add_sub_cancel' hge]
      rfl
    · have hz10 : k * i.size ≠ 0 := by rw [hz1]; omega
      simp [Builtin.append_, run_underlying Tryz.underlying49, run_underlying Tryz.underlying3, sizeOf, typeInfo, zeroValue, hi, hz0, Builtin.lenOf, hn, h63', h48', Question.forced, run_firstCells_none, newRow, grownCap, hneg, hbig, hw, hz10, asInt, ha]
  obtain ⟨cs, h1, h2⟩ := hrun
  refine ⟨_, _, hge, h2, ⟨by simp, .inr ⟨w.heap.size, _, cs, rfl, Nat.le_refl _, heap_alloc_new w.drew _, Nat.zero_le _, hcm, h1, by simp⟩⟩, ((Ext.refl w).drew).alloc _⟩
/-- 'append(nil, make(.., k)...)' -/
theorem wpList_appMake {ops : Array Oper} {rest : List Oper} {o : Oper} {a : Act} {Q : Exit → Act → World → Prop} (w : World) (hgd : o.guard = none) (s x : Operand)
    (ho : o.op = .call { callee := .builtin .append, args := #[s, x], argTypes := #[49, 3] }) (k : Nat) (h0 : 0 < k) (hk : k ≤ 1000) (hs : a.eval s = .slice none 0 0) (hx : a.eval x = .int .i64 k)
    (h : ∀ c w', k ≤ c → w'.ownsRow w.heap.size 127 10 (.slice (some ⟨w.heap.size, 0, none⟩) 0 c) 0 [] → Ext w w' → wpList Tryz.prog ops Q rest (a.put o.dst (.slice (some ⟨w.heap.size, 0, none⟩) k c)) w') :
    wpList Tryz.prog ops Q (o :: rest) a w := by
  refine wpList_plain hgd fun K hK => ?_
  obtain ⟨c, w', hc, hrun, hown, hx2⟩ := run_append_make w o.type k h0 hk
  unfold Oper.wp execOp
  simp only [ho, resolve, invoke, builtin, Sem.run_bind, Sem.run_pure, Result.andThen_ok, List.map_toArray, List.map_cons, List.map_nil, hs, hx, hrun]
  exact hK _ _ (h c w' hc hown hx2)
set_option maxHeartbeats 4000000 in
set_option maxRecDepth 100000 in
theorem GrowS_any (k : Nat) (w : World) (hk : k ≤ 1000) :
    Calls Tryz.prog 204 #[.slice none 0 0, .int .i64 k] w fun e w' => ∃ v, e = .returned v ∧ w'.ownsRow w.heap.size 127 10 v 0 [] ∧ Ext w w' := by
  have k0 : (0 : Int) ≤ (k : Int) := by omega
  rcases Nat.eq_zero_or_pos k with h0 | h0
  · subst h0
    go_enter Tryz.func204, Tryz.ntmps204
    go_wp2
    go_ret
    exact ⟨_, rfl, World.ownsRow_nil _ _ _ _, Ext.refl _⟩
  · have hk1 : (0 : Int) < (k : Int) := by omega
    go_enter Tryz.func204, Tryz.ntmps204
    go_wp2_with (at_builtin; refine wpList_appMake _ rfl _ _ rfl k h0 hk rfl rfl ?_; intro c w1 hc hown hx; have HOWN := Lib.hid hown; clear hown)
    go_ret
    exact ⟨_, rfl, HOWN.out, hx⟩
set_option maxHeartbeats 8000000 in
set_option maxRecDepth 100000 in
theorem ConcatS_any (A B : Option Addr) (n c m d : Nat) (la lb : List Sp) (g cp : Nat) (w : World) (hn : la.length = n) (ra : RdS w A la) (hl : n ≤ 100) (hm : lb.length = m) (rb : RdS w B lb) (hl2 : m ≤ 100)
    (c0 : w.cell? ⟨g, 0, none⟩ = some (.slice A n c)) (c1 : w.cell? ⟨g, 1, none⟩ = some (.slice B m d)) :
    Calls Tryz.prog 167 #[.slice (some ⟨g, 0, none⟩) 2 cp] w fun e w' => ∃ C cc, e = .returned (.slice C (n + m) cc) ∧ RdS w' C (la ++ lb) ∧ (∀ b o, C = some ⟨b, o, none⟩ → w.heap.size ≤ b) ∧ Ext w w' := by
  have HN := Lib.hid hn; have HM := Lib.hid hm
  have RA := Lib.hid (fun W (h : Ext w W) => ra.ext h); have RB := Lib.hid (fun W (h : Ext w W) => rb.ext h)
  clear hn hm ra rb
  have n0 : (0 : Int) ≤ (n : Int) := by omega
  have m0 : (0 : Int) ≤ (m : Int) := by omega
  have n1 : (n : Int) ≤ 100 := by omega
  have m1 : (m : Int) ≤ 100 := by omega
  go_enter Tryz.func167, Tryz.ntmps167
  go_wp2
  go_loop [3, 11] (fun z i => (i = .int .i64 0 ∧ z = .int .i64 0) ∨ (i = .int .i64 1 ∧ z = .int .i64 (n : Int)) ∨ (i = .int .i64 2 ∧ z = .int .i64 ((n : Int) + (m : Int)))) (fun _ i => 2 - (intOf i).toNat)
  case atStart => exact .inl ⟨rfl, rfl⟩
  case round =>
    rcases hrel with ⟨rfl, rfl⟩ | ⟨rfl, rfl⟩ | ⟨rfl, rfl⟩
    · go_wp2
      go_round
      case rel => exact .inr (.inl ⟨rfl, rfl⟩)
      case measure => decide
    · go_wp2
      go_round
      case rel => exact .inr (.inr ⟨rfl, rfl⟩)
      case measure => decide
    · have cG := GrowS_any (n + m) w (by omega)
      rw [show ((n + m : Nat) : Int) = (n : Int) + (m : Int) from by omega] at cG
      have CG := Lib.hid cG
      clear cG
      go_wp2_with fail
      refine CG.out.mono ?_
      rintro e w1 ⟨v0, rfl, hown, hx1⟩
      have x0 := hx1.cell c0; have x1 := hx1.cell c1
      have HO := Lib.hid hown
      clear hown CG
      go_wp2
      go_loopw [6, 27] (fun v i wr => ((i = .int .i64 0 ∧ wr.ownsRow w.heap.size 127 10 v 0 []) ∨ (i = .int .i64 1 ∧ wr.ownsRow w.heap.size 127 10 v n (la.flatMap spC)) ∨ (i = .int .i64 2 ∧ wr.ownsRow w.heap.size 127 10 v (n + m) (la.flatMap spC ++ lb.flatMap spC))) ∧ Ext w wr) (fun _ i _ => 2 - (intOf i).toNat)
      case atStart => exact ⟨.inl ⟨rfl, HO.out⟩, hx1⟩
      case round =>
        obtain ⟨hh, hxr⟩ := hrel
        have y0 := hxr.cell c0; have y1 := hxr.cell c1
        have hsz := hxr.size
        rcases hh with ⟨rfl, hown⟩ | ⟨rfl, hown⟩ | ⟨rfl, hown⟩
        · go_wp2_with (at_builtin; refine wpList_appS _ rfl _ _ rfl w.heap.size _ 0 [] rfl hown A n c la rfl HN.out (RA.out _ hxr) (by omega) hsz ?_; intro v' w2 hown2 hx2; have hxe := hx2 w hxr (Nat.le_refl _); clear hx2)
          go_roundw
          case rel => exact ⟨.inr (.inl ⟨rfl, by simpa using hown2⟩), hxe⟩
          case measure => decide
        · go_wp2_with (at_builtin; refine wpList_appS _ rfl _ _ rfl w.heap.size _ n _ rfl hown B m d lb rfl HM.out (RB.out _ hxr) (by omega) hsz ?_; intro v' w2 hown2 hx2; have hxe := hx2 w hxr (Nat.le_refl _); clear hx2)
          go_roundw
          case rel => exact ⟨.inr (.inr ⟨rfl, hown2⟩), hxe⟩
          case measure => decide
        · rw [← List.flatMap_append] at hown
          obtain ⟨C, cc, rfl, hrd⟩ := rds_own hown (by rw [List.length_append, HN.out, HM.out])
          have HRD := Lib.hid hrd
          have HBB := Lib.hid (own_base hown)
          clear hrd hown
          go_wp2
          go_ret
          exact ⟨C, cc, rfl, HRD.out, HBB.out, hxr⟩
end Go.Proofs.YtcmceeihdhcmnaaGreatDoor
