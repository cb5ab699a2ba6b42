/- slices.CompactFunc over versions: neighbours that are the same are one. -/
import Derived.Test.YtcmceeihdhcmnaaGreatDoorRm42
import Derived.Test.YtcmceeihdhcmnaaGreatDoorRm22
import Derived.Lib.SliceRun
import Derived.Laws.IdiomCopy
import Derived.Deep.LoopGhost

namespace Go.Proofs.YtcmceeihdhcmnaaGreatDoor
open Go.RowKit

/-! ### Plain -/
/-- the first so many, neighbours that are the same taken together -/
def cptN (D : List V4) : Nat → List V4
  | 0 => []
  | p + 1 => if p ≠ 0 ∧ (D.getD p zeroV).ord (D.getD (p - 1) zeroV) = 0 then cptN D p else cptN D p ++ [D.getD p zeroV]
theorem getD_ver {D : List V4} {k : Nat} (h : k < D.length) : D.getD k zeroV = D[k] := by simp [List.getD, List.getElem?_eq_getElem h]
theorem cpt_drop {D : List V4} {p : Nat} (h0 : 0 < p) (h : p < D.length) (e : D[p].ord D[p - 1] = 0) : cptN D (p + 1) = cptN D p := by
  rw [cptN, if_pos]
  rw [getD_ver h, getD_ver (show p - 1 < D.length by omega)]
  exact ⟨by omega, e⟩
theorem cpt_keep {D : List V4} {p : Nat} (h : p < D.length) (e : ∀ h0 : 0 < p, ¬ D[p].ord D[p - 1] = 0) : cptN D (p + 1) = cptN D p ++ [D[p]] := by
  rw [cptN, if_neg, getD_ver h]
  rintro ⟨h1, h2⟩
  rw [getD_ver h, getD_ver (show p - 1 < D.length by omega)] at h2
  exact e (by omega) h2
theorem cpt_length (D : List V4) (p : Nat) : (cptN D p).length ≤ p := by
  induction p with
  | zero => exact Nat.le_refl _
  | succ p ih =>
    rw [cptN]
    split
    · omega
    · rw [List.length_append, List.length_singleton]; omega
theorem cpt_rising {D : List V4} (hs : D.Pairwise fun u v => u.ord v ≤ 0) : ∀ p, p ≤ D.length → Rising (cptN D p) ∧ (∀ v ∈ D.take p, v ∈ cptN D p) ∧ (∀ v ∈ cptN D p, v ∈ D) ∧ ∀ _h : 0 < p, ∀ h2 : p - 1 < D.length, ∀ v ∈ cptN D p, v.ord D[p - 1] ≤ 0 := by
  intro p
  induction p with
  | zero => intro _; exact ⟨List.Pairwise.nil, fun v h => by simp at h, fun v h => by simp [cptN] at h, fun h => absurd h (Nat.lt_irrefl _)⟩
  | succ p ih =>
    intro hp
    obtain ⟨h1, h2, h3, h4⟩ := ih (by omega)
    have hlt : p < D.length := by omega
    rw [List.take_succ_eq_append_getElem hlt]
    by_cases hd : 0 < p ∧ D[p].ord (D[p - 1]'(by omega)) = 0
    · obtain ⟨hp0, hd⟩ := hd
      rw [cpt_drop hp0 hlt hd]
      have e := ord_eq hd
      refine ⟨h1, fun v hv => ?_, h3, fun _ h5 v hv => ?_⟩
      · rcases List.mem_append.1 hv with h | h
        · exact h2 v h
        · rw [List.mem_singleton] at h
          rw [h, e]
          exact h2 _ (List.mem_iff_getElem.2 ⟨p - 1, by rw [List.length_take]; omega, by simp⟩)
      · have h6 := h4 hp0 (by omega) v hv
        simp only [Nat.add_sub_cancel]
        rw [e]; exact h6
    · have hk := cpt_keep hlt fun h0 he => hd ⟨h0, he⟩
      rw [hk]
      have hless : ∀ v ∈ cptN D p, v.ord D[p] < 0 := fun v hv => by
        have hp0 : 0 < p := by
          rcases Nat.eq_zero_or_pos p with h | h
          · subst h; simp [cptN] at hv
          · exact h
        have h5 := h4 hp0 (by omega) v hv
        have h6 := List.pairwise_iff_getElem.1 hs (p - 1) p (by omega) hlt (by omega)
        have h7 : ¬ D[p].ord (D[p - 1]'(by omega)) = 0 := fun he => hd ⟨hp0, he⟩
        have h8 : D[p - 1].ord D[p] < 0 := by
          rcases Int.lt_or_eq_of_le h6 with h | h
          · exact h
          · exact absurd (pre_ord.zero h) h7
        exact pre_ord.le_lt h5 h8
      refine ⟨?_, fun v hv => ?_, fun v hv => ?_, fun _ h5 v hv => ?_⟩
      · unfold Rising
        rw [List.pairwise_append]
        exact ⟨h1, List.pairwise_singleton _ _, fun u hu v hv => by rw [List.mem_singleton] at hv; rw [hv]; exact hless u hu⟩
      · rcases List.mem_append.1 hv with h | h
        · exact List.mem_append_left _ (h2 v h)
        · exact List.mem_append_right _ h
      · rcases List.mem_append.1 hv with h | h
        · exact h3 v h
        · rw [List.mem_singleton] at h; rw [h]; exact List.getElem_mem hlt
      · simp only [Nat.add_sub_cancel]
        rcases List.mem_append.1 hv with h | h
        · have := hless v h; omega
        · rw [List.mem_singleton] at h; rw [h, pre_ord.self]; exact Int.le_refl _
/-- what the inner loop keeps: so many of the memory's list are done, from the last one looked at on it is as it was -/
structure CptInv (D : List V4) (p kk : Nat) (M : List V4) : Prop where
  len : M.length = D.length
  done : M.take kk = cptN D p
  num : kk = (cptN D p).length
  lt : kk < p
  high : ∀ j (h1 : j < M.length) (h2 : j < D.length), p - 1 ≤ j → M[j] = D[j]
theorem CptInv.start {D : List V4} {k : Nat} (h0 : 0 < k) (hk : k < D.length) (hall : cptN D k = D.take k) (e : D[k].ord D[k - 1] = 0) : CptInv D (k + 1) k D := by
  have h1 := cpt_drop h0 hk e
  exact ⟨rfl, by rw [h1, hall], by rw [h1, hall, List.length_take]; omega, by omega, fun _ _ _ _ => rfl⟩
theorem CptInv.skip {D M : List V4} {p kk : Nat} (h : CptInv D p kk M) (h0 : 0 < p) (hp : p < D.length) (e : D[p].ord D[p - 1] = 0) : CptInv D (p + 1) kk M := by
  have h1 := cpt_drop h0 hp e
  exact ⟨h.len, by rw [h1]; exact h.done, by rw [h1]; exact h.num, by have := h.lt; omega, fun j h1 h2 h3 => h.high j h1 h2 (by omega)⟩
theorem CptInv.keep {D M : List V4} {p kk : Nat} (h : CptInv D p kk M) (hp : p < D.length) (e : ¬ D[p].ord D[p - 1] = 0) : CptInv D (p + 1) (kk + 1) (M.set kk D[p]) := by
  have h1 := cpt_keep hp fun _ => e
  have hlt := h.lt
  have hl := h.len
  refine ⟨by rw [List.length_set]; exact hl, ?_, by rw [h1, List.length_append, ← h.num]; rfl, by omega, fun j g1 g2 g3 => ?_⟩
  · rw [h1, ← h.done]
    rw [List.take_succ_eq_append_getElem (by rw [List.length_set]; omega), List.getElem_set_self]
    rw [List.take_set_of_le (Nat.le_refl _)]
  · rw [List.getElem_set_ne (by omega)]
    exact h.high j (by rw [List.length_set] at g1; exact g1) g2 (by omega)

/-! ### Stores into the row -/
theorem cell_far (w : World) (g a b : Nat) (v : Value) (h : a ≠ b) : (w.setCell ⟨g, a, none⟩ v).cell? ⟨g, b, none⟩ = w.cell? ⟨g, b, none⟩ := World.cell?_setCell_other _ _ _ _ fun e => h (by injection e)
theorem cell_same (w : World) (g a : Nat) (v u : Value) (h : w.cell? ⟨g, a, none⟩ = some u) : (w.setCell ⟨g, a, none⟩ v).cell? ⟨g, a, none⟩ = some v := World.cell?_setCell_same _ _ _ h
def set4 (w : World) (g o : Nat) (v : V4) : World := (((w.setCell ⟨g, o, none⟩ (.int .i64 v.a1)).setCell ⟨g, o + 1, none⟩ (.int .i64 v.a2)).setCell ⟨g, o + 2, none⟩ (.int .i64 v.a3)).setCell ⟨g, o + 3, none⟩ (.string v.a)
theorem set4_far (w : World) (g o b : Nat) (v : V4) (h : b < o ∨ o + 4 ≤ b) : (set4 w g o v).cell? ⟨g, b, none⟩ = w.cell? ⟨g, b, none⟩ := by
  unfold set4
  rw [cell_far _ _ _ _ _ (by omega), cell_far _ _ _ _ _ (by omega), cell_far _ _ _ _ _ (by omega), cell_far _ _ _ _ _ (by omega)]
theorem set4_at (w : World) (g o : Nat) (v : V4) {u0 u1 u2 u3 : Value} (c0 : w.cell? ⟨g, o, none⟩ = some u0) (c1 : w.cell? ⟨g, o + 1, none⟩ = some u1) (c2 : w.cell? ⟨g, o + 2, none⟩ = some u2) (c3 : w.cell? ⟨g, o + 3, none⟩ = some u3) :
    ∀ (i : Nat) (u : Value), (vC v)[i]? = some u → (set4 w g o v).cell? ⟨g, o + i, none⟩ = some u := by
  intro i u hu
  unfold set4
  rcases i with _ | _ | _ | _ | i
  · simp only [vC, List.getElem?_cons_zero, Option.some.injEq] at hu
    rw [← hu]
    show World.cell? _ ⟨g, o, none⟩ = _
    rw [cell_far _ _ _ _ _ (by omega), cell_far _ _ _ _ _ (by omega), cell_far _ _ _ _ _ (by omega)]
    exact cell_same _ _ _ _ _ c0
  · simp only [vC, List.getElem?_cons_succ, List.getElem?_cons_zero, Option.some.injEq, Nat.zero_add] at hu
    rw [← hu]
    show World.cell? _ ⟨g, o + 1, none⟩ = _
    rw [cell_far _ _ _ _ _ (by omega), cell_far _ _ _ _ _ (by omega)]
    exact cell_same _ _ _ _ _ (by rw [cell_far _ _ _ _ _ (by omega)]; exact c1)
  · simp only [vC, List.getElem?_cons_succ, List.getElem?_cons_zero, Option.some.injEq, Nat.zero_add] at hu
    rw [← hu]
    show World.cell? _ ⟨g, o + 2, none⟩ = _
    rw [cell_far _ _ _ _ _ (by omega)]
    exact cell_same _ _ _ _ _ (by rw [cell_far _ _ _ _ _ (by omega), cell_far _ _ _ _ _ (by omega)]; exact c2)
  · simp only [vC, List.getElem?_cons_succ, List.getElem?_cons_zero, Option.some.injEq, Nat.zero_add] at hu
    rw [← hu]
    show World.cell? _ ⟨g, o + 3, none⟩ = _
    exact cell_same _ _ _ _ _ (by rw [cell_far _ _ _ _ _ (by omega), cell_far _ _ _ _ _ (by omega), cell_far _ _ _ _ _ (by omega)]; exact c3)
  · simp [vC] at hu
theorem RowV.set {w : World} {g : Nat} {M : List V4} (h : RowV w g M) {kk : Nat} (hk : kk < M.length) (v : V4) : RowV (set4 w g (kk * 4) v) g (M.set kk v) := by
  refine ⟨fun j hj i u hu => ?_, fun t ht => ?_⟩
  · rw [List.length_set] at hj
    by_cases hjk : j = kk
    · subst hjk
      rw [List.getElem_set_self] at hu
      exact set4_at w g (j * 4) v (h.c0 hk) (h.c1 hk) (h.c2 hk) (h.c3 hk) i u hu
    · rw [List.getElem_set_ne (fun e => hjk e.symm)] at hu
      have hi : i < 4 := by
        rcases Nat.lt_or_ge i 4 with h1 | h1
        · exact h1
        · rw [List.getElem?_eq_none (by show 4 ≤ i; exact h1)] at hu; cases hu
      rw [set4_far _ _ _ _ _ (by omega)]
      exact h.c j hj i u hu
  · rw [List.length_set] at ht
    unfold set4
    simp only [World.frozen?_setCell]
    exact h.f t ht
theorem ExtC.setCells {C : Nat → Prop} {a : World} {g : Nat} (hC : C g) : ∀ (vs : List Value) (o : Nat) (w : World), ExtC C a w → ExtC C a (w.setCells g o vs)
  | [], _, _, h => h
  | v :: r, o, w, h => by
    rw [World.setCells]
    exact ExtC.setCells hC r (o + 1) _ (h.set (p := ⟨g, o, none⟩) (.inl hC) v)
theorem run_clear_V (w : World) (ty : TypeId) (g o n c : Nat) (hn : 0 < n) (hc : ∀ j, j < n * 4 → (w.cell? ⟨g, o + j, none⟩).isSome = true) (hf : ∀ j, j < n * 4 → w.frozen? ⟨g, o + j, none⟩ = false) :
    (Builtin.clear_ #[81] ty #[.slice (some ⟨g, o, none⟩) n c]).run Tryz.prog w = .ok (.tuple #[]) (w.setCells g o (Builtin.zeroCells #[.int .i64 0, .int .i64 0, .int .i64 0, .string ⟨#[]⟩] n).toList) := by
  have hsz : (Builtin.zeroCells #[.int .i64 0, .int .i64 0, .int .i64 0, .string ⟨#[]⟩] n).toList.length = n * 4 := by
    rw [Array.length_toList, size_zeroCells]; rfl
  have hone : ∀ u ∈ (Builtin.zeroCells #[.int .i64 0, .int .i64 0, .int .i64 0, .string ⟨#[]⟩] n).toList, u.oneCell' = true := by
    intro u hu
    unfold Builtin.zeroCells at hu
    simp only [Array.toList_map, List.mem_map] at hu
    obtain ⟨i, _, rfl⟩ := hu
    have hm : i % 4 < 4 := Nat.mod_lt _ (by decide)
    show Value.oneCell' ((#[.int .i64 0, .int .i64 0, .int .i64 0, .string ⟨#[]⟩] : Array Value)[i % 4]!) = true
    generalize i % 4 = m at *
    match m, hm with
    | 0, _ => rfl
    | 1, _ => rfl
    | 2, _ => rfl
    | 3, _ => rfl
  have hst := run_storeCells_cells (P := Tryz.prog) g o _ 0 w (by rw [hsz]; simpa using hc) (by rw [hsz]; simpa using hf) hone
  simp only [Nat.add_zero] at hst
  have hz : ∀ W, (zeroValue 35).run Tryz.prog W = .ok (.agg #[.int .i64 0, .int .i64 0, .int .i64 0, .string ⟨#[]⟩]) W := Tryz.zeroValue35
  obtain ⟨m, rfl⟩ : ∃ m, n = m + 1 := ⟨n - 1, by omega⟩
  have hcells : (Value.agg #[.int .i64 0, .int .i64 0, .int .i64 0, .string ⟨#[]⟩]).cells = #[.int .i64 0, .int .i64 0, .int .i64 0, .string ⟨#[]⟩] := rfl
  simp [Builtin.clear_, run_underlying Tryz.underlying81, hz, hcells, hst]
theorem RowV.clear {w : World} {g n c : Nat} {M : List V4} (h : RowV w g M) (hn : M.length = n) {kk : Nat} (hk : kk < n) :
    ∃ w', (∀ ty, (Builtin.clear_ #[81] ty #[.slice (some ⟨g, kk * 4, none⟩) (n - kk) c]).run Tryz.prog w = .ok (.tuple #[]) w') ∧ RowV w' g (M.take kk) ∧ ExtC (· = g) w w' := by
  subst hn
  have hcell : ∀ j, j < (M.length - kk) * 4 → (w.cell? ⟨g, kk * 4 + j, none⟩).isSome = true := fun j hj => by
    have hk2 : kk + j / 4 < M.length := by omega
    have hi : j % 4 < (vC M[kk + j / 4]).length := Nat.mod_lt _ (by decide)
    have := h.c (kk + j / 4) hk2 (j % 4) _ (List.getElem?_eq_getElem hi)
    rw [show (kk + j / 4) * 4 + j % 4 = kk * 4 + j by omega] at this
    rw [this]; rfl
  have hfree : ∀ j, j < (M.length - kk) * 4 → w.frozen? ⟨g, kk * 4 + j, none⟩ = false := fun j hj => h.f _ (by omega)
  refine ⟨_, fun ty => run_clear_V w ty g (kk * 4) (M.length - kk) c (by omega) hcell hfree, ⟨fun j hj i u hu => ?_, fun t ht => ?_⟩, ExtC.setCells (C := (· = g)) rfl _ _ _ (ExtC.refl _ _)⟩
  · rw [List.length_take] at hj
    have hi : i < 4 := by
      rcases Nat.lt_or_ge i 4 with h1 | h1
      · exact h1
      · rw [List.getElem?_eq_none (by show 4 ≤ i; exact h1)] at hu; cases hu
    rw [World.cell?_setCells_out _ _ _ _ _ (fun _ _ => .inl (by show j * 4 + i < kk * 4; omega))]
    rw [List.getElem_take] at hu
    exact h.c j (by omega) i u hu
  · rw [List.length_take] at ht
    rw [World.frozen?_setCells]
    exact h.f t (by omega)
set_option maxHeartbeats 4000000 in
theorem sameV_any (u v : V4) (w : World) (hg : GoodN w) (h1 : u.err = 0) (h2 : v.err = 0) (h3 : u.a.size ≤ 2097152) (h4 : v.a.size ≤ 2097152) :
    Calls Tryz.prog 170 #[verV u, verV v] w fun e w' => e = .returned (.bool (decide (u.ord v = 0))) ∧ Ext w w' := by
  have cC := fun W (h : Ext w W) => CompareOf_any u.a1 u.a2 u.a3 v.a1 v.a2 v.a3 u.a v.a W (hg.ext h) h3 h4 h1 h2
  rw [show u.ord v = orderL u.a1 u.a2 u.a3 (bs u.a) v.a1 v.a2 v.a3 (bs v.a) from rfl]
  generalize orderL u.a1 u.a2 u.a3 (bs u.a) v.a1 v.a2 v.a3 (bs v.a) = O at *
  obtain ⟨u1, u2, u3, ua⟩ := u
  obtain ⟨v1, v2, v3, va⟩ := v
  dsimp only [verV] at cC ⊢
  have CC := Lib.hid cC
  clear cC h1 h2
  go_enter Tryz.func170, Tryz.ntmps170
  go_wp2_with fail
  refine (CC.out _ (by repeat (first | with_reducible exact Ext.refl _ | with_reducible assumption | with_reducible apply Ext.drewN | with_reducible apply Ext.drew | with_reducible apply Ext.alloc | exact Ext.refl _ | assumption | apply Ext.drewN | apply Ext.drew | apply Ext.alloc))).mono ?_
  rintro e w1 ⟨rfl, hx1⟩
  go_wp2
  go_ret
  refine ⟨ret_bool ?_, Ext.trans (by repeat (first | with_reducible exact Ext.refl _ | with_reducible assumption | with_reducible apply Ext.drewN | with_reducible apply Ext.drew | with_reducible apply Ext.alloc | exact Ext.refl _ | assumption | apply Ext.drewN | apply Ext.drew | apply Ext.alloc)) hx1⟩
  first | done | rfl | (by_cases h : O = 0 <;> simp [h])
theorem enters_same : ∀ xs w, Sem.run Tryz.prog (callFunc 170 xs) w = .ok (.enter 170 xs) w := enters_of Tryz.func170 (by kernel_rfl) rfl
set_option maxHeartbeats 16000000 in
set_option maxRecDepth 100000 in
theorem CompactV_any (g c : Nat) (D : List V4) (w0 w : World) (hg : GoodN w0) (hx : Ext w0 w) (hge : w0.heap.size ≤ g) (hr : RowV w g D) (h0 : 0 < D.length) (hl : D.length ≤ 1000) (hc : D.length ≤ c) (hv : ∀ v ∈ D, v.err = 0 ∧ v.a.size ≤ 2097152) :
    Calls Tryz.prog 169 #[.slice (some ⟨g, 0, none⟩) D.length c, .func (.func 170) #[] #[]] w fun e w' =>
      e = .returned (.slice (some ⟨g, 0, none⟩) (cptN D D.length).length c) ∧ RowV w' g (cptN D D.length) ∧ ExtC (· = g) w w' := by
  have CS := Lib.hid (fun i j (hi : i < D.length) (hj : j < D.length) W (h : Ext w0 W) => sameV_any D[i] D[j] W (hg.ext h) (hv _ (List.getElem_mem hi)).1 (hv _ (List.getElem_mem hj)).1 (hv _ (List.getElem_mem hi)).2 (hv _ (List.getElem_mem hj)).2)
  obtain ⟨n, hn⟩ : ∃ n, n = D.length := ⟨_, rfl⟩
  have HN := Lib.hid hn
  have HV := Lib.hid hv
  have HG := Lib.hid hge
  have hall1 : cptN D 1 = D.take 1 := by
    rw [cpt_keep h0 fun h => absurd h (Nat.lt_irrefl _)]
    rw [List.take_succ_eq_append_getElem h0]
    rfl
  have HALL1 := Lib.hid hall1
  have HFULL := Lib.hid (fun h : cptN D D.length = D.take D.length => show cptN D D.length = D by rw [h, List.take_length])
  rw [← hn] at h0 hl hc ⊢
  have HDN : Hid (cptN D n = cptN D D.length) := Lib.hid (by rw [hn])
  clear hn hall1 hv
  have hgl : g < w.heap.size := hr.lt (by rw [← HN.out]; exact h0)
  by_cases h2 : n < 2
  · obtain rfl : n = 1 := by omega
    have hfin : cptN D 1 = D := by have h := HALL1.out; rw [h]; exact List.take_of_length_le (by rw [← HN.out]; exact Nat.le_refl _)
    have hlen : (cptN D 1).length = 1 := by rw [hfin, ← HN.out]
    have HFIN := Lib.hid hfin
    have HLEN := Lib.hid hlen
    clear hfin hlen
    have HR := Lib.hid hr
    clear hr
    rw [HLEN.out]
    go_enter Tryz.func169, Tryz.ntmps169
    go_wp2
    go_ret
    exact ⟨rfl, by rw [HFIN.out]; exact HR.out, ExtC.refl _ _⟩
  have n2 : ¬ ((n : Int) < 2) := by omega
  go_enter Tryz.func169, Tryz.ntmps169
  go_wp2
  go_loopg [5] n (fun gg i wr => ∃ k : Nat, 1 ≤ k ∧ k ≤ n ∧ n - k ≤ gg ∧ i = .int .i64 k ∧ Hid (cptN D k = D.take k) ∧ Ext w wr)
  case atStart => exact ⟨1, Nat.le_refl _, by omega, by omega, rfl, HALL1.out, Ext.refl _⟩
  case round =>
    obtain ⟨k, hk1, hk, hgk, rfl, HALL, hxr⟩ := hrel
    by_cases hlt : k < n
    · obtain ⟨kp, rfl⟩ : ∃ kp, k = kp + 1 := ⟨k - 1, by omega⟩
      have hk2 : kp + 1 < D.length := by rw [← HN.out]; exact hlt
      have hk3 : kp < D.length := by omega
      have R := hr.ext hxr
      have x0 := R.c0 hk2; have x1 := R.c1 hk2; have x2 := R.c2 hk2; have x3 := R.c3 hk2
      have y0 := R.c0 hk3; have y1 := R.c1 hk3; have y2 := R.c2 hk3; have y3 := R.c3 hk3
      have gl := lt_of_cell y0
      have cS := CS.out (kp + 1) kp hk2 hk3
      have HDUP := Lib.hid (fun e : D[kp + 1].ord D[kp + 1 - 1] = 0 => CptInv.start (D := D) (k := kp + 1) (Nat.succ_pos kp) hk2 HALL.out e)
      have HSTP := Lib.hid (fun e : ¬ D[kp + 1].ord D[kp] = 0 => show cptN D (kp + 1 + 1) = D.take (kp + 1 + 1) by
        rw [cpt_keep hk2 fun _ => e, HALL.out]
        rw [List.take_succ_eq_append_getElem hk2])
      simp only [Nat.add_sub_cancel] at HDUP
      generalize D[kp + 1] = u at *
      generalize D[kp] = v at *
      generalize u.ord v = O at *
      obtain ⟨u1, u2, u3, ua⟩ := u
      obtain ⟨v1, v2, v3, va⟩ := v
      dsimp only [verV] at x0 x1 x2 x3 y0 y1 y2 y3 cS
      have CS2 := Lib.hid cS
      have p0 : (0 : Int) ≤ (kp : Int) + 1 := by omega
      have e0 : ((kp : Int) + 1).toNat = kp + 1 := by omega
      have hwp : IntKind.i64.wrap (kp : Int) = (kp : Int) := by rw [IntKind.wrap_i64]; omega
      have q0 : (kp : Int) + 1 < (n : Int) := by omega
      have q1 : (kp : Int) < (n : Int) := by omega
      have hxw := hx.trans hxr
      clear cS R
      by_cases hO : O = 0
      · have HI := Lib.hid (HDUP.out hO)
        rw [decide_eq_true hO] at CS2
        clear hO HDUP HSTP
        go_wp2_with fail
        refine wp_region_ext (by kernel_rfl) (by kernel_rfl) ?_
        repeat (first | go_big_quiet_skip | (refine wpQuiet_step (fun K hK => ?_); go_simp; first | (refine hK _ ?_; clear hK K) | (apply Exists.intro; refine ⟨fun wq hwq => ?_, hK _ ?_⟩; (obtain ⟨hqc, hqf⟩ := hwq.cells; have hqs := hwq.size; (try go_simp); first | rfl | ((first | rw [if_neg (by omega)] | rw [if_pos (by omega)]); (try go_simp); rfl) | ((go_at_call 170; exact (CS2.out _ (hxw.trans hwq)).mono (fun e w'' h => ⟨h.1, hwq.trans h.2⟩)))); clear hK K)))
        refine wpQuiet_nil ?_
        intro wN hxN
        obtain ⟨hcN, hfN⟩ := hxN.cells
        have hsN := hxN.size
        have hck : ¬ c = kp + 1 := by omega
        have RN := (hr.ext hxr).ext hxN
        have hxrN := hxr.trans hxN
        clear x0 x1 x2 x3 y0 y1 y2 y3 gl hwp hcN hfN hsN CS2
        go_wp2
        go_loopg [5, 7] n (fun gg i i2 wq => ∃ (kk k2 : Nat) (M : List V4), i = .int .i64 kk ∧ i2 = .int .i64 k2 ∧ 1 ≤ k2 ∧ kp + 1 + k2 ≤ n ∧ n - (kp + 1 + k2) ≤ gg ∧ Hid (CptInv D (kp + 1 + k2) kk M) ∧ RowV wq g M ∧ ExtC (· = g) w wq)
        case atStart => exact ⟨kp + 1, 1, D, by go_num, rfl, Nat.le_refl _, by omega, by omega, HI.out, RN, ExtC.ofExt hxrN⟩
        case round =>
          obtain ⟨kk, k2, M, rfl, rfl, h12, hle, hg2, HINV, RM, hxc⟩ := hrel
          have hkl := HINV.out.lt
          have hML : M.length = n := by rw [HINV.out.len, ← HN.out]
          have HML := Lib.hid hML
          have hxw2 : Ext w0 wr := ExtC.ext hx hxc fun i e => by rw [e]; exact HG.out
          clear hML
          by_cases hlt2 : kp + 1 + k2 < n
          · obtain ⟨q, rfl⟩ : ∃ q, k2 = q + 1 := ⟨k2 - 1, by omega⟩
            have m1 : kp + 1 + (q + 1) < M.length := by rw [HML.out]; omega
            have m2 : kp + 1 + q < M.length := by omega
            have d1 : kp + 1 + (q + 1) < D.length := by rw [← HN.out]; omega
            have d2 : kp + 1 + q < D.length := by omega
            have m3 : kk < M.length := by rw [HML.out]; omega
            have em1 := HINV.out.high _ m1 d1 (by omega)
            have em2 := HINV.out.high _ m2 d2 (by omega)
            have x0 := RM.c0 m1; have x1 := RM.c1 m1; have x2 := RM.c2 m1; have x3 := RM.c3 m1
            have y0 := RM.c0 m2; have y1 := RM.c1 m2; have y2 := RM.c2 m2; have y3 := RM.c3 m2
            have z0 := RM.c0 m3; have z1 := RM.c1 m3; have z2 := RM.c2 m3; have z3 := RM.c3 m3
            rw [em1, show (kp + 1 + (q + 1)) * 4 = (kp + 1) * 4 + (q + 1) * 4 by omega] at x0 x1 x2 x3
            rw [em2, show (kp + 1 + q) * 4 = (kp + 1) * 4 + q * 4 by omega] at y0 y1 y2 y3
            have gl := lt_of_cell y0
            have cS := CS.out (kp + 1 + (q + 1)) (kp + 1 + q) d1 d2
            have HSK := Lib.hid (fun e : D[kp + 1 + (q + 1)].ord D[kp + 1 + (q + 1) - 1] = 0 => HINV.out.skip (by omega) d1 e)
            have HKP := Lib.hid (fun e : ¬ D[kp + 1 + (q + 1)].ord D[kp + 1 + (q + 1) - 1] = 0 => HINV.out.keep d1 e)
            simp only [show kp + 1 + (q + 1) - 1 = kp + 1 + q by omega] at HSK HKP
            have RS := Lib.hid (RM.set m3)
            have RF := RM.f
            clear em1 em2
            generalize D[kp + 1 + (q + 1)] = u at *
            generalize D[kp + 1 + q] = v at *
            generalize u.ord v = O at *
            obtain ⟨u1, u2, u3, ua⟩ := u
            obtain ⟨v1, v2, v3, va⟩ := v
            dsimp only [verV] at x0 x1 x2 x3 y0 y1 y2 y3 cS
            have CS3 := Lib.hid cS
            have p0 : (0 : Int) ≤ (q : Int) + 1 := by omega
            have e0 : ((q : Int) + 1).toNat = q + 1 := by omega
            have hwp : IntKind.i64.wrap (q : Int) = (q : Int) := by rw [IntKind.wrap_i64]; omega
            have q0 : (q : Int) + 1 < ((n - (kp + 1) : Nat) : Int) := by omega
            have q1 : (q : Int) < ((n - (kp + 1) : Nat) : Int) := by omega
            have k0 : (0 : Int) ≤ (kk : Int) := by omega
            have k1 : (kk : Int) < (n : Int) := by omega
            clear cS RS
            have HRM := Lib.hid RM
            by_cases hO : O = 0
            · have HF := Lib.hid (HSK.out hO)
              rw [decide_eq_true hO] at CS3
              clear hO HSK HKP z0 z1 z2 z3 RF
              go_wp2_with fail
              refine wp_region_ext (by kernel_rfl) (by kernel_rfl) ?_
              repeat (first | go_big_quiet_skip | (refine wpQuiet_step (fun K hK => ?_); go_simp; first | (refine hK _ ?_; clear hK K) | (apply Exists.intro; refine ⟨fun wq hwq => ?_, hK _ ?_⟩; (obtain ⟨hqc, hqf⟩ := hwq.cells; have hqs := hwq.size; (try go_simp); first | rfl | ((first | rw [if_neg (by omega)] | rw [if_pos (by omega)]); (try go_simp); rfl) | ((go_at_call 170; exact (CS3.out _ (hxw2.trans hwq)).mono (fun e w'' h => ⟨h.1, hwq.trans h.2⟩)))); clear hK K)))
              refine wpQuiet_nil ?_
              intro wN hxN
              obtain ⟨hcN, hfN⟩ := hxN.cells
              have hsN := hxN.size
              clear hwp
              go_wp2
              go_roundg (n - (kp + 1 + (q + 1 + 1)))
              case rel => exact ⟨kk, q + 1 + 1, M, rfl, by go_num, by omega, by omega, Nat.le_refl _, HF.out, HRM.out.ext hxN, hxc.trans (ExtC.ofExt hxN)⟩
              case measure => omega
            · have HF := Lib.hid (HKP.out hO)
              rw [decide_eq_false hO] at CS3
              clear hO HSK HKP
              go_wp2_with fail
              refine wp_region_ext (by kernel_rfl) (by kernel_rfl) ?_
              repeat (first | go_big_quiet_skip | (refine wpQuiet_step (fun K hK => ?_); go_simp; first | (refine hK _ ?_; clear hK K) | (apply Exists.intro; refine ⟨fun wq hwq => ?_, hK _ ?_⟩; (obtain ⟨hqc, hqf⟩ := hwq.cells; have hqs := hwq.size; (try go_simp); first | rfl | ((first | rw [if_neg (by omega)] | rw [if_pos (by omega)]); (try go_simp); rfl) | ((go_at_call 170; exact (CS3.out _ (hxw2.trans hwq)).mono (fun e w'' h => ⟨h.1, hwq.trans h.2⟩)))); clear hK K)))
              refine wpQuiet_nil ?_
              intro wN hxN
              obtain ⟨hcN, hfN⟩ := hxN.cells
              have hsN := hxN.size
              have RN := HRM.out.ext hxN
              have n0 := hxN.cell x0; have n1 := hxN.cell x1; have n2 := hxN.cell x2; have n3 := hxN.cell x3
              have o0 := hxN.cell z0; have o1 := hxN.cell z1; have o2 := hxN.cell z2; have o3 := hxN.cell z3
              have f0 := RN.f (kk * 4) (by omega); have f1 := RN.f (kk * 4 + 1) (by omega); have f2 := RN.f (kk * 4 + 2) (by omega); have f3 := RN.f (kk * 4 + 3) (by omega)
              have HRS := Lib.hid (RN.set m3 ⟨u1, u2, u3, ua⟩)
              clear hwp x0 x1 x2 x3 y0 y1 y2 y3 z0 z1 z2 z3 RF RN hcN hfN hsN RM
              go_wp2
              go_roundg (n - (kp + 1 + (q + 1 + 1)))
              case rel => exact ⟨kk + 1, q + 1 + 1, _, by go_num, by go_num, by omega, by omega, Nat.le_refl _, HF.out, HRS.out, ((((hxc.trans (ExtC.ofExt hxN)).set (.inl rfl) _).set (.inl rfl) _).set (.inl rfl) _).set (.inl rfl) _⟩
              case measure => omega
          · have hend : kp + 1 + k2 = n := by omega
            have hkk : kk < n := by omega
            obtain ⟨w9, hcl, hR9, hE9⟩ := RM.clear (c := c - kk) HML.out hkk
            have hck2 : ¬ c = kk := by omega
            have k0 : (0 : Int) ≤ (kk : Int) := by omega
            have k1 : (kk : Int) < (n : Int) := by omega
            have hdone := HINV.out.done
            have hnum := HINV.out.num
            rw [hend] at hdone hnum
            rw [hdone] at hR9
            have HR9 := Lib.hid hR9; have HE9 := Lib.hid hE9; have HNUM := Lib.hid hnum
            clear hR9 hE9 hdone hnum hend
            go_wp2
            go_ret
            exact ⟨congrArg (fun z => Ending.returned (.slice (some ⟨g, 0, none⟩) z c)) HNUM.out, HR9.out, hxc.trans HE9.out⟩
      · have HF := Lib.hid (HSTP.out hO)
        rw [decide_eq_false hO] at CS2
        clear hO HDUP HSTP
        go_wp2_with fail
        refine wp_region_ext (by kernel_rfl) (by kernel_rfl) ?_
        repeat (first | go_big_quiet_skip | (refine wpQuiet_step (fun K hK => ?_); go_simp; first | (refine hK _ ?_; clear hK K) | (apply Exists.intro; refine ⟨fun wq hwq => ?_, hK _ ?_⟩; (obtain ⟨hqc, hqf⟩ := hwq.cells; have hqs := hwq.size; (try go_simp); first | rfl | ((first | rw [if_neg (by omega)] | rw [if_pos (by omega)]); (try go_simp); rfl) | ((go_at_call 170; exact (CS2.out _ (hxw.trans hwq)).mono (fun e w'' h => ⟨h.1, hwq.trans h.2⟩)))); clear hK K)))
        refine wpQuiet_nil ?_
        intro wN hxN
        obtain ⟨hcN, hfN⟩ := hxN.cells
        have hsN := hxN.size
        clear hwp
        go_wp2
        go_roundg (n - (kp + 1 + 1))
        case rel => exact ⟨kp + 1 + 1, by omega, by omega, Nat.le_refl _, by go_num, HF.out, hxr.trans hxN⟩
        case measure => omega
    · obtain rfl : k = n := by omega
      have hfin := HFULL.out (by rw [← HDN.out, HALL.out, HN.out])
      have HFIN := Lib.hid (show cptN D k = D by rw [HDN.out]; exact hfin)
      have HLEN := Lib.hid (show (cptN D k).length = k by rw [HFIN.out, ← HN.out])
      clear hfin
      go_wp2
      go_ret
      exact ⟨congrArg (fun z => Ending.returned (.slice (some ⟨g, 0, none⟩) z c)) HLEN.out.symm, by rw [HFIN.out]; exact hr.ext hxr, ExtC.ofExt hxr⟩
end Go.Proofs.YtcmceeihdhcmnaaGreatDoor
