/- slices.SortFunc over versions: the row that holds them is sorted. -/
import Derived.Test.YtcmceeihdhcmnaaGreatDoorRm31
import Derived.Test.YtcmceeihdhcmnaaGreatDoorRm28
import Derived.Test.YtcmceeihdhcmnaaGreatDoorShelfG
import Derived.Test.YtcmceeihdhcmnaaGreatDoorRm15
import Derived.Test.YtcmceeihdhcmnaaGreatDoorRm27
import Derived.Shelf.SlSortCmp.WholeK

namespace Go.Proofs.YtcmceeihdhcmnaaGreatDoor
open Go.RowKit

/-! ### Versions in a row of the call's own -/
def vC (v : V4) : List Value := [.int .i64 v.a1, .int .i64 v.a2, .int .i64 v.a3, .string v.a]
structure RowV (w : World) (g : Nat) (l : List V4) : Prop where
  c : ∀ k (h : k < l.length) (i : Nat) (u : Value), (vC l[k])[i]? = some u → w.cell? ⟨g, k * 4 + i, none⟩ = some u
  f : ∀ t, t < l.length * 4 → w.frozen? ⟨g, t, none⟩ = false
theorem RowV.c0 {w : World} {g : Nat} {l : List V4} (h : RowV w g l) {k : Nat} (hk : k < l.length) : w.cell? ⟨g, k * 4, none⟩ = some (.int .i64 l[k].a1) := h.c k hk 0 _ rfl
theorem RowV.c1 {w : World} {g : Nat} {l : List V4} (h : RowV w g l) {k : Nat} (hk : k < l.length) : w.cell? ⟨g, k * 4 + 1, none⟩ = some (.int .i64 l[k].a2) := h.c k hk 1 _ rfl
theorem RowV.c2 {w : World} {g : Nat} {l : List V4} (h : RowV w g l) {k : Nat} (hk : k < l.length) : w.cell? ⟨g, k * 4 + 2, none⟩ = some (.int .i64 l[k].a3) := h.c k hk 2 _ rfl
theorem RowV.c3 {w : World} {g : Nat} {l : List V4} (h : RowV w g l) {k : Nat} (hk : k < l.length) : w.cell? ⟨g, k * 4 + 3, none⟩ = some (.string l[k].a) := h.c k hk 3 _ rfl
theorem RowV.lt {w : World} {g : Nat} {l : List V4} (h : RowV w g l) (h0 : 0 < l.length) : g < w.heap.size := lt_of_cell (h.c0 h0)
theorem RowV.ext {w w' : World} {g : Nat} {l : List V4} (h : RowV w g l) (hx : Ext w w') : RowV w' g l := by
  refine ⟨fun k hk i u hu => hx.cell (h.c k hk i u hu), fun t ht => ?_⟩
  rw [hx.cells.2 g t (h.lt (by omega))]
  exact h.f t ht
/-- a right version, as small as the walks ask -/
abbrev R4 : Type := {v : V4 // v.err = 0 ∧ v.a.size ≤ 2097152}
instance : Inhabited R4 := ⟨⟨zeroV, zero_err, by decide⟩⟩
def encR (x : R4) : List Value := vC x.1
theorem encR_length (x : R4) : (encR x).length = 4 := rfl
theorem r4_list : ∀ l : List V4, (∀ v ∈ l, v.err = 0 ∧ v.a.size ≤ 2097152) → ∃ d : List R4, d.map (·.1) = l
  | [], _ => ⟨[], rfl⟩
  | v :: l, h => by
    obtain ⟨d, hd⟩ := r4_list l fun x hx => h x (List.mem_cons_of_mem _ hx)
    exact ⟨⟨v, h v (by simp)⟩ :: d, by rw [List.map_cons, hd]⟩
theorem holds_row {w : World} {g : Nat} {d : List R4} (h : RowV w g (d.map (·.1))) : Sort.HoldsK encR 4 w g 0 d.toArray := by
  intro t ht
  have ht2 : t < d.length * 4 := by simpa using ht
  have hk : t / 4 < d.length := by omega
  have hi : t % 4 < 4 := Nat.mod_lt _ (by decide)
  rw [Sort.get_flatK _ _ _ _ (by simpa using ht2), Nat.zero_add]
  refine ⟨?_, h.f t (by simpa using ht2)⟩
  have hk2 : t / 4 < (d.map (·.1)).length := by simpa using hk
  have e : d.toArray[t / 4]! = d[t / 4] := by simp [hk]
  have he : (d.map (·.1))[t / 4]'hk2 = d[t / 4].1 := by simp
  have := h.c (t / 4) hk2 (t % 4) ((encR d[t / 4])[t % 4]!) (by
    rw [he]
    show (encR d[t / 4])[t % 4]? = _
    rw [List.getElem?_eq_getElem (by rw [encR_length]; exact hi), getElem!_pos (encR d[t / 4]) (t % 4) (by rw [encR_length]; exact hi)])
  rw [show t / 4 * 4 + t % 4 = t by omega] at this
  rw [e]
  exact this
theorem row_holds {w : World} {g : Nat} {d : Array R4} (h : Sort.HoldsK encR 4 w g 0 d) : RowV w g (d.toList.map (·.1)) := by
  refine ⟨fun k hk i u hu => ?_, fun t ht => ?_⟩
  · have hk2 : k < d.size := by simpa using hk
    have hi : i < 4 := by
      rcases Nat.lt_or_ge i 4 with h1 | h1
      · exact h1
      · rw [List.getElem?_eq_none (by show 4 ≤ i; exact h1)] at hu; cases hu
    have h1 := (h.cell hk2 hi).1
    rw [Nat.zero_add] at h1
    rw [h1]
    have he : (d.toList.map (·.1))[k]'hk = d[k]!.1 := by simp [hk2]
    rw [he] at hu
    have hlt : i < (encR d[k]!).length := by rw [encR_length]; exact hi
    rw [getElem!_pos (encR d[k]!) i hlt]
    have h2 : (encR d[k]!)[i]? = some u := hu
    rw [List.getElem?_eq_getElem hlt] at h2
    exact h2
  · have ht2 : t < d.size * 4 := by simpa using ht
    have h1 := (h.cell (i := t / 4) (c := t % 4) (by omega) (Nat.mod_lt _ (by decide))).2
    rw [Nat.zero_add, show t / 4 * 4 + t % 4 = t by omega] at h1
    exact h1

/-! ### The sort's worlds -/
theorem sortW_extC (w : World) (g m : Nat) (d : Array R4) (os : Array Obj) : ExtC (· = g) w (sortWorldK encR 4 w g 0 m d os) := by
  refine ⟨rfl, rfl, rfl, ?_, fun k hk hne => ?_⟩
  · exact size_sortWorldK_c encR 4 w g 0 m d os
  · unfold sortWorldK Sort.grow Sort.putRowK Sort.putRow Sort.mapBlock
    show (_ ++ os)[k]? = _
    rw [Array.getElem?_append]
    simp only [Sort.ahead, Array.size_modify, Array.getElem?_modify]
    rw [if_pos hk, if_neg (fun e => hne e.symm)]
theorem swo_ver : Sort.SWO (ltOf fun x y : R4 => x.1.ord y.1) where
  irrefl x := by
    show decide (x.1.ord x.1 < 0) = false
    rw [pre_ord.self]; rfl
  trans x y z h1 h2 := by
    unfold ltOf at *
    rw [decide_eq_true_eq] at *
    exact pre_ord.lt h1 h2
  ntrans x y z h1 h2 := by
    unfold ltOf at *
    rw [decide_eq_false_iff_not] at *
    dsimp only at h1 h2 ⊢
    have a1 := pre_ord.anti x.1 y.1; have a2 := pre_ord.anti y.1 z.1; have a3 := pre_ord.anti x.1 z.1
    have b1 := pre_ord.anti y.1 x.1; have b2 := pre_ord.anti z.1 y.1; have b3 := pre_ord.anti z.1 x.1
    have := pre_ord.le z.1 y.1 x.1
    omega
theorem enters_cmp : ∀ xs w, Sem.run Tryz.prog (callFunc 33 xs) w = .ok (.enter 33 xs) w := enters_of Tryz.func33 (by kernel_rfl) rfl
theorem cmp_lays (w0 w : World) (g n : Nat) (hg : GoodN w0) (hx : Ext w0 w) (hge : w0.heap.size ≤ g) : CmpLays Tryz.prog 33 #[] encR 4 (fun x y => x.1.ord y.1) g 0 n w := by
  intro m os dk _ x y
  have hxe : Ext w0 (sortWorldK encR 4 w g 0 m dk os) := ExtC.ext hx (sortW_extC w g m dk os) fun i e => by rw [e]; exact hge
  exact calls_grown (CompareOf_any x.1.a1 x.1.a2 x.1.a3 y.1.a1 y.1.a2 y.1.a3 x.1.a y.1.a _ (hg.ext hxe) x.2.2 y.2.2 x.2.1 y.2.1)
theorem SortV_any (g c : Nat) (l : List V4) (w0 w : World) (hg : GoodN w0) (hx : Ext w0 w) (hge : w0.heap.size ≤ g) (hr : RowV w g l) (h0 : 0 < l.length) (hl : l.length ≤ 1000000) (hv : ∀ v ∈ l, v.err = 0 ∧ v.a.size ≤ 2097152) :
    Calls Tryz.prog 168 #[.slice (some ⟨g, 0, none⟩) l.length c, .func (.func 33) #[] #[]] w fun e w' =>
      e = .returned (.tuple #[]) ∧ ∃ l', l'.Perm l ∧ (l'.Pairwise fun u v => u.ord v ≤ 0) ∧ RowV w' g l' ∧ ExtC (· = g) w w' := by
  obtain ⟨d, rfl⟩ := r4_list l hv
  have hgl := hr.lt h0
  have hH := holds_row hr
  have hsz0 : d.toArray.size < 4611686018427387904 := by
    have h : d.length ≤ 1000000 := by simpa using hl
    simp only [List.size_toArray]
    omega
  have key := AnyQ.slices_SortFunc Tryz.sortVer 4 Tryz.isAgg35 Tryz.sizeOf35 encR encR_length (fun x u hu => by simp only [encR, vC, List.mem_cons, List.not_mem_nil, or_false] at hu; rcases hu with rfl | rfl | rfl | rfl <;> rfl) (fun x y => x.1.ord y.1) swo_ver 33 #[] g 0 c d.toArray w enters_cmp (cmp_lays w0 w g _ hg hx hge) hH hgl hsz0
  have e1 : d.toArray.size = (d.map (·.1)).length := by simp
  rw [e1] at key
  change Calls Tryz.prog 168 _ _ _ at key
  refine key.mono ?_
  rintro e w' ⟨rfl, d', n, os, hp, hs, rfl⟩
  obtain ⟨hps, _, hpp⟩ := hp
  have hsz : d'.size = d.length := by rw [hps]; simp
  have hperm : d'.toList.Perm d := by
    have h1 : (d'.extract 0 (d.map (·.1)).length).toList = d'.toList := by rw [show (d.map (·.1)).length = d'.size by rw [hsz]; simp]; simp
    have h2 : (d.toArray.extract 0 (d.map (·.1)).length).toList = d := by simp
    rw [h1, h2] at hpp
    exact hpp
  refine ⟨rfl, d'.toList.map (·.1), hperm.map _, ?_, ?_, sortW_extC _ _ _ _ _⟩
  · rw [List.pairwise_map, List.pairwise_iff_getElem]
    intro i j hi hj hij
    have hi2 : i < d'.size := by simpa using hi
    have hj2 : j < d'.size := by simpa using hj
    have h := hs i j (Nat.zero_le _) hij (by simp; omega)
    unfold ltOf at h
    rw [decide_eq_false_iff_not, getElem!_pos d' i hi2, getElem!_pos d' j hj2] at h
    dsimp only at h
    have a := pre_ord.anti d'[j].1 d'[i].1
    have b := pre_ord.anti d'[i].1 d'[j].1
    have ei : d'.toList[i] = d'[i] := by simp
    have ej : d'.toList[j] = d'[j] := by simp
    rw [ei, ej]
    omega
  · exact row_holds (holdsK_sortWorldK_c encR 4 w g 0 d.toArray d' n os hH hgl (by rw [hps]))
end Go.Proofs.YtcmceeihdhcmnaaGreatDoor
