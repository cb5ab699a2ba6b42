/- Plain law: whether a condition holds. A condition among the arguments. Plain law: how long a condition's text is; joined texts. Contract of ver.condText and ver.PrintCond. (Printed by gen/ctxa.py.) Contract of ver.PrintCond. Plain law: the value of a key among ordered settings. A set of names that the call itself has made; its names in order. Texts in a slice; slices.Equal at equal texts. -/
import Derived.Test.YtaobnifiengglaaGreatDoorAl29
import Derived.Test.YtaobnifiengglaaGreatDoorAl25
import Derived.Test.YtaobnifiengglaaGreatDoorAl23
import Derived.Test.YtaobnifiengglaaGreatDoorAl28
import Derived.Test.YtaobnifiengglaaGreatDoorAl30
import Derived.Test.YtaobnifiengglaaGreatDoorAl16
import Derived.Test.YtaobnifiengglaaGreatDoorAl27
import Derived.Sort.Walk0
import Derived.Sort.KeysCollected
import Derived.Lib.SlicesCompact
import Derived.Test.YtaobnifiengglaaGreatDoorAl02

namespace Go.Proofs.YtaobnifiengglaaGreatDoor

/-- by its facts and settings, as functions of a name -/
def verIn (x s : Str) : Bool := decide ((pV s).2 = 0) && hasL (parseR x).1 (pV s).1
mutual
def holdsC (F S : Str → Option Str) : Cd → Bool
  | .mk k n x l =>
    if k = 2 then decide (F (bs n) = some (bs x))
    else if k = 3 then decide (S (bs n) = some (bs x))
    else if k = 4 then (S (bs n)).isSome
    else if k = 5 then (match F (bs n) with | some s => verIn (bs x) s | none => false)
    else if k = 6 then !((holdsCs F S l).headD false)
    else if k = 7 then (holdsCs F S l).all id
    else if k = 8 then (holdsCs F S l).any id
    else true
def holdsCs (F S : Str → Option Str) : List Cd → List Bool | [] => [] | c :: l => holdsC F S c :: holdsCs F S l
end
theorem holds_map (F S : Str → Option Str) : ∀ l : List Cd, holdsCs F S l = l.map (holdsC F S)
  | [] => by simp [holdsCs]
  | c :: l => by simp [holdsCs, holds_map F S l]
theorem holds_all (F S : Str → Option Str) (n x : ByteArray) (l : List Cd) : holdsC F S (.mk 7 n x l) = !(l.any fun c => !holdsC F S c) := by
  have h : holdsC F S (.mk 7 n x l) = (holdsCs F S l).all id := by unfold holdsC; rfl
  rw [h, holds_map]
  generalize holdsC F S = f
  rw [List.all_map]
  clear h
  induction l with
  | nil => rfl
  | cons a l ih =>
    rw [List.all_cons, List.any_cons, ih]
    show (f a && _) = _
    cases f a <;> simp
theorem holds_some (F S : Str → Option Str) (n x : ByteArray) (l : List Cd) : holdsC F S (.mk 8 n x l) = l.any fun c => holdsC F S c := by
  have h : holdsC F S (.mk 8 n x l) = (holdsCs F S l).any id := by unfold holdsC; rfl
  rw [h, holds_map]
  generalize holdsC F S = f
  simp [List.any_map]
end Go.Proofs.YtaobnifiengglaaGreatDoor

namespace Go.Proofs.YtaobnifiengglaaGreatDoor
open Go.ChangeShapes Go.WideShapes Go.ChangeAt Go.RowKit Go.WideElems Go.Joins

theorem StrC.le {m m' : Nat} (hm : m ≤ m') {c : Cd} (h : StrC m c) : StrC m' c := by
  induction h with
  | mk k n x l hn hx _ ih => exact .mk k n x l (by omega) (by omega) ih
instance : Inhabited Cd := ⟨zeroC⟩
theorem bulk_mem {H : Type} {n : Nat} {D : Nat → DataW H} {i : Nat} (h : i < n) : Rows.uptoBulk (D i) ≤ Rows.uptoBulkAll ((List.range n).map D) := by
  suffices ∀ l : List Nat, i ∈ l → Rows.uptoBulk (D i) ≤ Rows.uptoBulkAll (l.map D) from this _ (List.mem_range.2 h)
  intro l
  induction l with
  | nil => intro h; cases h
  | cons a l ih =>
    intro h
    simp only [List.map_cons, Rows.uptoBulkAll]
    rcases List.mem_cons.1 h with rfl | h
    · omega
    · have := ih h; omega
set_option maxRecDepth 100000 in
theorem opens_cond (H : Type) (enc : TypeId × Value → H) (W : World) : ∀ (N fuel : Nat) (cs : List Value) (x : DataW H × List MemPlace), DataW.trod enc Tryz.prog W 0 (fun _ => true) true fuel 61 cs = some x → Rows.uptoBulk x.1 ≤ N →
    ∃ c : Cd, CdIn (fun _ => True) W c (.agg cs.toArray) ∧ cnt c ≤ Rows.uptoBulk x.1 ∧ StrC (Rows.uptoBulk x.1) c := by
  intro N
  induction N with
  | zero =>
    intro fuel cs x h hb
    obtain ⟨y0, y1, y2, y3, n, rfl, hl, h0, h1, h2, h3⟩ := trod_struct4 Tryz.underlying61 h
    simp only [Rows.uptoBulk, Rows.uptoBulkAll] at hb
    omega
  | succ N ih =>
    intro fuel cs x h hb
    obtain ⟨y0, y1, y2, y3, n, rfl, hl, h0, h1, h2, h3⟩ := trod_struct4 Tryz.underlying61 h
    have hc : Tryz.prog.cellsOf 61 = 4 := by kernel_rfl
    have ci : Tryz.prog.cellsOf 3 = 1 := by kernel_rfl
    have cst : Tryz.prog.cellsOf 9 = 1 := by kernel_rfl
    have csl : Tryz.prog.cellsOf 59 = 1 := by kernel_rfl
    rw [hc] at hl
    match cs, hl with
    | [c0, c1, c2, c3], _ =>
      dsimp only at h0 h1 h2 h3
      rw [ci] at h0
      rw [cst] at h1 h2
      rw [csl] at h3
      obtain ⟨k, e0, b0⟩ := opens_int Tryz.underlying3 H enc W n _ _ h0
      obtain ⟨nm, e1, b1⟩ := opens_string Tryz.underlying9 H enc W n _ _ h1
      obtain ⟨vl, e2, b2⟩ := opens_string Tryz.underlying9 H enc W n _ _ h2
      simp at e0 e1 e2
      subst e0 e1 e2
      rcases Deep.open_slice Tryz.underlying59 h3 with ⟨e3, rfl⟩ | ⟨a, len, cap, m, n', D, Pl, e3, _, hlc, _, hm, rfl, hx⟩
      · simp at e3
        subst e3
        refine ⟨.mk k nm vl [], CdIn.leaf _ W k nm vl, ?_, ?_⟩
        · simp only [cnt_leaf, Rows.uptoBulk, Rows.uptoBulkAll]; omega
        · refine .mk _ _ _ _ ?_ ?_ (fun _ h => by cases h)
          all_goals (simp only [Rows.uptoBulk, Rows.uptoBulkAll] at b0 b1 b2 ⊢; omega)
      · have e3 : c3 = .slice (some a) len cap := by simpa using e3
        subst e3
        have hlm : len ≤ m := by rw [hm]; split <;> omega
        simp only [Rows.uptoBulk, Rows.uptoBulkAll] at hb
        have each : ∀ i, i < len → ∃ c : Cd, (cnt c ≤ Rows.uptoBulk (D i) ∧ StrC (Rows.uptoBulk (D i)) c) ∧ ∃ ecs : List Value, CdIn (fun _ => True) W c (.agg ecs.toArray) ∧ W.cells? 0 (a.add (i * 4)) 4 = some ecs := fun i hi => by
          obtain ⟨cs', g1, g2⟩ := hx i (by omega)
          have hbi := bulk_mem (D := D) hi
          obtain ⟨c, g3, g4, g5⟩ := ih n' cs' _ g2 (by dsimp only; omega)
          rw [hc] at g1
          exact ⟨c, ⟨g4, g5⟩, cs', g3, g1⟩
        obtain ⟨F, hF⟩ := Deep.choose_lt each
        have hrow : 0 < len → ∃ b off, a = ⟨b, off, none⟩ := fun hp => by
          obtain ⟨_, ecs0, _, hc0⟩ := hF 0 hp
          obtain ⟨_, hl0, hcell0⟩ := World.cells?_some hc0
          obtain ⟨b, off, spot⟩ := a
          have g0 := hcell0 0 (by decide)
          have hv : ecs0[0]? = some ecs0[0] := List.getElem?_eq_getElem (by omega)
          rw [hv] at g0
          have hspot : spot = none := by
            have := World.cell?_spot g0
            simpa [Addr.add] using this
          exact ⟨b, off, by rw [hspot]⟩
        obtain ⟨b, off, hab⟩ : ∃ b off, 0 < len → a = ⟨b, off, none⟩ := by
          rcases Nat.eq_zero_or_pos len with e | e
          · exact ⟨0, 0, fun h => by omega⟩
          · obtain ⟨b, off, h⟩ := hrow e; exact ⟨b, off, fun _ => h⟩
        have hcell : ∀ i, i < len → ∃ e0 e1 e2 e3 : Value, CdIn (fun _ => True) W (F i) (.agg #[e0, e1, e2, e3]) ∧ W.cell? ⟨b, off + i * 4, none⟩ = some e0 ∧ W.cell? ⟨b, off + i * 4 + 1, none⟩ = some e1 ∧ W.cell? ⟨b, off + i * 4 + 2, none⟩ = some e2 ∧ W.cell? ⟨b, off + i * 4 + 3, none⟩ = some e3 := fun i hi => by
          obtain ⟨_, ecs, hR, hcs⟩ := hF i hi
          rw [hab (by omega)] at hcs
          obtain ⟨_, hl1, hcl⟩ := World.cells?_some hcs
          have g : ∀ j, j < 4 → W.cell? ⟨b, off + i * 4 + j, none⟩ = ecs[j]? := fun j hj => by
            have := hcl j hj
            rwa [Deep.add_add, add_plain, ← Nat.add_assoc] at this
          match ecs, hl1, hR, g with
          | [e0, e1, e2, e3], _, hR, g => exact ⟨e0, e1, e2, e3, hR, g 0 (by decide), g 1 (by decide), g 2 (by decide), g 3 (by decide)⟩
        have hlen : ((List.range len).map F).length = len := by simp
        have u : ∀ i, i < len → ∀ j, j < 4 → W.cell? ⟨b, off + i * 4 + j, none⟩ = some ((W.cell? ⟨b, off + i * 4 + j, none⟩).getD z0) := fun i hi j hj => by
          obtain ⟨e0, e1, e2, e3, _, k0, k1, k2, k3⟩ := hcell i hi
          rcases (show j = 0 ∨ j = 1 ∨ j = 2 ∨ j = 3 by omega) with rfl | rfl | rfl | rfl
          · rw [show off + i * 4 + 0 = off + i * 4 from rfl, k0]; rfl
          · rw [k1]; rfl
          · rw [k2]; rfl
          · rw [k3]; rfl
        refine ⟨.mk k nm vl ((List.range len).map F), ?_, ?_, ?_⟩
        · have := CdIn.mk (P := fun _ => True) (w := W) k nm vl ((List.range len).map F) (some a) cap b off (fun i => (W.cell? ⟨b, off + i * 4 + 0, none⟩).getD z0) (fun i => (W.cell? ⟨b, off + i * 4 + 1, none⟩).getD z0) (fun i => (W.cell? ⟨b, off + i * 4 + 2, none⟩).getD z0) (fun i => (W.cell? ⟨b, off + i * 4 + 3, none⟩).getD z0)
            (fun h => by rw [hab (by simpa using h)]) (fun _ => trivial) (fun j hj => u j (by simpa using hj) 0 (by decide)) (fun j hj => u j (by simpa using hj) 1 (by decide)) (fun j hj => u j (by simpa using hj) 2 (by decide)) (fun j hj => u j (by simpa using hj) 3 (by decide))
            (fun j hj => by
              obtain ⟨e0, e1, e2, e3, hR, k0, k1, k2, k3⟩ := hcell j (by simpa using hj)
              rw [show off + j * 4 + 0 = off + j * 4 from rfl, k0, k1, k2, k3]
              simpa using hR)
          rwa [hlen] at this
        · have := bulkAll_le (H := H) (n := len) (D := D) (bk := fun i => cnt (F i)) fun i hi => (hF i hi).1.1
          have hs : ∀ l : List Nat, cnts (l.map F) = (l.map fun i => cnt (F i)).sum := fun l => by
            induction l with
            | nil => rfl
            | cons a l ih => simp only [List.map_cons, cnts, List.sum_cons, ih]
          rw [cnt_mk, hs]
          simp only [Rows.uptoBulk, Rows.uptoBulkAll]
          omega
        · refine .mk _ _ _ _ ?_ ?_ (fun c hc => ?_)
          · simp only [Rows.uptoBulk, Rows.uptoBulkAll] at b0 b1 b2 ⊢; omega
          · simp only [Rows.uptoBulk, Rows.uptoBulkAll] at b0 b1 b2 ⊢; omega
          · obtain ⟨i, hi, rfl⟩ := List.mem_map.1 hc
            have hi := List.mem_range.1 hi
            refine StrC.le ?_ (hF i hi).1.2
            have := bulk_mem (D := D) hi
            simp only [Rows.uptoBulk, Rows.uptoBulkAll]
            omega
end Go.Proofs.YtaobnifiengglaaGreatDoor

namespace Go.Proofs.YtaobnifiengglaaGreatDoor

theorem pathL_len {l : Str} (h : pathL l = true) : l.length ≤ 200 := by
  unfold pathL at h
  simp only [Bool.and_eq_true, decide_eq_true_eq] at h
  exact h.2
theorem part_sizes {k : Int} {n x : Str} {m : Nat} (h : partErr k n x m = 0) : n.length ≤ 200 ∧ x.length ≤ 1000 := by
  have hk := part_kind h
  have hf := part_form h
  obtain ⟨f1, f2, _, _⟩ := form_leaf hf
  by_cases hn : namedK k = true
  · unfold partErr at h
    rw [if_neg (by omega), if_neg (by rw [hf]; decide), if_neg (by rw [hn]; decide)] at h
    by_cases hx : (!(if k = 3 ∨ k = 4 then pathL n else nameL n)) = true
    · rw [if_pos hx] at h; cases h
    · rw [if_neg hx] at h
      have h1 : n.length ≤ 200 := by
        by_cases h34 : k = 3 ∨ k = 4
        · rw [if_pos h34] at hx; exact pathL_len (by simpa using hx)
        · rw [if_neg h34] at hx
          have hx : nameL n = true := by simpa using hx
          unfold nameL eachL at hx
          simp only [Bool.and_eq_true, decide_eq_true_eq] at hx
          omega
      by_cases hv : (!valueL x) = true
      · rw [if_pos hv] at h; cases h
      · have hv : valueL x = true := by simpa using hv
        unfold valueL at hv
        simp only [Bool.and_eq_true, decide_eq_true_eq] at hv
        exact ⟨h1, hv.2⟩
  · have hn : namedK k = false := by simpa using hn
    rw [f1 hn, f2 (by unfold valuedK; rw [hn]; rfl)]
    exact ⟨Nat.zero_le _, Nat.zero_le _⟩
theorem part_range {n x : Str} {m : Nat} (h : partErr 5 n x m = 0) : (parseR x).2 = 0 := by
  have hf := part_form h
  unfold partErr at h
  rw [if_neg (by decide), if_neg (by rw [hf]; decide), if_neg (by decide)] at h
  by_cases hx : (!(if (5 : Int) = 3 ∨ (5 : Int) = 4 then pathL n else nameL n)) = true
  · rw [if_pos hx] at h; cases h
  · rw [if_neg hx] at h
    by_cases hv : (!valueL x) = true
    · rw [if_pos hv] at h; cases h
    · rw [if_neg hv, if_pos rfl] at h
      exact h
end Go.Proofs.YtaobnifiengglaaGreatDoor

namespace Go.Proofs.YtaobnifiengglaaGreatDoor
open Go.RowKit

end Go.Proofs.YtaobnifiengglaaGreatDoor

namespace Go.Proofs.YtaobnifiengglaaGreatDoor
open Go.RowKit

theorem check_cnt {c : Cd} (h : checkC c = 0) : cnt c ≤ 100 := by
  unfold checkC at h
  by_cases h1 : 100 < cnt c
  · rw [if_pos h1] at h; cases h
  · omega
end Go.Proofs.YtaobnifiengglaaGreatDoor

namespace Go.Proofs.YtaobnifiengglaaGreatDoor

theorem strLt_irrefl (a : Str) : ¬ a < a := List.lt_irrefl a
theorem strLt_trans {a b c : Str} (h : a < b) (h2 : b < c) : a < c := List.lt_trans h h2
theorem strLt_of {a b : Str} (h : ¬ b < a) (hne : b ≠ a) : a < b := by
  by_cases h1 : a < b
  · exact h1
  · exact absurd (List.le_antisymm (List.not_lt.1 h1) (List.not_lt.1 h)) hne
/-- ordered by their keys -/
def Asc (l : List Se) : Prop := ∀ i j (hj : j < l.length) (hi : i < j), bs (l[i]'(Nat.lt_trans hi hj)).k < bs l[j].k
theorem firstI_all : ∀ {l : List Int}, firstI l = 0 → ∀ x ∈ l, x = 0
  | [], _ => by simp
  | y :: l, h => by
    unfold firstI at h
    by_cases hy : y = 0
    · rw [if_pos hy] at h
      intro x hx
      rcases List.mem_cons.1 hx with rfl | hx
      · exact hy
      · exact firstI_all h x hx
    · rw [if_neg hy] at h; exact absurd h hy
end Go.Proofs.YtaobnifiengglaaGreatDoor

namespace Go.Proofs.YtaobnifiengglaaGreatDoor
open Go.RowKit Go.Maps

/-- a list of names in order, each once -/
def inOrder (L : List Str) : List Str := oneEach (L.mergeSort leB)
theorem leB_trans (a b c : Str) (h1 : leB a b = true) (h2 : leB b c = true) : leB a c = true := by
  simp only [leB, decide_eq_true_eq] at *
  exact List.le_trans h1 h2
theorem leB_total (a b : Str) : (leB a b || leB b a) = true := by
  simp only [leB, Bool.or_eq_true, decide_eq_true_eq]
  exact List.le_total a b
theorem strLe_ne {a b : Str} (h : leB a b = true) (hne : a ≠ b) : a < b := by
  simp only [leB, decide_eq_true_eq] at h
  exact strLt_of (List.not_lt.2 h) (fun e => hne e.symm)
theorem strLt_le {a b c : Str} (h : a < b) (h2 : leB b c = true) : a < c := by
  by_cases e : b = c
  · subst e; exact h
  · exact strLt_trans h (strLe_ne h2 e)
theorem inOrder_strict (L : List Str) : (inOrder L).Pairwise (· < ·) :=
  oneEach_strict (le := fun a b => leB a b = true) (fun _ _ => strLe_ne) (fun _ _ _ => strLt_le) _ (List.pairwise_mergeSort leB_trans leB_total L)
theorem inOrder_mem (L : List Str) (x : Str) : x ∈ inOrder L ↔ x ∈ L := by
  rw [inOrder, oneEach_mem]
  exact (List.mergeSort_perm L leB).mem_iff
theorem sorted_strict {ss : List Str} (h : ss.Nodup) : (ss.mergeSort leB).Pairwise (· < ·) := by
  have h1 := List.pairwise_mergeSort leB_trans leB_total ss
  have h2 : (ss.mergeSort leB).Pairwise (· ≠ ·) := (List.mergeSort_perm ss leB).nodup_iff.2 h
  exact (h1.and h2).imp fun ⟨a, b⟩ => strLe_ne a b
/-- the keys of a set, sorted, are its members in order -/
theorem sorted_inOrder {ss L : List Str} (h : ss.Nodup) (hm : ∀ x, x ∈ ss ↔ x ∈ L) : ss.mergeSort leB = inOrder L :=
  strict_ext (lt := (· < ·)) strLt_irrefl (fun _ _ _ => strLt_trans) (sorted_strict h) (inOrder_strict L) fun x => by
    rw [inOrder_mem, ← hm x]
    exact (List.mergeSort_perm ss leB).mem_iff
theorem strKeys_are {H : Type} {P : Program} {k : TypeId} {R : Value → Option (DataW H × List MemPlace)} {w : World} {b n : Nat} {D : DataW H} (hown : w.ownsMap P k R b n D) (K : Keyed P k) (hk : P.underlying k = some .string) :
    (strKeys D).Nodup ∧ ∀ x, x ∈ strKeys D ↔ has D (.string x) = true := by
  obtain ⟨es, hD, hpw, _⟩ := hown.entries K
  obtain ⟨es', hD', hko⟩ := hown.keysOf
  obtain rfl : es = es' := by rw [hD] at hD'; simpa using hD'
  subst hD
  have hs : ∀ p ∈ es, ∃ x, p.1 = .string x := fun p hp => by obtain ⟨v, hv⟩ := hko p hp; obtain ⟨x, _, hx, _⟩ := Maps.keyOf_str hk hv; exact ⟨x, hx⟩
  refine ⟨?_, fun x => ?_⟩
  · show (es.map fun p => strOf p.1).Nodup
    refine List.pairwise_map.2 (hpw.imp_of_mem fun {p q} hp' hq' hne e => hne ?_)
    obtain ⟨a, ha⟩ := hs p hp'
    obtain ⟨b, hb⟩ := hs q hq'
    rw [ha, hb] at e ⊢
    exact congrArg _ e
  · rw [has_eq, List.any_eq_true]
    show x ∈ (es.map fun p => strOf p.1) ↔ _
    rw [List.mem_map]
    constructor
    · rintro ⟨p, hp', rfl⟩
      obtain ⟨a, ha⟩ := hs p hp'
      exact ⟨p, hp', by rw [ha]; simp [Lit.sameKey, strOf]⟩
    · rintro ⟨p, hp', he⟩
      obtain ⟨a, ha⟩ := hs p hp'
      rw [ha] at he
      exact ⟨p, hp', by rw [ha]; have he2 : a = x := (by simpa [Lit.sameKey] using he); exact he2⟩

/-! ### Doubles out -/
theorem get_zs (zs : List Str) (j : Nat) (h : j < zs.length) : zs.toArray[j]! = zs[j] := by simp [h]
theorem compact_strict {zs : List Str} (h : zs.Pairwise fun a b => leB a b = true) : (Lib.compact zs).Pairwise (· < ·) := by
  rw [List.pairwise_iff_getElem] at h
  have hle : ∀ i j, j < zs.length → i ≤ j → leB zs.toArray[i]! zs.toArray[j]! = true := fun i j hj hij => by
    rw [get_zs zs j hj, get_zs zs i (by omega)]
    by_cases e : i = j
    · subst e; simp only [leB, decide_eq_true_eq]; exact List.le_refl _
    · exact h i j (by omega) hj (by omega)
  unfold Lib.compact Lib.compactUpTo
  rw [List.pairwise_map]
  refine (List.Pairwise.filter _ (List.pairwise_lt_range (n := zs.length))).imp_of_mem ?_
  intro i j _ hj hij
  obtain ⟨hj1, hj2⟩ := List.mem_filter.1 hj
  have hj1 := List.mem_range.1 hj1
  simp only [Lib.keeps, decide_eq_true_eq] at hj2
  have hne := hj2.resolve_left (by omega)
  have h1 := strLe_ne (hle (j - 1) j hj1 (by omega)) (fun e => hne e.symm)
  by_cases e : zs.toArray[i]! = zs.toArray[j - 1]!
  · rw [e]; exact h1
  · exact strLt_trans (strLe_ne (hle i (j - 1) (by omega) (by omega)) e) h1
theorem compact_mem (zs : List Str) (x : Str) : x ∈ Lib.compact zs ↔ x ∈ zs := by
  unfold Lib.compact Lib.compactUpTo
  rw [List.mem_map]
  constructor
  · rintro ⟨j, hj, rfl⟩
    have hj1 := List.mem_range.1 (List.mem_filter.1 hj).1
    rw [get_zs zs j hj1]
    exact List.getElem_mem hj1
  · intro h
    obtain ⟨i, hi, rfl⟩ := List.mem_iff_getElem.1 h
    have : ∀ i, i < zs.length → ∃ j, j ≤ i ∧ Lib.keeps zs.toArray j = true ∧ zs.toArray[j]! = zs.toArray[i]! := by
      intro i
      induction i with
      | zero => intro _; exact ⟨0, Nat.le_refl _, by simp [Lib.keeps], rfl⟩
      | succ i ih =>
        intro hi
        by_cases e : zs.toArray[i + 1]! = zs.toArray[i]!
        · obtain ⟨j, h1, h2, h3⟩ := ih (by omega)
          exact ⟨j, by omega, h2, by rw [h3, e]⟩
        · exact ⟨i + 1, Nat.le_refl _, by simp only [Lib.keeps, decide_eq_true_eq]; exact .inr (by rw [Nat.add_sub_cancel]; exact e), rfl⟩
    obtain ⟨j, h1, h2, h3⟩ := this i hi
    exact ⟨j, List.mem_filter.2 ⟨List.mem_range.2 (by omega), h2⟩, by rw [h3, get_zs zs i hi]⟩
theorem compact_inOrder (L : List Str) : Lib.compact (L.mergeSort leB) = inOrder L :=
  strict_ext (lt := (· < ·)) strLt_irrefl (fun _ _ _ => strLt_trans) (compact_strict (List.pairwise_mergeSort leB_trans leB_total L)) (inOrder_strict L) fun x => by
    rw [compact_mem, inOrder_mem]
    exact (List.mergeSort_perm L leB).mem_iff

/-! ### In memory -/
/-- block b is a set of strings, of at most n entries: those of L -/
def StrSet (w : World) (b n : Nat) (L : List Str) : Prop :=
  ∃ D : DataW PUnit, w.ownsMap Tryz.prog 9 (plainElem Tryz.prog 4) b n D ∧ ∀ s, has D (.string s) = true ↔ s ∈ L
namespace StrSet
variable {w w' : World} {b n : Nat} {L : List Str}
theorem made (w : World) : StrSet (w.alloc (.map #[] 0)) w.heap.size 0 [] :=
  ⟨.map [], World.ownsMap_made w _ _ _, fun s => ⟨(fun h => by cases h), (fun h => by cases h)⟩⟩
theorem ext (h : StrSet w b n L) (hx : Ext w w') : StrSet w' b n L := by
  obtain ⟨D, h, r⟩ := h
  exact ⟨D, h.kept (row := none) ⟨hx.os, hx.tape, hx.output, hx.size, fun k hk _ => hx.block k hk⟩ (by simp), r⟩
theorem lt (h : StrSet w b n L) : b < w.heap.size := by
  obtain ⟨D, h, _⟩ := h
  exact h.lt
theorem upd (h : StrSet w b n L) {t : TypeId} (ht : Tryz.prog.underlying t = some (.map 9 4)) (k : ByteArray) (hk : k.size ≤ 4194304) (hn : n ≤ 2097152) :
    ∃ w', (Instr.mapUpdate t (.map (some b)) (.string k) (.bool true)).run Tryz.prog w = .ok () w' ∧ StrSet w' b (n + 1) (L ++ [bs k]) ∧ w.grownBy w' (some b) := by
  obtain ⟨D, h, r⟩ := h
  have hkey : keyOf Tryz.prog 9 (.string k) = some (.string (bs k)) := WideMaps.keyOf_string_mk str_under (by simp only [maxLen]; omega)
  have hval : plainElem (H := PUnit) Tryz.prog 4 (.bool true) = some (.lit (.bool true), []) := plainElem_bool (by kernel_rfl) true
  obtain ⟨w', hrun, h', hg⟩ := h.update (Maps.string_keyed str_under) ht (by simp only [maxLen]; omega) hkey hval
  refine ⟨w', hrun, ⟨_, h', fun s => ?_⟩, hg⟩
  rw [List.mem_append, List.mem_singleton]
  by_cases e : s = bs k
  · subst e
    exact ⟨fun _ => .inr rfl, fun _ => Maps.has_put_same h.isMap (by trivial) _⟩
  · rw [Maps.has_put_other (by intro e2; injection e2 with e2; exact e e2), r s]
    exact ⟨fun h => .inl h, fun h => h.resolve_right e⟩
end StrSet
end Go.Proofs.YtaobnifiengglaaGreatDoor

namespace Go.Proofs.YtaobnifiengglaaGreatDoor
open Go.RowKit

/-- a slice of texts -/
def RdT (w : World) (A : Option Addr) (l : List Str) : Prop := l ≠ [] → ∃ g, A = some ⟨g, 0, none⟩ ∧ ∀ k (h : k < l.length), w.cell? ⟨g, k, none⟩ = some (S l[k])
theorem RdT.ext {w w' : World} {A : Option Addr} {l : List Str} (h : RdT w A l) (hx : Ext w w') : RdT w' A l := fun hn => by
  obtain ⟨g, e, k⟩ := h hn
  exact ⟨g, e, fun i hi => hx.cell (k i hi)⟩
theorem RdT.nil (w : World) (A : Option Addr) : RdT w A [] := fun h => absurd rfl h
theorem RdT.own {w : World} {B n : Nat} {v : Value} {l : List Str} (h : w.ownsRow B 9 1 v n (l.map S)) (hn : l.length = n) : ∃ A c, v = .slice A n c ∧ RdT w A l := by
  rcases Nat.eq_zero_or_pos n with h0 | h0
  · subst h0
    obtain rfl : l = [] := List.eq_nil_of_length_eq_zero hn
    rcases h.2 with ⟨rfl, _⟩ | ⟨g, cap, cur, rfl, _⟩
    · exact ⟨none, 0, rfl, RdT.nil _ _⟩
    · exact ⟨_, _, rfl, RdT.nil _ _⟩
  · obtain ⟨g, c, rfl, _, _, _, hc⟩ := own_form h h0
    exact ⟨_, _, rfl, fun _ => ⟨g, rfl, fun k hk => hc k _ (by rw [List.getElem?_map, List.getElem?_eq_getElem hk]; rfl)⟩⟩
end Go.Proofs.YtaobnifiengglaaGreatDoor
