/- slices.Equal over changes. Settings among the arguments. Plain law: strictly ordered lists with the same members are one list; what a condition uses. Plain law: the value of a key among ordered settings. A set of names that the call itself has made; its names in order. A map of marks that are known; a table from which names are taken out. -/
import Derived.Test.YtghhjlcbcojcnaaGreatDoorRn25
import Derived.Test.YtghhjlcbcojcnaaGreatDoorRn14
import Derived.Test.YtghhjlcbcojcnaaGreatDoorRn22
import Derived.Test.YtghhjlcbcojcnaaGreatDoorRn21
import Derived.Sort.Walk0
import Derived.Sort.KeysCollected
import Derived.Lib.SlicesCompact

namespace Go.Proofs.YtghhjlcbcojcnaaGreatDoor
open Go.RowKit

theorem own_slice {w : World} {B n size : Nat} {e : TypeId} {v : Value} {xs : List Value} (h : w.ownsRow B e size v n xs) : ∃ A c, v = .slice A n c ∧ (0 < n → ∃ g o, A = some ⟨g, o, none⟩ ∧ ∀ j u, xs[j]? = some u → w.cell? ⟨g, o + j, none⟩ = some u) := by
  rcases Nat.eq_zero_or_pos n with h0 | h0
  · rcases h.2 with ⟨rfl, h1⟩ | ⟨g, cap, cur, rfl, _⟩
    · exact ⟨none, 0, by rw [h1], fun h => by omega⟩
    · exact ⟨_, cap, rfl, fun h => by omega⟩
  · obtain ⟨g, c, rfl, _, _, _, hc⟩ := own_form h h0
    exact ⟨_, c, rfl, fun _ => ⟨g, 0, rfl, fun j u hu => by rw [Nat.zero_add]; exact hc j u hu⟩⟩
set_option maxRecDepth 100000 in
theorem run_eqch (k : Int) (a b : ByteArray) (w : World) : (Op.equalIn 10000 78 (.agg #[.int .i64 k, .string ⟨#[]⟩, .string ⟨#[]⟩, .bool false, .string a, .string b, .string ⟨#[]⟩, .string ⟨#[]⟩, .bool false, .bool false]) (.agg #[.int .i64 k, .string ⟨#[]⟩, .string ⟨#[]⟩, .bool false, .string a, .string b, .string ⟨#[]⟩, .string ⟨#[]⟩, .bool false, .bool false])).run Tryz.prog w = .ok true w := by
  rw [run_equalIn_agg w 9999 78 _ _ (by kernel_rfl) (by kernel_rfl)]
  go_simp
theorem run_neqch (k : Int) (a b : ByteArray) (w : World) : (binOp .neq 78 (.agg #[.int .i64 k, .string ⟨#[]⟩, .string ⟨#[]⟩, .bool false, .string a, .string b, .string ⟨#[]⟩, .string ⟨#[]⟩, .bool false, .bool false]) (.agg #[.int .i64 k, .string ⟨#[]⟩, .string ⟨#[]⟩, .bool false, .string a, .string b, .string ⟨#[]⟩, .string ⟨#[]⟩, .bool false, .bool false])).run Tryz.prog w = .ok (.bool false) w := by
  rw [run_neq_struct, run_eqch]
  rfl
theorem chg_cell {w : World} {g o : Nat} {l : List Ch} (h : ∀ j u, (rowsC l)[j]? = some u → w.cell? ⟨g, o + j, none⟩ = some u) (k : Nat) (hk : k < l.length) (j : Nat) (hj : j < 10) {u : Value} (hu : (chRow l[k])[j]? = some u) : w.cell? ⟨g, o + k * 10 + j, none⟩ = some u := by
  rw [Nat.add_assoc]
  exact h _ _ ((rowsC_get l k j hk hj).trans hu)
set_option maxHeartbeats 4000000 in
set_option maxRecDepth 100000 in
theorem EqualCh_any (B1 B2 : Nat) (v1 v2 : Value) (l : List Ch) (w : World) (h1 : ChgOwn B1 l v1 w) (h2 : ChgOwn B2 l v2 w) (hl : l.length ≤ 2097152) :
    Calls Tryz.prog 50 #[v1, v2] w fun e w' => e = .returned (.bool true) ∧ Ext w w' := by
  obtain ⟨A1, c1, rfl, hX⟩ := own_slice h1
  obtain ⟨A2, c2, rfl, hY⟩ := own_slice h2
  clear h1 h2
  obtain ⟨n, hn⟩ : ∃ n, l.length = n := ⟨_, rfl⟩
  rw [hn] at hX hY hl
  have HN := Lib.hid hn
  rw [hn]
  clear hn
  rcases Nat.eq_zero_or_pos n with h0 | h0
  · subst h0
    clear hX hY
    go_enter Tryz.func50, Tryz.ntmps50
    go_wp2
    go_loop [13] (fun i => i = .int .i64 0) (fun i => 0)
    case atStart => rfl
    case round =>
      subst hrel
      go_wp2
      go_ret
      exact ⟨rfl, Ext.refl _⟩
  obtain ⟨g1, o1, rfl, hX2⟩ := hX h0
  obtain ⟨g2, o2, rfl, hY2⟩ := hY h0
  have HX := Lib.hid hX2; have HY := Lib.hid hY2
  clear hX hY hX2 hY2
  go_enter Tryz.func50, Tryz.ntmps50
  go_wp2
  go_loopw [13] (fun i wr => ∃ k : Nat, k ≤ n ∧ i = .int .i64 k ∧ Ext w wr) (fun i _ => n - (intOf i).toNat)
  case atStart => exact ⟨0, Nat.zero_le _, rfl, Ext.refl _⟩
  case round =>
    obtain ⟨k, hk, rfl, hxr⟩ := hrel
    by_cases hlt : k < n
    · have hk1 : k < l.length := by rw [HN.out]; exact hlt
      have gx := fun j (hj : j < 10) u (hu : (chRow l[k])[j]? = some u) => hxr.cell (chg_cell HX.out k hk1 j hj hu)
      have gy := fun j (hj : j < 10) u (hu : (chRow l[k])[j]? = some u) => hxr.cell (chg_cell HY.out k hk1 j hj hu)
      generalize l[k] = ch at *
      obtain ⟨ck, ca, cb⟩ := ch
      have x0 := gx 0 (by decide) _ rfl; have x1 := gx 1 (by decide) _ rfl; have x2 := gx 2 (by decide) _ rfl; have x3 := gx 3 (by decide) _ rfl; have x4 := gx 4 (by decide) _ rfl
      have x5 := gx 5 (by decide) _ rfl; have x6 := gx 6 (by decide) _ rfl; have x7 := gx 7 (by decide) _ rfl; have x8 := gx 8 (by decide) _ rfl; have x9 := gx 9 (by decide) _ rfl
      have y0 := gy 0 (by decide) _ rfl; have y1 := gy 1 (by decide) _ rfl; have y2 := gy 2 (by decide) _ rfl; have y3 := gy 3 (by decide) _ rfl; have y4 := gy 4 (by decide) _ rfl
      have y5 := gy 5 (by decide) _ rfl; have y6 := gy 6 (by decide) _ rfl; have y7 := gy 7 (by decide) _ rfl; have y8 := gy 8 (by decide) _ rfl; have y9 := gy 9 (by decide) _ rfl
      rw [Nat.add_zero] at x0 y0
      clear gx gy
      have hq := run_neqch ck ca cb
      go_wp2
      go_quiet (fail)
      go_wp2
      go_roundw
      case rel => exact ⟨k + 1, by omega, by go_num, hxr.drewN _⟩
      case measure => simp [intOf]; omega
    · obtain rfl : k = n := by omega
      go_wp2
      go_ret
      exact ⟨rfl, hxr⟩
end Go.Proofs.YtghhjlcbcojcnaaGreatDoor

namespace Go.Proofs.YtghhjlcbcojcnaaGreatDoor
open Go.ChangeShapes Go.WideShapes Go.ChangeAt Go.RowKit Go.WideElems Go.Joins

instance : Inhabited Se := ⟨zeroSe⟩
set_option maxRecDepth 100000 in
theorem opens_setting : Opens 74 (fun _ (s : Se) cs => cs = [.string s.k, .string s.v]) (fun s => s.k.size + s.v.size + 2) := fun H enc W fuel cs x h => by
  obtain ⟨y0, y1, n, rfl, hl, h0, h1⟩ := trod_struct2 Tryz.underlying74 h
  have hc : Tryz.prog.cellsOf 74 = 2 := by kernel_rfl
  have cst : Tryz.prog.cellsOf 9 = 1 := by kernel_rfl
  rw [hc] at hl
  match cs, hl with
  | [c0, c1], _ =>
    dsimp only at h0 h1
    rw [cst] at h0 h1
    obtain ⟨a, e1, b1⟩ := opens_string Tryz.underlying9 H enc W n _ _ h0
    obtain ⟨b, e2, b2⟩ := opens_string Tryz.underlying9 H enc W n _ _ h1
    simp at e1 e2
    subst e1 e2
    exact ⟨⟨a, b⟩, rfl, by dsimp only at b1 b2 ⊢; simp only [Rows.uptoBulk, Rows.uptoBulkAll]; omega⟩
theorem rowOf_settings {W : World} {A : Option Addr} {l : List Se} (h : RowOf (fun _ (s : Se) cs => cs = [.string s.k, .string s.v]) 2 W A l) : RdE W A l := fun hne => by
  obtain ⟨b, o, rfl, hc⟩ := h hne
  refine ⟨b, o, rfl, ?_, ?_⟩ <;> intro k hk <;> obtain ⟨ecs, rfl, _, hj⟩ := hc k hk
  · exact hj 0 (by omega)
  · exact hj 1 (by omega)
set_option maxRecDepth 100000 in
/-- settings, of a bulk -/
theorem open_settings {H : Type} {enc : TypeId × Value → H} {W : World} {base : Nat} {v : Value} {d : DataW H} {p : List MemPlace} (hv : Value.okWide Tryz.prog W .any base 65 v) (h : DataW.Trod enc Tryz.prog W 0 (fun _ => true) true 65 v d p) :
    ∃ A c l, v = .slice A l.length c ∧ RdE W A l ∧ (∀ s ∈ l, s.k.size + s.v.size ≤ Rows.uptoBulk d) ∧ l.length * 2 ≤ Rows.uptoBulk d := by
  obtain ⟨a, len, cap, rfl⟩ := okWide_slice Tryz.underlying65 hv
  obtain ⟨fuel, hf⟩ := h
  obtain ⟨l, ⟨A, c, e, hr⟩, hb⟩ := opens_slice (sz := 2) Tryz.underlying65 (by kernel_rfl) (by decide) opens_setting H enc W fuel _ _ hf
  refine ⟨A, c, l, ?_, rowOf_settings hr, fun s hs => ?_, ?_⟩
  · have e : [Value.slice a len cap] = [.slice A l.length c] := e
    injection e
  · have := sum_mem (bk := fun s : Se => s.k.size + s.v.size + 2) hs
    dsimp only at this hb
    omega
  · have := sum_len (bk := fun s : Se => s.k.size + s.v.size + 2) (c := 2) (fun a => by omega) l
    dsimp only at this hb
    omega
end Go.Proofs.YtghhjlcbcojcnaaGreatDoor

namespace Go.Proofs.YtghhjlcbcojcnaaGreatDoor

theorem strict_ext {α : Type} {lt : α → α → Prop} (irr : ∀ a, ¬ lt a a) (tr : ∀ a b c, lt a b → lt b c → lt a c) : ∀ {a b : List α}, a.Pairwise lt → b.Pairwise lt → (∀ x, x ∈ a ↔ x ∈ b) → a = b
  | [], [], _, _, _ => rfl
  | [], y :: b, _, _, h => absurd ((h y).2 (by simp)) (by simp)
  | x :: a, [], _, _, h => absurd ((h x).1 (by simp)) (by simp)
  | x :: a, y :: b, ha, hb, h => by
    obtain ⟨ha1, ha2⟩ := List.pairwise_cons.1 ha
    obtain ⟨hb1, hb2⟩ := List.pairwise_cons.1 hb
    have hxy : x = y := by
      rcases List.mem_cons.1 ((h x).1 (by simp)) with e | hx
      · exact e
      · rcases List.mem_cons.1 ((h y).2 (by simp)) with e | hy
        · exact e.symm
        · exact absurd (tr _ _ _ (ha1 y hy) (hb1 x hx)) (irr x)
    subst hxy
    rw [strict_ext irr tr ha2 hb2 fun z => ⟨fun hz => ?_, fun hz => ?_⟩]
    · rcases List.mem_cons.1 ((h z).1 (by simp [hz])) with rfl | h2
      · exact absurd (ha1 _ hz) (irr _)
      · exact h2
    · rcases List.mem_cons.1 ((h z).2 (by simp [hz])) with rfl | h2
      · exact absurd (hb1 _ hz) (irr _)
      · exact h2
/-- an ordered list without its doubles -/
def oneEach {α : Type} [DecidableEq α] : List α → List α
  | [] => []
  | [a] => [a]
  | a :: b :: l => if a = b then oneEach (b :: l) else a :: oneEach (b :: l)
theorem oneEach_mem {α : Type} [DecidableEq α] : ∀ (l : List α) (x : α), x ∈ oneEach l ↔ x ∈ l
  | [], _ => Iff.rfl
  | [a], _ => Iff.rfl
  | a :: b :: l, x => by
    rw [oneEach]
    by_cases h : a = b
    · rw [if_pos h, oneEach_mem (b :: l) x]
      subst h
      simp
    · rw [if_neg h, List.mem_cons, oneEach_mem (b :: l) x, List.mem_cons (a := x) (b := a)]
theorem oneEach_strict {α : Type} [DecidableEq α] {le lt : α → α → Prop} (hlt : ∀ a b, le a b → a ≠ b → lt a b) (htr : ∀ a b c, lt a b → le b c → lt a c) : ∀ (l : List α), l.Pairwise le → (oneEach l).Pairwise lt
  | [], _ => List.Pairwise.nil
  | [a], _ => List.pairwise_singleton _ _
  | a :: b :: l, h => by
    obtain ⟨h1, h2⟩ := List.pairwise_cons.1 h
    have ih := oneEach_strict hlt htr (b :: l) h2
    rw [oneEach]
    by_cases e : a = b
    · rw [if_pos e]; exact ih
    · rw [if_neg e]
      refine List.pairwise_cons.2 ⟨fun x hx => ?_, ih⟩
      have hab := hlt a b (h1 b (by simp)) e
      rcases List.mem_cons.1 ((oneEach_mem (b :: l) x).1 hx) with rfl | hx
      · exact hab
      · exact htr a b x hab ((List.pairwise_cons.1 h2).1 x hx)

/-! ### What a condition uses -/
end Go.Proofs.YtghhjlcbcojcnaaGreatDoor

namespace Go.Proofs.YtghhjlcbcojcnaaGreatDoor

theorem strLt_irrefl (a : Str) : ¬ a < a := List.lt_irrefl a
theorem strLt_trans {a b c : Str} (h : a < b) (h2 : b < c) : a < c := List.lt_trans h h2
theorem strLt_of {a b : Str} (h : ¬ b < a) (hne : b ≠ a) : a < b := by
  by_cases h1 : a < b
  · exact h1
  · exact absurd (List.le_antisymm (List.not_lt.1 h1) (List.not_lt.1 h)) hne
/-- ordered by their keys -/
def Asc (l : List Se) : Prop := ∀ i j (hj : j < l.length) (hi : i < j), bs (l[i]'(Nat.lt_trans hi hj)).k < bs l[j].k
theorem firstI_all : ∀ {l : List Int}, firstI l = 0 → ∀ x ∈ l, x = 0
  | [], _ => by simp
  | y :: l, h => by
    unfold firstI at h
    by_cases hy : y = 0
    · rw [if_pos hy] at h
      intro x hx
      rcases List.mem_cons.1 hx with rfl | hx
      · exact hy
      · exact firstI_all h x hx
    · rw [if_neg hy] at h; exact absurd h hy
theorem seErr_asc {is : Str → Bool} {l : List Se} (h : seErr is l = 0) : Asc l := by
  have h1 : ∀ k (hk : k + 1 < l.length), bs (l[k]'(by omega)).k < bs l[k + 1].k := fun k hk => by
    have h0 := firstI_all h (seAt is l (k + 1)) (by
      rw [← seErrs_get is l (k + 1) (by rw [seErrs_length]; exact hk)]
      exact List.getElem_mem _)
    have h2 : seOne is l[k + 1] = 0 := by
      by_cases e : seOne is l[k + 1] = 0
      · exact e
      · rw [seAt_bad hk e] at h0; exact h0
    rw [seAt_gap hk h2, seGap] at h0
    by_cases hb : (Op.bytesLess l[k + 1].k.toList l[k].k.toList || l[k + 1].k.toList == l[k].k.toList) = true
    · rw [if_pos hb] at h0; cases h0
    · simp only [ByteArray.toList_eq, Proofs.bytesLess_eq, Bool.or_eq_true, decide_eq_true_eq, beq_iff_eq, not_or] at hb
      exact strLt_of hb.1 hb.2
  suffices ∀ d i (hd : i + (d + 1) < l.length), bs (l[i]'(by omega)).k < bs l[i + (d + 1)].k from fun i j hj hi => by
    obtain ⟨d, rfl⟩ : ∃ d, j = i + (d + 1) := ⟨j - i - 1, by omega⟩
    exact this d i hj
  intro d
  induction d with
  | zero => exact fun i hd => h1 i hd
  | succ d ih => exact fun i hd => strLt_trans (ih i (by omega)) (h1 (i + (d + 1)) hd)
theorem tbl_some {l : List Se} (ha : Asc l) : ∀ N, N ≤ l.length → ∀ i (_h : i < N) (hl : i < l.length), tblN l N (bs l[i].k) = some (bs l[i].v)
  | 0, _, _, h, _ => absurd h (Nat.not_lt_zero _)
  | N + 1, hN, i, h, hl => by
    rw [tblN_succ (show N < l.length by omega)]
    dsimp only
    by_cases e : i = N
    · subst e; rw [if_pos rfl]
    · have := ha i N (by omega) (by omega)
      rw [if_neg (fun e2 => by rw [e2] at this; exact strLt_irrefl _ this)]
      exact tbl_some ha N (by omega) i (by omega) hl
theorem tbl_none {l : List Se} {x : Str} : ∀ N (hN : N ≤ l.length), (∀ i (h : i < N), x ≠ bs (l[i]'(by omega)).k) → tblN l N x = none
  | 0, _, _ => rfl
  | N + 1, hN, h => by
    rw [tblN_succ (show N < l.length by omega)]
    dsimp only
    rw [if_neg (h N (by omega))]
    exact tbl_none N (by omega) fun i hi => h i (by omega)
end Go.Proofs.YtghhjlcbcojcnaaGreatDoor

namespace Go.Proofs.YtghhjlcbcojcnaaGreatDoor
open Go.RowKit Go.Maps

/-- a list of names in order, each once -/
def inOrder (L : List Str) : List Str := oneEach (L.mergeSort leB)
theorem leB_trans (a b c : Str) (h1 : leB a b = true) (h2 : leB b c = true) : leB a c = true := by
  simp only [leB, decide_eq_true_eq] at *
  exact List.le_trans h1 h2
theorem leB_total (a b : Str) : (leB a b || leB b a) = true := by
  simp only [leB, Bool.or_eq_true, decide_eq_true_eq]
  exact List.le_total a b
theorem strLe_ne {a b : Str} (h : leB a b = true) (hne : a ≠ b) : a < b := by
  simp only [leB, decide_eq_true_eq] at h
  exact strLt_of (List.not_lt.2 h) (fun e => hne e.symm)
theorem strLt_le {a b c : Str} (h : a < b) (h2 : leB b c = true) : a < c := by
  by_cases e : b = c
  · subst e; exact h
  · exact strLt_trans h (strLe_ne h2 e)
theorem inOrder_strict (L : List Str) : (inOrder L).Pairwise (· < ·) :=
  oneEach_strict (le := fun a b => leB a b = true) (fun _ _ => strLe_ne) (fun _ _ _ => strLt_le) _ (List.pairwise_mergeSort leB_trans leB_total L)
theorem inOrder_mem (L : List Str) (x : Str) : x ∈ inOrder L ↔ x ∈ L := by
  rw [inOrder, oneEach_mem]
  exact (List.mergeSort_perm L leB).mem_iff
theorem sorted_strict {ss : List Str} (h : ss.Nodup) : (ss.mergeSort leB).Pairwise (· < ·) := by
  have h1 := List.pairwise_mergeSort leB_trans leB_total ss
  have h2 : (ss.mergeSort leB).Pairwise (· ≠ ·) := (List.mergeSort_perm ss leB).nodup_iff.2 h
  exact (h1.and h2).imp fun ⟨a, b⟩ => strLe_ne a b
theorem strKeys_are {H : Type} {P : Program} {k : TypeId} {R : Value → Option (DataW H × List MemPlace)} {w : World} {b n : Nat} {D : DataW H} (hown : w.ownsMap P k R b n D) (K : Keyed P k) (hk : P.underlying k = some .string) :
    (strKeys D).Nodup ∧ ∀ x, x ∈ strKeys D ↔ has D (.string x) = true := by
  obtain ⟨es, hD, hpw, _⟩ := hown.entries K
  obtain ⟨es', hD', hko⟩ := hown.keysOf
  obtain rfl : es = es' := by rw [hD] at hD'; simpa using hD'
  subst hD
  have hs : ∀ p ∈ es, ∃ x, p.1 = .string x := fun p hp => by obtain ⟨v, hv⟩ := hko p hp; obtain ⟨x, _, hx, _⟩ := Maps.keyOf_str hk hv; exact ⟨x, hx⟩
  refine ⟨?_, fun x => ?_⟩
  · show (es.map fun p => strOf p.1).Nodup
    refine List.pairwise_map.2 (hpw.imp_of_mem fun {p q} hp' hq' hne e => hne ?_)
    obtain ⟨a, ha⟩ := hs p hp'
    obtain ⟨b, hb⟩ := hs q hq'
    rw [ha, hb] at e ⊢
    exact congrArg _ e
  · rw [has_eq, List.any_eq_true]
    show x ∈ (es.map fun p => strOf p.1) ↔ _
    rw [List.mem_map]
    constructor
    · rintro ⟨p, hp', rfl⟩
      obtain ⟨a, ha⟩ := hs p hp'
      exact ⟨p, hp', by rw [ha]; simp [Lit.sameKey, strOf]⟩
    · rintro ⟨p, hp', he⟩
      obtain ⟨a, ha⟩ := hs p hp'
      rw [ha] at he
      exact ⟨p, hp', by rw [ha]; have he2 : a = x := (by simpa [Lit.sameKey] using he); exact he2⟩

/-! ### Doubles out -/
/-! ### In memory -/
/-- block b is a set of strings, of at most n entries: those of L -/
def StrSet (w : World) (b n : Nat) (L : List Str) : Prop :=
  ∃ D : DataW PUnit, w.ownsMap Tryz.prog 9 (plainElem Tryz.prog 4) b n D ∧ ∀ s, has D (.string s) = true ↔ s ∈ L
namespace StrSet
variable {w w' : World} {b n : Nat} {L : List Str}
theorem made (w : World) : StrSet (w.alloc (.map #[] 0)) w.heap.size 0 [] :=
  ⟨.map [], World.ownsMap_made w _ _ _, fun s => ⟨(fun h => by cases h), (fun h => by cases h)⟩⟩
theorem ext (h : StrSet w b n L) (hx : Ext w w') : StrSet w' b n L := by
  obtain ⟨D, h, r⟩ := h
  exact ⟨D, h.kept (row := none) ⟨hx.os, hx.tape, hx.output, hx.size, fun k hk _ => hx.block k hk⟩ (by simp), r⟩
theorem lt (h : StrSet w b n L) : b < w.heap.size := by
  obtain ⟨D, h, _⟩ := h
  exact h.lt
theorem upd (h : StrSet w b n L) {t : TypeId} (ht : Tryz.prog.underlying t = some (.map 9 4)) (k : ByteArray) (hk : k.size ≤ 4194304) (hn : n ≤ 2097152) :
    ∃ w', (Instr.mapUpdate t (.map (some b)) (.string k) (.bool true)).run Tryz.prog w = .ok () w' ∧ StrSet w' b (n + 1) (L ++ [bs k]) ∧ w.grownBy w' (some b) := by
  obtain ⟨D, h, r⟩ := h
  have hkey : keyOf Tryz.prog 9 (.string k) = some (.string (bs k)) := WideMaps.keyOf_string_mk str_under (by simp only [maxLen]; omega)
  have hval : plainElem (H := PUnit) Tryz.prog 4 (.bool true) = some (.lit (.bool true), []) := plainElem_bool (by kernel_rfl) true
  obtain ⟨w', hrun, h', hg⟩ := h.update (Maps.string_keyed str_under) ht (by simp only [maxLen]; omega) hkey hval
  refine ⟨w', hrun, ⟨_, h', fun s => ?_⟩, hg⟩
  rw [List.mem_append, List.mem_singleton]
  by_cases e : s = bs k
  · subst e
    exact ⟨fun _ => .inr rfl, fun _ => Maps.has_put_same h.isMap (by trivial) _⟩
  · rw [Maps.has_put_other (by intro e2; injection e2 with e2; exact e e2), r s]
    exact ⟨fun h => .inl h, fun h => h.resolve_right e⟩
end StrSet
end Go.Proofs.YtghhjlcbcojcnaaGreatDoor

namespace Go.Proofs.YtghhjlcbcojcnaaGreatDoor
open Go.RowKit
open Go.Maps (Keyed has)

theorem bool_under : Tryz.prog.underlying 4 = some .bool := by kernel_rfl
theorem bool_zero (w : World) : (zeroValue 4).run Tryz.prog w = .ok (.bool false) w := by go_simp
theorem elem_bool_inv {v : Value} {x : Bool} {ps : List MemPlace} (h : plainElem (H := PUnit) Tryz.prog 4 v = some (.lit (.bool x), ps)) : v = .bool x := by
  unfold plainElem at h
  rw [bool_under] at h
  cases v <;> simp at h
  rw [h.1]
/-- block b is a map that tells of texts whether they are among L -/
def KSet (w : World) (b n : Nat) (L : List Str) : Prop :=
  ∃ D : DataW PUnit, w.ownsMap Tryz.prog 9 (plainElem Tryz.prog 4) b n D ∧ ∀ s, (s ∈ L → has D (.string s) = true ∧ ∀ z, D.atKey (.string s) z = .lit (.bool true)) ∧ (s ∉ L → has D (.string s) = false)
namespace KSet
variable {w w' : World} {b n : Nat} {L : List Str}
theorem made (w : World) : KSet (w.alloc (.map #[] 0)) w.heap.size 0 [] :=
  ⟨.map [], World.ownsMap_made w _ _ _, fun s => ⟨(fun h => by cases h), (fun _ => rfl)⟩⟩
theorem ext (h : KSet w b n L) (hx : Ext w w') : KSet w' b n L := by
  obtain ⟨D, h, r⟩ := h
  exact ⟨D, h.kept (row := none) ⟨hx.os, hx.tape, hx.output, hx.size, fun k hk _ => hx.block k hk⟩ (by simp), r⟩
theorem lt (h : KSet w b n L) : b < w.heap.size := by
  obtain ⟨D, h, _⟩ := h
  exact h.lt
theorem far (h : KSet w b n L) {g : Nat} (hg : w.grownBy w' (some g)) (hne : b ≠ g) : KSet w' b n L := by
  obtain ⟨D, h, r⟩ := h
  exact ⟨D, h.kept (row := some g) hg (by simpa using hne), r⟩
theorem look (h : KSet w b n L) {t : TypeId} (ht : Tryz.prog.underlying t = some (.map 9 4)) (k : ByteArray) (hk : k.size ≤ 4194304) :
    (Instr.lookup t (.map (some b)) (.string k) false).run Tryz.prog w = .ok (.bool (decide (bs k ∈ L))) w := by
  obtain ⟨D, h, r⟩ := h
  have hkey : keyOf Tryz.prog 9 (.string k) = some (.string (bs k)) := WideMaps.keyOf_string_mk str_under (by simp only [maxLen]; omega)
  obtain ⟨v, ps, hrun, hv⟩ := h.lookup (Maps.string_keyed str_under) ht (bool_zero w) (plainElem_bool bool_under false) hkey
  rw [hrun]
  by_cases hm : bs k ∈ L
  · rw [((r (bs k)).1 hm).2] at hv
    rw [elem_bool_inv hv, decide_eq_true hm]
  · have h0 := (r (bs k)).2 hm
    rw [Maps.atKey_of_not_has h0] at hv
    rw [elem_bool_inv hv, decide_eq_false hm]
theorem upd (h : KSet w b n L) {t : TypeId} (ht : Tryz.prog.underlying t = some (.map 9 4)) (k : ByteArray) (hk : k.size ≤ 4194304) (hn : n ≤ 2097152) :
    ∃ w', (Instr.mapUpdate t (.map (some b)) (.string k) (.bool true)).run Tryz.prog w = .ok () w' ∧ KSet w' b (n + 1) (L ++ [bs k]) ∧ w.grownBy w' (some b) := by
  obtain ⟨D, h, r⟩ := h
  have hkey : keyOf Tryz.prog 9 (.string k) = some (.string (bs k)) := WideMaps.keyOf_string_mk str_under (by simp only [maxLen]; omega)
  obtain ⟨w', hrun, h', hg⟩ := h.update (Maps.string_keyed str_under) ht (by simp only [maxLen]; omega) hkey (plainElem_bool bool_under true)
  refine ⟨w', hrun, ⟨_, h', fun s => ?_⟩, hg⟩
  by_cases e : s = bs k
  · subst e
    exact ⟨fun _ => ⟨Maps.has_put_same h.isMap (by trivial) _, fun z => Maps.atKey_put_same h.isMap (by trivial) _ _⟩, fun hn => absurd (by simp) hn⟩
  · have hne : (Lit.string s : Lit) ≠ .string (bs k) := by intro e2; injection e2 with e2; exact e e2
    have hm : s ∈ L ++ [bs k] ↔ s ∈ L := by simp [e]
    rw [hm, Maps.has_put_other hne]
    exact ⟨fun hs => ⟨((r s).1 hs).1, fun z => by rw [Maps.atKey_put_other hne]; exact ((r s).1 hs).2 z⟩, (r s).2⟩
end KSet
namespace StrMap
variable {w w' : World} {b n : Nat} {f : Str → Option Str}
theorem far (h : StrMap w b n f) {g : Nat} (hg : w.grownBy w' (some g)) (hne : b ≠ g) : StrMap w' b n f := by
  obtain ⟨D, h, r⟩ := h
  exact ⟨D, h.kept (row := some g) hg (by simpa using hne), r⟩
theorem del (h : StrMap w b n f) {t : TypeId} (ht : Tryz.prog.underlying t = some (.map 9 9)) (k : ByteArray) (hk : k.size ≤ 2097152) (ty : TypeId) :
    ∃ w', (Builtin.delete_ #[t, 9] ty #[.map (some b), .string k]).run Tryz.prog w = .ok (.tuple #[]) w' ∧ StrMap w' b n (fun x => if x = bs k then none else f x) ∧ w.grownBy w' (some b) := by
  obtain ⟨D, h, r1, r2⟩ := h
  have hkey : keyOf Tryz.prog 9 (.string k) = some (.string (bs k)) := WideMaps.keyOf_string_mk str_under (by simp only [maxLen]; omega)
  obtain ⟨w', hrun, h', hg⟩ := h.drop (Maps.string_keyed str_under) ht hkey ty
  refine ⟨w', hrun, ⟨_, h', fun s hs => ?_, fun s u hs => ?_⟩, hg.grown⟩ <;> dsimp only at hs
  · by_cases e : s = bs k
    · subst e; exact Maps.has_del_same
    · rw [if_neg e] at hs
      rw [Maps.has_del_other (by intro e2; injection e2 with e2; exact e e2)]
      exact r1 s hs
  · by_cases e : s = bs k
    · rw [if_pos e] at hs; cases hs
    · rw [if_neg e] at hs
      have hne : (Lit.string s : Lit) ≠ .string (bs k) := by intro e2; injection e2 with e2; exact e e2
      obtain ⟨h1, h2⟩ := r2 s u hs
      exact ⟨by rw [Maps.has_del_other hne]; exact h1, fun z => by rw [Maps.atKey_del_other hne]; exact h2 z⟩
end StrMap
end Go.Proofs.YtghhjlcbcojcnaaGreatDoor
