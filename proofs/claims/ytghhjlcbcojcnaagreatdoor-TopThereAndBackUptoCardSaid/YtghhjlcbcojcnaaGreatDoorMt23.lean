/- Contracts of ver.Holds at the condition that always holds, and of migrate.settingsFault. What makes settings of others: plain words. Contracts of migrate.Changes and outref2.ChangesOf. Printed by gen/chga.py. slices.Equal over changes. Settings among the arguments. The order of versions is a total order. Plain words. Intervals of places, strictly apart: what two lists have in common, a scan that finds the intervals again. Plain words. Ranges as intervals of places: what two ranges have in common, span by span and by a scan over all ends. Plain words. -/
import Derived.Test.YtghhjlcbcojcnaaGreatDoorMt22
import Derived.Test.YtghhjlcbcojcnaaGreatDoorMt21
import Derived.Deep.RegionHeld3
import Derived.Laws.EntriesVeiled
import Derived.Test.YtghhjlcbcojcnaaGreatDoorMt12
import Derived.Test.YtghhjlcbcojcnaaGreatDoorMt08
import Derived.Test.YtghhjlcbcojcnaaGreatDoorMt07
import Derived.Test.YtghhjlcbcojcnaaGreatDoorMt01

namespace Go.Proofs.YtghhjlcbcojcnaaGreatDoor
open Go.RowKit

theorem Holds1_any (A : Option Addr) (n c : Nat) (w : World) :
    Calls Tryz.prog 237 #[.slice A n c] w fun e w' => e = .returned (.func (.func 238) #[] #[.pointer (some ⟨w.heap.size, 0, none⟩)]) ∧ w' = w.alloc (.cells #[.slice A n c] 65) := by
  go_enter Tryz.func237, Tryz.ntmps237
  go_wp2
  go_ret
  exact ⟨rfl, rfl⟩
set_option maxHeartbeats 2000000 in
set_option maxRecDepth 100000 in
theorem holds_true (g1 g2 : Nat) (w : World) :
    Calls Tryz.prog 240 #[.agg #[.int .i64 1, .string ⟨#[]⟩, .string ⟨#[]⟩, .slice none 0 0], .func (.func 238) #[] #[.pointer (some ⟨g1, 0, none⟩)], .func (.func 238) #[] #[.pointer (some ⟨g2, 0, none⟩)]] w
      fun e w' => e = .returned (.bool true) ∧ Ext w w' := by
  go_enter Tryz.func240, Tryz.ntmps240
  go_wp2
  go_ret
  exact ⟨rfl, (by repeat (first | with_reducible exact Ext.refl _ | with_reducible assumption | with_reducible apply Ext.drewN | with_reducible apply Ext.drew | with_reducible apply Ext.alloc | exact Ext.refl _ | assumption | apply Ext.drewN | apply Ext.drew | apply Ext.alloc))⟩
theorem leaf_small (k : Int) : SmallC (.mk k ⟨#[]⟩ ⟨#[]⟩ []) := .mk k _ _ [] (by decide) (by decide) (by decide) (fun _ h => by cases h)
set_option maxHeartbeats 4000000 in
set_option maxRecDepth 100000 in
theorem Holds_always (A : Option Addr) (n c : Nat) (l : List Se) (w : World) (hg : GoodN w) (hn : l.length = n) (hr : RdE w A l) (hs : SmallE l) (hl : n ≤ 2097152) :
    Calls Tryz.prog 195 #[.agg #[.int .i64 1, .string ⟨#[]⟩, .string ⟨#[]⟩, .slice none 0 0], .slice none 0 0, .slice A n c] w fun e w' => e = .returned (.tuple #[.bool (decide (seErr pathL l = 0)), .int .i64 (seErr pathL l)]) ∧ Ext w w' := by
  have cC : ∀ W, Ext w W → Calls Tryz.prog 121 #[.agg #[.int .i64 1, .string ⟨#[]⟩, .string ⟨#[]⟩, .slice none 0 0]] W fun e w' => e = .returned (.int .i64 0) ∧ Ext W w' := fun W hx =>
    CheckCond_any (.mk 1 ⟨#[]⟩ ⟨#[]⟩ []) _ (fun _ => True) W (hg.ext hx) (CdIn.leaf _ _ _ _ _) (leaf_small 1) (by decide)
  have cF : ∀ W, Ext w W → Calls Tryz.prog 236 #[.slice none 0 0, .func (.func 29) #[] #[]] W fun e w' => e = .returned (.int .i64 0) ∧ Ext W w' := fun W hx =>
    faultF_any none 0 0 [] W (hg.toGood.ext hx) rfl (fun h => absurd rfl h) (fun _ h => by cases h) (by decide)
  have cS : ∀ W, Ext w W → Calls Tryz.prog 236 #[.slice A n c, .func (.func 31) #[] #[]] W fun e w' => e = .returned (.int .i64 (seErr pathL l)) ∧ Ext W w' := fun W hx =>
    faultS_any A n c l W (hg.toGood.ext hx) hn (hr.ext hx) hs hl
  have CC := Lib.hid cC; have CF := Lib.hid cF; have CS := Lib.hid cS
  clear cC cF cS hn hr hs
  generalize seErr pathL l = E at *
  have bX := Blk.new w 61 #[.int .i64 1, .string ⟨#[]⟩, .string ⟨#[]⟩, .slice none 0 0]
  go_enter Tryz.func195, Tryz.ntmps195
  go_wp2_with fail
  refine (CC.out _ (by repeat (first | with_reducible exact Ext.refl _ | with_reducible assumption | with_reducible apply Ext.drewN | with_reducible apply Ext.drew | with_reducible apply Ext.alloc | exact Ext.refl _ | assumption | apply Ext.drewN | apply Ext.drew | apply Ext.alloc))).mono ?_
  rintro e w1 ⟨rfl, hx1⟩
  have hxa : Ext w w1 := Ext.trans (by repeat (first | with_reducible exact Ext.refl _ | with_reducible assumption | with_reducible apply Ext.drewN | with_reducible apply Ext.drew | with_reducible apply Ext.alloc | exact Ext.refl _ | assumption | apply Ext.drewN | apply Ext.drew | apply Ext.alloc)) hx1
  go_wp2_with fail
  refine (CF.out _ hxa).mono ?_
  rintro e w2 ⟨rfl, hx2⟩
  have hxb := hxa.trans hx2
  go_wp2_with fail
  refine (CS.out _ hxb).mono ?_
  rintro e w3 ⟨rfl, hx3⟩
  have hxc := hxb.trans hx3
  have bX3 := ((bX.ext hx1).ext hx2).ext hx3
  by_cases hE : E = 0
  · subst hE
    have d0 : w3.cell? ⟨w.heap.size, 0, none⟩ = some (.int .i64 1) := bX3.cell 0
    have d1 : w3.cell? ⟨w.heap.size, 1, none⟩ = some (.string ⟨#[]⟩) := bX3.cell 1
    have d2 : w3.cell? ⟨w.heap.size, 2, none⟩ = some (.string ⟨#[]⟩) := bX3.cell 2
    have d3 : w3.cell? ⟨w.heap.size, 3, none⟩ = some (.slice none 0 0) := bX3.cell 3
    have dl := bX3.lt
    go_wp2_with fail
    go_region_held3 (fun w' => w'.cell? ⟨w.heap.size, 0, none⟩ = some (.int .i64 1) ∧ w'.cell? ⟨w.heap.size, 1, none⟩ = some (.string ⟨#[]⟩) ∧ w'.cell? ⟨w.heap.size, 2, none⟩ = some (.string ⟨#[]⟩) ∧ w'.cell? ⟨w.heap.size, 3, none⟩ = some (.slice none 0 0)) (first | (go_keep; done) | ((try go_split_ands); (try dsimp only); (repeat' apply And.intro); all_goals (first | (go_keep; done) | (with_reducible exact hxh.cell (by assumption)) | (refine hxh.cell ?_; go_simp))))
      (first
      | (go_at_call 237; refine (Holds1_any _ _ _ _).mono ?_; rintro e w' ⟨rfl, rfl⟩)
      | (go_at_call 240; refine (holds_true _ _ _).mono ?_; rintro e w' ⟨rfl, hxh⟩))
    all_goals
      go_wp2
      go_ret2
      refine ⟨rfl, ?_⟩
      exact hxc.trans (Ext.trans (by repeat (first | with_reducible exact Ext.refl _ | with_reducible assumption | with_reducible apply Ext.drewN | with_reducible apply Ext.drew | with_reducible apply Ext.alloc | exact Ext.refl _ | assumption | apply Ext.drewN | apply Ext.drew | apply Ext.alloc)) hxh)
  · have hne : (E != 0) = true := by rw [bne_iff_ne]; exact hE
    go_wp2
    go_ret2
    refine ⟨?_, hxc⟩
    simp [hE]
set_option maxHeartbeats 2000000 in
theorem mFault_any (A : Option Addr) (n c : Nat) (l : List Se) (w : World) (hg : GoodN w) (hn : l.length = n) (hr : RdE w A l) (hs : SmallE l) (hl : n ≤ 2097152) :
    Calls Tryz.prog 127 #[.slice A n c] w fun e w' => e = .returned (.int .i64 (seErr pathL l)) ∧ Ext w w' := by
  have HN := Lib.hid hn
  clear hn
  go_enter Tryz.func127, Tryz.ntmps127
  go_wp2_with fail
  refine (Holds_always A n c l _ hg HN.out hr hs hl).mono ?_
  rintro e w1 ⟨rfl, hx1⟩
  go_wp2
  go_ret
  exact ⟨rfl, hx1⟩
end Go.Proofs.YtghhjlcbcojcnaaGreatDoor

namespace Go.Proofs.YtghhjlcbcojcnaaGreatDoor
open Go.RowKit

/-- the cells of a change of a setting -/
def chV (k : Int) (s v : ByteArray) : List Value := [.int .i64 k, .string ⟨#[]⟩, .string ⟨#[]⟩, .bool false, .string s, .string v, .string ⟨#[]⟩, .string ⟨#[]⟩, .bool false, .bool false]
/-- a change of a setting: its kind, key and value -/
structure Ch where
  kind : Int
  k : ByteArray
  v : ByteArray
deriving DecidableEq
def chRow (c : Ch) : List Value := chV c.kind c.k c.v
/-- the cells of changes, one behind the other -/
def rowsC (l : List Ch) : List Value := l.flatMap chRow
theorem rowsC_snoc (l : List Ch) (c : Ch) : rowsC (l ++ [c]) = rowsC l ++ chV c.kind c.k c.v := by simp [rowsC, chRow]
end Go.Proofs.YtghhjlcbcojcnaaGreatDoor

namespace Go.Proofs.YtghhjlcbcojcnaaGreatDoor
open Go.RowKit

/-- what both return: changes in new memory -/
def ChgOwn (B : Nat) (l : List Ch) (v : Value) (w' : World) : Prop := w'.ownsRow B 78 10 v l.length (rowsC l)
theorem ChgOwn.nil (B : Nat) (w : World) : ChgOwn B [] (.slice none 0 0) w := World.ownsRow_nil _ _ _ _
theorem ChgOwn.ext {B : Nat} {l : List Ch} {v : Value} {w w' : World} (h : ChgOwn B l v w) (hx : Ext w w') : ChgOwn B l v w' := own_ext h hx
theorem ChgOwn.snoc {B K : Nat} {l : List Ch} {c : Ch} {v : Value} {w : World} {xs : List Value} (h : w.ownsRow B 78 10 v (K + 1) (rowsC l ++ xs)) (hK : K = l.length) (hx : xs = chV c.kind c.k c.v) : ChgOwn B (l ++ [c]) v w := by
  subst hK hx
  unfold ChgOwn
  rw [List.length_append, rowsC_snoc]
  exact h

end Go.Proofs.YtghhjlcbcojcnaaGreatDoor

namespace Go.Proofs.YtghhjlcbcojcnaaGreatDoor
open Go.RowKit

theorem own_slice {w : World} {B n size : Nat} {e : TypeId} {v : Value} {xs : List Value} (h : w.ownsRow B e size v n xs) : ∃ A c, v = .slice A n c ∧ (0 < n → ∃ g o, A = some ⟨g, o, none⟩ ∧ ∀ j u, xs[j]? = some u → w.cell? ⟨g, o + j, none⟩ = some u) := by
  rcases Nat.eq_zero_or_pos n with h0 | h0
  · rcases h.2 with ⟨rfl, h1⟩ | ⟨g, cap, cur, rfl, _⟩
    · exact ⟨none, 0, by rw [h1], fun h => by omega⟩
    · exact ⟨_, cap, rfl, fun h => by omega⟩
  · obtain ⟨g, c, rfl, _, _, _, hc⟩ := own_form h h0
    exact ⟨_, c, rfl, fun _ => ⟨g, 0, rfl, fun j u hu => by rw [Nat.zero_add]; exact hc j u hu⟩⟩
end Go.Proofs.YtghhjlcbcojcnaaGreatDoor

namespace Go.Proofs.YtghhjlcbcojcnaaGreatDoor
open Go.ChangeShapes Go.WideShapes Go.ChangeAt Go.RowKit Go.WideElems Go.Joins

instance : Inhabited Se := ⟨zeroSe⟩
set_option maxRecDepth 100000 in
theorem opens_setting : Opens 74 (fun _ (s : Se) cs => cs = [.string s.k, .string s.v]) (fun s => s.k.size + s.v.size + 2) := fun H enc W fuel cs x h => by
  obtain ⟨y0, y1, n, rfl, hl, h0, h1⟩ := trod_struct2 Tryz.underlying74 h
  have hc : Tryz.prog.cellsOf 74 = 2 := by kernel_rfl
  have cst : Tryz.prog.cellsOf 9 = 1 := by kernel_rfl
  rw [hc] at hl
  match cs, hl with
  | [c0, c1], _ =>
    dsimp only at h0 h1
    rw [cst] at h0 h1
    obtain ⟨a, e1, b1⟩ := opens_string Tryz.underlying9 H enc W n _ _ h0
    obtain ⟨b, e2, b2⟩ := opens_string Tryz.underlying9 H enc W n _ _ h1
    simp at e1 e2
    subst e1 e2
    exact ⟨⟨a, b⟩, rfl, by dsimp only at b1 b2 ⊢; simp only [Rows.uptoBulk, Rows.uptoBulkAll]; omega⟩
theorem rowOf_settings {W : World} {A : Option Addr} {l : List Se} (h : RowOf (fun _ (s : Se) cs => cs = [.string s.k, .string s.v]) 2 W A l) : RdE W A l := fun hne => by
  obtain ⟨b, o, rfl, hc⟩ := h hne
  refine ⟨b, o, rfl, ?_, ?_⟩ <;> intro k hk <;> obtain ⟨ecs, rfl, _, hj⟩ := hc k hk
  · exact hj 0 (by omega)
  · exact hj 1 (by omega)
set_option maxRecDepth 100000 in
/-- settings, of a bulk -/
theorem open_settings {H : Type} {enc : TypeId × Value → H} {W : World} {base : Nat} {v : Value} {d : DataW H} {p : List MemPlace} (hv : Value.okWide Tryz.prog W .any base 65 v) (h : DataW.Trod enc Tryz.prog W 0 (fun _ => true) true 65 v d p) :
    ∃ A c l, v = .slice A l.length c ∧ RdE W A l ∧ (∀ s ∈ l, s.k.size + s.v.size ≤ Rows.uptoBulk d) ∧ l.length * 2 ≤ Rows.uptoBulk d := by
  obtain ⟨a, len, cap, rfl⟩ := okWide_slice Tryz.underlying65 hv
  obtain ⟨fuel, hf⟩ := h
  obtain ⟨l, ⟨A, c, e, hr⟩, hb⟩ := opens_slice (sz := 2) Tryz.underlying65 (by kernel_rfl) (by decide) opens_setting H enc W fuel _ _ hf
  refine ⟨A, c, l, ?_, rowOf_settings hr, fun s hs => ?_, ?_⟩
  · have e : [Value.slice a len cap] = [.slice A l.length c] := e
    injection e
  · have := sum_mem (bk := fun s : Se => s.k.size + s.v.size + 2) hs
    dsimp only at this hb
    omega
  · have := sum_len (bk := fun s : Se => s.k.size + s.v.size + 2) (c := 2) (fun a => by omega) l
    dsimp only at this hb
    omega
end Go.Proofs.YtghhjlcbcojcnaaGreatDoor

namespace Go.Proofs.YtghhjlcbcojcnaaGreatDoor

/-- a total order up to what it does not part -/
structure Pre {α : Type} (f : α → α → Int) : Prop where
  anti : ∀ a b, f a b < 0 ↔ 0 < f b a
  le : ∀ a b c, f a b ≤ 0 → f b c ≤ 0 → f a c ≤ 0
namespace Pre
variable {α : Type} {f : α → α → Int}
theorem self (h : Pre f) (a : α) : f a a = 0 := by have := h.anti a a; omega
theorem zero (h : Pre f) {a b : α} (e : f a b = 0) : f b a = 0 := by have := h.anti a b; have := h.anti b a; omega
theorem lt_le (h : Pre f) {a b c : α} (h1 : f a b < 0) (h2 : f b c ≤ 0) : f a c < 0 := by
  have h3 := h.le a b c (by omega) h2
  rcases Int.lt_or_eq_of_le h3 with h4 | h4
  · exact h4
  · have h5 := h.le c a b (by have := h.zero h4; omega) (by omega)
    have h6 := h.le b c b h2 h5
    have := h.anti a b
    have h7 := h.le b c a h2 (by have := h.zero h4; omega)
    omega
theorem le_lt (h : Pre f) {a b c : α} (h1 : f a b ≤ 0) (h2 : f b c < 0) : f a c < 0 := by
  have h3 := h.le a b c h1 (by omega)
  rcases Int.lt_or_eq_of_le h3 with h4 | h4
  · exact h4
  · have h7 := h.le c a b (by have := h.zero h4; omega) h1
    have := h.anti b c
    omega
theorem lt (h : Pre f) {a b c : α} (h1 : f a b < 0) (h2 : f b c < 0) : f a c < 0 := h.lt_le h1 (by omega)
theorem on {β : Type} (h : Pre f) (p : β → α) : Pre fun x y => f (p x) (p y) := ⟨fun _a _b => h.anti _ _, fun _a _b _c => h.le _ _ _⟩
theorem lex {g : α → α → Int} (h : Pre f) (k : Pre g) : Pre fun a b => if f a b = 0 then g a b else f a b := by
  refine ⟨fun a b => ?_, fun a b c h1 h2 => ?_⟩
  · by_cases h0 : f a b = 0
    · rw [if_pos h0, if_pos (h.zero h0)]; exact k.anti a b
    · rw [if_neg h0, if_neg (fun e => h0 (h.zero e))]; exact h.anti a b
  · by_cases h3 : f a b = 0
    · rw [if_pos h3] at h1
      by_cases h4 : f b c = 0
      · rw [if_pos h4] at h2
        have h5 := h.le a b c (by omega) (by omega)
        have h6 := h.le c b a (by have := h.zero h4; omega) (by have := h.zero h3; omega)
        have h7 : f a c = 0 := by have := h.anti a c; have := h.anti c a; omega
        rw [if_pos h7]
        exact k.le a b c h1 h2
      · rw [if_neg h4] at h2
        have := h.le_lt (a := a) (b := b) (c := c) (by omega) (by omega)
        rw [if_neg (by omega)]
        omega
    · rw [if_neg h3] at h1
      by_cases h4 : f b c = 0
      · have := h.lt_le (a := a) (b := b) (c := c) (by omega) (by omega)
        rw [if_neg (by omega)]
        omega
      · rw [if_neg h4] at h2
        have := h.lt (a := a) (b := b) (c := c) (by omega) (by omega)
        rw [if_neg (by omega)]
        omega
end Pre
theorem pre_int : Pre Lib.compareInt := by
  refine ⟨fun a b => ?_, fun a b c => ?_⟩ <;> unfold Lib.compareInt <;> repeat' split
  all_goals omega
theorem bytes_anti : ∀ a b : Str, Lib.compareBytes a b = - Lib.compareBytes b a
  | [], [] => rfl
  | [], _ :: _ => rfl
  | _ :: _, [] => rfl
  | a :: a', b :: b' => by
    have ih := bytes_anti a' b'
    simp only [Lib.compareBytes]
    have h1 : ¬ (a < b ∧ b < a) := fun h => UInt8.lt_irrefl _ (UInt8.lt_trans h.1 h.2)
    by_cases h2 : a < b
    · rw [if_pos h2, if_neg (fun h => h1 ⟨h2, h⟩), if_pos h2]
    · by_cases h3 : b < a
      · rw [if_neg h2, if_pos h3, if_pos h3]; rfl
      · rw [if_neg h2, if_neg h3, if_neg h3, if_neg h2]; exact ih
theorem bytes_le : ∀ a b c : Str, Lib.compareBytes a b ≤ 0 → Lib.compareBytes b c ≤ 0 → Lib.compareBytes a c ≤ 0
  | [], _, [], _, _ => by simp [Lib.compareBytes]
  | [], _, _ :: _, _, _ => by simp [Lib.compareBytes]
  | _ :: _, [], _, h, _ => by simp [Lib.compareBytes] at h
  | _ :: _, _ :: _, [], _, h => by simp [Lib.compareBytes] at h
  | a :: a', b :: b', c :: c', h1, h2 => by
    have ih := bytes_le a' b' c'
    simp only [Lib.compareBytes, UInt8.lt_iff_toNat_lt] at h1 h2 ⊢
    repeat' split at h1
    all_goals repeat' split at h2
    all_goals repeat' split
    all_goals first | omega | exact ih h1 h2
theorem bytes_eq : ∀ {a b : Str}, Lib.compareBytes a b = 0 → a = b
  | [], [], _ => rfl
  | [], _ :: _, h => by simp [Lib.compareBytes] at h
  | _ :: _, [], h => by simp [Lib.compareBytes] at h
  | a :: a', b :: b', h => by
    simp only [Lib.compareBytes] at h
    by_cases h2 : a < b
    · rw [if_pos h2] at h; cases h
    · by_cases h3 : b < a
      · rw [if_neg h2, if_pos h3] at h; cases h
      · rw [if_neg h2, if_neg h3] at h
        rw [bytes_eq h, show a = b from UInt8.le_antisymm (UInt8.not_lt.1 h3) (UInt8.not_lt.1 h2)]
theorem pre_bytes : Pre Lib.compareBytes := ⟨fun a b => by have := bytes_anti a b; omega, bytes_le⟩
theorem pre_word : Pre cmpWordL := by
  have hb := pre_bytes
  refine ⟨fun a b => ?_, fun a b c => ?_⟩
  · have h1 := hb.anti a b
    unfold cmpWordL
    cases ha : numeralL a <;> cases hb : numeralL b
    · simpa using h1
    · simp
    · simp
    · simp only [Bool.and_self, if_true]
      by_cases h : a.length = b.length
      · rw [if_pos h, if_pos h.symm]; exact h1
      · rw [if_neg h, if_neg (fun e => h e.symm)]; exact pre_int.anti _ _
  · have h1 := hb.le a b c
    unfold cmpWordL
    cases ha : numeralL a <;> cases hb : numeralL b <;> cases hc : numeralL c
    · simpa using h1
    · simp
    · simp
    · simp
    · simp
    · simp
    · simp
    · simp only [Bool.and_self, if_true, Lib.compareInt]
      repeat' split
      all_goals first | omega | (intros; omega) | exact h1
theorem word_eq {a b : Str} (h : cmpWordL a b = 0) : a = b := by
  unfold cmpWordL at h
  cases ha : numeralL a <;> cases hb : numeralL b <;> rw [ha, hb] at h
  · exact bytes_eq (by simpa using h)
  · simp at h
  · simp at h
  · simp only [Bool.and_self, if_true] at h
    by_cases hl : a.length = b.length
    · rw [if_pos hl] at h; exact bytes_eq h
    · rw [if_neg hl] at h
      unfold Lib.compareInt at h
      repeat' split at h
      all_goals omega
theorem words_anti {f : Str → Str → Int} (hf : Pre f) : ∀ a b : List Str, cmpWordsL f a b < 0 ↔ 0 < cmpWordsL f b a
  | [], [] => by simp [cmpWordsL, Lib.compareInt]
  | [], y :: ys => by simp only [cmpWordsL]; exact pre_int.anti _ _
  | x :: xs, [] => by simp only [cmpWordsL]; exact pre_int.anti _ _
  | x :: xs, y :: ys => by
    have ih := words_anti hf xs ys
    simp only [cmpWordsL]
    by_cases h : f x y = 0
    · rw [if_pos h, if_pos (hf.zero h)]; exact ih
    · rw [if_neg h, if_neg (fun e => h (hf.zero e))]; exact hf.anti x y
theorem words_le {f : Str → Str → Int} (hf : Pre f) : ∀ a b c : List Str, cmpWordsL f a b ≤ 0 → cmpWordsL f b c ≤ 0 → cmpWordsL f a c ≤ 0
  | [], _, [], _, _ => by simp [cmpWordsL, Lib.compareInt]
  | [], _, _ :: _, _, _ => by simp only [cmpWordsL, Lib.compareInt, List.length_nil, List.length_cons]; repeat' split
                              all_goals omega
  | _ :: _, [], _, h, _ => by
    simp only [cmpWordsL, Lib.compareInt, List.length_nil, List.length_cons] at h
    repeat' split at h
    all_goals omega
  | _ :: _, _ :: _, [], _, h => by
    simp only [cmpWordsL, Lib.compareInt, List.length_nil, List.length_cons] at h
    repeat' split at h
    all_goals omega
  | x :: xs, y :: ys, z :: zs, h1, h2 => by
    have ih := words_le hf xs ys zs
    simp only [cmpWordsL] at h1 h2 ⊢
    by_cases h3 : f x y = 0
    · rw [if_pos h3] at h1
      by_cases h4 : f y z = 0
      · rw [if_pos h4] at h2
        have h5 := hf.le x y z (by omega) (by omega)
        have h6 := hf.le z y x (by have := hf.zero h4; omega) (by have := hf.zero h3; omega)
        have h7 : f x z = 0 := by have := hf.anti x z; have := hf.anti z x; omega
        rw [if_pos h7]
        exact ih h1 h2
      · rw [if_neg h4] at h2
        have := hf.le_lt (a := x) (b := y) (c := z) (by omega) (by omega)
        rw [if_neg (by omega)]
        omega
    · rw [if_neg h3] at h1
      by_cases h4 : f y z = 0
      · have := hf.lt_le (a := x) (b := y) (c := z) (by omega) (by omega)
        rw [if_neg (by omega)]
        omega
      · rw [if_neg h4] at h2
        have := hf.lt (a := x) (b := y) (c := z) (by omega) (by omega)
        rw [if_neg (by omega)]
        omega
theorem words_eq : ∀ {a b : List Str}, cmpWordsL cmpWordL a b = 0 → a = b
  | [], [], _ => rfl
  | [], y :: ys, h => by
    simp only [cmpWordsL, Lib.compareInt, List.length_nil, List.length_cons] at h
    repeat' split at h
    all_goals omega
  | x :: xs, [], h => by
    simp only [cmpWordsL, Lib.compareInt, List.length_nil, List.length_cons] at h
    repeat' split at h
    all_goals omega
  | x :: xs, y :: ys, h => by
    simp only [cmpWordsL] at h
    by_cases h3 : cmpWordL x y = 0
    · rw [if_pos h3] at h
      rw [word_eq h3, words_eq h]
    · rw [if_neg h3] at h; exact absurd h h3
/-- a text's words name it -/
theorem join_split (c : UInt8) : ∀ (n : Nat) (l : Str), l.length ≤ n → Lib.join (splitC c l) [c] = l
  | n, l, hn => by
    rcases first_cut c l with h | ⟨a, r, ha, rfl⟩
    · rw [splitC_none c l h]
      simp [Lib.join]
    · match n with
      | 0 => simp at hn
      | n + 1 =>
        have ih := join_split c n r (by simp at hn; omega)
        rw [splitC_app c r a ha]
        have hne := splitC_ne c r
        cases hs : splitC c r with
        | nil => exact absurd hs hne
        | cons x xs =>
          rw [hs] at ih
          rw [Lib.join_cons] at ih ⊢
          rw [← ih]
          simp [Lib.joinTail]
theorem split_inj {c : UInt8} {a b : Str} (h : splitC c a = splitC c b) : a = b := by
  rw [← join_split c _ a (Nat.le_refl _), ← join_split c _ b (Nat.le_refl _), h]
theorem early_eq {a b : Str} (h : cmpEarlyL a b = 0) : a = b := by
  unfold cmpEarlyL at h
  by_cases h1 : a = b
  · exact h1
  · rw [if_neg h1] at h
    by_cases h2 : a = []
    · rw [if_pos h2] at h; cases h
    · rw [if_neg h2] at h
      by_cases h3 : b = []
      · rw [if_pos h3] at h; cases h
      · rw [if_neg h3] at h
        exact split_inj (words_eq h)
theorem pre_words : Pre (cmpWordsL cmpWordL) := ⟨words_anti pre_word, words_le pre_word⟩
theorem early_both {a b : Str} (ha : a ≠ []) (hb : b ≠ []) : cmpEarlyL a b = cmpWordsL cmpWordL (splitC 46 a) (splitC 46 b) := cmpEarly_both ha hb
theorem pre_early : Pre cmpEarlyL := by
  refine ⟨fun a b => ?_, fun a b c => ?_⟩
  · by_cases ha : a = [] <;> by_cases hb : b = []
    · simp [cmpEarlyL, ha, hb]
    · have : ¬ ([] : Str) = b := fun e => hb e.symm
      simp [cmpEarlyL, ha, hb, this]
    · have : ¬ ([] : Str) = a := fun e => ha e.symm
      simp [cmpEarlyL, ha, hb, this]
    · rw [early_both ha hb, early_both hb ha]; exact pre_words.anti _ _
  · by_cases ha : a = [] <;> by_cases hb : b = [] <;> by_cases hc : c = []
    · simp [cmpEarlyL, ha, hb, hc]
    · have : ¬ ([] : Str) = c := fun e => hc e.symm
      simp [cmpEarlyL, ha, hb, this]
    · have : ¬ ([] : Str) = b := fun e => hb e.symm
      simp [cmpEarlyL, ha, hb, hc, this]
    · have : ¬ ([] : Str) = b := fun e => hb e.symm
      simp [cmpEarlyL, ha, hb, hc, this]
    · simp [cmpEarlyL, ha, hb, hc]
    · have : ¬ ([] : Str) = c := fun e => hc e.symm
      simp [cmpEarlyL, ha, hb, hc, this]
    · simp [cmpEarlyL, ha, hb, hc]
    · rw [early_both ha hb, early_both hb hc, early_both ha hc]; exact pre_words.le _ _ _
theorem ord_lex (u v : V4) : u.ord v = if Lib.compareInt u.a1 v.a1 = 0 then (if Lib.compareInt u.a2 v.a2 = 0 then (if Lib.compareInt u.a3 v.a3 = 0 then cmpEarlyL (bs u.a) (bs v.a) else Lib.compareInt u.a3 v.a3) else Lib.compareInt u.a2 v.a2) else Lib.compareInt u.a1 v.a1 := by
  unfold V4.ord orderL
  simp only [firstI]
  repeat' split
  all_goals simp_all
theorem pre_ord : Pre V4.ord := by
  have h := (pre_int.on V4.a1).lex ((pre_int.on V4.a2).lex ((pre_int.on V4.a3).lex (pre_early.on fun v : V4 => bs v.a)))
  have e : V4.ord = _ := funext fun u => funext fun v => ord_lex u v
  rw [e]
  exact h
theorem int_eq {a b : Int} (h : Lib.compareInt a b = 0) : a = b := by
  unfold Lib.compareInt at h
  repeat' split at h
  all_goals omega
theorem ord_eq {u v : V4} (h : u.ord v = 0) : u = v := by
  rw [ord_lex] at h
  by_cases h1 : Lib.compareInt u.a1 v.a1 = 0
  · rw [if_pos h1] at h
    by_cases h2 : Lib.compareInt u.a2 v.a2 = 0
    · rw [if_pos h2] at h
      by_cases h3 : Lib.compareInt u.a3 v.a3 = 0
      · rw [if_pos h3] at h
        obtain ⟨u1, u2, u3, u⟩ := u
        obtain ⟨v1, v2, v3, v⟩ := v
        dsimp only at h h1 h2 h3
        rw [int_eq h1, int_eq h2, int_eq h3, bs_inj (early_eq h)]
      · rw [if_neg h3] at h; exact absurd h h3
    · rw [if_neg h2] at h; exact absurd h h2
  · rw [if_neg h1] at h; exact absurd h h1
end Go.Proofs.YtghhjlcbcojcnaaGreatDoor

namespace Go.Proofs.YtghhjlcbcojcnaaGreatDoor

structure Iv where
  lo : Nat
  hi : Nat
deriving DecidableEq
def Iv.has (I : Iv) (k : Nat) : Bool := decide (I.lo ≤ k) && decide (k < I.hi)
/-- strictly apart, none of them empty, within N places -/
structure Can (N : Nat) (L : List Iv) : Prop where
  apart : L.Pairwise fun I J => I.hi < J.lo
  full : ∀ I ∈ L, I.lo < I.hi ∧ I.hi ≤ N
theorem Can.tail {N : Nat} {I : Iv} {L : List Iv} (h : Can N (I :: L)) : Can N L := ⟨(List.pairwise_cons.1 h.apart).2, fun J hJ => h.full J (List.mem_cons_of_mem _ hJ)⟩
theorem Can.one {N : Nat} {L : List Iv} (h : Can N L) {I J : Iv} (hI : I ∈ L) (hJ : J ∈ L) : I = J ∨ I.hi < J.lo ∨ J.hi < I.lo := by
  have ha := h.apart
  clear h
  induction ha with
  | nil => cases hI
  | @cons K M h1 _ ih =>
    rcases List.mem_cons.1 hI with e1 | m1 <;> rcases List.mem_cons.1 hJ with e2 | m2
    · exact .inl (e1.trans e2.symm)
    · exact .inr (.inl (e1 ▸ h1 _ m2))
    · exact .inr (.inr (e2 ▸ h1 _ m1))
    · exact ih m1 m2
/-! ### The scan -/
section
variable {σ : Type} (op : Nat → σ) (cl : σ → Nat → σ) (f : Nat → Bool)
end
end Go.Proofs.YtghhjlcbcojcnaaGreatDoor

namespace Go.Proofs.YtghhjlcbcojcnaaGreatDoor

/-! ### Ends, strictly rising -/
/-! ### A span as an interval -/
def insideL (s : Sp) (v : V4) : Bool := !(s.hf && decide (v.ord s.f < 0)) && !(s.ht && decide (0 ≤ v.ord s.t))
section
variable (E : List V4)
def enc (s : Sp) : Iv := ⟨if s.hf = true then E.idxOf s.f + 1 else 0, if s.ht = true then E.idxOf s.t + 1 else E.length + 1⟩
/-- a span whose ends are among the ends, and whose missing ones are zero -/
structure FitE (s : Sp) : Prop where
  f1 : s.hf = true → s.f ∈ E
  f0 : s.hf = false → s.f = zeroV
  t1 : s.ht = true → s.t ∈ E
  t0 : s.ht = false → s.t = zeroV
variable {E}
end

/-! ### A right range is a list of intervals strictly apart -/
theorem spErr_parts {s : Sp} (h : spErr s = 0) : (s.hf = false → s.f = zeroV) ∧ (s.ht = false → s.t = zeroV) ∧ s.f.err = 0 ∧ s.t.err = 0 ∧ (s.hf = true → s.ht = true → s.f.ord s.t < 0) := by
  unfold spErr at h
  by_cases h1 : (!s.hf && decide (s.f ≠ zeroV) || !s.ht && decide (s.t ≠ zeroV)) = true
  · rw [if_pos h1] at h; cases h
  rw [if_neg h1] at h
  by_cases h2 : s.f.err = 0
  · rw [if_neg (by simpa using h2)] at h
    by_cases h3 : s.t.err = 0
    · rw [if_neg (by simpa using h3)] at h
      by_cases h4 : (s.hf && s.ht && decide (0 ≤ s.f.ord s.t)) = true
      · rw [if_pos h4] at h; cases h
      · refine ⟨fun e => ?_, fun e => ?_, h2, h3, fun e1 e2 => ?_⟩
        · rw [e] at h1
          simp at h1
          exact h1.1
        · rw [e] at h1
          simp at h1
          exact h1.2
        · rw [e1, e2] at h4
          simpa using h4
    · rw [if_pos h3] at h; exact absurd h h3
  · rw [if_pos h2] at h; exact absurd h h2
theorem rng_each {l : List Sp} (h : rngErr l = 0) {k : Nat} (hk : k < l.length) : spErr l[k] = 0 := by
  have h1 := (rng_ok h).2 k hk
  unfold errAt at h1
  have e : l.getD k zeroS = l[k] := by simp [List.getD, List.getElem?_eq_getElem hk]
  rw [e] at h1
  by_cases h2 : spErr l[k] = 0
  · exact h2
  · rw [if_pos h2] at h1; exact absurd h1 h2
/-! ### What spans have in common -/
end Go.Proofs.YtghhjlcbcojcnaaGreatDoor
