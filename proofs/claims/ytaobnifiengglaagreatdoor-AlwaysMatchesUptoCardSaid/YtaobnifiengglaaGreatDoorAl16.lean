/- append of one element onto a slice of the call's own, in a world that grows; strings.Join over such a slice. Contracts of ver.isRow, wrong, spanText, PrintRange; ver.Parse, Next, text in the words of V4. Contract of ver.PrintRange. -/
import Derived.Test.YtaobnifiengglaaGreatDoorAl02
import Derived.Laws.AppendOwn
import Derived.Laws.OwnMore
import Derived.Maps.AppendAt
import Derived.OwnWalk
import Derived.Lib.Join
import Derived.Test.YtaobnifiengglaaGreatDoorAl14
import Derived.Test.YtaobnifiengglaaGreatDoorAl13
import Derived.Test.YtaobnifiengglaaGreatDoorAl11
import Derived.Deep.LoopGhost

namespace Go.Proofs.YtaobnifiengglaaGreatDoor
open Go.RowKit

section
variable {w w' a : World} {B : Nat} {e : TypeId} {size n : Nat} {v : Value} {xs : List Value}
theorem own_ext (h : w.ownsRow B e size v n xs) (hx : Ext w w') : w'.ownsRow B e size v n xs :=
  h.kept (row := none) ⟨hx.os, hx.tape, hx.output, hx.size, fun k hk _ => hx.block k hk⟩ (by cases hv : v.ownBlock <;> simp)
theorem Ext.grown (h : Ext a w) (hown : w.ownsRow B e size v n xs) (hB : a.heap.size ≤ B) (hg : w.grownBy w' v.ownBlock) : Ext a w' :=
  Below.grown h hg h.size (fun k hk => Nat.le_trans hB (hown.lt k hk).1)
theorem Blk.grown {g : Nat} {t : TypeId} {cs : Array Value} (h : Blk w g t cs) (hown : w.ownsRow B e size v n xs) (hB : g < B) (hg : w.grownBy w' v.ownBlock) : Blk w' g t cs :=
  (hg.block g h.lt (fun he => by have := (hown.lt g he.symm).1; omega)).trans h
theorem own_form (h : w.ownsRow B e size v n xs) (h0 : 0 < n) : ∃ g c, v = .slice (some ⟨g, 0, none⟩) n c ∧ g < w.heap.size ∧ B ≤ g ∧ n ≤ c ∧ ∀ j u, xs[j]? = some u → w.cell? ⟨g, j, none⟩ = some u := by
  have hh := h
  rcases h.2 with ⟨rfl, h1⟩ | ⟨g, cap, cur, rfl, hb, hgg, hnc, _⟩
  · omega
  · refine ⟨g, cap, rfl, (hh.lt g rfl).2, hb, hnc, fun j u hu => ?_⟩
    have := hh.cells (g := g) rfl j u hu
    have hadd : (⟨g, 0, none⟩ : Addr).add j = ⟨g, j, none⟩ := by unfold Addr.add; split <;> simp_all
    rwa [hadd] at this
end
section
variable {P : Program}
/-- 'v = append(v, x)', x laid into a new block of its own just ahead -/
theorem wpList_app1 {ops : Array Oper} {rest : List Oper} {o : Oper} {a : Act} {Q : Exit → Act → World → Prop} (wr : World) (cs : Array Value) (e : TypeId) (hgd : o.guard = none) (s x : Operand) (t : TypeId)
    (ho : o.op = .call { callee := .builtin .append, args := #[s, x], argTypes := #[t, t] })
    (z : Value) (size bytes : Nat) (ht : P.underlying t = some (.slice e)) (hinfo : (P.info? e).map (fun i => (i.zero, i.size, i.bytes)) = some (some z, size, bytes)) (hzs : z.cells.size = size) (hsz : 0 < size) (hby : bytes ≤ 1000)
    (B : Nat) (v : Value) (n : Nat) (xs : List Value) (hs : a.eval s = v) (hown : wr.ownsRow B e size v n xs)
    (c : Nat) (hx : a.eval x = .slice (some ⟨wr.heap.size, 0, none⟩) 1 c) (hcs : cs.size = size) (h1 : ∀ u ∈ cs.toList, u.oneCell' = true) (hn : n ≤ 100000000) (hbase : B ≤ wr.heap.size)
    (h : ∀ v' w', w'.ownsRow B e size v' (n + 1) (xs ++ cs.toList) → (∀ a', Ext a' wr → a'.heap.size ≤ B → Ext a' w') → (∀ g t' ds, Blk wr g t' ds → g < B → Blk w' g t' ds) → wpList P ops Q rest (a.put o.dst v') w') :
    wpList P ops Q (o :: rest) a (wr.alloc (.cells cs e)) := by
  obtain ⟨i, hi, hz0, hz1, hz2⟩ := info_parts hinfo
  have hnew := Blk.new wr e cs
  refine wpList_append_own (wr.alloc (.cells cs e)) hgd s x t ho B e i z size bytes ht hi hz0 hz1 hz2 hzs hsz v n xs hs (hown.alloc _) ⟨wr.heap.size, 0, none⟩ 1 c cs.toList hx (by simp [hcs]) ?_ h1 ?_ ?_ (by simp; omega) ?_
  · intro j u hu
    have hadd : (⟨wr.heap.size, 0, none⟩ : Addr).add j = ⟨wr.heap.size, j, none⟩ := by unfold Addr.add; split <;> simp_all
    rw [hadd, hnew.cell]
    simpa using hu
  · simp only [maxLen]; omega
  · have : (n + 1) * bytes ≤ 100000001 * 1000 := Nat.mul_le_mul (by omega) hby
    omega
  · intro v' w' hown' hg _
    refine h v' w' hown' (fun a' ha hB => ?_) (fun g t' ds hb hlt => ?_)
    · exact (ha.alloc _).grown (hown.alloc _) hB hg
    · exact (hb.alloc _).grown (hown.alloc _) hlt hg
/-- the same, where the new block's number is spelled otherwise -/
theorem wpList_app1g {ops : Array Oper} {rest : List Oper} {o : Oper} {a : Act} {Q : Exit → Act → World → Prop} (wr : World) (cs : Array Value) (e : TypeId) (hgd : o.guard = none) (s x : Operand) (t : TypeId)
    (ho : o.op = .call { callee := .builtin .append, args := #[s, x], argTypes := #[t, t] })
    (z : Value) (size bytes : Nat) (ht : P.underlying t = some (.slice e)) (hinfo : (P.info? e).map (fun i => (i.zero, i.size, i.bytes)) = some (some z, size, bytes)) (hzs : z.cells.size = size) (hsz : 0 < size) (hby : bytes ≤ 1000)
    (B : Nat) (v : Value) (n : Nat) (xs : List Value) (hs : a.eval s = v) (hown : wr.ownsRow B e size v n xs)
    (c gA : Nat) (hx : a.eval x = .slice (some ⟨gA, 0, none⟩) 1 c) (hgA : wr.heap.size = gA) (hcs : cs.size = size) (h1 : ∀ u ∈ cs.toList, u.oneCell' = true) (hn : n ≤ 100000000) (hbase : B ≤ wr.heap.size)
    (h : ∀ v' w', w'.ownsRow B e size v' (n + 1) (xs ++ cs.toList) → (∀ a', Ext a' wr → a'.heap.size ≤ B → Ext a' w') → (∀ g t' ds, Blk wr g t' ds → g < B → Blk w' g t' ds) → wpList P ops Q rest (a.put o.dst v') w') :
    wpList P ops Q (o :: rest) a (wr.alloc (.cells cs e)) :=
  wpList_app1 wr cs e hgd s x t ho z size bytes ht hinfo hzs hsz hby B v n xs hs hown c (by rw [hgA]; exact hx) hcs h1 hn hbase h
end
theorem info_string : (Tryz.prog.info? 9).map (fun i => (i.zero, i.size, i.bytes)) = some (some (.string ⟨#[]⟩), 1, 16) := by kernel_rfl

/-! ### strings.Join -/
end Go.Proofs.YtaobnifiengglaaGreatDoor

namespace Go.Proofs.YtaobnifiengglaaGreatDoor
open Go.RowKit

theorem isRow_any (s : ByteArray) (w : World) (hg : Good w) (hs : s.size ≤ 2097152) :
    Calls Tryz.prog 184 #[.string s] w fun e w' => e = .returned (.bool (rowL (bs s))) ∧ w = w' := by
  go_enter Tryz.func184, Tryz.ntmps184
  go_wp2_with (go_at_call 81; refine (contains_any 32 s _ hg hs).mono ?_; rintro e w' ⟨rfl, rfl⟩)
  go_ret
  exact ⟨ret_bool (by simp [rowL]), rfl⟩
theorem parse_val {s b : ByteArray} (hb : bs b = (parseV (bs s)).1.2.2.2) : (⟨(parseV (bs s)).1.2.2.2.toArray⟩ : ByteArray) = b := by rw [← hb, mk_bs]
/-- ver.Parse -/
theorem Parse_x (s : ByteArray) (w : World) (hg : GoodN w) (hs : s.size ≤ 2097152) :
    Calls Tryz.prog 36 #[.string s] w fun e w' => ∃ v r, pV (bs s) = (v, r) ∧ e = .returned (.tuple #[verV v, .int .i64 r]) ∧ v.a.size ≤ s.size ∧ Ext w w' :=
  (Parse_any s w hg hs).mono fun _ _ ⟨b, hp, hb, hz, hx⟩ => by
    rw [bs_length] at hz
    refine ⟨⟨(parseV (bs s)).1.1, (parseV (bs s)).1.2.1, (parseV (bs s)).1.2.2.1, b⟩, (parseV (bs s)).2, ?_, hp, hz, hx⟩
    unfold pV
    rw [parse_val hb]
/-- outref2.ReadVersion -/
theorem Read_x (s : ByteArray) (w : World) (hg : GoodN w) (hs : s.size ≤ 2097152) :
    Calls Tryz.prog 37 #[.string s] w fun e w' => ∃ v r, pV (bs s) = (v, r) ∧ e = .returned (.tuple #[verV v, .int .i64 r]) ∧ v.a.size ≤ s.size ∧ Ext w w' :=
  (ReadVersion_any s w hg hs).mono fun _ _ ⟨b, hp, hb, hz, hx⟩ => by
    rw [bs_length] at hz
    refine ⟨⟨(parseV (bs s)).1.1, (parseV (bs s)).1.2.1, (parseV (bs s)).1.2.2.1, b⟩, (parseV (bs s)).2, ?_, hp, hz, hx⟩
    unfold pV
    rw [parse_val hb]
/-- ver.Next, outref2.NextOf -/
theorem Next_x (v : V4) (part : Int) (w : World) (hg : Good w) (hs : v.a.size ≤ 2097152) :
    Calls Tryz.prog 24 #[verV v, .int .i64 part] w fun e w' => ∃ x y z r, nV v part = (⟨x, y, z, ⟨#[]⟩⟩, r) ∧ e = .returned (.tuple #[verV ⟨x, y, z, ⟨#[]⟩⟩, .int .i64 r]) ∧ Ext w w' :=
  (Next_any v.a1 v.a2 v.a3 part v.a w hg hs).mono fun _ _ ⟨h, hx⟩ => ⟨_, _, _, _, rfl, h, hx⟩
theorem NextOf_x (v : V4) (part : Int) (w : World) (hg : Good w) (hs : v.a.size ≤ 2097152) :
    Calls Tryz.prog 25 #[verV v, .int .i64 part] w fun e w' => ∃ x y z r, nV v part = (⟨x, y, z, ⟨#[]⟩⟩, r) ∧ e = .returned (.tuple #[verV ⟨x, y, z, ⟨#[]⟩⟩, .int .i64 r]) ∧ Ext w w' :=
  (NextOf_any v.a1 v.a2 v.a3 part v.a w hg hs).mono fun _ _ ⟨h, hx⟩ => ⟨_, _, _, _, rfl, h, hx⟩
set_option maxHeartbeats 1000000 in
theorem wrong_any (s : ByteArray) (w : World) (hg : GoodN w) (hs : s.size ≤ 2097152) :
    Calls Tryz.prog 109 #[.string s] w fun e w' => e = .returned (.bool (wrongL (bs s))) ∧ Ext w w' := by
  go_enter Tryz.func109, Tryz.ntmps109
  go_wp2_with fail
  refine (Parse_x s _ hg hs).mono ?_
  rintro e w1 ⟨⟨x, y, z, b⟩, r, hp, rfl, _, hx1⟩
  have HP := Lib.hid hp
  clear hp
  by_cases h8 : r = 8
  · subst h8
    go_wp2
    go_ret
    exact ⟨ret_bool (by unfold wrongL; rw [HP.out]; rfl), hx1.alloc _⟩
  · have H8 := Lib.hid h8
    have hb : (r == 8) = false := by rw [beq_eq_false_iff_ne]; exact h8
    go_wp2
    go_ret
    exact ⟨ret_bool (by unfold wrongL; rw [HP.out]; exact (decide_eq_false H8.out).symm), hx1.alloc _⟩

/-! ### Texts -/
end Go.Proofs.YtaobnifiengglaaGreatDoor

namespace Go.Proofs.YtaobnifiengglaaGreatDoor
open Go.RowKit

theorem map_take_succ {α β : Type} (f : α → β) (l : List α) (k : Nat) (h : k < l.length) : (l.take k).map f ++ [f l[k]] = (l.take (k + 1)).map f := by
  rw [List.take_succ_eq_append_getElem h, List.map_append]; rfl
end Go.Proofs.YtaobnifiengglaaGreatDoor
