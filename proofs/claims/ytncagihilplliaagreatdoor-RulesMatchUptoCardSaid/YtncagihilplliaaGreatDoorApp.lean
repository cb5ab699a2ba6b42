/- append of one element onto a slice of the call's own, in a world that grows; strings.Join over such a slice. -/
import Derived.Test.YtncagihilplliaaGreatDoorLib
import Derived.Laws.AppendOwn
import Derived.Laws.OwnMore
import Derived.Maps.AppendAt
import Derived.OwnWalk
import Derived.Lib.Join
namespace Go.Proofs.YtncagihilplliaaGreatDoor
open Go.RowKit

section
variable {w w' a : World} {B : Nat} {e : TypeId} {size n : Nat} {v : Value} {xs : List Value}
theorem own_ext (h : w.ownsRow B e size v n xs) (hx : Ext w w') : w'.ownsRow B e size v n xs :=
  h.kept (row := none) ⟨hx.os, hx.tape, hx.output, hx.size, fun k hk _ => hx.block k hk⟩ (by cases hv : v.ownBlock <;> simp)
theorem Ext.grown (h : Ext a w) (hown : w.ownsRow B e size v n xs) (hB : a.heap.size ≤ B) (hg : w.grownBy w' v.ownBlock) : Ext a w' :=
  Below.grown h hg h.size (fun k hk => Nat.le_trans hB (hown.lt k hk).1)
theorem Blk.grown {g : Nat} {t : TypeId} {cs : Array Value} (h : Blk w g t cs) (hown : w.ownsRow B e size v n xs) (hB : g < B) (hg : w.grownBy w' v.ownBlock) : Blk w' g t cs :=
  (hg.block g h.lt (fun he => by have := (hown.lt g he.symm).1; omega)).trans h
theorem own_form (h : w.ownsRow B e size v n xs) (h0 : 0 < n) : ∃ g c, v = .slice (some ⟨g, 0, none⟩) n c ∧ g < w.heap.size ∧ B ≤ g ∧ n ≤ c ∧ ∀ j u, xs[j]? = some u → w.cell? ⟨g, j, none⟩ = some u := by
  have hh := h
  rcases h.2 with ⟨rfl, h1⟩ | ⟨g, cap, cur, rfl, hb, hgg, hnc, _⟩
  · omega
  · refine ⟨g, cap, rfl, (hh.lt g rfl).2, hb, hnc, fun j u hu => ?_⟩
    have := hh.cells (g := g) rfl j u hu
    have hadd : (⟨g, 0, none⟩ : Addr).add j = ⟨g, j, none⟩ := by unfold Addr.add; split <;> simp_all
    rwa [hadd] at this
end
section
variable {P : Program}
/-- 'v = append(v, x)', x laid into a new block of its own just ahead -/
theorem wpList_app1 {ops : Array Oper} {rest : List Oper} {o : Oper} {a : Act} {Q : Exit → Act → World → Prop} (wr : World) (cs : Array Value) (e : TypeId) (hgd : o.guard = none) (s x : Operand) (t : TypeId)
    (ho : o.op = .call { callee := .builtin .append, args := #[s, x], argTypes := #[t, t] })
    (z : Value) (size bytes : Nat) (ht : P.underlying t = some (.slice e)) (hinfo : (P.info? e).map (fun i => (i.zero, i.size, i.bytes)) = some (some z, size, bytes)) (hzs : z.cells.size = size) (hsz : 0 < size) (hby : bytes ≤ 1000)
    (B : Nat) (v : Value) (n : Nat) (xs : List Value) (hs : a.eval s = v) (hown : wr.ownsRow B e size v n xs)
    (c : Nat) (hx : a.eval x = .slice (some ⟨wr.heap.size, 0, none⟩) 1 c) (hcs : cs.size = size) (h1 : ∀ u ∈ cs.toList, u.oneCell' = true) (hn : n ≤ 100000000) (hbase : B ≤ wr.heap.size)
    (h : ∀ v' w', w'.ownsRow B e size v' (n + 1) (xs ++ cs.toList) → (∀ a', Ext a' wr → a'.heap.size ≤ B → Ext a' w') → (∀ g t' ds, Blk wr g t' ds → g < B → Blk w' g t' ds) → wpList P ops Q rest (a.put o.dst v') w') :
    wpList P ops Q (o :: rest) a (wr.alloc (.cells cs e)) := by
  obtain ⟨i, hi, hz0, hz1, hz2⟩ := info_parts hinfo
  have hnew := Blk.new wr e cs
  refine wpList_append_own (wr.alloc (.cells cs e)) hgd s x t ho B e i z size bytes ht hi hz0 hz1 hz2 hzs hsz v n xs hs (hown.alloc _) ⟨wr.heap.size, 0, none⟩ 1 c cs.toList hx (by simp [hcs]) ?_ h1 ?_ ?_ (by simp; omega) ?_
  · intro j u hu
    have hadd : (⟨wr.heap.size, 0, none⟩ : Addr).add j = ⟨wr.heap.size, j, none⟩ := by unfold Addr.add; split <;> simp_all
    rw [hadd, hnew.cell]
    simpa using hu
  · simp only [maxLen]; omega
  · have : (n + 1) * bytes ≤ 100000001 * 1000 := Nat.mul_le_mul (by omega) hby
    omega
  · intro v' w' hown' hg _
    refine h v' w' hown' (fun a' ha hB => ?_) (fun g t' ds hb hlt => ?_)
    · exact (ha.alloc _).grown (hown.alloc _) hB hg
    · exact (hb.alloc _).grown (hown.alloc _) hlt hg
/-- the same, where the new block's number is spelled otherwise -/
theorem wpList_app1g {ops : Array Oper} {rest : List Oper} {o : Oper} {a : Act} {Q : Exit → Act → World → Prop} (wr : World) (cs : Array Value) (e : TypeId) (hgd : o.guard = none) (s x : Operand) (t : TypeId)
    (ho : o.op = .call { callee := .builtin .append, args := #[s, x], argTypes := #[t, t] })
    (z : Value) (size bytes : Nat) (ht : P.underlying t = some (.slice e)) (hinfo : (P.info? e).map (fun i => (i.zero, i.size, i.bytes)) = some (some z, size, bytes)) (hzs : z.cells.size = size) (hsz : 0 < size) (hby : bytes ≤ 1000)
    (B : Nat) (v : Value) (n : Nat) (xs : List Value) (hs : a.eval s = v) (hown : wr.ownsRow B e size v n xs)
    (c gA : Nat) (hx : a.eval x = .slice (some ⟨gA, 0, none⟩) 1 c) (hgA : wr.heap.size = gA) (hcs : cs.size = size) (h1 : ∀ u ∈ cs.toList, u.oneCell' = true) (hn : n ≤ 100000000) (hbase : B ≤ wr.heap.size)
    (h : ∀ v' w', w'.ownsRow B e size v' (n + 1) (xs ++ cs.toList) → (∀ a', Ext a' wr → a'.heap.size ≤ B → Ext a' w') → (∀ g t' ds, Blk wr g t' ds → g < B → Blk w' g t' ds) → wpList P ops Q rest (a.put o.dst v') w') :
    wpList P ops Q (o :: rest) a (wr.alloc (.cells cs e)) :=
  wpList_app1 wr cs e hgd s x t ho z size bytes ht hinfo hzs hsz hby B v n xs hs hown c (by rw [hgA]; exact hx) hcs h1 hn hbase h
end
theorem info_string : (Tryz.prog.info? 9).map (fun i => (i.zero, i.size, i.bytes)) = some (some (.string ⟨#[]⟩), 1, 16) := by kernel_rfl

/-! ### strings.Join -/
theorem join_len : ∀ (L : List Str) (sep : Str) (m : Nat), (∀ p ∈ L, p.length ≤ m) → (Lib.join L sep).length ≤ L.length * (m + sep.length)
  | [], sep, m, _ => by simp [Lib.join_nil]
  | x :: r, sep, m, h => by
    have hx := h x (by simp)
    have hl : ∀ r : List Str, (∀ p ∈ r, p.length ≤ m) → Lib.lens r ≤ r.length * m := fun r => by
      induction r with
      | nil => intro _; simp [Lib.lens]
      | cons y t ih =>
        intro hr
        have h1 := ih (fun p hp => hr p (List.mem_cons_of_mem _ hp))
        have h2 := hr y (by simp)
        unfold Lib.lens at h1 ⊢
        rw [List.map_cons, List.sum_cons, List.length_cons, Nat.add_mul]
        omega
    have h3 := hl (x :: r) h
    rw [Lib.join_length, Nat.mul_add, List.length_cons] at *
    rw [Nat.mul_comm sep.length]
    have : r.length * sep.length ≤ (r.length + 1) * sep.length := Nat.mul_le_mul_right _ (by omega)
    omega
theorem join_own {B : Nat} {v : Value} {n : Nat} {L : List Str} (sep : ByteArray) (w : World) (h : w.ownsRow B 9 1 v n (L.map S)) (hn : L.length = n) (h0 : 0 < n) (hl : n ≤ 100000000) (hlen : (Lib.join L (bs sep)).length ≤ 100000000) :
    Calls Tryz.prog 79 #[v, .string sep] w fun e w' => e = .returned (S (Lib.join L (bs sep))) ∧ Ext w w' := by
  obtain ⟨g, c, rfl, hg, _, hc, hcell⟩ := own_form h h0
  have hm : ((L.map fun l => (⟨l.toArray⟩ : ByteArray)).map (·.data.toList)) = L := by
    rw [List.map_map]
    exact List.map_id'' (fun l => by simp) L
  subst hn
  have key := Tryz.strings_Join g 0 c (L.map fun l => (⟨l.toArray⟩ : ByteArray)) sep w (fun j x hx => by
    rw [Nat.zero_add]
    refine hcell j _ ?_
    rw [List.getElem?_map] at hx ⊢
    cases hL : L[j]? with
    | none => rw [hL] at hx; cases hx
    | some l => rw [hL] at hx; simp only [Option.map_some] at hx ⊢; injection hx with hx; rw [← hx]) hg (by simp; omega) (by simpa using hc) (by rw [hm]; exact Nat.le_trans hlen (by decide))
  rw [hm, List.length_map] at key
  exact key
end Go.Proofs.YtncagihilplliaaGreatDoor
