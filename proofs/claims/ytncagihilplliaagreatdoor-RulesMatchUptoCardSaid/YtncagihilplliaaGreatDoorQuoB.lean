/- strings.NewReplacer(..).Replace at quotes: sync.Once's Do, first time, over whatever the Replacer's building does. -/
import Derived.Test.YtncagihilplliaaGreatDoorQuoA
namespace Go.Proofs.YtncagihilplliaaGreatDoor
open Go.RowKit

abbrev rep5 (a b c : Int) (i v : Value) : Array Value := #[.int .u32 a, .int .i32 b, .int .u32 c, i, v]
/-- bytes at an address, in a block from n on -/
def BytesAt (w : World) (n : Nat) (v : Value) (l : List UInt8) : Prop := ∃ q c cur fz, v = .slice (some ⟨q, 0, none⟩) l.length c ∧ n ≤ q ∧ w.heap[q]? = some (.cells cur 5 fz) ∧ ∀ (j : Nat) x, l[j]? = some x → w.cell? ⟨q, j, none⟩ = some (.int .u8 x.toNat)
theorem heap_lt {w : World} {q : Nat} {o : Obj} (h : w.heap[q]? = some o) : q < w.heap.size := by
  rcases Nat.lt_or_ge q w.heap.size with hlt | hge
  · exact hlt
  · rw [Array.getElem?_eq_none hge] at h; cases h
theorem BytesAt.ext {w w' : World} {n : Nat} {v : Value} {l : List UInt8} (h : BytesAt w n v l) (hx : Ext w w') : BytesAt w' n v l := by
  obtain ⟨q, c, cur, fz, e, hn, h1, h2⟩ := h
  exact ⟨q, c, cur, fz, e, hn, (Below.block hx q (heap_lt h1)).trans h1, fun j x hj => hx.cell (h2 j x hj)⟩
theorem BytesAt.far {w : World} {n : Nat} {v : Value} {l : List UInt8} (h : BytesAt w n v l) {k : Nat} (hk : k < n) (o : Nat) (u : Value) : BytesAt (w.setCell ⟨k, o, none⟩ u) n v l := by
  obtain ⟨q, c, cur, fz, e, hn, h1, h2⟩ := h
  exact ⟨q, c, cur, fz, e, hn, (Below.heap_setCell w ⟨k, o, none⟩ u q (show q ≠ k by omega)).trans h1, fun j x hj => (World.cell?_setCell_other _ _ _ _ (fun e => by injection e with e _; omega)).trans (h2 j x hj)⟩
theorem BytesAt.mono {w : World} {n m : Nat} {v : Value} {l : List UInt8} (h : BytesAt w n v l) (hm : m ≤ n) : BytesAt w m v l := by
  obtain ⟨q, c, cur, fz, e, hn, h1, h2⟩ := h
  exact ⟨q, c, cur, fz, e, Nat.le_trans hm hn, h1, h2⟩
/-- the replacer that quotes: a table of 256 rows, and the two bytes that it replaces; in blocks from n on -/
structure BSR (w : World) (n p : Nat) : Prop where
  ex : ∃ cs : Array Value, n ≤ p ∧ Blk w p 228 cs ∧ (∀ i : Nat, i < 256 → ¬ i = 34 → ¬ i = 92 → cs[i]? = some (.slice none 0 0)) ∧
    (∃ v, cs[34]? = some v ∧ BytesAt w n v [92, 34]) ∧ (∃ v, cs[92]? = some v ∧ BytesAt w n v [92, 92]) ∧
    ∃ q c, cs[256]? = some (.slice (some ⟨q, 0, none⟩) 2 c) ∧ n ≤ q ∧ w.cell? ⟨q, 0, none⟩ = some (.string ⟨#[34]⟩) ∧ w.cell? ⟨q, 1, none⟩ = some (.string ⟨#[92]⟩)
theorem BSR.ext {w w' : World} {n p : Nat} (h : BSR w n p) (hx : Ext w w') : BSR w' n p := by
  obtain ⟨cs, hn, h1, h2, ⟨v, h3, h4⟩, ⟨u, h5, h6⟩, q, c, h7, hq, h8, h9⟩ := h.ex
  exact ⟨cs, hn, h1.ext hx, h2, ⟨v, h3, h4.ext hx⟩, ⟨u, h5, h6.ext hx⟩, q, c, h7, hq, hx.cell h8, hx.cell h9⟩
theorem BSR.far {w : World} {n p : Nat} (h : BSR w n p) {k : Nat} (hk : k < n) (o : Nat) (u : Value) : BSR (w.setCell ⟨k, o, none⟩ u) n p := by
  obtain ⟨cs, hn, h1, h2, ⟨v, h3, h4⟩, ⟨u', h5, h6⟩, q, c, h7, hq, h8, h9⟩ := h.ex
  exact ⟨cs, hn, h1.far (show p ≠ k by omega) u, h2, ⟨v, h3, h4.far hk o u⟩, ⟨u', h5, h6.far hk o u⟩, q, c, h7, hq, (World.cell?_setCell_other _ _ _ _ (fun e => by injection e with e _; omega)).trans h8, (World.cell?_setCell_other _ _ _ _ (fun e => by injection e with e _; omega)).trans h9⟩
/-- what the Replacer's building leaves -/
def Built (w0 : World) (g : Nat) (e : Ending) (w' : World) : Prop :=
  ∃ p, e = .returned (.tuple #[]) ∧ Blk w' g 172 (rep5 0 1 0 (.iface 229 (.pointer (some ⟨p, 0, none⟩))) (.slice none 0 0)) ∧ BSR w' (g + 1) p ∧ Ext w0 w'
theorem blk_drew {w : World} {g : Nat} {t : TypeId} {cs : Array Value} (h : Blk w g t cs) : Blk w.drew g t cs := h.ext ((Ext.refl w).drew)
theorem loadB_zero (a : Addr) (w : World) (hc : w.cell? a = some (.int .u32 0)) :
    Calls Tryz.prog 163 #[.pointer (some a)] w fun e w' => e = .returned (.bool false) ∧ w = w' := by
  have hl := run_call_load (P := Tryz.prog) Tryz.func185 (by kernel_rfl) (by kernel_rfl) (by kernel_rfl) .u32 (by kernel_rfl) hc
  go_enter Tryz.func163, Tryz.ntmps163
  go_wp2
  go_ret
  exact ⟨rfl, rfl⟩
set_option maxRecDepth 100000 in
set_option maxHeartbeats 1600000 in
theorem doSlow_q (g : Nat) (v : Value) (w0 w : World) (hx0 : Ext w0 w) (hg0 : w0.heap.size ≤ g) (hB : Blk w g 172 (rep5 0 0 0 .nilIface v))
    (hb : ∀ W, Ext w0 W → W.heap.size = w.heap.size → (∀ k o, ¬ k = g → W.cell? ⟨k, o, none⟩ = w.cell? ⟨k, o, none⟩) → Blk W g 172 (rep5 0 1 0 .nilIface v) → Calls Tryz.prog 139 #[.pointer (some ⟨g, 0, none⟩)] W (Built w0 g)) :
    Calls Tryz.prog 164 #[.pointer (some ⟨g, 0, none⟩), .func (.func 139) #[.pointer (some ⟨g, 0, none⟩)] #[]] w fun e w' => e = .returned (.tuple #[]) ∧
      ∃ p, Blk w' g 172 (rep5 1 0 0 (.iface 229 (.pointer (some ⟨p, 0, none⟩))) (.slice none 0 0)) ∧ BSR w' (g + 1) p ∧ Ext w0 w' := by
  have b1 := hB.set 1 (.int .i32 1)
  have e1 : Ext w0 (w.setCell ⟨g, 1, none⟩ (.int .i32 1)) := hx0.setCell hg0 _
  have hsz : (w.setCell ⟨g, 1, none⟩ (.int .i32 1)).heap.size = w.heap.size := by simp
  have hfar : ∀ k o, ¬ k = g → (w.setCell ⟨g, 1, none⟩ (.int .i32 1)).cell? ⟨k, o, none⟩ = w.cell? ⟨k, o, none⟩ := fun k o hk => World.cell?_setCell_other _ _ _ _ (fun e => hk (by injection e with e _; exact e.symm))
  have HB := Lib.hid (hb _ e1 hsz hfar (by simpa using b1))
  clear hb hsz hfar
  have c1 := b1.cell 0
  have l1 := hB.cell 1
  have z1 := hB.free 1
  have hnot : ∀ (x : Bool) (w : World), (Op.unary .not (.bool x)).run Tryz.prog w = .ok (.bool (!x)) w := fun _ _ => rfl
  go_enter_defers Tryz.func164, Tryz.ntmps164
  go_wp2_with (go_at_call 186; refine (lock_free ⟨g, 1, none⟩ _ (by rw [l1]; rfl) z1).mono ?_; rintro e w' ⟨rfl, rfl⟩)
  refine (loadB_zero _ _ (by rw [c1]; rfl)).mono ?_
  rintro e w' ⟨rfl, rfl⟩
  go_wp2_with fail
  refine HB.out.mono ?_
  rintro e w2 ⟨p, rfl, b2, hp, hx2⟩
  have q0 := b2.cell 0
  have z0 := b2.free 0
  have b3 := (blk_drew b2).set 0 (.int .u32 1)
  have b4 := b3.set 1 (.int .i32 0)
  have r1 := b3.cell 1
  have y1 := b3.free 1
  have hx3 : Ext w0 (((w2.drew).setCell ⟨g, 0, none⟩ (.int .u32 1)).setCell ⟨g, 1, none⟩ (.int .i32 0)) := ((hx2.drew).setCell hg0 _).setCell hg0 _
  go_wp2
  refine leaves_cons (f := 188) (args := #[.pointer (some ⟨g, 0, none⟩), .bool true]) (by simp) (by simp [go_sem]) ?_
  refine (store_deferred ⟨g, 0, none⟩ (.int .u32 0) .returning _ (by rw [q0]; rfl) z0).mono ?_
  rintro e u' w'' ⟨rfl, rfl, rfl⟩
  refine leaves_cons (f := 187) (args := #[.pointer (some ⟨g, 1, none⟩)]) (by simp [settle]) (by simp [go_sem]) ?_
  refine (unlock_deferred ⟨g, 1, none⟩ _ _ (by rw [r1]; rfl) y1).mono ?_
  rintro e u' w'' ⟨rfl, rfl, rfl⟩
  have hfin : ∃ p, Blk ((w2.drew.setCell ⟨g, 0, none⟩ (.int .u32 1)).setCell ⟨g, 1, none⟩ (.int .i32 0)) g 172 (rep5 1 0 0 (.iface 229 (.pointer (some ⟨p, 0, none⟩))) (.slice none 0 0)) ∧ BSR ((w2.drew.setCell ⟨g, 0, none⟩ (.int .u32 1)).setCell ⟨g, 1, none⟩ (.int .i32 0)) (g + 1) p ∧ Ext w0 ((w2.drew.setCell ⟨g, 0, none⟩ (.int .u32 1)).setCell ⟨g, 1, none⟩ (.int .i32 0)) :=
    ⟨p, by simpa using b4, ((hp.ext ((Ext.refl w2).drew)).far (Nat.lt_succ_self g) _ _).far (Nat.lt_succ_self g) _ _, hx3⟩
  have HF := Lib.hid hfin
  clear hfin
  simp [Leaves, settle, results, Tryz.results164]
  exact HF.out
set_option maxRecDepth 100000 in
set_option maxHeartbeats 1600000 in
theorem do_q (g : Nat) (v : Value) (w0 w : World) (hx0 : Ext w0 w) (hg0 : w0.heap.size ≤ g) (hB : Blk w g 172 (rep5 0 0 0 .nilIface v))
    (hb : ∀ W, Ext w0 W → W.heap.size = w.heap.size → (∀ k o, ¬ k = g → W.cell? ⟨k, o, none⟩ = w.cell? ⟨k, o, none⟩) → Blk W g 172 (rep5 0 1 0 .nilIface v) → Calls Tryz.prog 139 #[.pointer (some ⟨g, 0, none⟩)] W (Built w0 g)) :
    Calls Tryz.prog 138 #[.pointer (some ⟨g, 0, none⟩), .func (.func 139) #[.pointer (some ⟨g, 0, none⟩)] #[]] w fun e w' => e = .returned (.tuple #[]) ∧
      ∃ p, Blk w' g 172 (rep5 1 0 0 (.iface 229 (.pointer (some ⟨p, 0, none⟩))) (.slice none 0 0)) ∧ BSR w' (g + 1) p ∧ Ext w0 w' := by
  have c0 := hB.cell 0
  have HD := Lib.hid (doSlow_q g v w0 w hx0 hg0 hB hb)
  clear hb
  have hnot : ∀ (x : Bool) (w : World), (Op.unary .not (.bool x)).run Tryz.prog w = .ok (.bool (!x)) w := fun _ _ => rfl
  go_enter Tryz.func138, Tryz.ntmps138
  go_wp2_with fail
  refine (loadB_zero _ _ (by rw [c0]; rfl)).mono ?_
  rintro e w' ⟨rfl, rfl⟩
  go_wp2_with fail
  refine HD.out.mono ?_
  rintro e w2 ⟨rfl, hp⟩
  have HP := Lib.hid hp
  clear hp
  go_wp2
  go_end0
  exact ⟨rfl, HP.out⟩
end Go.Proofs.YtncagihilplliaaGreatDoor
