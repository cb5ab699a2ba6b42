/- strings.NewReplacer(..).Replace at quotes: sync.Once's Do, first time, over whatever the Replacer's building does. strings.NewReplacer(..).Replace at quotes: NewReplacer; the building of its table. -/
import Derived.Test.YtaobnifiengglaaGreatDoorCe19
import Derived.Test.YtaobnifiengglaaGreatDoorCe14
import Derived.Deep.LoopGhost
import Derived.Deep.DeepCutAuto
import Derived.Deep.WholeRow
import Derived.Laws.BytesArg

namespace Go.Proofs.YtaobnifiengglaaGreatDoor
open Go.RowKit

abbrev rep5 (a b c : Int) (i v : Value) : Array Value := #[.int .u32 a, .int .i32 b, .int .u32 c, i, v]
/-- bytes at an address, in a block from n on -/
def BytesAt (w : World) (n : Nat) (v : Value) (l : List UInt8) : Prop := ∃ q c cur fz, v = .slice (some ⟨q, 0, none⟩) l.length c ∧ n ≤ q ∧ w.heap[q]? = some (.cells cur 5 fz) ∧ ∀ (j : Nat) x, l[j]? = some x → w.cell? ⟨q, j, none⟩ = some (.int .u8 x.toNat)
theorem heap_lt {w : World} {q : Nat} {o : Obj} (h : w.heap[q]? = some o) : q < w.heap.size := by
  rcases Nat.lt_or_ge q w.heap.size with hlt | hge
  · exact hlt
  · rw [Array.getElem?_eq_none hge] at h; cases h
theorem BytesAt.ext {w w' : World} {n : Nat} {v : Value} {l : List UInt8} (h : BytesAt w n v l) (hx : Ext w w') : BytesAt w' n v l := by
  obtain ⟨q, c, cur, fz, e, hn, h1, h2⟩ := h
  exact ⟨q, c, cur, fz, e, hn, (Below.block hx q (heap_lt h1)).trans h1, fun j x hj => hx.cell (h2 j x hj)⟩
theorem BytesAt.far {w : World} {n : Nat} {v : Value} {l : List UInt8} (h : BytesAt w n v l) {k : Nat} (hk : k < n) (o : Nat) (u : Value) : BytesAt (w.setCell ⟨k, o, none⟩ u) n v l := by
  obtain ⟨q, c, cur, fz, e, hn, h1, h2⟩ := h
  exact ⟨q, c, cur, fz, e, hn, (Below.heap_setCell w ⟨k, o, none⟩ u q (show q ≠ k by omega)).trans h1, fun j x hj => (World.cell?_setCell_other _ _ _ _ (fun e => by injection e with e _; omega)).trans (h2 j x hj)⟩
theorem BytesAt.mono {w : World} {n m : Nat} {v : Value} {l : List UInt8} (h : BytesAt w n v l) (hm : m ≤ n) : BytesAt w m v l := by
  obtain ⟨q, c, cur, fz, e, hn, h1, h2⟩ := h
  exact ⟨q, c, cur, fz, e, Nat.le_trans hm hn, h1, h2⟩
/-- the replacer that quotes: a table of 256 rows, and the two bytes that it replaces; in blocks from n on -/
structure BSR (w : World) (n p : Nat) : Prop where
  ex : ∃ cs : Array Value, n ≤ p ∧ Blk w p 348 cs ∧ (∀ i : Nat, i < 256 → ¬ i = 34 → ¬ i = 92 → cs[i]? = some (.slice none 0 0)) ∧
    (∃ v, cs[34]? = some v ∧ BytesAt w n v [92, 34]) ∧ (∃ v, cs[92]? = some v ∧ BytesAt w n v [92, 92]) ∧
    ∃ q c, cs[256]? = some (.slice (some ⟨q, 0, none⟩) 2 c) ∧ n ≤ q ∧ w.cell? ⟨q, 0, none⟩ = some (.string ⟨#[34]⟩) ∧ w.cell? ⟨q, 1, none⟩ = some (.string ⟨#[92]⟩)
theorem BSR.ext {w w' : World} {n p : Nat} (h : BSR w n p) (hx : Ext w w') : BSR w' n p := by
  obtain ⟨cs, hn, h1, h2, ⟨v, h3, h4⟩, ⟨u, h5, h6⟩, q, c, h7, hq, h8, h9⟩ := h.ex
  exact ⟨cs, hn, h1.ext hx, h2, ⟨v, h3, h4.ext hx⟩, ⟨u, h5, h6.ext hx⟩, q, c, h7, hq, hx.cell h8, hx.cell h9⟩
theorem BSR.far {w : World} {n p : Nat} (h : BSR w n p) {k : Nat} (hk : k < n) (o : Nat) (u : Value) : BSR (w.setCell ⟨k, o, none⟩ u) n p := by
  obtain ⟨cs, hn, h1, h2, ⟨v, h3, h4⟩, ⟨u', h5, h6⟩, q, c, h7, hq, h8, h9⟩ := h.ex
  exact ⟨cs, hn, h1.far (show p ≠ k by omega) u, h2, ⟨v, h3, h4.far hk o u⟩, ⟨u', h5, h6.far hk o u⟩, q, c, h7, hq, (World.cell?_setCell_other _ _ _ _ (fun e => by injection e with e _; omega)).trans h8, (World.cell?_setCell_other _ _ _ _ (fun e => by injection e with e _; omega)).trans h9⟩
/-- what the Replacer's building leaves -/
def Built (w0 : World) (g : Nat) (e : Ending) (w' : World) : Prop :=
  ∃ p, e = .returned (.tuple #[]) ∧ Blk w' g 270 (rep5 0 1 0 (.iface 349 (.pointer (some ⟨p, 0, none⟩))) (.slice none 0 0)) ∧ BSR w' (g + 1) p ∧ Ext w0 w'
theorem blk_drew {w : World} {g : Nat} {t : TypeId} {cs : Array Value} (h : Blk w g t cs) : Blk w.drew g t cs := h.ext ((Ext.refl w).drew)
theorem loadB_zero (a : Addr) (w : World) (hc : w.cell? a = some (.int .u32 0)) :
    Calls Tryz.prog 258 #[.pointer (some a)] w fun e w' => e = .returned (.bool false) ∧ w = w' := by
  have hl := run_call_load (P := Tryz.prog) Tryz.func294 (by kernel_rfl) (by kernel_rfl) (by kernel_rfl) .u32 (by kernel_rfl) hc
  go_enter Tryz.func258, Tryz.ntmps258
  go_wp2
  go_ret
  exact ⟨rfl, rfl⟩
set_option maxRecDepth 100000 in
set_option maxHeartbeats 1600000 in
theorem doSlow_q (g : Nat) (v : Value) (w0 w : World) (hx0 : Ext w0 w) (hg0 : w0.heap.size ≤ g) (hB : Blk w g 270 (rep5 0 0 0 .nilIface v))
    (hb : ∀ W, Ext w0 W → W.heap.size = w.heap.size → (∀ k o, ¬ k = g → W.cell? ⟨k, o, none⟩ = w.cell? ⟨k, o, none⟩) → Blk W g 270 (rep5 0 1 0 .nilIface v) → Calls Tryz.prog 220 #[.pointer (some ⟨g, 0, none⟩)] W (Built w0 g)) :
    Calls Tryz.prog 259 #[.pointer (some ⟨g, 0, none⟩), .func (.func 220) #[.pointer (some ⟨g, 0, none⟩)] #[]] w fun e w' => e = .returned (.tuple #[]) ∧
      ∃ p, Blk w' g 270 (rep5 1 0 0 (.iface 349 (.pointer (some ⟨p, 0, none⟩))) (.slice none 0 0)) ∧ BSR w' (g + 1) p ∧ Ext w0 w' := by
  have b1 := hB.set 1 (.int .i32 1)
  have e1 : Ext w0 (w.setCell ⟨g, 1, none⟩ (.int .i32 1)) := hx0.setCell hg0 _
  have hsz : (w.setCell ⟨g, 1, none⟩ (.int .i32 1)).heap.size = w.heap.size := by simp
  have hfar : ∀ k o, ¬ k = g → (w.setCell ⟨g, 1, none⟩ (.int .i32 1)).cell? ⟨k, o, none⟩ = w.cell? ⟨k, o, none⟩ := fun k o hk => World.cell?_setCell_other _ _ _ _ (fun e => hk (by injection e with e _; exact e.symm))
  have HB := Lib.hid (hb _ e1 hsz hfar (by simpa using b1))
  clear hb hsz hfar
  have c1 := b1.cell 0
  have l1 := hB.cell 1
  have z1 := hB.free 1
  have hnot : ∀ (x : Bool) (w : World), (Op.unary .not (.bool x)).run Tryz.prog w = .ok (.bool (!x)) w := fun _ _ => rfl
  go_enter_defers Tryz.func259, Tryz.ntmps259
  go_wp2_with (go_at_call 295; refine (lock_free ⟨g, 1, none⟩ _ (by rw [l1]; rfl) z1).mono ?_; rintro e w' ⟨rfl, rfl⟩)
  refine (loadB_zero _ _ (by rw [c1]; rfl)).mono ?_
  rintro e w' ⟨rfl, rfl⟩
  go_wp2_with fail
  refine HB.out.mono ?_
  rintro e w2 ⟨p, rfl, b2, hp, hx2⟩
  have q0 := b2.cell 0
  have z0 := b2.free 0
  have b3 := (blk_drew b2).set 0 (.int .u32 1)
  have b4 := b3.set 1 (.int .i32 0)
  have r1 := b3.cell 1
  have y1 := b3.free 1
  have hx3 : Ext w0 (((w2.drew).setCell ⟨g, 0, none⟩ (.int .u32 1)).setCell ⟨g, 1, none⟩ (.int .i32 0)) := ((hx2.drew).setCell hg0 _).setCell hg0 _
  go_wp2
  refine leaves_cons (f := 297) (args := #[.pointer (some ⟨g, 0, none⟩), .bool true]) (by simp) (by simp [go_sem]) ?_
  refine (store_deferred ⟨g, 0, none⟩ (.int .u32 0) .returning _ (by rw [q0]; rfl) z0).mono ?_
  rintro e u' w'' ⟨rfl, rfl, rfl⟩
  refine leaves_cons (f := 296) (args := #[.pointer (some ⟨g, 1, none⟩)]) (by simp [settle]) (by simp [go_sem]) ?_
  refine (unlock_deferred ⟨g, 1, none⟩ _ _ (by rw [r1]; rfl) y1).mono ?_
  rintro e u' w'' ⟨rfl, rfl, rfl⟩
  have hfin : ∃ p, Blk ((w2.drew.setCell ⟨g, 0, none⟩ (.int .u32 1)).setCell ⟨g, 1, none⟩ (.int .i32 0)) g 270 (rep5 1 0 0 (.iface 349 (.pointer (some ⟨p, 0, none⟩))) (.slice none 0 0)) ∧ BSR ((w2.drew.setCell ⟨g, 0, none⟩ (.int .u32 1)).setCell ⟨g, 1, none⟩ (.int .i32 0)) (g + 1) p ∧ Ext w0 ((w2.drew.setCell ⟨g, 0, none⟩ (.int .u32 1)).setCell ⟨g, 1, none⟩ (.int .i32 0)) :=
    ⟨p, by simpa using b4, ((hp.ext ((Ext.refl w2).drew)).far (Nat.lt_succ_self g) _ _).far (Nat.lt_succ_self g) _ _, hx3⟩
  have HF := Lib.hid hfin
  clear hfin
  simp [Leaves, settle, results, Tryz.results259]
  exact HF.out
set_option maxRecDepth 100000 in
set_option maxHeartbeats 1600000 in
theorem do_q (g : Nat) (v : Value) (w0 w : World) (hx0 : Ext w0 w) (hg0 : w0.heap.size ≤ g) (hB : Blk w g 270 (rep5 0 0 0 .nilIface v))
    (hb : ∀ W, Ext w0 W → W.heap.size = w.heap.size → (∀ k o, ¬ k = g → W.cell? ⟨k, o, none⟩ = w.cell? ⟨k, o, none⟩) → Blk W g 270 (rep5 0 1 0 .nilIface v) → Calls Tryz.prog 220 #[.pointer (some ⟨g, 0, none⟩)] W (Built w0 g)) :
    Calls Tryz.prog 219 #[.pointer (some ⟨g, 0, none⟩), .func (.func 220) #[.pointer (some ⟨g, 0, none⟩)] #[]] w fun e w' => e = .returned (.tuple #[]) ∧
      ∃ p, Blk w' g 270 (rep5 1 0 0 (.iface 349 (.pointer (some ⟨p, 0, none⟩))) (.slice none 0 0)) ∧ BSR w' (g + 1) p ∧ Ext w0 w' := by
  have c0 := hB.cell 0
  have HD := Lib.hid (doSlow_q g v w0 w hx0 hg0 hB hb)
  clear hb
  have hnot : ∀ (x : Bool) (w : World), (Op.unary .not (.bool x)).run Tryz.prog w = .ok (.bool (!x)) w := fun _ _ => rfl
  go_enter Tryz.func219, Tryz.ntmps219
  go_wp2_with fail
  refine (loadB_zero _ _ (by rw [c0]; rfl)).mono ?_
  rintro e w' ⟨rfl, rfl⟩
  go_wp2_with fail
  refine HD.out.mono ?_
  rintro e w2 ⟨rfl, hp⟩
  have HP := Lib.hid hp
  clear hp
  go_wp2
  go_end0
  exact ⟨rfl, HP.out⟩
end Go.Proofs.YtaobnifiengglaaGreatDoor

namespace Go.Proofs.YtaobnifiengglaaGreatDoor
open Go.RowKit

/-- the four texts: what is replaced, and by what -/
structure OldNew (w : World) (q : Nat) : Prop where
  lt : q < w.heap.size
  s0 : w.cell? ⟨q, 0, none⟩ = some (.string ⟨#[92]⟩)
  s1 : w.cell? ⟨q, 1, none⟩ = some (.string ⟨#[92, 92]⟩)
  s2 : w.cell? ⟨q, 2, none⟩ = some (.string ⟨#[34]⟩)
  s3 : w.cell? ⟨q, 3, none⟩ = some (.string ⟨#[92, 34]⟩)
theorem OldNew.ext {w w' : World} {q : Nat} (h : OldNew w q) (hx : Ext w w') : OldNew w' q := ⟨Nat.lt_of_lt_of_le h.lt hx.size, hx.cell h.s0, hx.cell h.s1, hx.cell h.s2, hx.cell h.s3⟩
set_option maxHeartbeats 1600000 in
set_option maxRecDepth 100000 in
theorem NewReplacer_q (b : Nat) (w : World) (ho : OldNew w b) :
    Calls Tryz.prog 164 #[.slice (some ⟨b, 0, none⟩) 4 4] w fun e w' => ∃ g q c, e = .returned (.pointer (some ⟨g, 0, none⟩)) ∧ w.heap.size ≤ g ∧ q < g ∧ Blk w' g 270 (rep5 0 0 0 .nilIface (.slice (some ⟨q, 0, none⟩) 4 c)) ∧ OldNew w' q ∧ Ext w w' := by
  obtain ⟨hlt, h0, h1, h2, h3⟩ := ho
  obtain ⟨i, hi, hz0, hz1, hz2⟩ := info_parts info_string
  have hcs : ∀ j u, ([.string ⟨#[92]⟩, .string ⟨#[92, 92]⟩, .string ⟨#[34]⟩, .string ⟨#[92, 34]⟩] : List Value)[j]? = some u → w.cell? ((⟨b, 0, none⟩ : Addr).add j) = some u := fun j u hu => by
    have hadd : (⟨b, 0, none⟩ : Addr).add j = ⟨b, j, none⟩ := by unfold Addr.add; split <;> simp_all
    rw [hadd]
    match j, hu with
    | 0, hu => simp at hu; rw [← hu]; exact h0
    | 1, hu => simp at hu; rw [← hu]; exact h1
    | 2, hu => simp at hu; rw [← hu]; exact h2
    | 3, hu => simp at hu; rw [← hu]; exact h3
    | n + 4, hu => simp at hu
  have HCS := Lib.hid hcs
  clear hcs
  go_enter Tryz.func164, Tryz.ntmps164
  go_wp2_with (at_builtin; refine wpList_append_own w rfl _ _ 100 rfl w.heap.size 9 i (.string ⟨#[]⟩) 1 16 Tryz.underlying100 hi hz0 hz1 hz2 rfl (by decide) _ 0 [] rfl (World.ownsRow_nil _ _ _ _) ⟨b, 0, none⟩ 4 4 [.string ⟨#[92]⟩, .string ⟨#[92, 92]⟩, .string ⟨#[34]⟩, .string ⟨#[92, 34]⟩] rfl rfl HCS.out (by simp [Value.oneCell']) (by decide) (by decide) (Nat.le_refl _) ?_; intro v' w1 hown hg _; have hxq : Ext w w1 := Ext.grown (Ext.refl w) (World.ownsRow_nil w w.heap.size 9 1) (Nat.le_refl _) hg; obtain ⟨q, c, rfl, hq, hqB, hc, hcell⟩ := own_form hown (by decide); have HON := Lib.hid (show OldNew w1 q from ⟨hq, hcell 0 _ rfl, hcell 1 _ rfl, hcell 2 _ rfl, hcell 3 _ rfl⟩); clear hown hg hcell)
  go_ret
  exact ⟨w1.heap.size, q, c, rfl, hxq.size, hq, Blk.new _ _ _, HON.out.ext ((Ext.refl w1).alloc _), hxq.alloc _⟩
/-- the table under way: so many of the two bytes are in it -/
def TabR (w wr : World) (k : Nat) : Prop := ∃ (cs : Array Value) (v : Value), Blk wr (w.heap.size + 1) 348 cs ∧ cs.size = 257 ∧
  wr.ownsRow w.heap.size 9 1 v k (([.string ⟨#[34]⟩, .string ⟨#[92]⟩] : List Value).take k) ∧ cs[256]? = some v ∧
  (∀ i : Nat, i < 256 → (1 ≤ k → ¬ i = 34) → (2 ≤ k → ¬ i = 92) → cs[i]? = some (.slice none 0 0)) ∧
  (1 ≤ k → ∃ u, cs[34]? = some u ∧ BytesAt wr (w.heap.size + 2) u [92, 34]) ∧ (2 ≤ k → ∃ u, cs[92]? = some u ∧ BytesAt wr (w.heap.size + 2) u [92, 92]) ∧ Ext w wr
theorem own_new1 (w : World) (x : Value) {g : Nat} (hg : g = w.heap.size) : ∀ j u, ([x] : List Value)[j]? = some u → (w.alloc (.cells #[x] 9)).cell? ((⟨g, 0, none⟩ : Addr).add j) = some u := fun j u hu => by
  subst hg
  match j, hu with
  | 0, hu => simp at hu; subst hu; rw [show (⟨w.heap.size, 0, none⟩ : Addr).add 0 = ⟨w.heap.size, 0, none⟩ from rfl, (Blk.new w 9 #[x]).cell]; rfl
  | n + 1, hu => simp at hu
theorem set_get {cs : Array Value} {i n : Nat} (h : cs.size = n) (hi : i < n) (u : Value) : (cs.setIfInBounds i u)[i]? = some u := by simp [h, hi]
section
variable {w wr w' : World} {B k p : Nat} {v : Value} {xs : List Value} {cs : Array Value}
theorem tab_ext {o1 o2 : Obj} (hown : wr.ownsRow w.heap.size 9 1 v k xs) (_hsz : w.heap.size ≤ wr.heap.size) (hg : ((wr.alloc o1).alloc o2).grownBy w' v.ownBlock) (hx : Ext w wr) : Ext w w' :=
  Ext.grown ((hx.alloc _).alloc _) ((hown.alloc _).alloc _) (Nat.le_refl _) hg
theorem tab_blk {o1 o2 : Obj} (hb : Blk wr p 348 cs) (hown : wr.ownsRow B 9 1 v k xs) (hg : ((wr.alloc o1).alloc o2).grownBy w' v.ownBlock) : Blk w' p 348 cs := by
  have h2 := (hb.alloc o1).alloc o2
  refine (hg.block p h2.lt fun he => ?_).trans h2
  rcases hown.2 with ⟨rfl, _⟩ | ⟨g, cap, cur, rfl, _, hgg, _⟩
  · cases he
  · have e : p = g := by simpa [Value.ownBlock] using he
    subst e
    unfold Blk at hb
    rw [hb] at hgg
    simp at hgg
theorem tab_bytes {o1 o2 : Obj} {n : Nat} {u : Value} {l : List UInt8} (hown : wr.ownsRow B 9 1 v k xs) (hg : ((wr.alloc o1).alloc o2).grownBy w' v.ownBlock) (h : BytesAt wr n u l) : BytesAt w' n u l := by
  obtain ⟨q, c, cur, fz, e, hn, h1, h2⟩ := h
  have hq := heap_lt h1
  have key : w'.heap[q]? = wr.heap[q]? := by
    refine (hg.block q (by simp; omega) fun he => ?_).trans (Below.block (((Ext.refl wr).alloc o1).alloc o2) q hq)
    rcases hown.2 with ⟨rfl, _⟩ | ⟨g, cap, cur2, rfl, _, hgg, _⟩
    · cases he
    · have e : q = g := by simpa [Value.ownBlock] using he
      subst e
      rw [h1] at hgg
      simp at hgg
  refine ⟨q, c, cur, fz, e, hn, key.trans h1, fun j x hj => ?_⟩
  have := h2 j x hj
  unfold World.cell? at this ⊢
  rw [key]
  exact this
end
theorem own_set {w : World} {B n p i : Nat} {v : Value} {xs : List Value} {cs : Array Value} (h : w.ownsRow B 9 1 v n xs) (hb : Blk w p 348 cs) (u : Value) : (w.setCell ⟨p, i, none⟩ u).ownsRow B 9 1 v n xs := by
  refine ⟨h.1, ?_⟩
  rcases h.2 with ⟨rfl, h1⟩ | ⟨g, cap, cur, rfl, hB, hg, h3⟩
  · exact .inl ⟨rfl, h1⟩
  · refine .inr ⟨g, cap, cur, rfl, hB, ?_, h3⟩
    refine (Below.heap_setCell w ⟨p, i, none⟩ u g fun e => ?_).trans hg
    subst e
    unfold Blk at hb
    rw [hb] at hg
    simp at hg
/-- one byte more in the table -/
theorem tab_step (w w1 : World) (cs : Array Value) (V : Value) (k o : Nat) (s : ByteArray) (xs : List Value) (hb1 : Blk w1 (w.heap.size + 1) 348 cs) (hown1 : w1.ownsRow w.heap.size 9 1 V k xs) (hx1 : Ext w w1) (c : Nat) :
    ((Lib.bytesWorld (w1.setCell ⟨w.heap.size + 1, 256, none⟩ V) 5 s).setCell ⟨w.heap.size + 1, o, none⟩ (.slice (some ⟨w1.heap.size, 0, none⟩) s.size c)).ownsRow w.heap.size 9 1 V k xs ∧
    BytesAt ((Lib.bytesWorld (w1.setCell ⟨w.heap.size + 1, 256, none⟩ V) 5 s).setCell ⟨w.heap.size + 1, o, none⟩ (.slice (some ⟨w1.heap.size, 0, none⟩) s.size c)) (w.heap.size + 2) (.slice (some ⟨w1.heap.size, 0, none⟩) s.size c) (bs s) ∧
    Ext w ((Lib.bytesWorld (w1.setCell ⟨w.heap.size + 1, 256, none⟩ V) 5 s).setCell ⟨w.heap.size + 1, o, none⟩ (.slice (some ⟨w1.heap.size, 0, none⟩) s.size c)) ∧
    ∀ v l, BytesAt w1 (w.heap.size + 2) v l → BytesAt ((Lib.bytesWorld (w1.setCell ⟨w.heap.size + 1, 256, none⟩ V) 5 s).setCell ⟨w.heap.size + 1, o, none⟩ (.slice (some ⟨w1.heap.size, 0, none⟩) s.size c)) (w.heap.size + 2) v l := by
  have hp := hb1.lt
  have e1 : Ext (w1.setCell ⟨w.heap.size + 1, 256, none⟩ V) (Lib.bytesWorld (w1.setCell ⟨w.heap.size + 1, 256, none⟩ V) 5 s) := (Ext.refl _).bytesWorld _ _
  have hsz : (w1.setCell ⟨w.heap.size + 1, 256, none⟩ V).heap.size = w1.heap.size := by simp
  refine ⟨own_set (own_ext (own_set hown1 hb1 V) e1) ((hb1.set 256 V).ext e1) _, ⟨w1.heap.size, c, _, _, by rw [bs_length], by omega, (Below.heap_setCell _ ⟨w.heap.size + 1, o, none⟩ _ w1.heap.size (show w1.heap.size ≠ w.heap.size + 1 by omega)).trans (hsz ▸ Lib.bytesWorld_at_new _ _ _), ?_⟩, ?_, ?_⟩
  · intro j x hj
    have hj2 : j < s.size := by
      rw [← bs_length]
      exact (List.getElem?_eq_some_iff.1 hj).1
    rw [World.cell?_setCell_other _ _ _ _ (fun e => by injection e with e _; omega)]
    have := Lib.bytesWorld_cell (w1.setCell ⟨w.heap.size + 1, 256, none⟩ V) 5 s j hj2
    rw [hsz] at this
    rw [this, List.getD, hj]; rfl
  · exact ((hx1.setCell (Nat.le_succ _) V).bytesWorld _ _).setCell (Nat.le_succ _) _
  · intro v l hv
    exact ((hv.far (Nat.lt_succ_self _) 256 V).ext e1).far (Nat.lt_succ_self _) o _
/-- 'string([]byte{o})' -/
theorem conv_one (w : World) (z : Int) (o : UInt8) (h : UInt8.ofNat z.toNat = o) :
    (convert 222 9 (.slice (some ⟨w.heap.size, 0, none⟩) 1 1)).run Tryz.prog (w.alloc (.cells #[.int .u8 z] 5)) = .ok (.string ⟨#[o]⟩) (w.alloc (.cells #[.int .u8 z] 5)) := by
  have := run_convert_bytes_arg (P := Tryz.prog) (w.alloc (.cells #[.int .u8 z] 5)) 222 5 Tryz.underlying222 Tryz.underlying5 w.heap.size 0 1 1 [z] rfl (fun i hi => by
    obtain rfl : i = 0 := by omega
    rw [(Blk.new w 5 #[.int .u8 z]).cell]; rfl) 9 Tryz.underlying9
  rw [this]
  simp [strOfNums, h]
set_option maxRecDepth 1000000 in
set_option maxHeartbeats 4000000 in
theorem build_q (g q c : Nat) (w : World) (hB : Blk w g 270 (rep5 0 1 0 .nilIface (.slice (some ⟨q, 0, none⟩) 4 c))) (ho : OldNew w q) :
    Calls Tryz.prog 260 #[.pointer (some ⟨g, 0, none⟩)] w fun e w' => ∃ p, e = .returned (.iface 349 (.pointer (some ⟨p, 0, none⟩))) ∧ BSR w' w.heap.size p ∧ Ext w w' := by
  obtain ⟨hlt, h0, h1, h2, h3⟩ := ho
  obtain ⟨i0, hi, hz0, hz1, hz2⟩ := info_parts info_string
  have c2 := hB.cell 4
  have hb4 : w.cell? ⟨g, 4, none⟩ = some (.slice (some ⟨q, 0, none⟩) 4 c) := by rw [c2]; rfl
  clear c2
  have hmk : ∀ w, (Instr.makeSlice 100 (.int .i64 0) (.int .i64 2)).run Tryz.prog w = .ok (.slice (some ⟨w.heap.size, 0, none⟩) 0 2) (w.alloc (.cells #[.string ⟨#[]⟩, .string ⟨#[]⟩] 9)) := fun _ => by kernel_rfl
  have hst := run_storeCells_new (P := Tryz.prog) (w.alloc (.cells #[.string ⟨#[]⟩, .string ⟨#[]⟩] 9)) 348 Tryz.zeroCells348 (Tryz.zeroCells348.setIfInBounds 256 (.slice (some ⟨w.heap.size, 0, none⟩) 0 2)) (by kernel_rfl) (by kernel_rfl) (by kernel_rfl)
  rw [World.size_alloc, Array.toList_setIfInBounds] at hst
  have HZ := Lib.hid (show Tryz.zeroCells348 = Array.replicate 257 (.slice none 0 0) by kernel_rfl)
  have hx34 : ∀ h, (⟨#[34]⟩ : ByteArray)[0]'h = 34 := fun _ => rfl
  have hx92 : ∀ h, (⟨#[92]⟩ : ByteArray)[0]'h = 92 := fun _ => rfl
  have hcvS := fun w => conv_one w 34 34 (by decide)
  have hcvT := fun w => conv_one w 92 92 (by decide)
  have hcvB := fun (w : World) (s : ByteArray) => Lib.run_convert_string_bytes (P := Tryz.prog) w 9 222 5 s Tryz.underlying9 Tryz.underlying222 Tryz.underlying5
  have hen : ∀ w, (binOp .eql 222 (.slice none 0 0) (.slice none 0 0)).run Tryz.prog w = .ok (.bool true) w := fun _ => by kernel_rfl
  go_enter Tryz.func260, Tryz.ntmps260
  go_wp2
  go_loop [4, 5] (fun b i => (b = .bool true ∧ i = .int .i64 0) ∨ (b = .bool false ∧ i = .int .i64 2) ∨ (b = .bool false ∧ i = .int .i64 4)) (fun _ i => 4 - (intOf i).toNat)
  case atStart => exact .inl ⟨rfl, rfl⟩
  case round =>
    rcases hrel with ⟨rfl, rfl⟩ | ⟨rfl, rfl⟩ | ⟨rfl, rfl⟩
    · go_wp2
      go_round
      case rel => exact .inr (.inl ⟨rfl, rfl⟩)
      case measure => simp [intOf]
    · go_wp2
      go_round
      case rel => exact .inr (.inr ⟨rfl, rfl⟩)
      case measure => simp [intOf]
    · go_wp2
      go_loopw [12] (fun i wr => ∃ k : Nat, TabR w wr k ∧ ((k = 0 ∧ i = .int .i64 2) ∨ (k = 1 ∧ i = .int .i64 0) ∨ (k = 2 ∧ i = .int .i64 (-2)))) (fun i _ => (2 + intOf i).toNat)
      case atStart =>
        have bT := Blk.new (w.alloc (.cells #[.string ⟨#[]⟩, .string ⟨#[]⟩] 9)) 348 (Tryz.zeroCells348.setIfInBounds 256 (.slice (some ⟨w.heap.size, 0, none⟩) 0 2))
        rw [World.size_alloc] at bT
        refine ⟨0, ⟨_, .slice (some ⟨w.heap.size, 0, none⟩) 0 2, bT, by rw [HZ.out]; simp, ⟨rfl, .inr ⟨w.heap.size, 2, _, rfl, Nat.le_refl _, (Blk.new w 9 #[.string ⟨#[]⟩, .string ⟨#[]⟩]).alloc _, Nat.zero_le _, by decide, rfl, rfl⟩⟩, by rw [HZ.out]; simp, ?_, fun h => absurd h (by decide), fun h => absurd h (by decide), ((Ext.refl w).alloc _).alloc _⟩, .inl ⟨rfl, rfl⟩⟩
        intro i hi _ _
        rw [HZ.out, Array.getElem?_setIfInBounds_ne (by omega)]
        rw [Array.getElem?_replicate, if_pos (by omega)]
      case round =>
        obtain ⟨k, ⟨cs, v, hbP, hcs, hown, h256, htab, hk1, hk2, hxr⟩, hki⟩ := hrel
        rcases hki with ⟨rfl, rfl⟩ | ⟨rfl, rfl⟩ | ⟨rfl, rfl⟩
        · skip
          have hc34 : wr.cell? ⟨w.heap.size + 1, 34, none⟩ = some (.slice none 0 0) := by rw [hbP.cell]; exact htab 34 (by decide) (fun h => absurd h (by decide)) (fun h => absurd h (by decide))
          have hc256 : wr.cell? ⟨w.heap.size + 1, 256, none⟩ = some v := by rw [hbP.cell]; exact h256
          have hsl := hxr.cell h2
          have hsn := hxr.cell h3
          have hsz := hxr.size
          have hpl := hbP.lt
          have HBP := Lib.hid hbP
          have HOWN := Lib.hid hown
          have HTAB := Lib.hid htab
          have H256 := Lib.hid h256
          have HK1 := Lib.hid hk1
          have HK2 := Lib.hid hk2
          have HSZ := Lib.hid hcs
          clear hbP hown htab h256 hk1 hk2 hcs
          go_wp2_with (at_builtin; refine wpList_append_own _ rfl _ _ 100 rfl w.heap.size 9 i0 (.string ⟨#[]⟩) 1 16 Tryz.underlying100 hi hz0 hz1 hz2 rfl (by decide) _ 0 _ rfl ((HOWN.out.alloc _).alloc _) ⟨wr.heap.size + 1, 0, none⟩ 1 1 [.string ⟨#[34]⟩] rfl rfl (own_new1 _ _ (World.size_alloc _ _).symm) (by simp [Value.oneCell']) (by decide) (by decide) (by simp; omega) ?_; intro v' w1 hown1 hg1 _; obtain ⟨qv, cv, rfl, hqv, hqB, hcv, hcellv⟩ := own_form hown1 (by decide); have hx1 := tab_ext HOWN.out hsz hg1 hxr; have hb1 := tab_blk HBP.out HOWN.out hg1; have HBA := Lib.hid (fun v l (h : BytesAt wr (w.heap.size + 2) v l) => tab_bytes HOWN.out hg1 h); clear hg1; have hc1 := (hb1.cell 256).trans H256.out; have hf1 := hb1.free; have hl1 := hb1.lt; have hb3 := (hb1.set 256 (.slice (some ⟨qv, 0, none⟩) 1 cv)).ext ((Ext.refl _).bytesWorld 5 ⟨#[92, 34]⟩); have hc3 := (hb3.cell 34).trans ((Array.getElem?_setIfInBounds_ne (by decide)).trans (HTAB.out 34 (by decide) (fun h => absurd h (by decide)) (fun h => absurd h (by decide)))); have hf3 := hb3.free; have HB1 := Lib.hid hb1; have HB3 := Lib.hid hb3; have HX1 := Lib.hid hx1; have HOWN1 := Lib.hid hown1; have HCV := Lib.hid hcellv; clear hb1 hb3 hx1 hown1 hcellv)
          have hst2 := fun c => tab_step w w1 cs (.slice (some ⟨qv, 0, none⟩) 1 cv) 1 34 ⟨#[92, 34]⟩ _ HB1.out HOWN1.out HX1.out c
          have hbA : ∀ v l, BytesAt wr (w.heap.size + 2) v l → BytesAt w1 (w.heap.size + 2) v l := HBA.out
          have HST := Lib.hid hst2
          have HBA2 := Lib.hid hbA
          clear hst2 hbA
          go_roundw
          case rel =>
            obtain ⟨q1, q2, q3, q4⟩ := HST.out (grownCap (w1.setCell ⟨w.heap.size + 1, 256, none⟩ (.slice (some ⟨qv, 0, none⟩) 1 cv)) 2 0 5)
            refine ⟨1, ⟨_, _, HB3.out.set 34 _, by simp [HSZ.out], q1, (Array.getElem?_setIfInBounds_ne (by decide)).trans (set_get HSZ.out (by decide) _), ?_, fun _ => ⟨_, set_get (n := 257) (by simp [HSZ.out]) (by decide) _, q2⟩, fun h => absurd h (by decide), q3⟩, .inr (.inl ⟨rfl, rfl⟩)⟩
            · intro i hi h1 h2
              rw [Array.getElem?_setIfInBounds_ne (fun e => h1 (by decide) e.symm), Array.getElem?_setIfInBounds_ne (by omega)]
              exact HTAB.out i hi (by first | (intro h; exact h1 (by omega)) | (intro h; omega)) (by first | (intro h; exact h2 (by omega)) | (intro h; omega))
          case measure => simp [intOf]
        · skip
          have hc34 : wr.cell? ⟨w.heap.size + 1, 92, none⟩ = some (.slice none 0 0) := by rw [hbP.cell]; exact htab 92 (by decide) (fun _ h => absurd h (by decide)) (fun h => absurd h (by decide))
          have hc256 : wr.cell? ⟨w.heap.size + 1, 256, none⟩ = some v := by rw [hbP.cell]; exact h256
          have hsl := hxr.cell h0
          have hsn := hxr.cell h1
          have hsz := hxr.size
          have hpl := hbP.lt
          have HBP := Lib.hid hbP
          have HOWN := Lib.hid hown
          have HTAB := Lib.hid htab
          have H256 := Lib.hid h256
          have HK1 := Lib.hid hk1
          have HK2 := Lib.hid hk2
          have HSZ := Lib.hid hcs
          clear hbP hown htab h256 hk1 hk2 hcs
          go_wp2_with (at_builtin; refine wpList_append_own _ rfl _ _ 100 rfl w.heap.size 9 i0 (.string ⟨#[]⟩) 1 16 Tryz.underlying100 hi hz0 hz1 hz2 rfl (by decide) _ 1 _ rfl ((HOWN.out.alloc _).alloc _) ⟨wr.heap.size + 1, 0, none⟩ 1 1 [.string ⟨#[92]⟩] rfl rfl (own_new1 _ _ (World.size_alloc _ _).symm) (by simp [Value.oneCell']) (by decide) (by decide) (by simp; omega) ?_; intro v' w1 hown1 hg1 _; obtain ⟨qv, cv, rfl, hqv, hqB, hcv, hcellv⟩ := own_form hown1 (by decide); have hx1 := tab_ext HOWN.out hsz hg1 hxr; have hb1 := tab_blk HBP.out HOWN.out hg1; have HBA := Lib.hid (fun v l (h : BytesAt wr (w.heap.size + 2) v l) => tab_bytes HOWN.out hg1 h); clear hg1; have hc1 := (hb1.cell 256).trans H256.out; have hf1 := hb1.free; have hl1 := hb1.lt; have hb3 := (hb1.set 256 (.slice (some ⟨qv, 0, none⟩) 2 cv)).ext ((Ext.refl _).bytesWorld 5 ⟨#[92, 92]⟩); have hc3 := (hb3.cell 92).trans ((Array.getElem?_setIfInBounds_ne (by decide)).trans (HTAB.out 92 (by decide) (fun _ h => absurd h (by decide)) (fun h => absurd h (by decide)))); have hf3 := hb3.free; have HB1 := Lib.hid hb1; have HB3 := Lib.hid hb3; have HX1 := Lib.hid hx1; have HOWN1 := Lib.hid hown1; have HCV := Lib.hid hcellv; clear hb1 hb3 hx1 hown1 hcellv)
          have hst2 := fun c => tab_step w w1 cs (.slice (some ⟨qv, 0, none⟩) 2 cv) 2 92 ⟨#[92, 92]⟩ _ HB1.out HOWN1.out HX1.out c
          have hbA : ∀ v l, BytesAt wr (w.heap.size + 2) v l → BytesAt w1 (w.heap.size + 2) v l := HBA.out
          have HST := Lib.hid hst2
          have HBA2 := Lib.hid hbA
          clear hst2 hbA
          go_roundw
          case rel =>
            obtain ⟨q1, q2, q3, q4⟩ := HST.out (grownCap (w1.setCell ⟨w.heap.size + 1, 256, none⟩ (.slice (some ⟨qv, 0, none⟩) 2 cv)) 2 0 5)
            refine ⟨2, ⟨_, _, HB3.out.set 92 _, by simp [HSZ.out], q1, (Array.getElem?_setIfInBounds_ne (by decide)).trans (set_get HSZ.out (by decide) _), ?_, fun _ => ?_, fun _ => ⟨_, set_get (n := 257) (by simp [HSZ.out]) (by decide) _, q2⟩, q3⟩, .inr (.inr ⟨rfl, rfl⟩)⟩
            · intro i hi h1 h2
              rw [Array.getElem?_setIfInBounds_ne (fun e => h2 (by decide) e.symm), Array.getElem?_setIfInBounds_ne (by omega)]
              exact HTAB.out i hi (by first | (intro h; exact h1 (by omega)) | (intro h; omega)) (by first | (intro h; exact h2 (by omega)) | (intro h; omega))
            · obtain ⟨u, hu1, hu2⟩ := HK1.out (by decide)
              exact ⟨u, by rw [Array.getElem?_setIfInBounds_ne (by omega), Array.getElem?_setIfInBounds_ne (by omega)]; exact hu1, q4 _ _ (HBA2.out _ _ hu2)⟩
          case measure => simp [intOf]
        · have h1 := hk1 (by decide)
          have h2 := hk2 (by decide)
          have hf := own_form hown (by decide)
          have HF := Lib.hid hf
          have H1 := Lib.hid h1
          have H2 := Lib.hid h2
          have HBP := Lib.hid hbP
          have HTAB := Lib.hid htab
          have H256 := Lib.hid h256
          clear h1 h2 hf hown hbP htab h256 hk1 hk2
          go_wp2
          go_ret
          refine ⟨_, rfl, ⟨cs, Nat.le_succ _, HBP.out, fun i hi a b => HTAB.out i hi (fun _ => a) (fun _ => b), ?_, ?_, ?_⟩, hxr⟩
          · obtain ⟨u, a, b⟩ := H1.out
            exact ⟨u, a, b.mono (by omega)⟩
          · obtain ⟨u, a, b⟩ := H2.out
            exact ⟨u, a, b.mono (by omega)⟩
          · obtain ⟨q', c', rfl, _, hq, _, hc⟩ := HF.out
            exact ⟨q', c', H256.out, hq, hc 0 _ rfl, hc 1 _ rfl⟩
end Go.Proofs.YtaobnifiengglaaGreatDoor
