/- The closures of outref2.segments; the sort and the compaction at a slice that may be nil. Contract of outref2.segments. -/
import Derived.Test.YtcmceeihdhcmnaaGreatDoorRm43
import Derived.Test.YtcmceeihdhcmnaaGreatDoorRm39
import Derived.Test.YtcmceeihdhcmnaaGreatDoorRm35
import Derived.Shelf.SlSortCmp.NoneTotal
import Derived.Test.YtcmceeihdhcmnaaGreatDoorRm41
import Derived.Test.YtcmceeihdhcmnaaGreatDoorRm36
import Derived.Deep.LoopGhost

namespace Go.Proofs.YtcmceeihdhcmnaaGreatDoor
open Go.RowKit

/-- versions in a slice of the call's own, nil too -/
def RdQ (w : World) (A : Option Addr) (l : List V4) : Prop := l ≠ [] → ∃ g, A = some ⟨g, 0, none⟩ ∧ RowV w g l
theorem RdQ.ext {w w' : World} {A : Option Addr} {l : List V4} (h : RdQ w A l) (hx : Ext w w') : RdQ w' A l := fun hn => by
  obtain ⟨g, e, k⟩ := h hn
  exact ⟨g, e, k.ext hx⟩
def Right (l : List V4) : Prop := ∀ v ∈ l, v.err = 0 ∧ v.a.size ≤ 2097152
/-- the block that a slice's row lies in -/
def InRow (A : Option Addr) (k : Nat) : Prop := A = some ⟨k, 0, none⟩
theorem SortR_any (A : Option Addr) (c : Nat) (l : List V4) (w0 w : World) (hg : GoodN w0) (hx : Ext w0 w) (hge : ∀ g, InRow A g → w0.heap.size ≤ g) (hr : RdQ w A l) (hl : l.length ≤ 1000000) (hv : Right l) :
    Calls Tryz.prog 168 #[.slice A l.length c, .func (.func 33) #[] #[]] w fun e w' =>
      e = .returned (.tuple #[]) ∧ ∃ l', l'.Perm l ∧ (l'.Pairwise fun u v => u.ord v ≤ 0) ∧ RdQ w' A l' ∧ ExtC (InRow A) w w' := by
  rcases Nat.eq_zero_or_pos l.length with h0 | h0
  · obtain rfl := List.eq_nil_of_length_eq_zero h0
    have key := AnyF.slices_SortFunc_none Tryz.sortVer A c (.func (.func 33) #[] #[]) w
    change Calls Tryz.prog 168 _ _ _ at key
    refine key.mono ?_
    rintro e w' ⟨rfl, rfl⟩
    exact ⟨rfl, [], List.Perm.refl _, List.Pairwise.nil, fun h => absurd rfl h, ExtC.refl _ _⟩
  · obtain ⟨g, rfl, hrow⟩ := hr (fun e => by rw [e] at h0; exact absurd h0 (Nat.lt_irrefl _))
    refine (SortV_any g c l w0 w hg hx (hge g rfl) hrow h0 hl hv).mono ?_
    rintro e w' ⟨rfl, l', h1, h2, h3, h4⟩
    refine ⟨rfl, l', h1, h2, fun _ => ⟨g, rfl, h3⟩, h4.os, h4.tape, h4.output, h4.size, fun k hk hn => h4.block k hk fun e => hn (by rw [e]; exact rfl)⟩
set_option maxHeartbeats 4000000 in
set_option maxRecDepth 100000 in
theorem CompactR_any (A : Option Addr) (c : Nat) (D : List V4) (w0 w : World) (hg : GoodN w0) (hx : Ext w0 w) (hge : ∀ g, InRow A g → w0.heap.size ≤ g) (hr : RdQ w A D) (hl : D.length ≤ 1000) (hc : D.length ≤ c) (hv : Right D) :
    Calls Tryz.prog 169 #[.slice A D.length c, .func (.func 170) #[] #[]] w fun e w' =>
      e = .returned (.slice A (cptN D D.length).length c) ∧ RdQ w' A (cptN D D.length) ∧ ExtC (InRow A) w w' := by
  rcases Nat.eq_zero_or_pos D.length with h0 | h0
  · obtain rfl := List.eq_nil_of_length_eq_zero h0
    clear hr hge
    simp only [List.length_nil, cptN]
    go_enter Tryz.func169, Tryz.ntmps169
    go_wp2
    go_ret
    exact ⟨rfl, fun h => absurd rfl h, ExtC.refl _ _⟩
  · obtain ⟨g, rfl, hrow⟩ := hr (fun e => by rw [e] at h0; exact absurd h0 (Nat.lt_irrefl _))
    refine (CompactV_any g c D w0 w hg hx (hge g rfl) hrow h0 hl hc hv).mono ?_
    rintro e w' ⟨rfl, h1, h2⟩
    exact ⟨rfl, fun _ => ⟨g, rfl, h1⟩, h2.os, h2.tape, h2.output, h2.size, fun k hk hn => h2.block k hk fun e => hn (by rw [e]; exact rfl)⟩

/-! ### Whether a span has a place -/
def atL (E : List V4) (k : Nat) (s : Sp) : Bool := if k = 0 then !s.hf else insideL s (E.getD (k - 1) zeroV)
set_option maxHeartbeats 8000000 in
set_option maxRecDepth 100000 in
theorem at_any (A : Option Addr) (c kk gk ge : Nat) (E : List V4) (s : Sp) (w : World) (hg : GoodN w) (h1 : s.f.a.size ≤ 2097152) (h2 : s.t.a.size ≤ 2097152) (e1 : s.f.err = 0) (e2 : s.t.err = 0) (hE : Right E) (hk : kk ≤ E.length) (hkb : kk ≤ 1000)
    (hr : RdQ w A E) (ck : w.cell? ⟨gk, 0, none⟩ = some (.int .i64 kk)) (ce : w.cell? ⟨ge, 0, none⟩ = some (.slice A E.length c)) :
    Calls Tryz.prog 172 #[spV s, .pointer (some ⟨gk, 0, none⟩), .pointer (some ⟨ge, 0, none⟩)] w fun e w' => e = .returned (.bool (atL E kk s)) ∧ Ext w w' := by
  have lk := lt_of_cell ck; have le := lt_of_cell ce
  have hx0 : Ext w (w.alloc (.cells (spA s) 127)) := (Ext.refl w).alloc _
  by_cases h0 : kk = 0
  · subst h0
    have hR : atL E 0 s = !s.hf := rfl
    rw [hR]
    clear hR hr e1 e2
    obtain ⟨hf, ht, ⟨f1, f2, f3, fa⟩, ⟨t1, t2, t3, ta⟩⟩ := s
    dsimp only [spV]
    cases hf
    · go_enter Tryz.func172, Tryz.ntmps172
      go_wp2
      go_ret
      exact ⟨rfl, (by repeat (first | with_reducible exact Ext.refl _ | with_reducible assumption | with_reducible apply Ext.drewN | with_reducible apply Ext.drew | with_reducible apply Ext.alloc | exact Ext.refl _ | assumption | apply Ext.drewN | apply Ext.drew | apply Ext.alloc))⟩
    · go_enter Tryz.func172, Tryz.ntmps172
      go_wp2
      go_ret
      exact ⟨rfl, (by repeat (first | with_reducible exact Ext.refl _ | with_reducible assumption | with_reducible apply Ext.drewN | with_reducible apply Ext.drew | with_reducible apply Ext.alloc | exact Ext.refl _ | assumption | apply Ext.drewN | apply Ext.drew | apply Ext.alloc))⟩
  · obtain ⟨kp, rfl⟩ : ∃ kp, kk = kp + 1 := ⟨kk - 1, by omega⟩
    have hk1 : kp < E.length := by omega
    obtain ⟨g, rfl, hrow⟩ := hr (fun e => by rw [e] at hk1; exact absurd hk1 (Nat.not_lt_zero _))
    have hR : atL E (kp + 1) s = insideL s E[kp] := by rw [atL, if_neg (by omega), Nat.add_sub_cancel, getD_ver hk1]
    rw [hR]
    have R := hrow.ext hx0
    have x0 := R.c0 hk1; have x1 := R.c1 hk1; have x2 := R.c2 hk1; have x3 := R.c3 hk1
    have gl := lt_of_cell x0
    have hz := hE E[kp] (List.getElem_mem hk1)
    have cI := fun W (h : Ext w W) => Inside_any s E[kp] W (hg.ext h) h1 h2 hz.2 e1 e2 hz.1
    have ck2 := hx0.cell ck; have ce2 := hx0.cell ce
    have lk2 := lt_of_cell ck2; have le2 := lt_of_cell ce2
    obtain ⟨n, hn⟩ : ∃ n, E.length = n := ⟨_, rfl⟩
    rw [hn] at ce ce2 hk hk1
    clear hR R hrow hz e1 e2 hE hn
    generalize insideL s E[kp] = I at *
    generalize E[kp] = v at *
    obtain ⟨hf, ht, ⟨f1, f2, f3, fa⟩, ⟨t1, t2, t3, ta⟩⟩ := s
    obtain ⟨v1, v2, v3, va⟩ := v
    dsimp only [spV, verV, spA] at x0 x1 x2 x3 cI ck2 ce2 gl lk2 le2 hx0 ⊢
    have CI := Lib.hid cI
    have bS := Blk.new w 127 #[.bool hf, .bool ht, .int .i64 f1, .int .i64 f2, .int .i64 f3, .string fa, .int .i64 t1, .int .i64 t2, .int .i64 t3, .string ta]
    have cS := bS.cell; have lS := bS.lt
    have p0 : (0 : Int) ≤ (kp : Int) + 1 := by omega
    have e0 : ((kp : Int) + 1).toNat = kp + 1 := by omega
    have hwp : IntKind.i64.wrap (kp : Int) = (kp : Int) := by rw [IntKind.wrap_i64]; omega
    have q0 : (kp : Int) < (n : Int) := by omega
    have nz : (((kp : Int) + 1) == 0) = false := by rw [beq_eq_false_iff_ne]; omega
    clear cI hr
    go_enter Tryz.func172, Tryz.ntmps172
    go_wp2_with fail
    generalize (w.alloc (.cells #[.bool hf, .bool ht, .int .i64 f1, .int .i64 f2, .int .i64 f3, .string fa, .int .i64 t1, .int .i64 t2, .int .i64 t3, .string ta] 127)) = W at *
    refine wp_region_ext (by kernel_rfl) (by kernel_rfl) ?_
    repeat (first | go_big_quiet_skip | (refine wpQuiet_step (fun K hK => ?_); go_simp; first | (refine hK _ ?_; clear hK K) | (apply Exists.intro; refine ⟨fun wq hwq => ?_, hK _ ?_⟩; (obtain ⟨hqc, hqf⟩ := hwq.cells; have hqs := hwq.size; (try go_simp); first | rfl | ((first | rw [if_neg (by omega)] | rw [if_pos (by omega)]); (try go_simp); rfl) | ((go_at_call 116; exact (CI.out _ (hx0.trans hwq)).mono (fun e w'' h => ⟨h.1, hwq.trans h.2⟩)))); clear hK K)))
    refine wpQuiet_nil ?_
    intro wN hxN
    obtain ⟨hcN, hfN⟩ := hxN.cells
    have hsN := hxN.size
    go_wp2
    go_ret
    exact ⟨rfl, hx0.trans hxN⟩
theorem enters_at : ∀ xs w, Sem.run Tryz.prog (callFunc 172 xs) w = .ok (.enter 172 xs) w := enters_of Tryz.func172 (by kernel_rfl) rfl
theorem hasAt_eq (E : List V4) (l : List Sp) (k : Nat) : l.any (atL E k) = hasAtL E l k := rfl
set_option maxHeartbeats 8000000 in
set_option maxRecDepth 100000 in
theorem has_at (B A : Option Addr) (n d c kk ge : Nat) (E : List V4) (l : List Sp) (w : World) (hg : GoodN w) (hn : l.length = n) (hl : RdS w B l) (hs : SmallS l) (hln : n ≤ 2097152) (ho : rngErr l = 0) (hE : Right E) (hk : kk ≤ E.length) (hkb : kk ≤ 1000)
    (hr : RdQ w A E) (ce : w.cell? ⟨ge, 0, none⟩ = some (.slice A E.length c)) :
    Calls Tryz.prog 171 #[.agg #[.slice B n d], .int .i64 kk, .pointer (some ⟨ge, 0, none⟩)] w fun e w' => e = .returned (.bool (hasAtL E l kk)) ∧ Ext w w' := by
  have cC := fun gk W (h : Ext w W) (ck : W.cell? ⟨gk, 0, none⟩ = some (.int .i64 kk)) => ContainsFuncS_any B n d l 172 #[.pointer (some ⟨gk, 0, none⟩), .pointer (some ⟨ge, 0, none⟩)] (atL E kk) W hn (hl.ext h) hln enters_at (fun k hkk W2 h2 =>
    have he := spErr_parts (rng_each ho hkk)
    have hz := hs l[k] (List.getElem_mem hkk)
    at_any A c kk gk ge E l[k] W2 (hg.ext (h.trans h2)) hz.1 hz.2 he.2.2.1 he.2.2.2.1 hE hk hkb (hr.ext (h.trans h2)) (h2.cell ck) ((h.trans h2).cell ce))
  simp only [hasAt_eq] at cC
  generalize hasAtL E l kk = R at *
  have CC := Lib.hid cC
  have le := lt_of_cell ce
  clear cC hn hl hs ho hE hr
  have bK := Blk.new (w.alloc (.cells #[.slice B n d] 51)) 3 #[.int .i64 kk]
  rw [World.size_alloc] at bK
  have cK := bK.cell
  go_enter Tryz.func171, Tryz.ntmps171
  go_wp2_with fail
  refine (CC.out _ _ (by repeat (first | with_reducible exact Ext.refl _ | with_reducible assumption | with_reducible apply Ext.drewN | with_reducible apply Ext.drew | with_reducible apply Ext.alloc | exact Ext.refl _ | assumption | apply Ext.drewN | apply Ext.drew | apply Ext.alloc)) (by rw [cK]; rfl)).mono ?_
  rintro e w1 ⟨rfl, hx1⟩
  go_wp2
  go_ret
  exact ⟨rfl, Ext.trans (by repeat (first | with_reducible exact Ext.refl _ | with_reducible assumption | with_reducible apply Ext.drewN | with_reducible apply Ext.drew | with_reducible apply Ext.alloc | exact Ext.refl _ | assumption | apply Ext.drewN | apply Ext.drew | apply Ext.alloc)) hx1⟩
end Go.Proofs.YtcmceeihdhcmnaaGreatDoor

namespace Go.Proofs.YtcmceeihdhcmnaaGreatDoor
open Go.RowKit

/-! ### Frames -/
/-- what an append leaves of the blocks below the row's base -/
theorem ext_low {a w w' : World} {B : Nat} (h : ∀ a', Ext a' w → a'.heap.size ≤ B → Ext a' w') (ha : a.heap.size ≤ B) (hB : B ≤ w.heap.size) {C : Nat → Prop} (hc : ExtC C a w) : ExtC C a w' := by
  have hcut : Ext { w with heap := w.heap.extract 0 B } w := by
    refine ⟨rfl, rfl, rfl, ?_, fun k hk => ?_⟩
    · show (w.heap.extract 0 B).size ≤ _
      rw [Array.size_extract]; omega
    · simp only [Array.size_extract] at hk
      rw [Array.getElem?_extract, if_pos (by omega), Nat.zero_add]
  have h1 := h _ hcut (by simp; omega)
  refine ⟨h1.os.trans hc.os, h1.tape.trans hc.tape, h1.output.trans hc.output, ?_, fun k hk hn => ?_⟩
  · have := h1.size
    simp only [Array.size_extract] at this
    omega
  · have h2 := h1.block k (by simp only [Array.size_extract]; omega)
    rw [h2, Array.getElem?_extract, if_pos (by omega), Nat.zero_add]
    exact hc.block k hk hn
theorem SpS.extC {C : Nat → Prop} {w w' : World} {b o : Nat} {l : List Sp} (h : SpS w b o l) (hx : ExtC C w w') (hb : ¬ C b) : SpS w' b o l :=
  ⟨fun k hk => hx.cell hb (h.c0 k hk), fun k hk => hx.cell hb (h.c1 k hk), fun k hk => hx.cell hb (h.c2 k hk), fun k hk => hx.cell hb (h.c3 k hk), fun k hk => hx.cell hb (h.c4 k hk),
    fun k hk => hx.cell hb (h.c5 k hk), fun k hk => hx.cell hb (h.c6 k hk), fun k hk => hx.cell hb (h.c7 k hk), fun k hk => hx.cell hb (h.c8 k hk), fun k hk => hx.cell hb (h.c9 k hk)⟩
theorem vC_length (v : V4) : (vC v).length = 4 := rfl
theorem info_ver : (Tryz.prog.info? 35).map (fun i => (i.zero, i.size, i.bytes)) = some (some (.agg #[.int .i64 0, .int .i64 0, .int .i64 0, .string ⟨#[]⟩]), 4, 40) := by kernel_rfl
theorem info_two : (Tryz.prog.info? 175).map (fun i => (i.zero, i.size, i.bytes)) = some (some (.agg #[.bool false, .bool false]), 2, 2) := by kernel_rfl
/-- a row of versions of the call's own, read as a slice -/
theorem rdr_own {w : World} {B n : Nat} {v : Value} {l : List V4} (h : w.ownsRow B 35 4 v n (l.flatMap vC)) (hn : l.length = n) : ∃ A c, v = .slice A n c ∧ RdQ w A l ∧ n ≤ c ∧ ∀ g, InRow A g → B ≤ g := by
  rcases h.2 with ⟨rfl, rfl⟩ | ⟨g, cap, cur, rfl, hb, hg, hnc, hcm, hcs, htake⟩
  · exact ⟨none, 0, rfl, fun e => absurd (List.eq_nil_of_length_eq_zero hn) e, Nat.le_refl _, fun g hg => by unfold InRow at hg; cases hg⟩
  · refine ⟨_, _, rfl, fun _ => ⟨g, rfl, ⟨fun k hk i u hu => ?_, fun t ht => ?_⟩⟩, hnc, fun g' hg' => ?_⟩
    · have hi : i < 4 := by
        rcases Nat.lt_or_ge i 4 with h1 | h1
        · exact h1
        · rw [List.getElem?_eq_none (by show 4 ≤ i; exact h1)] at hu; cases hu
      have h1 := h.cells (g := g) rfl (k * 4 + i) u (by rw [flat_get vC_length l k i hk hi]; exact hu)
      rw [add_at, Nat.zero_add] at h1
      exact h1
    · simp [World.frozen?, hg]
    · unfold InRow at hg'
      injection hg' with hg'
      injection hg' with hg'
      omega
/-! ### Ends -/
theorem ends_append (a b : List Sp) : endsOf (a ++ b) = endsOf a ++ endsOf b := by unfold endsOf; rw [List.flatMap_append]
theorem ends_succ (l : List Sp) (k : Nat) (h : k < l.length) : endsOf (l.take (k + 1)) = endsOf (l.take k) ++ ((if l[k].hf = true then [l[k].f] else []) ++ (if l[k].ht = true then [l[k].t] else [])) := by
  rw [List.take_succ_eq_append_getElem h, ends_append]
  simp [endsOf]
theorem ends_len (l : List Sp) : (endsOf l).length ≤ 2 * l.length := by
  induction l with
  | nil => simp [endsOf]
  | cons s l ih =>
    have : endsOf (s :: l) = ((if s.hf = true then [s.f] else []) ++ (if s.ht = true then [s.t] else [])) ++ endsOf l := by simp [endsOf]
    rw [this, List.length_append, List.length_append, List.length_cons]
    split <;> split <;> simp <;> omega
theorem ends_right {l : List Sp} (ho : rngErr l = 0) (hs : SmallS l) : Right (endsOf l) := by
  intro v hv
  unfold endsOf at hv
  obtain ⟨s, h1, h2⟩ := List.mem_flatMap.1 hv
  have he := spErr_parts (rng_mem ho h1)
  have hz := hs s h1
  rcases List.mem_append.1 h2 with h | h
  · split at h
    · rw [List.mem_singleton] at h; rw [h]; exact ⟨he.2.2.1, hz.1⟩
    · cases h
  · split at h
    · rw [List.mem_singleton] at h; rw [h]; exact ⟨he.2.2.2.1, hz.2⟩
    · cases h
/-- the pieces, as cells -/
def bitsC (p q : Nat → Bool) (n : Nat) : List Value := (List.range n).flatMap fun k => [.bool (p k), .bool (q k)]
theorem bits_succ (p q : Nat → Bool) (n : Nat) : bitsC p q (n + 1) = bitsC p q n ++ [.bool (p n), .bool (q n)] := by
  unfold bitsC
  rw [List.range_succ, List.flatMap_append]
  simp
structure RowB (w : World) (g n : Nat) (p q : Nat → Bool) : Prop where
  c0 : ∀ k, k < n → w.cell? ⟨g, k * 2, none⟩ = some (.bool (p k))
  c1 : ∀ k, k < n → w.cell? ⟨g, k * 2 + 1, none⟩ = some (.bool (q k))
theorem RowB.ext {w w' : World} {g n : Nat} {p q : Nat → Bool} (h : RowB w g n p q) (hx : Ext w w') : RowB w' g n p q := ⟨fun k hk => hx.cell (h.c0 k hk), fun k hk => hx.cell (h.c1 k hk)⟩
theorem rowB_own {w : World} {B n : Nat} {v : Value} {p q : Nat → Bool} (h : w.ownsRow B 175 2 v n (bitsC p q n)) (h0 : 0 < n) : ∃ g c, v = .slice (some ⟨g, 0, none⟩) n c ∧ B ≤ g ∧ RowB w g n p q := by
  obtain ⟨g, c, rfl, _, hB, _, hcell⟩ := own_form h h0
  have hget : ∀ k j, k < n → j < 2 → (bitsC p q n)[k * 2 + j]? = ([.bool (p k), .bool (q k)] : List Value)[j]? := fun k j hk hj => by
    have hr : k < (List.range n).length := by simpa using hk
    have := flat_get (f := fun k => ([.bool (p k), .bool (q k)] : List Value)) (m := 2) (fun _ => rfl) (List.range n) k j hr hj
    rw [List.getElem_range] at this
    exact this
  exact ⟨g, c, rfl, hB, fun k hk => hcell _ _ (by rw [show k * 2 = k * 2 + 0 from rfl, hget k 0 hk (by decide)]; rfl), fun k hk => hcell _ _ (by rw [hget k 1 hk (by decide)]; rfl)⟩
theorem RowB.far {w : World} {g n : Nat} {p q : Nat → Bool} (h : RowB w g n p q) {a : Addr} (hne : a.block ≠ g) (u : Value) : RowB (w.setCell a u) g n p q :=
  ⟨fun k hk => (World.cell?_setCell_other _ _ _ _ fun e => hne (by rw [e])).trans (h.c0 k hk), fun k hk => (World.cell?_setCell_other _ _ _ _ fun e => hne (by rw [e])).trans (h.c1 k hk)⟩
theorem RowV.far {w : World} {g : Nat} {l : List V4} (h : RowV w g l) {a : Addr} (hne : a.block ≠ g) (u : Value) : RowV (w.setCell a u) g l :=
  ⟨fun k hk i v hv => (World.cell?_setCell_other _ _ _ _ fun e => hne (by rw [e])).trans (h.c k hk i v hv), fun t ht => by rw [World.frozen?_setCell]; exact h.f t ht⟩
theorem RdQ.far {w : World} {A : Option Addr} {l : List V4} (h : RdQ w A l) {a : Addr} (hne : ∀ g, InRow A g → a.block ≠ g) (u : Value) : RdQ (w.setCell a u) A l := fun hn => by
  obtain ⟨g, e, k⟩ := h hn
  exact ⟨g, e, k.far (hne g e) u⟩
/-- what segments gives -/
def SegPost (la lb : List Sp) (w : World) (e : Ending) (w' : World) : Prop :=
  ∃ (A : Option Addr) (c g d n : Nat) (E : List V4), e = .returned (.tuple #[.slice A n c, .slice (some ⟨g, 0, none⟩) (n + 1) d]) ∧ E.length = n ∧ n ≤ 80 ∧ RdQ w' A E ∧ RowB w' g (n + 1) (hasAtL E la) (hasAtL E lb) ∧ Rising E ∧ (∀ v ∈ endsOf la, v ∈ E) ∧ (∀ v ∈ endsOf lb, v ∈ E) ∧ Right E ∧ Ext w w'
end Go.Proofs.YtcmceeihdhcmnaaGreatDoor
