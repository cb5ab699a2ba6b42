/- Contract of outref2.AlwaysOf. The law outlaw2.AlwaysMatches: its walk. Domains among the arguments. -/
import Derived.Test.YtaobnifiengglaaGreatDoorAl42
import Derived.Test.YtaobnifiengglaaGreatDoorAl41
import Derived.Test.YtaobnifiengglaaGreatDoorAl12
import Derived.Test.YtaobnifiengglaaGreatDoorAl23
import Derived.Test.YtaobnifiengglaaGreatDoorAl35

namespace Go.Proofs.YtaobnifiengglaaGreatDoor
open Go.RowKit

theorem blk_at {w : World} {t : TypeId} {cs : Array Value} {g : Nat} (hg : w.heap.size = g) : Blk (w.alloc (.cells cs t)) g t cs := hg ▸ Blk.new w t cs
theorem map_at {w : World} {g : Nat} (hg : w.heap.size = g) : StrMap (w.alloc (.map #[] 0)) g 0 (fun _ => none) := hg ▸ StrMap.made w
theorem StrMap.allocs {w : World} {b n : Nat} {f : Str → Option Str} (h : StrMap w b n f) (o : Obj) : StrMap (w.alloc o) b n f := h.ext ((Ext.refl w).alloc o)
theorem alwSt_start (w : World) (cv : Array Value) (A : Option Addr) (n cc : Nat) : AlwSt w w.heap.size cv A n cc (fun _ => none) (fun _ => none) true true 0 0
    (((((((((w.alloc (.cells cv 61)).alloc (.cells #[.slice A n cc] 91)).alloc (.cells #[.bool true] 4)).alloc (.cells #[.bool true] 4)).alloc (.map #[] 0)).alloc (.map #[] 0)).alloc (.cells #[.map (some (w.heap.size + 4))] 108)).alloc (.cells #[.map (some (w.heap.size + 5))] 108)).alloc
      (.cells #[.func (.func 144) #[] (alwCaps w.heap.size)] 166)) := by
  constructor
  case x0 => exact (((((((((Ext.refl w).alloc _).alloc _).alloc _).alloc _).alloc _).alloc _).alloc _).alloc _).alloc _
  case z0 => exact Nat.le_refl _
  case bC => exact ((((((((blk_at (by simp)).alloc _).alloc _).alloc _).alloc _).alloc _).alloc _).alloc _).alloc _
  case bL => exact (((((((blk_at (by simp)).alloc _).alloc _).alloc _).alloc _).alloc _).alloc _).alloc _
  case bA => exact ((((((blk_at (by simp)).alloc _).alloc _).alloc _).alloc _).alloc _).alloc _
  case bN => exact (((((blk_at (by simp)).alloc _).alloc _).alloc _).alloc _).alloc _
  case mF => exact ((((map_at (by simp)).allocs _).allocs _).allocs _).allocs _
  case mS => exact (((map_at (by simp)).allocs _).allocs _).allocs _
  case bF => exact ((blk_at (by simp)).alloc _).alloc _
  case bS => exact (blk_at (by simp)).alloc _
  case bW => exact blk_at (by simp)
set_option maxRecDepth 100000 in
set_option maxHeartbeats 16000000 in
theorem AlwaysOf_any (A : Option Addr) (n cc : Nat) (l : List Dm) (c : Cd) (v : Value) (P : Nat → Prop) (w : World) (hg : GoodN w) (hcd : CdIn P w c v) (h0 : checkC c = 0) (hn : l.length = n) (hr : RdD w A l) (hs : SmallD l) (h1 : domE l = 0) (h2 : many l ≤ 1000) :
    Calls Tryz.prog 63 #[v, .slice A n cc] w fun e w' => e = .returned (.tuple #[.bool ((enumR l e0).all (holdsE c)), .bool ((enumR l e0).all fun e => !holdsE c e)]) ∧ Ext w w' := by
  obtain ⟨ck, cn, cx, cA, cm, cp, rfl⟩ := hcd.cells
  have hmm := @run_makeMap Tryz.prog
  have hl20 : n ≤ 20 := by rw [← hn]; exact (dom_ok h1).1
  have hcost : cost l ≤ 20000 := by
    have h3 := cost_le l fun d hd => by
      obtain ⟨k, hk, rfl⟩ := List.mem_iff_getElem.1 hd
      have := (dom_ok h1).2 k hk
      rw [dErr_of hk] at this
      exact d_size this
    have h4 : l.length * many l ≤ 20 * 1000 := Nat.mul_le_mul (by omega) h2
    omega
  have hst := alwSt_start w #[.int .i64 ck, .string cn, .string cx, .slice cA cm cp] A n cc
  have hwk := walkR_any w w.heap.size ck cn cx cA cm cp A n cc l c P hg hcd (ok_of_check h0) (by have := check_cnt h0; omega) hn hr hs hl20 (apart_of h1) n 0 (by omega) (fun _ => none) (fun _ => none) true true 0 0 _ hst
    (fun j hj _ => ⟨fun _ => rfl, fun _ => rfl⟩) (fun y u h => by cases h) (by rw [List.drop_zero]; omega) (by rw [List.drop_zero]; omega)
  rw [List.drop_zero, Bool.true_and, Bool.true_and] at hwk
  have hz0 : (fun _ => none, fun _ => none) = e0 := rfl
  rw [hz0] at hwk
  have HWK := Lib.hid hwk
  clear hwk hst hcd hr hs hn hz0
  generalize (enumR l e0).all (holdsE c) = AL at *
  generalize ((enumR l e0).all fun e => !holdsE c e) = NO at *
  go_enter Tryz.func63, Tryz.ntmps63
  go_wp2_with fail
  refine Calls.mono HWK.out ?_
  rintro e w1 ⟨rfl, p1, p2, _, _, hst1⟩
  have cA1 := hst1.bA.cell; have lA1 := hst1.bA.lt; have cN1 := hst1.bN.cell; have lN1 := hst1.bN.lt
  have hx1 := hst1.x0
  clear hst1 HWK
  go_wp2_with fail
  refine wp_region_ext (by kernel_rfl) (by kernel_rfl) ?_
  repeat (first | go_big_quiet_skip | (refine wpQuiet_step (fun K hK => ?_); go_simp; first | (refine hK _ ?_; clear hK K) | (apply Exists.intro; refine ⟨fun wq hwq => ?_, hK _ ?_⟩; (obtain ⟨hqc, hqf⟩ := hwq.cells; have hqs := hwq.size; (try go_simp); first | rfl | ((first | rw [if_neg (by omega)] | rw [if_pos (by omega)]); (try go_simp); rfl) | ((fail))); clear hK K)))
  refine wpQuiet_nil ?_
  intro wN hxN
  obtain ⟨hcN, hfN⟩ := hxN.cells
  have hsN := hxN.size
  go_wp2
  go_ret2
  exact ⟨rfl, hx1.trans hxN⟩
end Go.Proofs.YtaobnifiengglaaGreatDoor

namespace Go.Proofs.YtaobnifiengglaaGreatDoor
open Go.RowKit

theorem alw_want (c : Cd) (l : List Dm) : firstI [checkC c, domX c l] = alwE c l := by
  by_cases h0 : checkC c = 0
  · have e1 : firstI [checkC c, domX c l] = domX c l := by
      rw [firstI, if_pos h0, firstI]
      by_cases h : domX c l = 0
      · rw [if_pos h, h]; rfl
      · rw [if_neg h]
    rw [e1]
    unfold domX
    by_cases h1 : domE l = 0
    · rw [if_neg (by rw [h1]; decide)]
      by_cases h2 : 1000 < many l
      · rw [if_pos h2, alwE_2 h0 h1 h2]
      · rw [if_neg h2]
        by_cases h3 : (inOrder (useAll c)).all (known l) = true
        · rw [if_pos h3, alwE_4 h0 h1 h2 h3]
        · rw [if_neg h3, alwE_3 h0 h1 h2 h3]
    · rw [if_pos h1, alwE_1 h0 h1]
  · rw [firstI, if_neg h0, alwE_0 h0]
theorem alw_ok {c : Cd} {l : List Dm} (h : alwE c l = 0) : checkC c = 0 ∧ domE l = 0 ∧ many l ≤ 1000 := by
  by_cases h0 : checkC c = 0
  · by_cases h1 : domE l = 0
    · by_cases h2 : 1000 < many l
      · rw [alwE_2 h0 h1 h2] at h; cases h
      · exact ⟨h0, h1, by omega⟩
    · rw [alwE_1 h0 h1] at h; exact absurd h h1
  · rw [alwE_0 h0] at h; exact absurd h h0
set_option maxHeartbeats 32000000 in
set_option maxRecDepth 100000 in
theorem AlwaysMatches_any (A : Option Addr) (n cc : Nat) (l : List Dm) (c : Cd) (v : Value) (P : Nat → Prop) (w : World) (hg : GoodN w) (hcd : CdIn P w c v) (hsm : SmallC c) (hcnt : cnt c ≤ 2000000) (hn : l.length = n) (hr : RdD w A l) (hs : SmallD l) (hl : n ≤ 2097152) (hcap : n ≤ cc) :
    Calls Tryz.prog 9 #[v, .slice A n cc] w fun e w' => e = .returned (.bool true) ∧ Ext w w' := by
  have CAL := Lib.hid (fun W (hx : Ext w W) => Always_any A n cc l c _ P W (hg.ext hx) (hcd.ext hx) hsm (by omega) hn (hr.ext hx) hs hl hcap)
  have CCE := Lib.hid (fun W (hx : Ext w W) => (CondError_any c _ P W (hg.ext hx) (hcd.ext hx) hsm (by omega)).mono fun _ _ h => (⟨h.1, h.2, hx.trans h.2⟩ : _ ∧ _ ∧ Ext w _))
  have CDE := Lib.hid (fun W (hx : Ext w W) => (DomainsError_any A n cc l c _ P W (hg.toGood.ext hx) (hcd.ext hx) hsm hcnt hn (hr.ext hx) hs hl).mono fun _ _ h => (⟨h.1, h.2, hx.trans h.2⟩ : _ ∧ _ ∧ Ext w _))
  have CVE := Lib.hid (fun W (hx : Ext w W) => versions_any W (hg.ext hx))
  have CAO := Lib.hid (fun (h : alwE c l = 0) W (hx : Ext w W) => AlwaysOf_any A n cc l c _ P W (hg.ext hx) (hcd.ext hx) (alw_ok h).1 hn (hr.ext hx) hs (alw_ok h).2.1 (alw_ok h).2.2)
  have CFI := Lib.hid (show ∀ b c' W, (∀ k (h : k < [checkC c, domX c l].length), W.cell? ⟨b, k, none⟩ = some (.int .i64 [checkC c, domX c l][k])) → Calls Tryz.prog 21 #[.slice (some ⟨b, 0, none⟩) 2 c'] W fun e w' => e = .returned (.int .i64 (alwE c l)) ∧ w' = W from fun b c' W hc => by
    have := First_any b c' [checkC c, domX c l] W hc (by simp)
    rw [alw_want] at this
    exact this.mono fun _ _ h => ⟨h.1, h.2.symm⟩)
  have HNE := Lib.hid (fun (h : alwE c l ≠ 0) => (show alwA c l = false ∧ alwN c l = false from ⟨by rw [alwA, if_neg h], by rw [alwN, if_neg h]⟩))
  have HOK := Lib.hid (fun (h : alwE c l = 0) => (show alwA c l = (enumR l e0).all (holdsE c) ∧ alwN c l = (enumR l e0).all fun e => !holdsE c e from ⟨by rw [alwA, if_pos h]; exact all_same l e0 (holdsE c), by rw [alwN, if_pos h]; exact all_same l e0 fun e => !holdsE c e⟩))
  obtain ⟨ck, cn, cx, cA, cm, cp, rfl⟩ := hcd.cells
  have hx0 : Ext w (w.alloc (.cells #[.int .i64 ck, .string cn, .string cx, .slice cA cm cp] 61)) := (Ext.refl w).alloc _
  have bX := Blk.new w 61 #[.int .i64 ck, .string cn, .string cx, .slice cA cm cp]
  clear hcd hr hs hn hsm hcnt
  generalize alwE c l = E at *
  generalize alwA c l = a at *
  generalize alwN c l = no at *
  generalize checkC c = E0 at *
  generalize domX c l = E1 at *
  generalize (enumR l e0).all (holdsE c) = b1 at *
  generalize ((enumR l e0).all fun e => !holdsE c e) = b2 at *
  go_enter Tryz.func9, Tryz.ntmps9
  go_wp2_with fail
  refine (CAL.out _ hx0).mono ?_
  rintro e w1 ⟨rfl, hx1⟩
  have hxa := hx0.trans hx1
  have bX1 := bX.ext hx1
  have d0 : w1.cell? ⟨w.heap.size, 0, none⟩ = some (.int .i64 ck) := bX1.cell 0
  have d1 : w1.cell? ⟨w.heap.size, 1, none⟩ = some (.string cn) := bX1.cell 1
  have d2 : w1.cell? ⟨w.heap.size, 2, none⟩ = some (.string cx) := bX1.cell 2
  have d3 : w1.cell? ⟨w.heap.size, 3, none⟩ = some (.slice cA cm cp) := bX1.cell 3
  have dl := bX1.lt
  clear bX bX1 hx1 hx0 CAL
  go_wp2_with fail
  go_region_held3 (fun w' => w'.cell? ⟨w.heap.size, 0, none⟩ = some (.int .i64 ck) ∧ w'.cell? ⟨w.heap.size, 1, none⟩ = some (.string cn) ∧ w'.cell? ⟨w.heap.size, 2, none⟩ = some (.string cx) ∧ w'.cell? ⟨w.heap.size, 3, none⟩ = some (.slice cA cm cp)) (first | (go_keep; done) | ((try go_split_ands); (try dsimp only); (repeat' apply And.intro); all_goals (first | (go_keep; done) | (with_reducible exact hxh.cell (by assumption)) | (refine hxh.cell ?_; go_simp))))
    (first
    | (go_at_call 61; with_reducible refine (CCE.out _ (by repeat (first | with_reducible exact Ext.refl _ | with_reducible assumption | with_reducible apply Ext.drewN | with_reducible apply Ext.drew | with_reducible apply Ext.alloc | exact Ext.refl _ | assumption | apply Ext.drewN | apply Ext.drew | apply Ext.alloc))).mono ?_; rintro e w' ⟨rfl, hxh, hab⟩)
    | (go_at_call 62; with_reducible refine (CDE.out _ (by repeat (first | with_reducible exact Ext.refl _ | with_reducible assumption | with_reducible apply Ext.drewN | with_reducible apply Ext.drew | with_reducible apply Ext.alloc | exact Ext.refl _ | assumption | apply Ext.drewN | apply Ext.drew | apply Ext.alloc))).mono ?_; rintro e w' ⟨rfl, hxh, hab⟩)
    | (go_at_call 21; refine (CFI.out _ _ _ (by intro k hk; rw [World.cell?_alloc_at _ _ _ _ rfl]; match k, hk with | 0, _ => rfl | 1, _ => rfl)).mono ?_; rintro e w' ⟨rfl, rfl⟩))
  all_goals
    rename_i hHeld
    obtain ⟨k0, k1, k2, k3⟩ := hHeld
    have hxW := hab.alloc (.cells #[.int .i64 E0, .int .i64 E1] 24)
    clear hxh hab d0 d1 d2 d3 dl hxa CCE CDE CFI
    generalize (w'.alloc (.cells #[.int .i64 E0, .int .i64 E1] 24)) = W at *
    by_cases hE : E = 0
    · obtain ⟨e1, e2⟩ := HOK.out hE
      have CA := Lib.hid (CAO.out hE)
      subst e1 e2 hE
      clear HOK CAO HNE
      have ha : (a == a) = true := by cases a <;> rfl
      have hno : (no == no) = true := by cases no <;> rfl
      go_wp2_with fail
      refine (CVE.out _ hxW).mono ?_
      rintro e w3 ⟨rfl, hx3⟩
      have m0 := hx3.cell k0; have m1 := hx3.cell k1; have m2 := hx3.cell k2; have m3 := hx3.cell k3
      have kl := lt_of_cell m0
      clear k0 k1 k2 k3
      go_wp2_with fail
      refine (CA.out _ (hxW.trans hx3)).mono ?_
      rintro e w4 ⟨rfl, hx4⟩
      cases a <;> cases no
      all_goals
        go_wp2
        go_ret
        exact ⟨rfl, (hxW.trans hx3).trans hx4⟩
    · obtain ⟨e1, e2⟩ := HNE.out hE
      subst e1 e2
      have hne : (E != 0) = true := by rw [bne_iff_ne]; exact hE
      have hee : (E == E) = true := by simp
      clear HOK CAO HNE k0 k1 k2 k3
      go_wp2_with fail
      refine (CVE.out _ hxW).mono ?_
      rintro e w3 ⟨rfl, hx3⟩
      go_wp2_with fail
      refine (CVE.out _ (hxW.trans hx3)).mono ?_
      rintro e w4 ⟨rfl, hx4⟩
      go_wp2
      go_ret
      exact ⟨by simp, (hxW.trans hx3).trans hx4⟩
end Go.Proofs.YtaobnifiengglaaGreatDoor

namespace Go.Proofs.YtaobnifiengglaaGreatDoor
open Go.ChangeShapes Go.WideShapes Go.ChangeAt Go.RowKit Go.WideElems Go.Joins

theorem opens_sliceC {T E : TypeId} {α : Type} [Inhabited α] {R : World → α → List Value → Prop} {bk : α → Nat} {sz : Nat} (hT : Tryz.prog.underlying T = some (.slice E)) (hsz : Tryz.prog.cellsOf E = sz) (h0 : 0 < sz) (hE : Opens E R bk) :
    Opens T (fun W (l : List α) cs => ∃ A c, cs = [.slice A l.length c] ∧ l.length ≤ c ∧ RowOf R sz W A l) (fun l => (l.map bk).sum + 1) := fun H enc W fuel cs x h => by
  rcases Deep.open_slice hT h with ⟨rfl, rfl⟩ | ⟨a, len, cap, m, n, D, Pl, rfl, _, hl, _, hm, rfl, hx⟩
  · exact ⟨[], ⟨none, 0, rfl, Nat.le_refl _, fun h => absurd rfl h⟩, by simp [Rows.uptoBulk]⟩
  · have hlm : len ≤ m := by rw [hm]; split <;> omega
    have each : ∀ i, i < len → ∃ v : α, bk v ≤ Rows.uptoBulk (D i) ∧ ∃ ecs, R W v ecs ∧ W.cells? 0 (a.add (i * sz)) sz = some ecs := fun i hi => by
      obtain ⟨cs', h1, h2⟩ := hx i (by omega)
      obtain ⟨v, h3, h4⟩ := hE H enc W n cs' _ h2
      rw [hsz] at h1
      exact ⟨v, h4, cs', h3, h1⟩
    obtain ⟨F, hF⟩ := Deep.choose_lt each
    refine ⟨(List.range len).map F, ⟨some a, cap, by simp, by simpa using hl, ?_⟩, ?_⟩
    · intro hne
      have hpos : 0 < len := by
        rcases Nat.eq_zero_or_pos len with h | h
        · subst h; exact absurd rfl hne
        · exact h
      obtain ⟨_, ecs0, _, hc0⟩ := hF 0 hpos
      obtain ⟨_, hl0, hcell0⟩ := World.cells?_some hc0
      obtain ⟨b, off, spot⟩ := a
      have g0 := hcell0 0 h0
      have hsome : ∃ v, ecs0[0]? = some v := ⟨ecs0[0], List.getElem?_eq_getElem (by omega)⟩
      obtain ⟨v0, hv0⟩ := hsome
      rw [hv0] at g0
      have hspot : spot = none := by
        have := World.cell?_spot g0
        simpa [Addr.add] using this
      subst hspot
      refine ⟨b, off, rfl, fun k hk => ?_⟩
      have hk' : k < len := by simpa using hk
      obtain ⟨_, ecs, hR, hc⟩ := hF k hk'
      obtain ⟨_, hl1, hcell⟩ := World.cells?_some hc
      refine ⟨ecs, by simpa using hR, hl1, fun j hj => ?_⟩
      have := hcell j hj
      rwa [Deep.add_add, add_plain, ← Nat.add_assoc] at this
    · have := bulkAll_le (H := H) (n := len) (D := D) (bk := fun i => bk (F i)) fun i hi => (hF i hi).1
      simp only [List.map_map, Rows.uptoBulk]
      have e : (bk ∘ F) = fun i => bk (F i) := rfl
      rw [e]
      omega
instance : Inhabited Dm := ⟨zeroDm⟩
/-- what a domain's cells say -/
def DomCells (W : World) (d : Dm) (cs : List Value) : Prop := ∃ A c, cs = [.string d.n, .bool d.s, .bool d.a, .slice A d.v.length c] ∧ RdB W A d.v ∧ d.v.length ≤ c
def domBk (d : Dm) : Nat := d.n.size + ((d.v.map fun s => s.size + 1).sum) + 2
theorem rdB_row {W : World} {A : Option Addr} {v : List ByteArray} (h : RowOf (fun _ (s : ByteArray) cs => cs = [.string s]) 1 W A v) : RdB W A v := fun hn => by
  obtain ⟨b, o, rfl, hc⟩ := h hn
  refine ⟨b, o, rfl, fun k hk => ?_⟩
  obtain ⟨ecs, rfl, _, hj⟩ := hc k hk
  have := hj 0 (by omega)
  rw [Nat.mul_one, Nat.add_zero] at this
  exact this
set_option maxRecDepth 100000 in
theorem opens_domain : Opens 198 DomCells domBk := fun H enc W fuel cs x h => by
  obtain ⟨y0, y1, y2, y3, n, rfl, hl, h0, h1, h2, h3⟩ := trod_struct4 Tryz.underlying198 h
  have hc : Tryz.prog.cellsOf 198 = 4 := by kernel_rfl
  have cst : Tryz.prog.cellsOf 9 = 1 := by kernel_rfl
  have cb : Tryz.prog.cellsOf 4 = 1 := by kernel_rfl
  have csl : Tryz.prog.cellsOf 100 = 1 := by kernel_rfl
  rw [hc] at hl
  match cs, hl with
  | [c0, c1, c2, c3], _ =>
    dsimp only at h0 h1 h2 h3
    rw [cst] at h0
    rw [cb] at h1 h2
    rw [csl] at h3
    obtain ⟨nm, e0, b0⟩ := opens_string Tryz.underlying9 H enc W n _ _ h0
    obtain ⟨s, e1, b1⟩ := opens_bool Tryz.underlying4 H enc W n _ _ h1
    obtain ⟨a, e2, b2⟩ := opens_bool Tryz.underlying4 H enc W n _ _ h2
    obtain ⟨v, ⟨A, c, e3, hcap, hr⟩, b3⟩ := opens_sliceC (sz := 1) Tryz.underlying100 cst (by decide) (opens_string Tryz.underlying9) H enc W n _ _ h3
    simp at e0 e1 e2 e3
    subst e0 e1 e2 e3
    refine ⟨⟨nm, s, a, v⟩, ⟨A, c, rfl, rdB_row hr, hcap⟩, ?_⟩
    unfold domBk
    dsimp only at b0 b1 b2 b3 ⊢
    simp only [Rows.uptoBulk, Rows.uptoBulkAll]
    omega
theorem rowOf_domains {W : World} {A : Option Addr} {l : List Dm} (h : RowOf DomCells 4 W A l) : RdD W A l := fun hne => by
  obtain ⟨b, o, rfl, hc⟩ := h hne
  refine ⟨b, o, rfl, fun k hk => ?_⟩
  obtain ⟨ecs, ⟨A', c', rfl, hv, hcap⟩, _, hj⟩ := hc k hk
  exact ⟨A', c', hj 0 (by omega), hj 1 (by omega), hj 2 (by omega), hj 3 (by omega), hv, hcap⟩
set_option maxRecDepth 100000 in
/-- domains, of a bulk -/
theorem open_domains {H : Type} {enc : TypeId × Value → H} {W : World} {base : Nat} {v : Value} {d : DataW H} {p : List MemPlace} (hv : Value.okWide Tryz.prog W .any base 91 v) (h : DataW.Trod enc Tryz.prog W 0 (fun _ => true) true 91 v d p) :
    ∃ A c l, v = .slice A l.length c ∧ l.length ≤ c ∧ RdD W A l ∧ (∀ x ∈ l, domBk x ≤ Rows.uptoBulk d) ∧ l.length ≤ Rows.uptoBulk d := by
  obtain ⟨a, len, cap, rfl⟩ := okWide_slice Tryz.underlying91 hv
  obtain ⟨fuel, hf⟩ := h
  obtain ⟨l, ⟨A, c, e, hcap, hr⟩, hb⟩ := opens_sliceC (sz := 4) Tryz.underlying91 (by kernel_rfl) (by decide) opens_domain H enc W fuel _ _ hf
  refine ⟨A, c, l, ?_, hcap, rowOf_domains hr, fun s hs => ?_, ?_⟩
  · have e : [Value.slice a len cap] = [.slice A l.length c] := e
    injection e
  · have := sum_mem (bk := domBk) hs
    dsimp only at hb
    omega
  · have := sum_len (bk := domBk) (c := 1) (fun d => by unfold domBk; omega) l
    dsimp only at hb
    omega
theorem small_domains {l : List Dm} {m : Nat} (hm : m ≤ 2097152) (h : ∀ x ∈ l, domBk x ≤ m) : SmallD l := fun d hd => by
  have h1 := h d hd
  unfold domBk at h1
  have h2 := sum_len (bk := fun s : ByteArray => s.size + 1) (c := 1) (fun s => by omega) d.v
  refine ⟨by omega, by omega, fun x hx => ?_⟩
  have h3 := sum_mem (bk := fun s : ByteArray => s.size + 1) hx
  omega
end Go.Proofs.YtaobnifiengglaaGreatDoor
