/- Contract of outref2.AlwaysOf. (Printed by gen/alwc.py.) -/
import Derived.Test.YtaobnifiengglaaGreatDoorAl34
import Derived.Test.YtaobnifiengglaaGreatDoorAl38
import Derived.Test.YtaobnifiengglaaGreatDoorAl40
import Derived.Test.YtaobnifiengglaaGreatDoorAl31
import Derived.Test.YtaobnifiengglaaGreatDoorAl30

namespace Go.Proofs.YtaobnifiengglaaGreatDoor
open Go.RowKit

/-! ### Plain -/
def cost : List Dm → Nat
  | [] => 0
  | d :: l => d.v.length * (1 + cost l) + if d.a = true then cost l else 0
theorem cost_le : ∀ l : List Dm, (∀ d ∈ l, 0 < d.size) → cost l ≤ l.length * many l
  | [], _ => Nat.zero_le _
  | d :: l, h => by
    have ih := cost_le l fun x hx => h x (List.mem_cons_of_mem _ hx)
    have hm : 1 ≤ many l := many_pos fun x hx => h x (List.mem_cons_of_mem _ hx)
    have h1 : cost (d :: l) ≤ d.size + d.size * cost l := by
      have e1 : d.v.length * (1 + cost l) = d.v.length + d.v.length * cost l := by rw [Nat.mul_add, Nat.mul_one]
      by_cases ha : d.a = true
      · have e2 : d.size = d.v.length + 1 := by unfold Dm.size; rw [if_pos ha]
        have e3 : (d.v.length + 1) * cost l = d.v.length * cost l + cost l := by rw [Nat.add_mul, Nat.one_mul]
        rw [e2, e3, cost, if_pos ha, e1]
        omega
      · have e2 : d.size = d.v.length := by unfold Dm.size; rw [if_neg ha]; rfl
        rw [e2, cost, if_neg ha, e1]
        omega
    have h2 : d.size * cost l ≤ d.size * (l.length * many l) := Nat.mul_le_mul_left _ ih
    have h3 : d.size ≤ d.size * many l := Nat.le_mul_of_pos_right _ hm
    have h4 : d.size * (l.length * many l) = l.length * (d.size * many l) := by rw [← Nat.mul_assoc, Nat.mul_comm d.size, Nat.mul_assoc]
    rw [List.length_cons, many, Nat.add_mul, Nat.one_mul]
    omega
/-- names that are still free from place k on -/
def Fresh (l : List Dm) (k : Nat) (e : Fs) : Prop := ∀ j (hj : j < l.length), k ≤ j → (l[j].s = false → e.1 (bs l[j].n) = none) ∧ (l[j].s = true → e.2 (bs l[j].n) = none)
def Apart (l : List Dm) : Prop := ∀ i j (hj : j < l.length) (hi : i < j), ¬ ((l[i]'(Nat.lt_trans hi hj)).n = l[j].n ∧ (l[i]'(Nat.lt_trans hi hj)).s = l[j].s)
theorem Fresh.next {l : List Dm} {k : Nat} {e : Fs} (h : Fresh l k e) : Fresh l (k + 1) e := fun j hj hk => h j hj (by omega)
theorem Fresh.put {l : List Dm} {k : Nat} {e : Fs} (h : Fresh l k e) (ha : Apart l) (hk : k < l.length) (v : ByteArray) : Fresh l (k + 1) (putD l[k] v e) := fun j hj hkj => by
  have h1 := h j hj (by omega)
  have h2 := ha k j hj (by omega)
  unfold putD put1
  by_cases hs : l[k].s = true
  · rw [if_pos hs]
    refine ⟨h1.1, fun hjs => ?_⟩
    dsimp only
    rw [if_neg (fun e => h2 ⟨(bs_inj e).symm, by rw [hs, hjs]⟩)]
    exact h1.2 hjs
  · rw [if_neg hs]
    have hs : l[k].s = false := by simpa using hs
    refine ⟨fun hjs => ?_, h1.2⟩
    dsimp only
    rw [if_neg (fun e => h2 ⟨(bs_inj e).symm, by rw [hs, hjs]⟩)]
    exact h1.1 hjs
theorem apart_of {l : List Dm} (h : domE l = 0) : Apart l := fun i j hj hi ⟨e1, e2⟩ => by
  have h0 := (dom_ok h).2 j hj
  rw [dErr_of hj] at h0
  have h1 := d_once h0
  rw [List.any_eq_false] at h1
  have hm : (l[i]'(Nat.lt_trans hi hj)) ∈ l.take j := by
    rw [List.mem_iff_getElem]
    exact ⟨i, by rw [List.length_take]; omega, by rw [List.getElem_take]⟩
  have := h1 _ hm
  unfold sameD at this
  rw [decide_eq_true e1, decide_eq_true e2] at this
  exact this rfl
theorem off_put {F G : Str → Option Str} {nm : Str} (h : ∀ x, x ≠ nm → G x = F x) (v : Str) : (fun x => if x = nm then some v else G x) = put1 F nm v := funext fun x => by
  unfold put1
  by_cases e : x = nm
  · rw [if_pos e, if_pos e]
  · rw [if_neg e, if_neg e, h x e]
theorem off_del {F G : Str → Option Str} {nm : Str} (h : ∀ x, x ≠ nm → G x = F x) (h0 : F nm = none) : (fun x => if x = nm then none else G x) = F := funext fun x => by
  by_cases e : x = nm
  · rw [if_pos e, e, h0]
  · rw [if_neg e, h x e]
theorem put_off (F : Str → Option Str) (nm v : Str) : ∀ x, x ≠ nm → put1 F nm v x = F x := fun x e => by unfold put1; rw [if_neg e]
theorem flat_next {d : Dm} {l : List Dm} {e : Fs} {j : Nat} (h : j < d.v.length) : ((d.v.take (j + 1)).flatMap fun v => enumR l (putD d v e)) = ((d.v.take j).flatMap fun v => enumR l (putD d v e)) ++ enumR l (putD d d.v[j] e) := by
  rw [List.take_succ_eq_append_getElem h, List.flatMap_append]
  simp
theorem StrMap.setCell {w : World} {b n : Nat} {f : Str → Option Str} (h : StrMap w b n f) {a : Addr} (ha : b ≠ a.block) (u : Value) : StrMap (w.setCell a u) b n f := by
  obtain ⟨D, h, r⟩ := h
  exact ⟨D, h.setCell ha u, r⟩

/-! ### The state of the reference's walk -/
abbrev alwCaps (z : Nat) : Array Value := #[.pointer (some ⟨z + 1, 0, none⟩), .pointer (some ⟨z, 0, none⟩), .pointer (some ⟨z + 6, 0, none⟩), .pointer (some ⟨z + 7, 0, none⟩), .pointer (some ⟨z + 2, 0, none⟩), .pointer (some ⟨z + 3, 0, none⟩), .pointer (some ⟨z + 8, 0, none⟩)]
structure AlwSt (w0 : World) (z : Nat) (cv : Array Value) (A : Option Addr) (n cc : Nat) (F S' : Str → Option Str) (al no : Bool) (n1 n2 : Nat) (w : World) : Prop where
  bC : Blk w z 61 cv
  bL : Blk w (z + 1) 91 #[.slice A n cc]
  bA : Blk w (z + 2) 4 #[.bool al]
  bN : Blk w (z + 3) 4 #[.bool no]
  mF : StrMap w (z + 4) n1 F
  mS : StrMap w (z + 5) n2 S'
  bF : Blk w (z + 6) 108 #[.map (some (z + 4))]
  bS : Blk w (z + 7) 108 #[.map (some (z + 5))]
  bW : Blk w (z + 8) 166 #[.func (.func 144) #[] (alwCaps z)]
  x0 : Ext w0 w
  z0 : w0.heap.size ≤ z
namespace AlwSt
variable {w0 w w' : World} {z n cc n1 n2 m : Nat} {cv : Array Value} {A : Option Addr} {F S' G : Str → Option Str} {al no : Bool}
theorem ext (h : AlwSt w0 z cv A n cc F S' al no n1 n2 w) (hx : Ext w w') : AlwSt w0 z cv A n cc F S' al no n1 n2 w' :=
  ⟨h.bC.ext hx, h.bL.ext hx, h.bA.ext hx, h.bN.ext hx, h.mF.ext hx, h.mS.ext hx, h.bF.ext hx, h.bS.ext hx, h.bW.ext hx, h.x0.trans hx, h.z0⟩
theorem keep {g : Nat} {t : TypeId} {cs : Array Value} (h : Blk w g t cs) {b : Nat} (hg : w.grownBy w' (some b)) (hne : b ≠ g) : Blk w' g t cs := (hg.block g h.lt (fun e => hne (Option.some.inj e).symm)).trans h
theorem putF (h : AlwSt w0 z cv A n cc F S' al no n1 n2 w) (hg : w.grownBy w' (some (z + 4))) (hm : StrMap w' (z + 4) m G) : AlwSt w0 z cv A n cc G S' al no m n2 w' :=
  ⟨keep h.bC hg (by omega), keep h.bL hg (by omega), keep h.bA hg (by omega), keep h.bN hg (by omega), hm, h.mS.far hg (by omega), keep h.bF hg (by omega), keep h.bS hg (by omega), keep h.bW hg (by omega),
    Below.grown h.x0 hg h.x0.size (fun i hi => by simp only [Option.some.injEq] at hi; have := h.z0; omega), h.z0⟩
theorem putS (h : AlwSt w0 z cv A n cc F S' al no n1 n2 w) (hg : w.grownBy w' (some (z + 5))) (hm : StrMap w' (z + 5) m G) : AlwSt w0 z cv A n cc F G al no n1 m w' :=
  ⟨keep h.bC hg (by omega), keep h.bL hg (by omega), keep h.bA hg (by omega), keep h.bN hg (by omega), h.mF.far hg (by omega), hm, keep h.bF hg (by omega), keep h.bS hg (by omega), keep h.bW hg (by omega),
    Below.grown h.x0 hg h.x0.size (fun i hi => by simp only [Option.some.injEq] at hi; have := h.z0; omega), h.z0⟩
theorem tell (h : AlwSt w0 z cv A n cc F S' al no n1 n2 w) (al' no' : Bool) : AlwSt w0 z cv A n cc F S' al' no' n1 n2 ((w.setCell ⟨z + 2, 0, none⟩ (.bool al')).setCell ⟨z + 3, 0, none⟩ (.bool no')) := by
  have z0 := h.z0
  exact ⟨(h.bC.far (by show z ≠ z + 2; omega) _).far (by show z ≠ z + 3; omega) _, (h.bL.far (by show z + 1 ≠ z + 2; omega) _).far (by show z + 1 ≠ z + 3; omega) _,
    (by simpa using (h.bA.set 0 (.bool al')).far (p := ⟨z + 3, 0, none⟩) (by show z + 2 ≠ z + 3; omega) (.bool no')), (by simpa using (h.bN.far (p := ⟨z + 2, 0, none⟩) (by show z + 3 ≠ z + 2; omega) (.bool al')).set 0 (.bool no')),
    (h.mF.setCell (by show z + 4 ≠ z + 2; omega) _).setCell (by show z + 4 ≠ z + 3; omega) _, (h.mS.setCell (by show z + 5 ≠ z + 2; omega) _).setCell (by show z + 5 ≠ z + 3; omega) _,
    (h.bF.far (by show z + 6 ≠ z + 2; omega) _).far (by show z + 6 ≠ z + 3; omega) _, (h.bS.far (by show z + 7 ≠ z + 2; omega) _).far (by show z + 7 ≠ z + 3; omega) _, (h.bW.far (by show z + 8 ≠ z + 2; omega) _).far (by show z + 8 ≠ z + 3; omega) _,
    (h.x0.setCell (by show w0.heap.size ≤ z + 2; omega) _).setCell (by show w0.heap.size ≤ z + 3; omega) _, z0⟩
end AlwSt
set_option maxRecDepth 100000 in
set_option maxHeartbeats 64000000 in
theorem walkR_any (w0 : World) (z : Nat) (ck : Int) (cn cx : ByteArray) (cA' : Option Addr) (cm cp : Nat) (A : Option Addr) (n cc : Nat) (l : List Dm) (c : Cd) (P : Nat → Prop) (hg : GoodN w0) (hcd : CdIn P w0 c (.agg #[.int .i64 ck, .string cn, .string cx, .slice cA' cm cp])) (hok : OkD 100 c) (hcnt : cnt c ≤ 10000)
    (hn : l.length = n) (hr : RdD w0 A l) (hs : SmallD l) (hl : n ≤ 20) (hap : Apart l) :
    ∀ (r k : Nat), k + r = n → ∀ (F S' : Str → Option Str) (al no : Bool) (n1 n2 : Nat) (w : World), AlwSt w0 z #[.int .i64 ck, .string cn, .string cx, .slice cA' cm cp] A n cc F S' al no n1 n2 w → Fresh l k (F, S') → (∀ y (u : ByteArray), F y = some (bs u) → u.size ≤ 2097152) →
      n1 + cost (l.drop k) ≤ 2000000 → n2 + cost (l.drop k) ≤ 2000000 →
      Calls Tryz.prog 144 (#[.int .i64 k] ++ alwCaps z) w fun e w' => e = .returned (.tuple #[]) ∧ ∃ p1 p2, p1 ≤ n1 + cost (l.drop k) ∧ p2 ≤ n2 + cost (l.drop k) ∧ AlwSt w0 z #[.int .i64 ck, .string cn, .string cx, .slice cA' cm cp] A n cc F S' (al && (enumR (l.drop k) (F, S')).all (holdsE c)) (no && (enumR (l.drop k) (F, S')).all fun e => !holdsE c e) p1 p2 w' := by
  intro r
  induction r with
  | zero =>
    intro k hk F S' al no n1 n2 w hst _ hsf _ _
    obtain rfl : k = n := by omega
    have hd : l.drop k = [] := List.drop_of_length_le (by omega)
    rw [hd]
    have HO := Lib.hid (holdsOf_any F S' hsf 100 c hok hcnt P _ (z + 4) (z + 5) n1 n2 w (hg.ext hst.x0) (hcd.ext hst.x0) hst.mF hst.mS)
    have HEN := Lib.hid (show ∀ a : Bool, (a && (enumR [] (F, S')).all (holdsE c)) = (a && holdsC F S' c) from fun a => by simp [enumR, holdsE])
    have HEN2 := Lib.hid (show ∀ a : Bool, (a && (enumR [] (F, S')).all fun e => !holdsE c e) = (a && !holdsC F S' c) from fun a => by simp [enumR, holdsE])
    have cA := hst.bA.cell; have lA := hst.bA.lt; have cN := hst.bN.cell; have lN := hst.bN.lt; have cL := hst.bL.cell; have lL := hst.bL.lt; have cF := hst.bF.cell; have lF := hst.bF.lt; have cS := hst.bS.cell; have lS := hst.bS.lt; have cW := hst.bW.cell; have lW := hst.bW.lt; have cC := hst.bC.cell; have lC := hst.bC.lt
    have HST := Lib.hid hst
    have hkk : ((k : Int) == (k : Int)) = true := beq_self_eq_true _
    clear hcd hr hst
    generalize holdsC F S' c = h at *
    go_enter Tryz.func144, Tryz.ntmps144
    go_wp2_with fail
    refine HO.out.mono ?_
    rintro e w1 ⟨rfl, hx1⟩
    have hst1 := HST.out.ext hx1
    have cA1 := hst1.bA.cell; have lA1 := hst1.bA.lt; have cN1 := hst1.bN.cell; have lN1 := hst1.bN.lt; have cL1 := hst1.bL.cell; have lL1 := hst1.bL.lt; have cF1 := hst1.bF.cell; have lF1 := hst1.bF.lt; have cS1 := hst1.bS.cell; have lS1 := hst1.bS.lt; have cW1 := hst1.bW.cell; have lW1 := hst1.bW.lt; have cC1 := hst1.bC.cell; have lC1 := hst1.bC.lt
    have fA := hst1.bA.free; have fN := hst1.bN.free
    have HST1 := Lib.hid hst1
    clear hst1
    cases al <;> cases no <;> cases h
    all_goals
      go_wp2
      first
        | exact bodyPost_end (results_none rfl _ _ _) rfl ⟨rfl, n1, n2, Nat.le_add_right _ _, Nat.le_add_right _ _, by rw [HEN.out, HEN2.out]; exact HST1.out.tell _ _⟩
        | exact bodyPost_ret (results_none rfl _ _ _) rfl ⟨rfl, n1, n2, Nat.le_add_right _ _, Nat.le_add_right _ _, by rw [HEN.out, HEN2.out]; exact HST1.out.tell _ _⟩
  | succ r ih =>
    intro k hk F S' al no n1 n2 w hst hfr hsf hc1 hc2
    have hk1 : k < l.length := by omega
    obtain ⟨b, o, rfl, hX⟩ := hr (fun e => by rw [e] at hk1; exact absurd hk1 (Nat.not_lt_zero _))
    obtain ⟨A', c', _, _, _, _, hv, _⟩ := hX k hk1
    obtain ⟨A3, c3, x0, x1, x2, x3, hv3, _⟩ := hX.ext hst.x0 k hk1
    obtain ⟨A4, c4, _, _, _, y3, hv4, _⟩ := hX k hk1
    have hAA : A3 = A4 := by
      have h1 := hst.x0.cell y3
      rw [x3] at h1
      injection h1 with h1
      injection h1 with h1 _ _
    subst hAA
    obtain ⟨hnz, hsv, hsx⟩ := hs l[k] (List.getElem_mem hk1)
    have hdrop : l.drop k = l[k] :: l.drop (k + 1) := List.drop_eq_getElem_cons hk1
    have hfk := hfr k hk1 (Nat.le_refl _)
    have HFP := Lib.hid (fun x => hfr.put hap hk1 x)
    have HFN := Lib.hid hfr.next
    have hih := ih (k + 1) (by omega)
    rw [show ((k + 1 : Nat) : Int) = (k : Int) + 1 by omega] at hih
    have hkn : ((k : Int) == (n : Int)) = false := by rw [beq_eq_false_iff_ne]; omega
    have HX := Lib.hid hX
    have HVR := Lib.hid hv4
    have HSV := Lib.hid hsx
    have HSF := Lib.hid hsf
    rw [hdrop] at hc1 hc2 ⊢
    generalize hLR : l.drop (k + 1) = LR at *
    obtain ⟨d, hdk⟩ : ∃ d, l[k] = d := ⟨_, rfl⟩
    rw [hdk] at x0 x1 x2 x3 hnz hsv HSV hc1 hc2 hfk HFP HVR ⊢
    have HCO := Lib.hid (show cost (d :: LR) = d.v.length * (1 + cost LR) + if d.a = true then cost LR else 0 from rfl)
    have hco := HCO.out
    generalize cost (d :: LR) = CD at *
    generalize cost LR = CR at *
    obtain ⟨H, hH⟩ : ∃ H : Fs → Bool, holdsE c = H := ⟨_, rfl⟩
    rw [hH] at hih ⊢
    have HIH := Lib.hid hih
    have hlk : k < n := by omega
    have cA := hst.bA.cell; have lA := hst.bA.lt; have cN := hst.bN.cell; have lN := hst.bN.lt; have cL := hst.bL.cell; have lL := hst.bL.lt; have cF := hst.bF.cell; have lF := hst.bF.lt; have cS := hst.bS.cell; have lS := hst.bS.lt; have cW := hst.bW.cell; have lW := hst.bW.lt; have cC := hst.bC.cell; have lC := hst.bC.lt
    have lb := lt_of_cell x0
    clear ih hih hX hv hv3 hv4 y3 hsx hsf hr hs hap hcd hok hcnt hg hdrop hLR hH hfr
    obtain ⟨dn, ds, da, dv⟩ := d
    dsimp only at x0 x1 x2 x3 hnz hsv HSV hfk HVR hco
    have hco2 : dv.length * (1 + CR) + (if da = true then CR else 0) = CD := hco.symm
    have hco3 : dv.length * (1 + CR) ≤ CD := by omega
    cases ds
    · have HPUT := Lib.hid (show ∀ v, putD ⟨dn, false, da, dv⟩ v (F, S') = (put1 F (bs dn) (bs v), S') from fun v => rfl)
      have hF0 : F (bs dn) = none := hfk.1 rfl
      go_enter Tryz.func144, Tryz.ntmps144
      go_wp2
      go_loopw [43] (fun t wr => ∃ (j : Nat) (G : Str → Option Str) (a1 a2 : Bool) (m1 m2 : Nat), t = .int .i64 j ∧ j ≤ dv.length ∧ AlwSt w0 z #[.int .i64 ck, .string cn, .string cx, .slice cA' cm cp] (some ⟨b, o, none⟩) n cc G S' a1 a2 m1 m2 wr ∧ (∀ x, x ≠ bs dn → G x = F x) ∧ Hid (a1 = (al && ((dv.take j).flatMap fun v => enumR LR (putD ⟨dn, false, da, dv⟩ v (F, S'))).all H)) ∧ Hid (a2 = (no && ((dv.take j).flatMap fun v => enumR LR (putD ⟨dn, false, da, dv⟩ v (F, S'))).all fun e => !H e)) ∧ m1 ≤ n1 + j * (1 + CR) ∧ m2 ≤ n2 + j * (1 + CR)) (fun t _ => dv.length - (intOf t).toNat)
      case atStart => exact ⟨0, F, al, no, n1, n2, by go_num, Nat.zero_le _, hst, (fun _ _ => rfl), Lib.hid (by simp), Lib.hid (by simp), by omega, by omega⟩
      case round =>
        obtain ⟨j, G, a1, a2, m1, m2, rfl, hj, hst2, hG, HA1, HA2, hm1, hm2⟩ := hrel
        clear cA lA cN lN cL lL cF lF cS lS cW lW cC lC
        have cA2 := hst2.bA.cell; have lA2 := hst2.bA.lt; have cN2 := hst2.bN.cell; have lN2 := hst2.bN.lt; have cL2 := hst2.bL.cell; have lL2 := hst2.bL.lt; have cF2 := hst2.bF.cell; have lF2 := hst2.bF.lt; have cS2 := hst2.bS.cell; have lS2 := hst2.bS.lt; have cW2 := hst2.bW.cell; have lW2 := hst2.bW.lt; have cC2 := hst2.bC.cell; have lC2 := hst2.bC.lt
        by_cases hlj : j < dv.length
        · have hne0 : dv ≠ [] := fun e => by rw [e] at hlj; exact absurd hlj (Nat.not_lt_zero _)
          obtain ⟨vb, vo, rfl, hk2⟩ := HVR.out hne0
          have y0 := hst2.x0.cell (hk2 j hlj)
          have X2 := HX.out.ext hst2.x0
          obtain ⟨A5, c5, e0', e1', e2', e3', _, _⟩ := X2 k hk1
          rw [hdk] at e0' e1' e2' e3'
          dsimp only at e0' e1' e2' e3'
          have hxs := HSV.out dv[j] (List.getElem_mem hlj)
          have HFL := Lib.hid (flat_next (d := ⟨dn, false, da, dv⟩) (l := LR) (e := (F, S')) (j := j) hlj)
          have HFR := Lib.hid (HFP.out dv[j])
          have hmul : (j + 1) * (1 + CR) ≤ dv.length * (1 + CR) := Nat.mul_le_mul_right _ hlj
          rw [Nat.add_mul, Nat.one_mul] at hmul
          have yl := lt_of_cell y0
          have el := lt_of_cell e0'
          have HPX := Lib.hid (HPUT.out dv[j])
          have HSX := Lib.hid (show ∀ y (u : ByteArray), (putD ⟨dn, false, da, dv⟩ dv[j] (F, S')).1 y = some (bs u) → u.size ≤ 2097152 from fun y u h => by
            rw [HPUT.out] at h
            unfold put1 at h
            dsimp only at h
            by_cases e : y = bs dn
            · rw [if_pos e] at h
              rw [← bs_inj (Option.some.inj h)]
              exact hxs
            · rw [if_neg e] at h
              exact HSF.out y u h)
          clear hk2 X2
          generalize dv[j] = x at *
          obtain ⟨w6, hrun, hM6, hg6⟩ := hst2.mF.upd (t := 108) Tryz.underlying108 dn x hnz hxs (by omega)
          rw [off_put hG] at hM6
          have hst6 := hst2.putF hg6 hM6
          have cA6 := hst6.bA.cell; have lA6 := hst6.bA.lt; have cN6 := hst6.bN.cell; have lN6 := hst6.bN.lt; have cL6 := hst6.bL.cell; have lL6 := hst6.bL.lt; have cF6 := hst6.bF.cell; have lF6 := hst6.bF.lt; have cS6 := hst6.bS.cell; have lS6 := hst6.bS.lt; have cW6 := hst6.bW.cell; have lW6 := hst6.bW.lt; have cC6 := hst6.bC.cell; have lC6 := hst6.bC.lt
          have hih := HIH.out (put1 F (bs dn) (bs x)) S' a1 a2 (m1 + 1) m2 w6 hst6 (by have := HFR.out; rw [HPX.out] at this; exact this) (by have := HSX.out; rw [HPX.out] at this; exact this) (by omega) (by omega)
          have HI := Lib.hid hih
          clear hih hM6 hg6 hst6 e1' e2'
          go_wp2_with fail
          refine HI.out.mono ?_
          rintro e w7 ⟨rfl, p1, p2, hp1, hp2, hst7⟩
          have HA3 := Lib.hid (show (a1 && (enumR LR (put1 F (bs dn) (bs x), S')).all H) = (al && ((dv.take (j + 1)).flatMap fun v => enumR LR (putD ⟨dn, false, da, dv⟩ v (F, S'))).all H) by
            rw [HA1.out, show ((dv.take (j + 1)).flatMap fun v => enumR LR (putD ⟨dn, false, da, dv⟩ v (F, S'))) = _ from HFL.out, List.all_append, HPX.out, Bool.and_assoc])
          have HA4 := Lib.hid (show (a2 && (enumR LR (put1 F (bs dn) (bs x), S')).all fun e => !H e) = (no && ((dv.take (j + 1)).flatMap fun v => enumR LR (putD ⟨dn, false, da, dv⟩ v (F, S'))).all fun e => !H e) by
            rw [HA2.out, show ((dv.take (j + 1)).flatMap fun v => enumR LR (putD ⟨dn, false, da, dv⟩ v (F, S'))) = _ from HFL.out, List.all_append, HPX.out, Bool.and_assoc])
          go_wp2
          go_roundw
          case rel => exact ⟨j + 1, put1 F (bs dn) (bs x), _, _, p1, p2, by go_num, hlj, hst7, put_off _ _ _, HA3.out, HA4.out, by rw [Nat.add_mul, Nat.one_mul]; omega, by rw [Nat.add_mul, Nat.one_mul]; omega⟩
          case measure => simp [intOf]; omega
        obtain rfl : j = dv.length := by omega
        rw [List.take_length] at HA1 HA2
        have X2 := HX.out.ext hst2.x0
        obtain ⟨A5, c5, e0', e1', e2', e3', _, _⟩ := X2 k hk1
        rw [hdk] at e0' e1' e2' e3'
        dsimp only at e0' e1' e2' e3'
        have el := lt_of_cell e0'
        obtain ⟨w6, hrun, hM6, hg6⟩ := hst2.mF.del (t := 108) Tryz.underlying108 dn hnz 0
        rw [off_del hG hF0] at hM6
        have hst6 := hst2.putF hg6 hM6
        have cA6 := hst6.bA.cell; have lA6 := hst6.bA.lt; have cN6 := hst6.bN.cell; have lN6 := hst6.bN.lt; have cL6 := hst6.bL.cell; have lL6 := hst6.bL.lt; have cF6 := hst6.bF.cell; have lF6 := hst6.bF.lt; have cS6 := hst6.bS.cell; have lS6 := hst6.bS.lt; have cW6 := hst6.bW.cell; have lW6 := hst6.bW.lt; have cC6 := hst6.bC.cell; have lC6 := hst6.bC.lt
        have X6 := HX.out.ext hst6.x0
        obtain ⟨A6, c6, i0, i1, i2, i3, _, _⟩ := X6 k hk1
        rw [hdk] at i0 i1 i2 i3
        dsimp only at i0 i1 i2 i3
        have il := lt_of_cell i0
        clear X2 X6
        cases da
        · have hco4 : CD = dv.length * (1 + CR) + 0 := by first | exact HCO.out | (have := HCO.out; simpa using this)
          have HE1 := Lib.hid (show a1 = (al && (enumR (⟨dn, false, false, dv⟩ :: LR) (F, S')).all H) by rw [HA1.out, enumR]; simp)
          have HE2 := Lib.hid (show a2 = (no && (enumR (⟨dn, false, false, dv⟩ :: LR) (F, S')).all fun e => !H e) by rw [HA2.out, enumR]; simp)
          have HST6 := Lib.hid hst6
          clear hst6 hM6 hg6
          go_wp2
          exact bodyPost_end (results_none rfl _ _ _) rfl ⟨rfl, m1, m2, by omega, by omega, by rw [← HE1.out, ← HE2.out]; exact HST6.out⟩
        · have hco4 : CD = dv.length * (1 + CR) + CR := by first | exact HCO.out | (have := HCO.out; simpa using this)
          have hih := HIH.out F S' a1 a2 m1 m2 w6 hst6 (HFN.out) HSF.out (by omega) (by omega)
          have HI := Lib.hid hih
          clear hih hM6 hg6 hst6
          go_wp2_with fail
          refine HI.out.mono ?_
          rintro e w7 ⟨rfl, p1, p2, hp1, hp2, hst7⟩
          have HE1 := Lib.hid (show (a1 && (enumR LR (F, S')).all H) = (al && (enumR (⟨dn, false, true, dv⟩ :: LR) (F, S')).all H) by rw [HA1.out, enumR, if_pos rfl, List.all_append, Bool.and_assoc])
          have HE2 := Lib.hid (show (a2 && (enumR LR (F, S')).all fun e => !H e) = (no && (enumR (⟨dn, false, true, dv⟩ :: LR) (F, S')).all fun e => !H e) by rw [HA2.out, enumR, if_pos rfl, List.all_append, Bool.and_assoc])
          go_wp2
          exact bodyPost_end (results_none rfl _ _ _) rfl ⟨rfl, p1, p2, by omega, by omega, by rw [← HE1.out, ← HE2.out]; exact hst7⟩
    · have HPUT := Lib.hid (show ∀ v, putD ⟨dn, true, da, dv⟩ v (F, S') = (F, put1 S' (bs dn) (bs v)) from fun v => rfl)
      have hF0 : S' (bs dn) = none := hfk.2 rfl
      go_enter Tryz.func144, Tryz.ntmps144
      go_wp2
      go_loopw [43] (fun t wr => ∃ (j : Nat) (G : Str → Option Str) (a1 a2 : Bool) (m1 m2 : Nat), t = .int .i64 j ∧ j ≤ dv.length ∧ AlwSt w0 z #[.int .i64 ck, .string cn, .string cx, .slice cA' cm cp] (some ⟨b, o, none⟩) n cc F G a1 a2 m1 m2 wr ∧ (∀ x, x ≠ bs dn → G x = S' x) ∧ Hid (a1 = (al && ((dv.take j).flatMap fun v => enumR LR (putD ⟨dn, true, da, dv⟩ v (F, S'))).all H)) ∧ Hid (a2 = (no && ((dv.take j).flatMap fun v => enumR LR (putD ⟨dn, true, da, dv⟩ v (F, S'))).all fun e => !H e)) ∧ m1 ≤ n1 + j * (1 + CR) ∧ m2 ≤ n2 + j * (1 + CR)) (fun t _ => dv.length - (intOf t).toNat)
      case atStart => exact ⟨0, S', al, no, n1, n2, by go_num, Nat.zero_le _, hst, (fun _ _ => rfl), Lib.hid (by simp), Lib.hid (by simp), by omega, by omega⟩
      case round =>
        obtain ⟨j, G, a1, a2, m1, m2, rfl, hj, hst2, hG, HA1, HA2, hm1, hm2⟩ := hrel
        clear cA lA cN lN cL lL cF lF cS lS cW lW cC lC
        have cA2 := hst2.bA.cell; have lA2 := hst2.bA.lt; have cN2 := hst2.bN.cell; have lN2 := hst2.bN.lt; have cL2 := hst2.bL.cell; have lL2 := hst2.bL.lt; have cF2 := hst2.bF.cell; have lF2 := hst2.bF.lt; have cS2 := hst2.bS.cell; have lS2 := hst2.bS.lt; have cW2 := hst2.bW.cell; have lW2 := hst2.bW.lt; have cC2 := hst2.bC.cell; have lC2 := hst2.bC.lt
        by_cases hlj : j < dv.length
        · have hne0 : dv ≠ [] := fun e => by rw [e] at hlj; exact absurd hlj (Nat.not_lt_zero _)
          obtain ⟨vb, vo, rfl, hk2⟩ := HVR.out hne0
          have y0 := hst2.x0.cell (hk2 j hlj)
          have X2 := HX.out.ext hst2.x0
          obtain ⟨A5, c5, e0', e1', e2', e3', _, _⟩ := X2 k hk1
          rw [hdk] at e0' e1' e2' e3'
          dsimp only at e0' e1' e2' e3'
          have hxs := HSV.out dv[j] (List.getElem_mem hlj)
          have HFL := Lib.hid (flat_next (d := ⟨dn, true, da, dv⟩) (l := LR) (e := (F, S')) (j := j) hlj)
          have HFR := Lib.hid (HFP.out dv[j])
          have hmul : (j + 1) * (1 + CR) ≤ dv.length * (1 + CR) := Nat.mul_le_mul_right _ hlj
          rw [Nat.add_mul, Nat.one_mul] at hmul
          have yl := lt_of_cell y0
          have el := lt_of_cell e0'
          have HPX := Lib.hid (HPUT.out dv[j])
          have HSX := Lib.hid (show ∀ y (u : ByteArray), (putD ⟨dn, true, da, dv⟩ dv[j] (F, S')).1 y = some (bs u) → u.size ≤ 2097152 from fun y u h => by
            rw [HPUT.out] at h
            exact HSF.out y u h)
          clear hk2 X2
          generalize dv[j] = x at *
          obtain ⟨w6, hrun, hM6, hg6⟩ := hst2.mS.upd (t := 108) Tryz.underlying108 dn x hnz hxs (by omega)
          rw [off_put hG] at hM6
          have hst6 := hst2.putS hg6 hM6
          have cA6 := hst6.bA.cell; have lA6 := hst6.bA.lt; have cN6 := hst6.bN.cell; have lN6 := hst6.bN.lt; have cL6 := hst6.bL.cell; have lL6 := hst6.bL.lt; have cF6 := hst6.bF.cell; have lF6 := hst6.bF.lt; have cS6 := hst6.bS.cell; have lS6 := hst6.bS.lt; have cW6 := hst6.bW.cell; have lW6 := hst6.bW.lt; have cC6 := hst6.bC.cell; have lC6 := hst6.bC.lt
          have hih := HIH.out F (put1 S' (bs dn) (bs x)) a1 a2 m1 (m2 + 1) w6 hst6 (by have := HFR.out; rw [HPX.out] at this; exact this) (by have := HSX.out; rw [HPX.out] at this; exact this) (by omega) (by omega)
          have HI := Lib.hid hih
          clear hih hM6 hg6 hst6 e1' e2'
          go_wp2_with fail
          refine HI.out.mono ?_
          rintro e w7 ⟨rfl, p1, p2, hp1, hp2, hst7⟩
          have HA3 := Lib.hid (show (a1 && (enumR LR (F, put1 S' (bs dn) (bs x))).all H) = (al && ((dv.take (j + 1)).flatMap fun v => enumR LR (putD ⟨dn, true, da, dv⟩ v (F, S'))).all H) by
            rw [HA1.out, show ((dv.take (j + 1)).flatMap fun v => enumR LR (putD ⟨dn, true, da, dv⟩ v (F, S'))) = _ from HFL.out, List.all_append, HPX.out, Bool.and_assoc])
          have HA4 := Lib.hid (show (a2 && (enumR LR (F, put1 S' (bs dn) (bs x))).all fun e => !H e) = (no && ((dv.take (j + 1)).flatMap fun v => enumR LR (putD ⟨dn, true, da, dv⟩ v (F, S'))).all fun e => !H e) by
            rw [HA2.out, show ((dv.take (j + 1)).flatMap fun v => enumR LR (putD ⟨dn, true, da, dv⟩ v (F, S'))) = _ from HFL.out, List.all_append, HPX.out, Bool.and_assoc])
          go_wp2
          go_roundw
          case rel => exact ⟨j + 1, put1 S' (bs dn) (bs x), _, _, p1, p2, by go_num, hlj, hst7, put_off _ _ _, HA3.out, HA4.out, by rw [Nat.add_mul, Nat.one_mul]; omega, by rw [Nat.add_mul, Nat.one_mul]; omega⟩
          case measure => simp [intOf]; omega
        obtain rfl : j = dv.length := by omega
        rw [List.take_length] at HA1 HA2
        have X2 := HX.out.ext hst2.x0
        obtain ⟨A5, c5, e0', e1', e2', e3', _, _⟩ := X2 k hk1
        rw [hdk] at e0' e1' e2' e3'
        dsimp only at e0' e1' e2' e3'
        have el := lt_of_cell e0'
        obtain ⟨w6, hrun, hM6, hg6⟩ := hst2.mS.del (t := 108) Tryz.underlying108 dn hnz 0
        rw [off_del hG hF0] at hM6
        have hst6 := hst2.putS hg6 hM6
        have cA6 := hst6.bA.cell; have lA6 := hst6.bA.lt; have cN6 := hst6.bN.cell; have lN6 := hst6.bN.lt; have cL6 := hst6.bL.cell; have lL6 := hst6.bL.lt; have cF6 := hst6.bF.cell; have lF6 := hst6.bF.lt; have cS6 := hst6.bS.cell; have lS6 := hst6.bS.lt; have cW6 := hst6.bW.cell; have lW6 := hst6.bW.lt; have cC6 := hst6.bC.cell; have lC6 := hst6.bC.lt
        have X6 := HX.out.ext hst6.x0
        obtain ⟨A6, c6, i0, i1, i2, i3, _, _⟩ := X6 k hk1
        rw [hdk] at i0 i1 i2 i3
        dsimp only at i0 i1 i2 i3
        have il := lt_of_cell i0
        clear X2 X6
        cases da
        · have hco4 : CD = dv.length * (1 + CR) + 0 := by first | exact HCO.out | (have := HCO.out; simpa using this)
          have HE1 := Lib.hid (show a1 = (al && (enumR (⟨dn, true, false, dv⟩ :: LR) (F, S')).all H) by rw [HA1.out, enumR]; simp)
          have HE2 := Lib.hid (show a2 = (no && (enumR (⟨dn, true, false, dv⟩ :: LR) (F, S')).all fun e => !H e) by rw [HA2.out, enumR]; simp)
          have HST6 := Lib.hid hst6
          clear hst6 hM6 hg6
          go_wp2
          exact bodyPost_end (results_none rfl _ _ _) rfl ⟨rfl, m1, m2, by omega, by omega, by rw [← HE1.out, ← HE2.out]; exact HST6.out⟩
        · have hco4 : CD = dv.length * (1 + CR) + CR := by first | exact HCO.out | (have := HCO.out; simpa using this)
          have hih := HIH.out F S' a1 a2 m1 m2 w6 hst6 (HFN.out) HSF.out (by omega) (by omega)
          have HI := Lib.hid hih
          clear hih hM6 hg6 hst6
          go_wp2_with fail
          refine HI.out.mono ?_
          rintro e w7 ⟨rfl, p1, p2, hp1, hp2, hst7⟩
          have HE1 := Lib.hid (show (a1 && (enumR LR (F, S')).all H) = (al && (enumR (⟨dn, true, true, dv⟩ :: LR) (F, S')).all H) by rw [HA1.out, enumR, if_pos rfl, List.all_append, Bool.and_assoc])
          have HE2 := Lib.hid (show (a2 && (enumR LR (F, S')).all fun e => !H e) = (no && (enumR (⟨dn, true, true, dv⟩ :: LR) (F, S')).all fun e => !H e) by rw [HA2.out, enumR, if_pos rfl, List.all_append, Bool.and_assoc])
          go_wp2
          exact bodyPost_end (results_none rfl _ _ _) rfl ⟨rfl, p1, p2, by omega, by omega, by rw [← HE1.out, ← HE2.out]; exact hst7⟩
end Go.Proofs.YtaobnifiengglaaGreatDoor
