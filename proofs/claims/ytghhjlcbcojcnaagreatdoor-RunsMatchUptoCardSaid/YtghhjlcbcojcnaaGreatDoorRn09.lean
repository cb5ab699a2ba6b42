/- Contracts of ver.CheckRange. Contract of outref2.RangeError. append of one element onto a slice of the call's own, in a world that grows; strings.Join over such a slice. Contracts of ver.isRow, wrong, spanText, PrintRange; ver.Parse, Next, text in the words of V4. Contract of ver.PrintRange. -/
import Derived.Test.YtghhjlcbcojcnaaGreatDoorRn08
import Derived.Test.YtghhjlcbcojcnaaGreatDoorRn07
import Derived.Test.YtghhjlcbcojcnaaGreatDoorRn02
import Derived.Laws.AppendOwn
import Derived.Laws.OwnMore
import Derived.Maps.AppendAt
import Derived.OwnWalk
import Derived.Lib.Join
import Derived.Deep.LoopGhost

namespace Go.Proofs.YtghhjlcbcojcnaaGreatDoor
open Go.RowKit

/-- what the walks ask of spans' texts -/
def SmallS (l : List Sp) : Prop := ∀ s ∈ l, s.f.a.size ≤ 2097152 ∧ s.t.a.size ≤ 2097152
theorem errAt_0 {l : List Sp} (h : 0 < l.length) : errAt l 0 = spErr l[0] := by
  unfold errAt
  have e : l.getD 0 zeroS = l[0] := by simp [List.getD, List.getElem?_eq_getElem h]
  rw [e]
  by_cases h1 : spErr l[0] = 0
  · rw [if_neg (by simpa using h1), if_pos rfl, h1]
  · rw [if_pos h1]
theorem errAt_bad {l : List Sp} {k : Nat} (h : k < l.length) (h1 : ¬ spErr l[k] = 0) : errAt l k = spErr l[k] := by
  unfold errAt
  have e : l.getD k zeroS = l[k] := by simp [List.getD, List.getElem?_eq_getElem h]
  rw [e, if_pos h1]
theorem errAt_gap {l : List Sp} {k : Nat} (h : k < l.length) (h0 : 0 < k) (h1 : spErr l[k] = 0) : errAt l k = gapErr l[k - 1] l[k] := by
  unfold errAt
  have e : l.getD k zeroS = l[k] := by simp [List.getD, List.getElem?_eq_getElem h]
  have e2 : l.getD (k - 1) zeroS = l[k - 1] := by simp [List.getD, List.getElem?_eq_getElem (by omega : k - 1 < l.length)]
  rw [e, e2, if_neg (by simpa using h1), if_neg (by omega)]
theorem rng_large {l : List Sp} (h : 10 < l.length) : rngErr l = 4 := by rw [rngErr, if_pos h]
theorem rng_at {l : List Sp} {k : Nat} (hl : l.length ≤ 10) (h : k < l.length) (h0 : ∀ x ∈ (errsOf l).take k, x = 0) (h1 : ¬ errAt l k = 0) : rngErr l = errAt l k := by
  rw [rngErr, if_neg (by omega)]
  have hk : k < (errsOf l).length := by rw [errs_length]; exact h
  rw [firstI_at hk h0 (by rw [errs_get]; exact h1), errs_get]
theorem rng_next {l : List Sp} {k : Nat} (h : k < l.length) (h0 : ∀ x ∈ (errsOf l).take k, x = 0) (h1 : errAt l k = 0) : ∀ x ∈ (errsOf l).take (k + 1), x = 0 := by
  have hk : k < (errsOf l).length := by rw [errs_length]; exact h
  exact take_zero_succ hk h0 (by rw [errs_get]; exact h1)
theorem rng_all {l : List Sp} (hl : l.length ≤ 10) (h0 : ∀ x ∈ (errsOf l).take l.length, x = 0) : rngErr l = 0 := by
  rw [rngErr, if_neg (by omega)]
  rw [List.take_of_length_le (by rw [errs_length]; exact Nat.le_refl _)] at h0
  exact firstI_zero h0
theorem gap_ne {p s : Sp} (h : p.ht = false ∨ s.hf = false ∨ 0 ≤ p.t.ord s.f) : gapErr p s = 7 := by
  unfold gapErr
  rw [if_pos]
  rcases h with h | h | h <;> simp [h]
theorem gap_ok {p s : Sp} (h1 : p.ht = true) (h2 : s.hf = true) (h : ¬ 0 ≤ p.t.ord s.f) : gapErr p s = 0 := by
  unfold gapErr
  rw [if_neg]
  simpa [h1, h2] using h
set_option maxHeartbeats 8000000 in
theorem CheckRange_any (A : Option Addr) (n c : Nat) (l : List Sp) (w : World) (hg : Good w) (hn : l.length = n) (hr : RdS w A l) (hs : SmallS l) (hl : n ≤ 2097152) :
    Calls Tryz.prog 53 #[.agg #[.slice A n c]] w fun e w' => e = .returned (.int .i64 (rngErr l)) ∧ Ext w w' := by
  have HN := Lib.hid hn
  clear hn
  by_cases h10 : 10 < n
  · have hR : rngErr l = 4 := rng_large (by rw [HN.out]; exact h10)
    have HR := Lib.hid hR
    clear hR
    go_enter Tryz.func53, Tryz.ntmps53
    go_wp2
    go_ret
    exact ⟨ret_int HR.out.symm, (by repeat (first | with_reducible exact Ext.refl _ | with_reducible assumption | with_reducible apply Ext.drewN | with_reducible apply Ext.drew | with_reducible apply Ext.alloc | exact Ext.refl _ | assumption | apply Ext.drewN | apply Ext.drew | apply Ext.alloc))⟩
  rcases Nat.eq_zero_or_pos n with h0 | h0
  · subst h0
    have he : l = [] := List.eq_nil_of_length_eq_zero HN.out
    have hR : rngErr l = 0 := by rw [he]; rfl
    have HR := Lib.hid hR
    clear he hR
    go_enter Tryz.func53, Tryz.ntmps53
    go_wp2
    go_loop [14] (fun i => i = .int .i64 0) (fun i => 0)
    case atStart => rfl
    case round =>
      subst hrel
      go_wp2
      go_ret
      exact ⟨ret_int HR.out.symm, (by repeat (first | with_reducible exact Ext.refl _ | with_reducible assumption | with_reducible apply Ext.drewN | with_reducible apply Ext.drew | with_reducible apply Ext.alloc | exact Ext.refl _ | assumption | apply Ext.drewN | apply Ext.drew | apply Ext.alloc))⟩
  obtain ⟨b, o, rfl, hX⟩ := hr (fun e => by have := HN.out; rw [e] at this; simp at this; omega)
  clear hr
  go_enter Tryz.func53, Tryz.ntmps53
  go_wp2
  go_loopw [14] (fun i wr => ∃ k : Nat, k ≤ n ∧ i = .int .i64 k ∧ (∀ x ∈ (errsOf l).take k, x = 0) ∧ Ext (w.alloc (.cells #[.slice (some ⟨b, o, none⟩) n c] 51)) wr) (fun i _ => n - (intOf i).toNat)
  case atStart => exact ⟨0, Nat.zero_le _, rfl, by simp, Ext.refl _⟩
  case round =>
    obtain ⟨k, hk, rfl, hall, hxr⟩ := hrel
    have HALL := Lib.hid hall
    clear hall
    have hxw : Ext w wr := Ext.trans (by repeat (first | with_reducible exact Ext.refl _ | with_reducible assumption | with_reducible apply Ext.drewN | with_reducible apply Ext.drew | with_reducible apply Ext.alloc | exact Ext.refl _ | assumption | apply Ext.drewN | apply Ext.drew | apply Ext.alloc)) hxr
    have hB := (Blk.new w 51 #[.slice (some ⟨b, o, none⟩) n c]).ext hxr
    by_cases hlt : k < n
    · have hk1 : k < l.length := by rw [HN.out]; exact hlt
      have X := hX.ext hxw
      have x0 := X.c0 k hk1; have x1 := X.c1 k hk1; have x2 := X.c2 k hk1; have x3 := X.c3 k hk1; have x4 := X.c4 k hk1
      have x5 := X.c5 k hk1; have x6 := X.c6 k hk1; have x7 := X.c7 k hk1; have x8 := X.c8 k hk1; have x9 := X.c9 k hk1
      have hz1 := hs l[k] (List.getElem_mem hk1)
      have hbad : ¬ spErr l[k] = 0 → rngErr l = spErr l[k] := fun h => by
        have e := errAt_bad hk1 h
        rw [rng_at (by have := HN.out; omega) hk1 HALL.out (by rw [e]; exact h), e]
      have HBAD := Lib.hid hbad
      have hgood : errAt l k = 0 → ∀ x ∈ (errsOf l).take (k + 1), x = 0 := rng_next hk1 HALL.out
      have HGOOD := Lib.hid hgood
      have hgapb : errAt l k = 7 → rngErr l = 7 := fun h => by rw [rng_at (by have := HN.out; omega) hk1 HALL.out (by rw [h]; decide), h]
      have HGAPB := Lib.hid hgapb
      clear hbad hgood hgapb
      by_cases hk0 : k = 0
      · subst hk0
        have HE := Lib.hid (errAt_0 hk1)
        generalize l[0] = s at *
        obtain ⟨hf, ht, ⟨f1, f2, f3, fa⟩, ⟨t1, t2, t3, ta⟩⟩ := s
        dsimp only at x0 x1 x2 x3 x4 x5 x6 x7 x8 x9 hz1
        rw [Nat.zero_mul, Nat.add_zero] at x0 x1 x2 x3 x4 x5 x6 x7 x8 x9
        obtain ⟨hz1, hz2⟩ := hz1
        go_wp2_with fail
        refine (spanFault_any ⟨hf, ht, ⟨f1, f2, f3, fa⟩, ⟨t1, t2, t3, ta⟩⟩ _ (hg.ext (hxw.trans (by repeat (first | with_reducible exact Ext.refl _ | with_reducible assumption | with_reducible apply Ext.drewN | with_reducible apply Ext.drew | with_reducible apply Ext.alloc | exact Ext.refl _ | assumption | apply Ext.drewN | apply Ext.drew | apply Ext.alloc)))) hz1 hz2).mono ?_
        generalize spErr ⟨hf, ht, ⟨f1, f2, f3, fa⟩, ⟨t1, t2, t3, ta⟩⟩ = r at *
        rintro e w1 ⟨rfl, hx1⟩
        by_cases hr : r = 0
        · have HR := Lib.hid hr
          rw [hr]
          clear hr
          go_wp2
          go_roundw
          case rel => exact ⟨1, by omega, rfl, HGOOD.out (HE.out.trans HR.out), (hxr.trans (by repeat (first | with_reducible exact Ext.refl _ | with_reducible assumption | with_reducible apply Ext.drewN | with_reducible apply Ext.drew | with_reducible apply Ext.alloc | exact Ext.refl _ | assumption | apply Ext.drewN | apply Ext.drew | apply Ext.alloc))).trans hx1⟩
          case measure => simp [intOf]; omega
        · go_wp2
          go_ret
          exact ⟨ret_int (HBAD.out hr).symm, (hxw.trans (by repeat (first | with_reducible exact Ext.refl _ | with_reducible assumption | with_reducible apply Ext.drewN | with_reducible apply Ext.drew | with_reducible apply Ext.alloc | exact Ext.refl _ | assumption | apply Ext.drewN | apply Ext.drew | apply Ext.alloc))).trans hx1⟩
      · obtain ⟨j, rfl⟩ : ∃ j, k = j + 1 := ⟨k - 1, by omega⟩
        have hj : j < l.length := by omega
        have HE := Lib.hid (errAt_gap hk1 (by omega))
        simp only [Nat.add_sub_cancel] at HE
        have y0 := X.c0 j hj; have y1 := X.c1 j hj; have y2 := X.c2 j hj; have y3 := X.c3 j hj; have y4 := X.c4 j hj
        have y5 := X.c5 j hj; have y6 := X.c6 j hj; have y7 := X.c7 j hj; have y8 := X.c8 j hj; have y9 := X.c9 j hj
        have hz3 := hs l[j] (List.getElem_mem hj)
        clear X hk0
        generalize l[j + 1] = s at *
        generalize l[j] = p at *
        have q3 := fun h => gap_ne (p := p) (s := s) (.inl h)
        have q4 := fun h => gap_ne (p := p) (s := s) (.inr (.inl h))
        have q5 := fun h => gap_ne (p := p) (s := s) (.inr (.inr h))
        have q6 := gap_ok (p := p) (s := s)
        obtain ⟨hf, ht, ⟨f1, f2, f3, fa⟩, ⟨t1, t2, t3, ta⟩⟩ := s
        obtain ⟨pf, pt, ⟨g1, g2, g3, ga⟩, ⟨u1, u2, u3, ua⟩⟩ := p
        dsimp only at x0 x1 x2 x3 x4 x5 x6 x7 x8 x9 hz1 y0 y1 y2 y3 y4 y5 y6 y7 y8 y9 hz3
        dsimp only [V4.ord] at q3 q4 q5 q6
        generalize gapErr ⟨pf, pt, ⟨g1, g2, g3, ga⟩, ⟨u1, u2, u3, ua⟩⟩ ⟨hf, ht, ⟨f1, f2, f3, fa⟩, ⟨t1, t2, t3, ta⟩⟩ = G at *
        have Q3 := Lib.hid q3
        have Q4 := Lib.hid q4
        have Q5 := Lib.hid q5
        have Q6 := Lib.hid q6
        clear q3 q4 q5 q6
        obtain ⟨hz1, hz2⟩ := hz1
        obtain ⟨hz3, hz4⟩ := hz3
        go_wp2_with fail
        refine (spanFault_any ⟨hf, ht, ⟨f1, f2, f3, fa⟩, ⟨t1, t2, t3, ta⟩⟩ _ (hg.ext (hxw.trans (by repeat (first | with_reducible exact Ext.refl _ | with_reducible assumption | with_reducible apply Ext.drewN | with_reducible apply Ext.drew | with_reducible apply Ext.alloc | exact Ext.refl _ | assumption | apply Ext.drewN | apply Ext.drew | apply Ext.alloc)))) hz1 hz2).mono ?_
        generalize spErr ⟨hf, ht, ⟨f1, f2, f3, fa⟩, ⟨t1, t2, t3, ta⟩⟩ = r at *
        rintro e w1 ⟨rfl, hx1⟩
        by_cases hr : r = 0
        rotate_left
        · go_wp2
          go_ret
          exact ⟨ret_int (HBAD.out hr).symm, (hxw.trans (by repeat (first | with_reducible exact Ext.refl _ | with_reducible assumption | with_reducible apply Ext.drewN | with_reducible apply Ext.drew | with_reducible apply Ext.alloc | exact Ext.refl _ | assumption | apply Ext.drewN | apply Ext.drew | apply Ext.alloc))).trans hx1⟩
        have HG := Lib.hid (HE.out hr)
        rw [hr]
        clear hr
        have bS := (Blk.new wr 145 #[.bool hf, .bool ht, .int .i64 f1, .int .i64 f2, .int .i64 f3, .string fa, .int .i64 t1, .int .i64 t2, .int .i64 t3, .string ta]).ext hx1
        have sc := bS.cell
        have sl := bS.lt
        have bB := (hB.alloc _).ext hx1
        have bc := bB.cell
        have hxa : Ext wr w1 := Ext.trans (by repeat (first | with_reducible exact Ext.refl _ | with_reducible assumption | with_reducible apply Ext.drewN | with_reducible apply Ext.drew | with_reducible apply Ext.alloc | exact Ext.refl _ | assumption | apply Ext.drewN | apply Ext.drew | apply Ext.alloc)) hx1
        have hlw := hB.lt
        have y0 := hxa.cell y0; have y1 := hxa.cell y1; have y2 := hxa.cell y2; have y3 := hxa.cell y3; have y4 := hxa.cell y4
        have y5 := hxa.cell y5; have y6 := hxa.cell y6; have y7 := hxa.cell y7; have y8 := hxa.cell y8; have y9 := hxa.cell y9
        clear x0 x1 x2 x3 x4 x5 x6 x7 x8 x9
        cases pt
        · go_wp2
          go_ret
          exact ⟨ret_int (HGAPB.out (HG.out.trans (Q3.out (by trivial)))).symm, hxw.trans (by repeat (first | with_reducible exact Ext.refl _ | with_reducible assumption | with_reducible apply Ext.drewN | with_reducible apply Ext.drew | with_reducible apply Ext.alloc | exact Ext.refl _ | assumption | apply Ext.drewN | apply Ext.drew | apply Ext.alloc))⟩
        cases hf
        · go_wp2
          go_ret
          exact ⟨ret_int (HGAPB.out (HG.out.trans (Q4.out (by trivial)))).symm, hxw.trans (by repeat (first | with_reducible exact Ext.refl _ | with_reducible assumption | with_reducible apply Ext.drewN | with_reducible apply Ext.drew | with_reducible apply Ext.alloc | exact Ext.refl _ | assumption | apply Ext.drewN | apply Ext.drew | apply Ext.alloc))⟩
        go_wp2_with fail
        refine (Order_any f1 f2 f3 u1 u2 u3 fa ua _ (hg.ext (hxw.trans (by repeat (first | with_reducible exact Ext.refl _ | with_reducible assumption | with_reducible apply Ext.drewN | with_reducible apply Ext.drew | with_reducible apply Ext.alloc | exact Ext.refl _ | assumption | apply Ext.drewN | apply Ext.drew | apply Ext.alloc)))) hz1 hz4).mono ?_
        rintro e w2 ⟨rfl, hx2⟩
        have hon := order_neg f1 f2 f3 (bs fa) u1 u2 u3 (bs ua)
        have HON := Lib.hid hon
        clear hon
        have hxb : Ext w w2 := Ext.trans (hxw.trans (by repeat (first | with_reducible exact Ext.refl _ | with_reducible assumption | with_reducible apply Ext.drewN | with_reducible apply Ext.drew | with_reducible apply Ext.alloc | exact Ext.refl _ | assumption | apply Ext.drewN | apply Ext.drew | apply Ext.alloc))) hx2
        have hxc : Ext wr w2 := Ext.trans (by repeat (first | with_reducible exact Ext.refl _ | with_reducible assumption | with_reducible apply Ext.drewN | with_reducible apply Ext.drew | with_reducible apply Ext.alloc | exact Ext.refl _ | assumption | apply Ext.drewN | apply Ext.drew | apply Ext.alloc)) hx2
        by_cases ho : orderL f1 f2 f3 (bs fa) u1 u2 u3 (bs ua) ≤ 0
        · have HO := Lib.hid ho
          go_wp2
          go_ret
          exact ⟨ret_int (HGAPB.out (HG.out.trans (Q5.out (by rw [HON.out]; have := HO.out; omega)))).symm, hxb⟩
        · have HO := Lib.hid ho
          go_wp2
          go_roundw
          case rel => exact ⟨j + 1 + 1, by omega, by go_num, HGOOD.out (HG.out.trans (Q6.out (by trivial) (by trivial) (by rw [HON.out]; have := HO.out; omega))), hxr.trans hxc⟩
          case measure => simp [intOf]; omega
    · obtain rfl : k = n := by omega
      go_wp2
      go_ret
      exact ⟨ret_int (rng_all (by have := HN.out; omega) (by rw [HN.out]; exact HALL.out)).symm, hxw⟩
end Go.Proofs.YtghhjlcbcojcnaaGreatDoor

namespace Go.Proofs.YtghhjlcbcojcnaaGreatDoor
open Go.RowKit

theorem VerS.two {w : World} {b : Nat} {a1 a2 a3 b1 b2 b3 : Int} {a e : ByteArray} (h0 : w.cell? ⟨b, 0, none⟩ = some (.int .i64 a1)) (h1 : w.cell? ⟨b, 1, none⟩ = some (.int .i64 a2)) (h2 : w.cell? ⟨b, 2, none⟩ = some (.int .i64 a3)) (h3 : w.cell? ⟨b, 3, none⟩ = some (.string a))
    (h4 : w.cell? ⟨b, 4, none⟩ = some (.int .i64 b1)) (h5 : w.cell? ⟨b, 5, none⟩ = some (.int .i64 b2)) (h6 : w.cell? ⟨b, 6, none⟩ = some (.int .i64 b3)) (h7 : w.cell? ⟨b, 7, none⟩ = some (.string e)) : VerS w b [⟨a1, a2, a3, a⟩, ⟨b1, b2, b3, e⟩] := by
  constructor
  all_goals intro k hk
  all_goals match k, hk with
    | 0, _ => first | exact h0 | exact h1 | exact h2 | exact h3
    | 1, _ => first | exact h4 | exact h5 | exact h6 | exact h7
end Go.Proofs.YtghhjlcbcojcnaaGreatDoor

namespace Go.Proofs.YtghhjlcbcojcnaaGreatDoor
open Go.RowKit

section
variable {w w' a : World} {B : Nat} {e : TypeId} {size n : Nat} {v : Value} {xs : List Value}
theorem own_ext (h : w.ownsRow B e size v n xs) (hx : Ext w w') : w'.ownsRow B e size v n xs :=
  h.kept (row := none) ⟨hx.os, hx.tape, hx.output, hx.size, fun k hk _ => hx.block k hk⟩ (by cases hv : v.ownBlock <;> simp)
theorem Ext.grown (h : Ext a w) (hown : w.ownsRow B e size v n xs) (hB : a.heap.size ≤ B) (hg : w.grownBy w' v.ownBlock) : Ext a w' :=
  Below.grown h hg h.size (fun k hk => Nat.le_trans hB (hown.lt k hk).1)
theorem Blk.grown {g : Nat} {t : TypeId} {cs : Array Value} (h : Blk w g t cs) (hown : w.ownsRow B e size v n xs) (hB : g < B) (hg : w.grownBy w' v.ownBlock) : Blk w' g t cs :=
  (hg.block g h.lt (fun he => by have := (hown.lt g he.symm).1; omega)).trans h
theorem own_form (h : w.ownsRow B e size v n xs) (h0 : 0 < n) : ∃ g c, v = .slice (some ⟨g, 0, none⟩) n c ∧ g < w.heap.size ∧ B ≤ g ∧ n ≤ c ∧ ∀ j u, xs[j]? = some u → w.cell? ⟨g, j, none⟩ = some u := by
  have hh := h
  rcases h.2 with ⟨rfl, h1⟩ | ⟨g, cap, cur, rfl, hb, hgg, hnc, _⟩
  · omega
  · refine ⟨g, cap, rfl, (hh.lt g rfl).2, hb, hnc, fun j u hu => ?_⟩
    have := hh.cells (g := g) rfl j u hu
    have hadd : (⟨g, 0, none⟩ : Addr).add j = ⟨g, j, none⟩ := by unfold Addr.add; split <;> simp_all
    rwa [hadd] at this
end
section
variable {P : Program}
/-- 'v = append(v, x)', x laid into a new block of its own just ahead -/
theorem wpList_app1 {ops : Array Oper} {rest : List Oper} {o : Oper} {a : Act} {Q : Exit → Act → World → Prop} (wr : World) (cs : Array Value) (e : TypeId) (hgd : o.guard = none) (s x : Operand) (t : TypeId)
    (ho : o.op = .call { callee := .builtin .append, args := #[s, x], argTypes := #[t, t] })
    (z : Value) (size bytes : Nat) (ht : P.underlying t = some (.slice e)) (hinfo : (P.info? e).map (fun i => (i.zero, i.size, i.bytes)) = some (some z, size, bytes)) (hzs : z.cells.size = size) (hsz : 0 < size) (hby : bytes ≤ 1000)
    (B : Nat) (v : Value) (n : Nat) (xs : List Value) (hs : a.eval s = v) (hown : wr.ownsRow B e size v n xs)
    (c : Nat) (hx : a.eval x = .slice (some ⟨wr.heap.size, 0, none⟩) 1 c) (hcs : cs.size = size) (h1 : ∀ u ∈ cs.toList, u.oneCell' = true) (hn : n ≤ 100000000) (hbase : B ≤ wr.heap.size)
    (h : ∀ v' w', w'.ownsRow B e size v' (n + 1) (xs ++ cs.toList) → (∀ a', Ext a' wr → a'.heap.size ≤ B → Ext a' w') → (∀ g t' ds, Blk wr g t' ds → g < B → Blk w' g t' ds) → wpList P ops Q rest (a.put o.dst v') w') :
    wpList P ops Q (o :: rest) a (wr.alloc (.cells cs e)) := by
  obtain ⟨i, hi, hz0, hz1, hz2⟩ := info_parts hinfo
  have hnew := Blk.new wr e cs
  refine wpList_append_own (wr.alloc (.cells cs e)) hgd s x t ho B e i z size bytes ht hi hz0 hz1 hz2 hzs hsz v n xs hs (hown.alloc _) ⟨wr.heap.size, 0, none⟩ 1 c cs.toList hx (by simp [hcs]) ?_ h1 ?_ ?_ (by simp; omega) ?_
  · intro j u hu
    have hadd : (⟨wr.heap.size, 0, none⟩ : Addr).add j = ⟨wr.heap.size, j, none⟩ := by unfold Addr.add; split <;> simp_all
    rw [hadd, hnew.cell]
    simpa using hu
  · simp only [maxLen]; omega
  · have : (n + 1) * bytes ≤ 100000001 * 1000 := Nat.mul_le_mul (by omega) hby
    omega
  · intro v' w' hown' hg _
    refine h v' w' hown' (fun a' ha hB => ?_) (fun g t' ds hb hlt => ?_)
    · exact (ha.alloc _).grown (hown.alloc _) hB hg
    · exact (hb.alloc _).grown (hown.alloc _) hlt hg
/-- the same, where the new block's number is spelled otherwise -/
theorem wpList_app1g {ops : Array Oper} {rest : List Oper} {o : Oper} {a : Act} {Q : Exit → Act → World → Prop} (wr : World) (cs : Array Value) (e : TypeId) (hgd : o.guard = none) (s x : Operand) (t : TypeId)
    (ho : o.op = .call { callee := .builtin .append, args := #[s, x], argTypes := #[t, t] })
    (z : Value) (size bytes : Nat) (ht : P.underlying t = some (.slice e)) (hinfo : (P.info? e).map (fun i => (i.zero, i.size, i.bytes)) = some (some z, size, bytes)) (hzs : z.cells.size = size) (hsz : 0 < size) (hby : bytes ≤ 1000)
    (B : Nat) (v : Value) (n : Nat) (xs : List Value) (hs : a.eval s = v) (hown : wr.ownsRow B e size v n xs)
    (c gA : Nat) (hx : a.eval x = .slice (some ⟨gA, 0, none⟩) 1 c) (hgA : wr.heap.size = gA) (hcs : cs.size = size) (h1 : ∀ u ∈ cs.toList, u.oneCell' = true) (hn : n ≤ 100000000) (hbase : B ≤ wr.heap.size)
    (h : ∀ v' w', w'.ownsRow B e size v' (n + 1) (xs ++ cs.toList) → (∀ a', Ext a' wr → a'.heap.size ≤ B → Ext a' w') → (∀ g t' ds, Blk wr g t' ds → g < B → Blk w' g t' ds) → wpList P ops Q rest (a.put o.dst v') w') :
    wpList P ops Q (o :: rest) a (wr.alloc (.cells cs e)) :=
  wpList_app1 wr cs e hgd s x t ho z size bytes ht hinfo hzs hsz hby B v n xs hs hown c (by rw [hgA]; exact hx) hcs h1 hn hbase h
end
/-! ### strings.Join -/
end Go.Proofs.YtghhjlcbcojcnaaGreatDoor

namespace Go.Proofs.YtghhjlcbcojcnaaGreatDoor
open Go.RowKit

theorem isRow_any (s : ByteArray) (w : World) (hg : Good w) (hs : s.size ≤ 2097152) :
    Calls Tryz.prog 174 #[.string s] w fun e w' => e = .returned (.bool (rowL (bs s))) ∧ w = w' := by
  go_enter Tryz.func174, Tryz.ntmps174
  go_wp2_with (go_at_call 85; refine (contains_any 32 s _ hg hs).mono ?_; rintro e w' ⟨rfl, rfl⟩)
  go_ret
  exact ⟨ret_bool (by simp [rowL]), rfl⟩
theorem parse_val {s b : ByteArray} (hb : bs b = (parseV (bs s)).1.2.2.2) : (⟨(parseV (bs s)).1.2.2.2.toArray⟩ : ByteArray) = b := by rw [← hb, mk_bs]
/-- ver.Parse -/
theorem Parse_x (s : ByteArray) (w : World) (hg : GoodN w) (hs : s.size ≤ 2097152) :
    Calls Tryz.prog 37 #[.string s] w fun e w' => ∃ v r, pV (bs s) = (v, r) ∧ e = .returned (.tuple #[verV v, .int .i64 r]) ∧ v.a.size ≤ s.size ∧ Ext w w' :=
  (Parse_any s w hg hs).mono fun _ _ ⟨b, hp, hb, hz, hx⟩ => by
    rw [bs_length] at hz
    refine ⟨⟨(parseV (bs s)).1.1, (parseV (bs s)).1.2.1, (parseV (bs s)).1.2.2.1, b⟩, (parseV (bs s)).2, ?_, hp, hz, hx⟩
    unfold pV
    rw [parse_val hb]
/-- ver.Next, outref2.NextOf -/
theorem Next_x (v : V4) (part : Int) (w : World) (hg : Good w) (hs : v.a.size ≤ 2097152) :
    Calls Tryz.prog 25 #[verV v, .int .i64 part] w fun e w' => ∃ x y z r, nV v part = (⟨x, y, z, ⟨#[]⟩⟩, r) ∧ e = .returned (.tuple #[verV ⟨x, y, z, ⟨#[]⟩⟩, .int .i64 r]) ∧ Ext w w' :=
  (Next_any v.a1 v.a2 v.a3 part v.a w hg hs).mono fun _ _ ⟨h, hx⟩ => ⟨_, _, _, _, rfl, h, hx⟩
set_option maxHeartbeats 1000000 in
theorem wrong_any (s : ByteArray) (w : World) (hg : GoodN w) (hs : s.size ≤ 2097152) :
    Calls Tryz.prog 113 #[.string s] w fun e w' => e = .returned (.bool (wrongL (bs s))) ∧ Ext w w' := by
  go_enter Tryz.func113, Tryz.ntmps113
  go_wp2_with fail
  refine (Parse_x s _ hg hs).mono ?_
  rintro e w1 ⟨⟨x, y, z, b⟩, r, hp, rfl, _, hx1⟩
  have HP := Lib.hid hp
  clear hp
  by_cases h8 : r = 8
  · subst h8
    go_wp2
    go_ret
    exact ⟨ret_bool (by unfold wrongL; rw [HP.out]; rfl), hx1.alloc _⟩
  · have H8 := Lib.hid h8
    have hb : (r == 8) = false := by rw [beq_eq_false_iff_ne]; exact h8
    go_wp2
    go_ret
    exact ⟨ret_bool (by unfold wrongL; rw [HP.out]; exact (decide_eq_false H8.out).symm), hx1.alloc _⟩

/-! ### Texts -/
end Go.Proofs.YtghhjlcbcojcnaaGreatDoor

namespace Go.Proofs.YtghhjlcbcojcnaaGreatDoor
open Go.RowKit

end Go.Proofs.YtghhjlcbcojcnaaGreatDoor
