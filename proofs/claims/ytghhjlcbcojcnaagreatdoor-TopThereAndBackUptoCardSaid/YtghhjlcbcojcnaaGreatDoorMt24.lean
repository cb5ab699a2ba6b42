/- Contracts of ver.within, names, has, Has. Contracts of ver.has, Has. Contracts of ver.Has, ranges. Versions in a slice anywhere in memory; outref2.VersionError over them. Versions among the arguments: one by value, and slices of them. Plain law: strictly ordered lists with the same members are one list; what a condition uses. Plain law: the value of a key among ordered settings. -/
import Derived.Test.YtghhjlcbcojcnaaGreatDoorMt23
import Derived.Test.YtghhjlcbcojcnaaGreatDoorMt09
import Derived.Test.YtghhjlcbcojcnaaGreatDoorMt13
import Derived.Test.YtghhjlcbcojcnaaGreatDoorMt20
import Derived.Test.YtghhjlcbcojcnaaGreatDoorMt21
import Derived.Sort.Walk0

namespace Go.Proofs.YtghhjlcbcojcnaaGreatDoor
open Go.RowKit

theorem ge_not (x : Int) : (!decide (0 ≤ x)) = decide (x < 0) := by
  rw [Bool.eq_iff_iff]; simp
set_option maxHeartbeats 4000000 in
theorem within_any (s : Sp) (v : V4) (w : World) (hg : Good w) (h1 : s.f.a.size ≤ 2097152) (h2 : s.t.a.size ≤ 2097152) (h3 : v.a.size ≤ 2097152) :
    Calls Tryz.prog 196 #[spV s, verV v] w fun e w' => e = .returned (.bool (insideL s v)) ∧ Ext w w' := by
  obtain ⟨hf, ht, ⟨f1, f2, f3, fa⟩, ⟨t1, t2, t3, ta⟩⟩ := s
  obtain ⟨v1, v2, v3, va⟩ := v
  dsimp only at h1 h2 h3
  have cF := fun W (h : Ext w W) => Order_any v1 v2 v3 f1 f2 f3 va fa W (hg.ext h) h3 h1
  have cT := fun W (h : Ext w W) => Order_any v1 v2 v3 t1 t2 t3 va ta W (hg.ext h) h3 h2
  have hi : insideL ⟨hf, ht, ⟨f1, f2, f3, fa⟩, ⟨t1, t2, t3, ta⟩⟩ ⟨v1, v2, v3, va⟩ = (!(hf && decide (orderL v1 v2 v3 (bs va) f1 f2 f3 (bs fa) < 0)) && !(ht && decide (0 ≤ orderL v1 v2 v3 (bs va) t1 t2 t3 (bs ta)))) := rfl
  rw [hi]
  generalize orderL v1 v2 v3 (bs va) f1 f2 f3 (bs fa) = OF at *
  generalize orderL v1 v2 v3 (bs va) t1 t2 t3 (bs ta) = OT at *
  have CF := Lib.hid cF; have CT := Lib.hid cT
  clear cF cT hi
  cases hf
  · cases ht
    · go_enter Tryz.func196, Tryz.ntmps196
      go_wp2
      go_ret
      exact ⟨rfl, (by repeat (first | with_reducible exact Ext.refl _ | with_reducible assumption | with_reducible apply Ext.drewN | with_reducible apply Ext.drew | with_reducible apply Ext.alloc | exact Ext.refl _ | assumption | apply Ext.drewN | apply Ext.drew | apply Ext.alloc))⟩
    · go_enter Tryz.func196, Tryz.ntmps196
      go_wp2_with fail
      refine (CT.out _ (by repeat (first | with_reducible exact Ext.refl _ | with_reducible assumption | with_reducible apply Ext.drewN | with_reducible apply Ext.drew | with_reducible apply Ext.alloc | exact Ext.refl _ | assumption | apply Ext.drewN | apply Ext.drew | apply Ext.alloc))).mono ?_
      rintro e w1 ⟨rfl, hx1⟩
      go_wp2
      go_ret
      refine ⟨ret_bool ?_, Ext.trans (by repeat (first | with_reducible exact Ext.refl _ | with_reducible assumption | with_reducible apply Ext.drewN | with_reducible apply Ext.drew | with_reducible apply Ext.alloc | exact Ext.refl _ | assumption | apply Ext.drewN | apply Ext.drew | apply Ext.alloc)) hx1⟩
      simp [ge_not]
  · by_cases hF : 0 ≤ OF
    · have hF2 : ¬ OF < 0 := by omega
      have HF := Lib.hid hF2
      clear hF2
      cases ht
      · go_enter Tryz.func196, Tryz.ntmps196
        go_wp2_with fail
        refine (CF.out _ (by repeat (first | with_reducible exact Ext.refl _ | with_reducible assumption | with_reducible apply Ext.drewN | with_reducible apply Ext.drew | with_reducible apply Ext.alloc | exact Ext.refl _ | assumption | apply Ext.drewN | apply Ext.drew | apply Ext.alloc))).mono ?_
        rintro e w1 ⟨rfl, hx1⟩
        have b1 := ((Blk.new w 145 #[.bool true, .bool false, .int .i64 f1, .int .i64 f2, .int .i64 f3, .string fa, .int .i64 t1, .int .i64 t2, .int .i64 t3, .string ta]).alloc (.cells #[.int .i64 v1, .int .i64 v2, .int .i64 v3, .string va] 35)).ext hx1
        have c1 := b1.cell
        have l1 := b1.lt
        go_wp2
        go_ret
        refine ⟨ret_bool ?_, Ext.trans (by repeat (first | with_reducible exact Ext.refl _ | with_reducible assumption | with_reducible apply Ext.drewN | with_reducible apply Ext.drew | with_reducible apply Ext.alloc | exact Ext.refl _ | assumption | apply Ext.drewN | apply Ext.drew | apply Ext.alloc)) hx1⟩
        simp [HF.out]
      · go_enter Tryz.func196, Tryz.ntmps196
        go_wp2_with fail
        refine (CF.out _ (by repeat (first | with_reducible exact Ext.refl _ | with_reducible assumption | with_reducible apply Ext.drewN | with_reducible apply Ext.drew | with_reducible apply Ext.alloc | exact Ext.refl _ | assumption | apply Ext.drewN | apply Ext.drew | apply Ext.alloc))).mono ?_
        rintro e w1 ⟨rfl, hx1⟩
        have b1 := ((Blk.new w 145 #[.bool true, .bool true, .int .i64 f1, .int .i64 f2, .int .i64 f3, .string fa, .int .i64 t1, .int .i64 t2, .int .i64 t3, .string ta]).alloc (.cells #[.int .i64 v1, .int .i64 v2, .int .i64 v3, .string va] 35)).ext hx1
        have b2 := (Blk.new (w.alloc (.cells #[.bool true, .bool true, .int .i64 f1, .int .i64 f2, .int .i64 f3, .string fa, .int .i64 t1, .int .i64 t2, .int .i64 t3, .string ta] 145)) 35 #[.int .i64 v1, .int .i64 v2, .int .i64 v3, .string va]).ext hx1
        rw [World.size_alloc] at b2
        have c1 := b1.cell; have c2 := b2.cell
        have l1 := b1.lt; have l2 := b2.lt
        have hxa : Ext w w1 := Ext.trans (by repeat (first | with_reducible exact Ext.refl _ | with_reducible assumption | with_reducible apply Ext.drewN | with_reducible apply Ext.drew | with_reducible apply Ext.alloc | exact Ext.refl _ | assumption | apply Ext.drewN | apply Ext.drew | apply Ext.alloc)) hx1
        go_wp2_with fail
        refine (CT.out _ hxa).mono ?_
        rintro e w2 ⟨rfl, hx2⟩
        go_wp2
        go_ret
        refine ⟨ret_bool ?_, hxa.trans hx2⟩
        have e : decide (OF < 0) = false := decide_eq_false (by have := HF.out; omega)
        simp [e, ge_not]
    · have hF2 : OF < 0 := by omega
      have HF := Lib.hid hF2
      clear hF2
      go_enter Tryz.func196, Tryz.ntmps196
      go_wp2_with fail
      refine (CF.out _ (by repeat (first | with_reducible exact Ext.refl _ | with_reducible assumption | with_reducible apply Ext.drewN | with_reducible apply Ext.drew | with_reducible apply Ext.alloc | exact Ext.refl _ | assumption | apply Ext.drewN | apply Ext.drew | apply Ext.alloc))).mono ?_
      rintro e w1 ⟨rfl, hx1⟩
      go_wp2
      go_ret
      refine ⟨ret_bool ?_, Ext.trans (by repeat (first | with_reducible exact Ext.refl _ | with_reducible assumption | with_reducible apply Ext.drewN | with_reducible apply Ext.drew | with_reducible apply Ext.alloc | exact Ext.refl _ | assumption | apply Ext.drewN | apply Ext.drew | apply Ext.alloc)) hx1⟩
      simp
/-- an end that names an early version with the same numbers -/
def nearL (h : Bool) (e v : V4) : Bool := h && !decide (e.a.size = 0) && decide (e.a1 = v.a1) && decide (e.a2 = v.a2) && decide (e.a3 = v.a3)
set_option maxHeartbeats 4000000 in
theorem names_any (h : Bool) (e v : V4) (w : World) :
    Calls Tryz.prog 197 #[.bool h, verV e, verV v] w fun r w' => r = .returned (.bool (nearL h e v)) ∧ Ext w w' := by
  obtain ⟨e1, e2, e3, ea⟩ := e
  obtain ⟨v1, v2, v3, va⟩ := v
  have hN : nearL h ⟨e1, e2, e3, ea⟩ ⟨v1, v2, v3, va⟩ = (h && !decide (ea.size = 0) && decide (e1 = v1) && decide (e2 = v2) && decide (e3 = v3)) := rfl
  rw [hN]
  clear hN
  cases h
  · go_enter Tryz.func197, Tryz.ntmps197
    go_wp2
    go_ret
    exact ⟨rfl, (by repeat (first | with_reducible exact Ext.refl _ | with_reducible assumption | with_reducible apply Ext.drewN | with_reducible apply Ext.drew | with_reducible apply Ext.alloc | exact Ext.refl _ | assumption | apply Ext.drewN | apply Ext.drew | apply Ext.alloc))⟩
  rcases Nat.eq_zero_or_pos ea.size with h0 | h0
  · have hl := emp_of_size h0
    have hb := emp_bool h0
    have H0 := Lib.hid h0
    clear h0
    go_enter Tryz.func197, Tryz.ntmps197
    go_wp2
    go_ret
    refine ⟨ret_bool ?_, (by repeat (first | with_reducible exact Ext.refl _ | with_reducible assumption | with_reducible apply Ext.drewN | with_reducible apply Ext.drew | with_reducible apply Ext.alloc | exact Ext.refl _ | assumption | apply Ext.drewN | apply Ext.drew | apply Ext.alloc))⟩
    simp [H0.out]
  · have hl := nemp_of_size h0
    have hb := nemp_bool h0
    have H0 := Lib.hid (show ¬ ea.size = 0 by omega)
    by_cases q1 : e1 = v1
    · subst q1
      by_cases q2 : e2 = v2
      · subst q2
        go_enter Tryz.func197, Tryz.ntmps197
        go_wp2
        go_ret
        refine ⟨ret_bool ?_, (by repeat (first | with_reducible exact Ext.refl _ | with_reducible assumption | with_reducible apply Ext.drewN | with_reducible apply Ext.drew | with_reducible apply Ext.alloc | exact Ext.refl _ | assumption | apply Ext.drewN | apply Ext.drew | apply Ext.alloc))⟩
        simp [H0.out]
        by_cases q3 : e3 = v3 <;> simp [q3]
      · go_enter Tryz.func197, Tryz.ntmps197
        go_wp2
        go_ret
        refine ⟨ret_bool ?_, (by repeat (first | with_reducible exact Ext.refl _ | with_reducible assumption | with_reducible apply Ext.drewN | with_reducible apply Ext.drew | with_reducible apply Ext.alloc | exact Ext.refl _ | assumption | apply Ext.drewN | apply Ext.drew | apply Ext.alloc))⟩
        simp [q2]
    · go_enter Tryz.func197, Tryz.ntmps197
      go_wp2
      go_ret
      refine ⟨ret_bool ?_, (by repeat (first | with_reducible exact Ext.refl _ | with_reducible assumption | with_reducible apply Ext.drewN | with_reducible apply Ext.drew | with_reducible apply Ext.alloc | exact Ext.refl _ | assumption | apply Ext.drewN | apply Ext.drew | apply Ext.alloc))⟩
      simp [q1]
end Go.Proofs.YtghhjlcbcojcnaaGreatDoor

namespace Go.Proofs.YtghhjlcbcojcnaaGreatDoor
open Go.RowKit

/-- whether a span of so many has a version -/
def hitL (n : Nat) (s : Sp) (v : V4) : Bool := insideL s v && (decide (v.a.size = 0) || (decide (n = 1) && !s.hf && !s.ht) || nearL s.hf s.f v || nearL s.ht s.t v)
/-- ver.has -/
def hasL (l : List Sp) (v : V4) : Bool := l.any fun s => hitL l.length s v
theorem hasL_yes {l : List Sp} {v : V4} {k : Nat} (h : k < l.length) (e : hitL l.length l[k] v = true) : hasL l v = true := List.any_eq_true.2 ⟨_, List.getElem_mem h, e⟩
theorem hasL_no {l : List Sp} {v : V4} (h : ∀ j (hj : j < l.length), hitL l.length l[j] v = false) : hasL l v = false := by
  rw [hasL, List.any_eq_false]
  intro s hs
  obtain ⟨k, hk, rfl⟩ := List.mem_iff_getElem.1 hs
  rw [h k hk]
  decide
set_option maxHeartbeats 8000000 in
set_option maxRecDepth 100000 in
theorem has_any (A : Option Addr) (n c : Nat) (l : List Sp) (v : V4) (w : World) (hg : Good w) (hn : l.length = n) (hr : RdS w A l) (hs : SmallS l) (hl : n ≤ 2097152) (hv : v.a.size ≤ 2097152) :
    Calls Tryz.prog 130 #[.agg #[.slice A n c], verV v] w fun e w' => e = .returned (.bool (hasL l v)) ∧ Ext w w' := by
  have HN := Lib.hid hn
  clear hn
  obtain ⟨v1, v2, v3, va⟩ := v
  dsimp only at hv
  generalize hV : (⟨v1, v2, v3, va⟩ : V4) = V at *
  have HV := Lib.hid hV
  rcases Nat.eq_zero_or_pos n with h0 | h0
  · subst h0
    have hR : hasL l V = false := by rw [List.eq_nil_of_length_eq_zero HN.out]; rfl
    have HR := Lib.hid hR
    clear hR hV
    rw [HR.out, ← HV.out]
    dsimp only [verV]
    go_enter Tryz.func130, Tryz.ntmps130
    go_wp2
    go_loop [11] (fun i => i = .int .i64 0) (fun i => 0)
    case atStart => rfl
    case round =>
      subst hrel
      go_wp2
      go_ret
      exact ⟨rfl, (by repeat (first | with_reducible exact Ext.refl _ | with_reducible assumption | with_reducible apply Ext.drewN | with_reducible apply Ext.drew | with_reducible apply Ext.alloc | exact Ext.refl _ | assumption | apply Ext.drewN | apply Ext.drew | apply Ext.alloc))⟩
  obtain ⟨b, o, rfl, hX⟩ := hr (fun e => by have := HN.out; rw [e] at this; simp at this; omega)
  clear hr hV
  rw [← HV.out]
  dsimp only [verV]
  rw [HV.out]
  have hbR := (Blk.new w 51 #[.slice (some ⟨b, o, none⟩) n c]).alloc (.cells #[.int .i64 v1, .int .i64 v2, .int .i64 v3, .string va] 35)
  have hbV := Blk.new (w.alloc (.cells #[.slice (some ⟨b, o, none⟩) n c] 51)) 35 #[.int .i64 v1, .int .i64 v2, .int .i64 v3, .string va]
  rw [World.size_alloc] at hbV
  have hx0 : Ext w ((w.alloc (.cells #[.slice (some ⟨b, o, none⟩) n c] 51)).alloc (.cells #[.int .i64 v1, .int .i64 v2, .int .i64 v3, .string va] 35)) := ((Ext.refl w).alloc _).alloc _
  obtain ⟨w0, hw0⟩ : ∃ w0, w0 = (w.alloc (.cells #[.slice (some ⟨b, o, none⟩) n c] 51)).alloc (.cells #[.int .i64 v1, .int .i64 v2, .int .i64 v3, .string va] 35) := ⟨_, rfl⟩
  rw [← hw0] at hbR hbV hx0
  have HW0 := Lib.hid hw0
  clear hw0
  go_enter Tryz.func130, Tryz.ntmps130
  go_wp2
  go_loopw [11] (fun i wr => ∃ k : Nat, k ≤ n ∧ i = .int .i64 k ∧ (∀ j (hj : j < l.length), j < k → hitL n l[j] V = false) ∧ Ext w0 wr) (fun i _ => n - (intOf i).toNat)
  case atStart => exact ⟨0, Nat.zero_le _, rfl, fun j _ h => absurd h (Nat.not_lt_zero _), by rw [HW0.out]; exact Ext.refl _⟩
  case round =>
    obtain ⟨k, hk, rfl, hall, hxr⟩ := hrel
    have HALL := Lib.hid hall
    clear hall
    have hxw := hx0.trans hxr
    by_cases hlt : k < n
    · have hk1 : k < l.length := by rw [HN.out]; exact hlt
      have X := hX.ext hxw
      have x0 := X.c0 k hk1; have x1 := X.c1 k hk1; have x2 := X.c2 k hk1; have x3 := X.c3 k hk1; have x4 := X.c4 k hk1
      have x5 := X.c5 k hk1; have x6 := X.c6 k hk1; have x7 := X.c7 k hk1; have x8 := X.c8 k hk1; have x9 := X.c9 k hk1
      have hz1 := hs l[k] (List.getElem_mem hk1)
      have HYES := Lib.hid (fun e => hasL_yes (v := V) hk1 e)
      have HNEXT := Lib.hid (show hitL n l[k] V = false → ∀ j (hj : j < l.length), j < k + 1 → hitL n l[j] V = false from fun e j hj h => by
        by_cases hjk : j = k
        · subst hjk; exact e
        · exact HALL.out j hj (by omega))
      rw [HN.out] at HYES
      have cW := fun W (h : Ext w W) => within_any l[k] V W (hg.ext h) hz1.1 hz1.2 (by rw [← HV.out]; exact hv)
      have cN1 := fun W => names_any l[k].hf l[k].f V W
      have cN2 := fun W => names_any l[k].ht l[k].t V W
      have hH : hitL n l[k] V = (insideL l[k] V && (decide (V.a.size = 0) || (decide (n = 1) && !l[k].hf && !l[k].ht) || nearL l[k].hf l[k].f V || nearL l[k].ht l[k].t V)) := rfl
      generalize hitL n l[k] V = H at *
      generalize insideL l[k] V = I at *
      generalize nearL l[k].hf l[k].f V = N1 at *
      generalize nearL l[k].ht l[k].t V = N2 at *
      generalize l[k] = s at *
      obtain ⟨hf, ht, ⟨f1, f2, f3, fa⟩, ⟨t1, t2, t3, ta⟩⟩ := s
      dsimp only at x0 x1 x2 x3 x4 x5 x6 x7 x8 x9 hz1 cN1 cN2 hH
      rw [← HV.out] at cW cN1 cN2 hH
      dsimp only [verV, spV] at cW cN1 cN2 hH
      have CW := Lib.hid cW; have CN1 := Lib.hid cN1; have CN2 := Lib.hid cN2; have HH := Lib.hid hH
      clear cW cN1 cN2 hH X hz1
      have bR := hbR.ext hxr; have bV := hbV.ext hxr
      have cR := bR.cell; have cV := bV.cell
      have lR := bR.lt; have lV := bV.lt
      have hxs : Ext wr (wr.alloc (.cells #[.bool hf, .bool ht, .int .i64 f1, .int .i64 f2, .int .i64 f3, .string fa, .int .i64 t1, .int .i64 t2, .int .i64 t3, .string ta] 145)) := (Ext.refl wr).alloc _
      have bS := Blk.new wr 145 #[.bool hf, .bool ht, .int .i64 f1, .int .i64 f2, .int .i64 f3, .string fa, .int .i64 t1, .int .i64 t2, .int .i64 t3, .string ta]
      have fin1 : ∀ W, Ext (wr.alloc (.cells #[.bool hf, .bool ht, .int .i64 f1, .int .i64 f2, .int .i64 f3, .string fa, .int .i64 t1, .int .i64 t2, .int .i64 t3, .string ta] 145)) W → Ext w0 W := fun W h => (hxr.trans hxs).trans h
      have FIN := Lib.hid fin1
      clear fin1
      obtain ⟨D, B, hD, hB, hways⟩ : ∃ D B : Bool, (decide (n = 1) && !hf && !ht) = D ∧ ((n : Int) == 1) = B ∧ ((B = false ∧ D = false) ∨ (B = true ∧ hf = true ∧ D = false) ∨ (B = true ∧ hf = false ∧ ht = true ∧ D = false) ∨ (B = true ∧ hf = false ∧ ht = false ∧ D = true)) := by
        refine ⟨_, _, rfl, rfl, ?_⟩
        by_cases h1 : n = 1
        · have e : ((n : Int) == 1) = true := by rw [beq_iff_eq]; omega
          rw [e]
          cases hf <;> cases ht <;> simp [h1]
        · have e : ((n : Int) == 1) = false := by rw [beq_eq_false_iff_ne]; omega
          exact .inl ⟨e, by simp [h1]⟩
      rw [hD] at HH
      clear hD
      rcases hways with ⟨rfl, rfl⟩ | ⟨rfl, rfl, rfl⟩ | ⟨rfl, rfl, rfl, rfl⟩ | ⟨rfl, rfl, rfl, rfl⟩
      all_goals
        go_wp2_with fail
        refine (CW.out _ (hxw.trans hxs)).mono ?_
        rintro e w1 ⟨rfl, hx1⟩
        have cS1 := (bS.ext hx1).cell; have lS1 := (bS.ext hx1).lt
        have cV1 := ((bV.ext hxs).ext hx1).cell; have lV1 := ((bV.ext hxs).ext hx1).lt
        cases I
        · have HF := Lib.hid (HNEXT.out (by rw [HH.out]; simp))
          go_wp2
          go_roundw
          case rel => exact ⟨k + 1, by omega, by go_num, HF.out, FIN.out _ hx1⟩
          case measure => simp [intOf]; omega
        rcases Nat.eq_zero_or_pos va.size with he | he
        · have HF := Lib.hid (HYES.out (by rw [HH.out]; simp [he]))
          have hl := emp_of_size he
          have hb := emp_bool he
          clear he
          go_wp2
          go_ret
          exact ⟨ret_bool HF.out.symm, (hx0.trans (FIN.out _ hx1))⟩
        have hl := nemp_of_size he
        have hb := nemp_bool he
        first
        | (have HF := Lib.hid (HYES.out (by rw [HH.out]; simp))
           go_wp2
           go_ret
           exact ⟨ret_bool HF.out.symm, (hx0.trans (FIN.out _ hx1))⟩)
        | (have HE := Lib.hid (show decide (va.size = 0) = false from decide_eq_false (by omega))
           go_wp2_with fail
           refine (CN1.out _).mono ?_
           rintro e w2 ⟨rfl, hx2⟩
           have cS2 := ((bS.ext hx1).ext hx2).cell; have lS2 := ((bS.ext hx1).ext hx2).lt
           have cV2 := (((bV.ext hxs).ext hx1).ext hx2).cell; have lV2 := (((bV.ext hxs).ext hx1).ext hx2).lt
           cases N1
           · go_wp2_with fail
             refine (CN2.out _).mono ?_
             rintro e w3 ⟨rfl, hx3⟩
             cases N2
             · have HF := Lib.hid (HNEXT.out (by rw [HH.out, HE.out]; rfl))
               go_wp2
               go_roundw
               case rel => exact ⟨k + 1, by omega, by go_num, HF.out, FIN.out _ ((hx1.trans hx2).trans hx3)⟩
               case measure => simp [intOf]; omega
             · have HF := Lib.hid (HYES.out (by rw [HH.out]; simp))
               go_wp2
               go_ret
               exact ⟨ret_bool HF.out.symm, (hx0.trans (FIN.out _ ((hx1.trans hx2).trans hx3)))⟩
           · have HF := Lib.hid (HYES.out (by rw [HH.out]; simp))
             go_wp2
             go_ret
             exact ⟨ret_bool HF.out.symm, (hx0.trans (FIN.out _ (hx1.trans hx2)))⟩)
    · obtain rfl : k = n := by omega
      have HR := Lib.hid (hasL_no (l := l) (v := V) fun j hj => by rw [HN.out]; exact HALL.out j hj (by have := HN.out; omega))
      go_wp2
      go_ret
      exact ⟨ret_bool HR.out.symm, hxw⟩
end Go.Proofs.YtghhjlcbcojcnaaGreatDoor

namespace Go.Proofs.YtghhjlcbcojcnaaGreatDoor
open Go.RowKit

/-- the error of a range and a version -/
def hasE (l : List Sp) (v : V4) : Int := firstI [rngErr l, v.err]
def hasR (l : List Sp) (v : V4) : Bool := decide (hasE l v = 0) && hasL l v
theorem hasE_a {l : List Sp} {v : V4} (h : ¬ rngErr l = 0) : hasE l v = rngErr l ∧ hasR l v = false := by
  have e : hasE l v = rngErr l := by rw [hasE, firstI, if_neg h]
  exact ⟨e, by rw [hasR, e, decide_eq_false h]; rfl⟩
theorem hasE_b {l : List Sp} {v : V4} (h : rngErr l = 0) (h2 : ¬ v.err = 0) : hasE l v = v.err ∧ hasR l v = false := by
  have e : hasE l v = v.err := by rw [hasE, firstI, if_pos h, firstI, if_neg h2]
  exact ⟨e, by rw [hasR, e, decide_eq_false h2]; rfl⟩
theorem hasE_c {l : List Sp} {v : V4} (h : rngErr l = 0) (h2 : v.err = 0) : hasE l v = 0 ∧ hasR l v = hasL l v := by
  have e : hasE l v = 0 := by rw [hasE, firstI, if_pos h, firstI, if_pos h2, firstI]
  exact ⟨e, by rw [hasR, e]; rfl⟩
set_option maxHeartbeats 4000000 in
theorem Has_any (A : Option Addr) (n c : Nat) (l : List Sp) (v : V4) (w : World) (hg : Good w) (hn : l.length = n) (hr : RdS w A l) (hs : SmallS l) (hl : n ≤ 2097152) (hv : v.a.size ≤ 2097152) :
    Calls Tryz.prog 52 #[.agg #[.slice A n c], verV v] w fun e w' => e = .returned (.tuple #[.bool (hasR l v), .int .i64 (hasE l v)]) ∧ Ext w w' := by
  have cR := fun W (h : Ext w W) => CheckRange_any A n c l W (hg.ext h) hn (hr.ext h) hs hl
  have cH := fun W (h : Ext w W) => has_any A n c l v W (hg.ext h) hn (hr.ext h) hs hl hv
  have cV := fun W (h : Ext w W) => Check_any v.a1 v.a2 v.a3 v.a W (hg.ext h) hv
  rw [show checkV v.a1 v.a2 v.a3 (bs v.a) = v.err from rfl] at cV
  have hA := hasE_a (l := l) (v := v)
  have hB := hasE_b (l := l) (v := v)
  have hC := hasE_c (l := l) (v := v)
  generalize hasR l v = HR at *
  generalize hasE l v = HE at *
  generalize hasL l v = HL at *
  generalize rngErr l = E1 at *
  generalize v.err = E2 at *
  obtain ⟨v1, v2, v3, va⟩ := v
  dsimp only [verV] at cH cV ⊢
  have CR := Lib.hid cR; have CH := Lib.hid cH; have CV := Lib.hid cV
  have HA := Lib.hid hA; have HB := Lib.hid hB; have HC := Lib.hid hC
  clear cR cH cV hA hB hC hn hr hs
  have bR := (Blk.new w 51 #[.slice A n c]).alloc (.cells #[.int .i64 v1, .int .i64 v2, .int .i64 v3, .string va] 35)
  have bV := Blk.new (w.alloc (.cells #[.slice A n c] 51)) 35 #[.int .i64 v1, .int .i64 v2, .int .i64 v3, .string va]
  rw [World.size_alloc] at bV
  go_enter Tryz.func52, Tryz.ntmps52
  go_wp2_with fail
  refine (CR.out _ (by repeat (first | with_reducible exact Ext.refl _ | with_reducible assumption | with_reducible apply Ext.drewN | with_reducible apply Ext.drew | with_reducible apply Ext.alloc | exact Ext.refl _ | assumption | apply Ext.drewN | apply Ext.drew | apply Ext.alloc))).mono ?_
  rintro e w1 ⟨rfl, hx1⟩
  have hxa : Ext w w1 := Ext.trans (by repeat (first | with_reducible exact Ext.refl _ | with_reducible assumption | with_reducible apply Ext.drewN | with_reducible apply Ext.drew | with_reducible apply Ext.alloc | exact Ext.refl _ | assumption | apply Ext.drewN | apply Ext.drew | apply Ext.alloc)) hx1
  have bR1 := bR.ext hx1; have bV1 := bV.ext hx1
  have c1 := bR1.cell; have c2 := bV1.cell; have l1 := bR1.lt; have l2 := bV1.lt
  by_cases h1 : E1 = 0
  rotate_left
  · obtain ⟨e1, e2⟩ := HA.out h1
    have K1 := Lib.hid e1; have K2 := Lib.hid e2
    have hne : (E1 != 0) = true := by rw [bne_iff_ne]; exact h1
    clear e1 e2 h1
    go_wp2
    go_ret2
    exact ⟨by rw [K1.out, K2.out]; first | done | rfl, hxa⟩
  have H1 := Lib.hid h1
  rw [h1]
  clear h1
  go_wp2_with fail
  refine (CV.out _ hxa).mono ?_
  rintro e w2 ⟨rfl, hx2⟩
  have hxb := hxa.trans hx2
  have bR2 := bR1.ext hx2; have bV2 := bV1.ext hx2
  have d1 := bR2.cell; have d2 := bV2.cell; have m1 := bR2.lt; have m2 := bV2.lt
  by_cases h2 : E2 = 0
  rotate_left
  · obtain ⟨e1, e2⟩ := HB.out H1.out h2
    have K1 := Lib.hid e1; have K2 := Lib.hid e2
    have hne : (E2 != 0) = true := by rw [bne_iff_ne]; exact h2
    clear e1 e2 h2
    go_wp2
    go_ret2
    exact ⟨by rw [K1.out, K2.out]; first | done | rfl, hxb⟩
  obtain ⟨e1, e2⟩ := HC.out H1.out h2
  have K1 := Lib.hid e1; have K2 := Lib.hid e2
  rw [h2]
  clear h2 e1 e2
  go_wp2_with fail
  refine (CH.out _ hxb).mono ?_
  rintro e w3 ⟨rfl, hx3⟩
  go_wp2
  go_ret2
  exact ⟨by rw [K1.out, K2.out]; first | done | rfl, hxb.trans hx3⟩
end Go.Proofs.YtghhjlcbcojcnaaGreatDoor

namespace Go.Proofs.YtghhjlcbcojcnaaGreatDoor
open Go.RowKit

/-- versions at an address: cell by cell -/
structure VerR (w : World) (b o : Nat) (l : List V4) : Prop where
  c0 : ∀ k (h : k < l.length), w.cell? ⟨b, o + k * 4, none⟩ = some (.int .i64 l[k].a1)
  c1 : ∀ k (h : k < l.length), w.cell? ⟨b, o + k * 4 + 1, none⟩ = some (.int .i64 l[k].a2)
  c2 : ∀ k (h : k < l.length), w.cell? ⟨b, o + k * 4 + 2, none⟩ = some (.int .i64 l[k].a3)
  c3 : ∀ k (h : k < l.length), w.cell? ⟨b, o + k * 4 + 3, none⟩ = some (.string l[k].a)
theorem VerR.ext {w w' : World} {b o : Nat} {l : List V4} (h : VerR w b o l) (hx : Ext w w') : VerR w' b o l :=
  ⟨fun k hk => hx.cell (h.c0 k hk), fun k hk => hx.cell (h.c1 k hk), fun k hk => hx.cell (h.c2 k hk), fun k hk => hx.cell (h.c3 k hk)⟩
def RdV (w : World) (A : Option Addr) (l : List V4) : Prop := l ≠ [] → ∃ b o, A = some ⟨b, o, none⟩ ∧ VerR w b o l
theorem RdV.ext {w w' : World} {A : Option Addr} {l : List V4} (h : RdV w A l) (hx : Ext w w') : RdV w' A l := fun hn => by
  obtain ⟨b, o, e, k⟩ := h hn
  exact ⟨b, o, e, k.ext hx⟩
end Go.Proofs.YtghhjlcbcojcnaaGreatDoor

namespace Go.Proofs.YtghhjlcbcojcnaaGreatDoor
open Go.ChangeShapes Go.WideShapes Go.ChangeAt Go.RowKit Go.WideElems Go.Joins

set_option maxRecDepth 100000 in
/-- a version by value, of a bulk -/
theorem open_version {H : Type} {enc : TypeId × Value → H} {W : World} {base : Nat} {v : Value} {d : DataW H} {p : List MemPlace} (hv : Value.okWide Tryz.prog W .any base 35 v) (h : DataW.Trod enc Tryz.prog W 0 (fun _ => true) true 35 v d p) :
    ∃ (a1 a2 a3 : Int) (a : ByteArray), v = .agg #[.int .i64 a1, .int .i64 a2, .int .i64 a3, .string a] ∧ a.size ≤ Rows.uptoBulk d := by
  obtain ⟨cs, rfl, _⟩ := okWide_struct Tryz.underlying35 hv
  obtain ⟨fuel, hf⟩ := h
  obtain ⟨r, e, hb⟩ := opens_ver H enc W fuel _ _ hf
  refine ⟨r.a1, r.a2, r.a3, r.a, ?_, ?_⟩
  · obtain ⟨cs⟩ := cs
    simp only [Value.cells] at e
    rw [show cs = _ from e]
  · dsimp only at hb
    omega
end Go.Proofs.YtghhjlcbcojcnaaGreatDoor

namespace Go.Proofs.YtghhjlcbcojcnaaGreatDoor

theorem strict_ext {α : Type} {lt : α → α → Prop} (irr : ∀ a, ¬ lt a a) (tr : ∀ a b c, lt a b → lt b c → lt a c) : ∀ {a b : List α}, a.Pairwise lt → b.Pairwise lt → (∀ x, x ∈ a ↔ x ∈ b) → a = b
  | [], [], _, _, _ => rfl
  | [], y :: b, _, _, h => absurd ((h y).2 (by simp)) (by simp)
  | x :: a, [], _, _, h => absurd ((h x).1 (by simp)) (by simp)
  | x :: a, y :: b, ha, hb, h => by
    obtain ⟨ha1, ha2⟩ := List.pairwise_cons.1 ha
    obtain ⟨hb1, hb2⟩ := List.pairwise_cons.1 hb
    have hxy : x = y := by
      rcases List.mem_cons.1 ((h x).1 (by simp)) with e | hx
      · exact e
      · rcases List.mem_cons.1 ((h y).2 (by simp)) with e | hy
        · exact e.symm
        · exact absurd (tr _ _ _ (ha1 y hy) (hb1 x hx)) (irr x)
    subst hxy
    rw [strict_ext irr tr ha2 hb2 fun z => ⟨fun hz => ?_, fun hz => ?_⟩]
    · rcases List.mem_cons.1 ((h z).1 (by simp [hz])) with rfl | h2
      · exact absurd (ha1 _ hz) (irr _)
      · exact h2
    · rcases List.mem_cons.1 ((h z).2 (by simp [hz])) with rfl | h2
      · exact absurd (hb1 _ hz) (irr _)
      · exact h2
/-- an ordered list without its doubles -/
def oneEach {α : Type} [DecidableEq α] : List α → List α
  | [] => []
  | [a] => [a]
  | a :: b :: l => if a = b then oneEach (b :: l) else a :: oneEach (b :: l)
theorem oneEach_mem {α : Type} [DecidableEq α] : ∀ (l : List α) (x : α), x ∈ oneEach l ↔ x ∈ l
  | [], _ => Iff.rfl
  | [a], _ => Iff.rfl
  | a :: b :: l, x => by
    rw [oneEach]
    by_cases h : a = b
    · rw [if_pos h, oneEach_mem (b :: l) x]
      subst h
      simp
    · rw [if_neg h, List.mem_cons, oneEach_mem (b :: l) x, List.mem_cons (a := x) (b := a)]
theorem oneEach_strict {α : Type} [DecidableEq α] {le lt : α → α → Prop} (hlt : ∀ a b, le a b → a ≠ b → lt a b) (htr : ∀ a b c, lt a b → le b c → lt a c) : ∀ (l : List α), l.Pairwise le → (oneEach l).Pairwise lt
  | [], _ => List.Pairwise.nil
  | [a], _ => List.pairwise_singleton _ _
  | a :: b :: l, h => by
    obtain ⟨h1, h2⟩ := List.pairwise_cons.1 h
    have ih := oneEach_strict hlt htr (b :: l) h2
    rw [oneEach]
    by_cases e : a = b
    · rw [if_pos e]; exact ih
    · rw [if_neg e]
      refine List.pairwise_cons.2 ⟨fun x hx => ?_, ih⟩
      have hab := hlt a b (h1 b (by simp)) e
      rcases List.mem_cons.1 ((oneEach_mem (b :: l) x).1 hx) with rfl | hx
      · exact hab
      · exact htr a b x hab ((List.pairwise_cons.1 h2).1 x hx)

/-! ### What a condition uses -/
end Go.Proofs.YtghhjlcbcojcnaaGreatDoor

namespace Go.Proofs.YtghhjlcbcojcnaaGreatDoor

theorem strLt_irrefl (a : Str) : ¬ a < a := List.lt_irrefl a
theorem strLt_trans {a b c : Str} (h : a < b) (h2 : b < c) : a < c := List.lt_trans h h2
theorem strLt_of {a b : Str} (h : ¬ b < a) (hne : b ≠ a) : a < b := by
  by_cases h1 : a < b
  · exact h1
  · exact absurd (List.le_antisymm (List.not_lt.1 h1) (List.not_lt.1 h)) hne
/-- ordered by their keys -/
def Asc (l : List Se) : Prop := ∀ i j (hj : j < l.length) (hi : i < j), bs (l[i]'(Nat.lt_trans hi hj)).k < bs l[j].k
theorem firstI_all : ∀ {l : List Int}, firstI l = 0 → ∀ x ∈ l, x = 0
  | [], _ => by simp
  | y :: l, h => by
    unfold firstI at h
    by_cases hy : y = 0
    · rw [if_pos hy] at h
      intro x hx
      rcases List.mem_cons.1 hx with rfl | hx
      · exact hy
      · exact firstI_all h x hx
    · rw [if_neg hy] at h; exact absurd h hy
theorem seErr_asc {is : Str → Bool} {l : List Se} (h : seErr is l = 0) : Asc l := by
  have h1 : ∀ k (hk : k + 1 < l.length), bs (l[k]'(by omega)).k < bs l[k + 1].k := fun k hk => by
    have h0 := firstI_all h (seAt is l (k + 1)) (by
      rw [← seErrs_get is l (k + 1) (by rw [seErrs_length]; exact hk)]
      exact List.getElem_mem _)
    have h2 : seOne is l[k + 1] = 0 := by
      by_cases e : seOne is l[k + 1] = 0
      · exact e
      · rw [seAt_bad hk e] at h0; exact h0
    rw [seAt_gap hk h2, seGap] at h0
    by_cases hb : (Op.bytesLess l[k + 1].k.toList l[k].k.toList || l[k + 1].k.toList == l[k].k.toList) = true
    · rw [if_pos hb] at h0; cases h0
    · simp only [ByteArray.toList_eq, Proofs.bytesLess_eq, Bool.or_eq_true, decide_eq_true_eq, beq_iff_eq, not_or] at hb
      exact strLt_of hb.1 hb.2
  suffices ∀ d i (hd : i + (d + 1) < l.length), bs (l[i]'(by omega)).k < bs l[i + (d + 1)].k from fun i j hj hi => by
    obtain ⟨d, rfl⟩ : ∃ d, j = i + (d + 1) := ⟨j - i - 1, by omega⟩
    exact this d i hj
  intro d
  induction d with
  | zero => exact fun i hd => h1 i hd
  | succ d ih => exact fun i hd => strLt_trans (ih i (by omega)) (h1 (i + (d + 1)) hd)
theorem tbl_some {l : List Se} (ha : Asc l) : ∀ N, N ≤ l.length → ∀ i (_h : i < N) (hl : i < l.length), tblN l N (bs l[i].k) = some (bs l[i].v)
  | 0, _, _, h, _ => absurd h (Nat.not_lt_zero _)
  | N + 1, hN, i, h, hl => by
    rw [tblN_succ (show N < l.length by omega)]
    dsimp only
    by_cases e : i = N
    · subst e; rw [if_pos rfl]
    · have := ha i N (by omega) (by omega)
      rw [if_neg (fun e2 => by rw [e2] at this; exact strLt_irrefl _ this)]
      exact tbl_some ha N (by omega) i (by omega) hl
theorem tbl_none {l : List Se} {x : Str} : ∀ N (hN : N ≤ l.length), (∀ i (h : i < N), x ≠ bs (l[i]'(by omega)).k) → tblN l N x = none
  | 0, _, _ => rfl
  | N + 1, hN, h => by
    rw [tblN_succ (show N < l.length by omega)]
    dsimp only
    rw [if_neg (h N (by omega))]
    exact tbl_none N (by omega) fun i hi => h i (by omega)
end Go.Proofs.YtghhjlcbcojcnaaGreatDoor
