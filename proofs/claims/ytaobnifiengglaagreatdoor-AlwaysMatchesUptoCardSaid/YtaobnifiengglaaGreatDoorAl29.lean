/- Contracts of ver.has, Has. Contracts of ver.Has, ranges. Contracts of slices.ContainsFunc over spans, outref2.Inside, HasOf. -/
import Derived.Test.YtaobnifiengglaaGreatDoorAl28
import Derived.Test.YtaobnifiengglaaGreatDoorAl10

namespace Go.Proofs.YtaobnifiengglaaGreatDoor
open Go.RowKit

/-- whether a span of so many has a version -/
def hitL (n : Nat) (s : Sp) (v : V4) : Bool := insideL s v && (decide (v.a.size = 0) || (decide (n = 1) && !s.hf && !s.ht) || nearL s.hf s.f v || nearL s.ht s.t v)
/-- ver.has -/
def hasL (l : List Sp) (v : V4) : Bool := l.any fun s => hitL l.length s v
theorem hasL_yes {l : List Sp} {v : V4} {k : Nat} (h : k < l.length) (e : hitL l.length l[k] v = true) : hasL l v = true := List.any_eq_true.2 ⟨_, List.getElem_mem h, e⟩
theorem hasL_no {l : List Sp} {v : V4} (h : ∀ j (hj : j < l.length), hitL l.length l[j] v = false) : hasL l v = false := by
  rw [hasL, List.any_eq_false]
  intro s hs
  obtain ⟨k, hk, rfl⟩ := List.mem_iff_getElem.1 hs
  rw [h k hk]
  decide
set_option maxHeartbeats 8000000 in
set_option maxRecDepth 100000 in
theorem has_any (A : Option Addr) (n c : Nat) (l : List Sp) (v : V4) (w : World) (hg : Good w) (hn : l.length = n) (hr : RdS w A l) (hs : SmallS l) (hl : n ≤ 2097152) (hv : v.a.size ≤ 2097152) :
    Calls Tryz.prog 123 #[.agg #[.slice A n c], verV v] w fun e w' => e = .returned (.bool (hasL l v)) ∧ Ext w w' := by
  have HN := Lib.hid hn
  clear hn
  obtain ⟨v1, v2, v3, va⟩ := v
  dsimp only at hv
  generalize hV : (⟨v1, v2, v3, va⟩ : V4) = V at *
  have HV := Lib.hid hV
  rcases Nat.eq_zero_or_pos n with h0 | h0
  · subst h0
    have hR : hasL l V = false := by rw [List.eq_nil_of_length_eq_zero HN.out]; rfl
    have HR := Lib.hid hR
    clear hR hV
    rw [HR.out, ← HV.out]
    dsimp only [verV]
    go_enter Tryz.func123, Tryz.ntmps123
    go_wp2
    go_loop [11] (fun i => i = .int .i64 0) (fun i => 0)
    case atStart => rfl
    case round =>
      subst hrel
      go_wp2
      go_ret
      exact ⟨rfl, (by repeat (first | with_reducible exact Ext.refl _ | with_reducible assumption | with_reducible apply Ext.drewN | with_reducible apply Ext.drew | with_reducible apply Ext.alloc | exact Ext.refl _ | assumption | apply Ext.drewN | apply Ext.drew | apply Ext.alloc))⟩
  obtain ⟨b, o, rfl, hX⟩ := hr (fun e => by have := HN.out; rw [e] at this; simp at this; omega)
  clear hr hV
  rw [← HV.out]
  dsimp only [verV]
  rw [HV.out]
  have hbR := (Blk.new w 51 #[.slice (some ⟨b, o, none⟩) n c]).alloc (.cells #[.int .i64 v1, .int .i64 v2, .int .i64 v3, .string va] 35)
  have hbV := Blk.new (w.alloc (.cells #[.slice (some ⟨b, o, none⟩) n c] 51)) 35 #[.int .i64 v1, .int .i64 v2, .int .i64 v3, .string va]
  rw [World.size_alloc] at hbV
  have hx0 : Ext w ((w.alloc (.cells #[.slice (some ⟨b, o, none⟩) n c] 51)).alloc (.cells #[.int .i64 v1, .int .i64 v2, .int .i64 v3, .string va] 35)) := ((Ext.refl w).alloc _).alloc _
  obtain ⟨w0, hw0⟩ : ∃ w0, w0 = (w.alloc (.cells #[.slice (some ⟨b, o, none⟩) n c] 51)).alloc (.cells #[.int .i64 v1, .int .i64 v2, .int .i64 v3, .string va] 35) := ⟨_, rfl⟩
  rw [← hw0] at hbR hbV hx0
  have HW0 := Lib.hid hw0
  clear hw0
  go_enter Tryz.func123, Tryz.ntmps123
  go_wp2
  go_loopw [11] (fun i wr => ∃ k : Nat, k ≤ n ∧ i = .int .i64 k ∧ (∀ j (hj : j < l.length), j < k → hitL n l[j] V = false) ∧ Ext w0 wr) (fun i _ => n - (intOf i).toNat)
  case atStart => exact ⟨0, Nat.zero_le _, rfl, fun j _ h => absurd h (Nat.not_lt_zero _), by rw [HW0.out]; exact Ext.refl _⟩
  case round =>
    obtain ⟨k, hk, rfl, hall, hxr⟩ := hrel
    have HALL := Lib.hid hall
    clear hall
    have hxw := hx0.trans hxr
    by_cases hlt : k < n
    · have hk1 : k < l.length := by rw [HN.out]; exact hlt
      have X := hX.ext hxw
      have x0 := X.c0 k hk1; have x1 := X.c1 k hk1; have x2 := X.c2 k hk1; have x3 := X.c3 k hk1; have x4 := X.c4 k hk1
      have x5 := X.c5 k hk1; have x6 := X.c6 k hk1; have x7 := X.c7 k hk1; have x8 := X.c8 k hk1; have x9 := X.c9 k hk1
      have hz1 := hs l[k] (List.getElem_mem hk1)
      have HYES := Lib.hid (fun e => hasL_yes (v := V) hk1 e)
      have HNEXT := Lib.hid (show hitL n l[k] V = false → ∀ j (hj : j < l.length), j < k + 1 → hitL n l[j] V = false from fun e j hj h => by
        by_cases hjk : j = k
        · subst hjk; exact e
        · exact HALL.out j hj (by omega))
      rw [HN.out] at HYES
      have cW := fun W (h : Ext w W) => within_any l[k] V W (hg.ext h) hz1.1 hz1.2 (by rw [← HV.out]; exact hv)
      have cN1 := fun W => names_any l[k].hf l[k].f V W
      have cN2 := fun W => names_any l[k].ht l[k].t V W
      have hH : hitL n l[k] V = (insideL l[k] V && (decide (V.a.size = 0) || (decide (n = 1) && !l[k].hf && !l[k].ht) || nearL l[k].hf l[k].f V || nearL l[k].ht l[k].t V)) := rfl
      generalize hitL n l[k] V = H at *
      generalize insideL l[k] V = I at *
      generalize nearL l[k].hf l[k].f V = N1 at *
      generalize nearL l[k].ht l[k].t V = N2 at *
      generalize l[k] = s at *
      obtain ⟨hf, ht, ⟨f1, f2, f3, fa⟩, ⟨t1, t2, t3, ta⟩⟩ := s
      dsimp only at x0 x1 x2 x3 x4 x5 x6 x7 x8 x9 hz1 cN1 cN2 hH
      rw [← HV.out] at cW cN1 cN2 hH
      dsimp only [verV, spV] at cW cN1 cN2 hH
      have CW := Lib.hid cW; have CN1 := Lib.hid cN1; have CN2 := Lib.hid cN2; have HH := Lib.hid hH
      clear cW cN1 cN2 hH X hz1
      have bR := hbR.ext hxr; have bV := hbV.ext hxr
      have cR := bR.cell; have cV := bV.cell
      have lR := bR.lt; have lV := bV.lt
      have hxs : Ext wr (wr.alloc (.cells #[.bool hf, .bool ht, .int .i64 f1, .int .i64 f2, .int .i64 f3, .string fa, .int .i64 t1, .int .i64 t2, .int .i64 t3, .string ta] 146)) := (Ext.refl wr).alloc _
      have bS := Blk.new wr 146 #[.bool hf, .bool ht, .int .i64 f1, .int .i64 f2, .int .i64 f3, .string fa, .int .i64 t1, .int .i64 t2, .int .i64 t3, .string ta]
      have fin1 : ∀ W, Ext (wr.alloc (.cells #[.bool hf, .bool ht, .int .i64 f1, .int .i64 f2, .int .i64 f3, .string fa, .int .i64 t1, .int .i64 t2, .int .i64 t3, .string ta] 146)) W → Ext w0 W := fun W h => (hxr.trans hxs).trans h
      have FIN := Lib.hid fin1
      clear fin1
      obtain ⟨D, B, hD, hB, hways⟩ : ∃ D B : Bool, (decide (n = 1) && !hf && !ht) = D ∧ ((n : Int) == 1) = B ∧ ((B = false ∧ D = false) ∨ (B = true ∧ hf = true ∧ D = false) ∨ (B = true ∧ hf = false ∧ ht = true ∧ D = false) ∨ (B = true ∧ hf = false ∧ ht = false ∧ D = true)) := by
        refine ⟨_, _, rfl, rfl, ?_⟩
        by_cases h1 : n = 1
        · have e : ((n : Int) == 1) = true := by rw [beq_iff_eq]; omega
          rw [e]
          cases hf <;> cases ht <;> simp [h1]
        · have e : ((n : Int) == 1) = false := by rw [beq_eq_false_iff_ne]; omega
          exact .inl ⟨e, by simp [h1]⟩
      rw [hD] at HH
      clear hD
      rcases hways with ⟨rfl, rfl⟩ | ⟨rfl, rfl, rfl⟩ | ⟨rfl, rfl, rfl, rfl⟩ | ⟨rfl, rfl, rfl, rfl⟩
      all_goals
        go_wp2_with fail
        refine (CW.out _ (hxw.trans hxs)).mono ?_
        rintro e w1 ⟨rfl, hx1⟩
        have cS1 := (bS.ext hx1).cell; have lS1 := (bS.ext hx1).lt
        have cV1 := ((bV.ext hxs).ext hx1).cell; have lV1 := ((bV.ext hxs).ext hx1).lt
        cases I
        · have HF := Lib.hid (HNEXT.out (by rw [HH.out]; simp))
          go_wp2
          go_roundw
          case rel => exact ⟨k + 1, by omega, by go_num, HF.out, FIN.out _ hx1⟩
          case measure => simp [intOf]; omega
        rcases Nat.eq_zero_or_pos va.size with he | he
        · have HF := Lib.hid (HYES.out (by rw [HH.out]; simp [he]))
          have hl := emp_of_size he
          have hb := emp_bool he
          clear he
          go_wp2
          go_ret
          exact ⟨ret_bool HF.out.symm, (hx0.trans (FIN.out _ hx1))⟩
        have hl := nemp_of_size he
        have hb := nemp_bool he
        first
        | (have HF := Lib.hid (HYES.out (by rw [HH.out]; simp))
           go_wp2
           go_ret
           exact ⟨ret_bool HF.out.symm, (hx0.trans (FIN.out _ hx1))⟩)
        | (have HE := Lib.hid (show decide (va.size = 0) = false from decide_eq_false (by omega))
           go_wp2_with fail
           refine (CN1.out _).mono ?_
           rintro e w2 ⟨rfl, hx2⟩
           have cS2 := ((bS.ext hx1).ext hx2).cell; have lS2 := ((bS.ext hx1).ext hx2).lt
           have cV2 := (((bV.ext hxs).ext hx1).ext hx2).cell; have lV2 := (((bV.ext hxs).ext hx1).ext hx2).lt
           cases N1
           · go_wp2_with fail
             refine (CN2.out _).mono ?_
             rintro e w3 ⟨rfl, hx3⟩
             cases N2
             · have HF := Lib.hid (HNEXT.out (by rw [HH.out, HE.out]; rfl))
               go_wp2
               go_roundw
               case rel => exact ⟨k + 1, by omega, by go_num, HF.out, FIN.out _ ((hx1.trans hx2).trans hx3)⟩
               case measure => simp [intOf]; omega
             · have HF := Lib.hid (HYES.out (by rw [HH.out]; simp))
               go_wp2
               go_ret
               exact ⟨ret_bool HF.out.symm, (hx0.trans (FIN.out _ ((hx1.trans hx2).trans hx3)))⟩
           · have HF := Lib.hid (HYES.out (by rw [HH.out]; simp))
             go_wp2
             go_ret
             exact ⟨ret_bool HF.out.symm, (hx0.trans (FIN.out _ (hx1.trans hx2)))⟩)
    · obtain rfl : k = n := by omega
      have HR := Lib.hid (hasL_no (l := l) (v := V) fun j hj => by rw [HN.out]; exact HALL.out j hj (by have := HN.out; omega))
      go_wp2
      go_ret
      exact ⟨ret_bool HR.out.symm, hxw⟩
end Go.Proofs.YtaobnifiengglaaGreatDoor

namespace Go.Proofs.YtaobnifiengglaaGreatDoor
open Go.RowKit

end Go.Proofs.YtaobnifiengglaaGreatDoor

namespace Go.Proofs.YtaobnifiengglaaGreatDoor
open Go.RowKit

theorem any_at {α : Type} {p : α → Bool} {l : List α} {k : Nat} (h : k < l.length) (e : p l[k] = true) : l.any p = true := List.any_eq_true.2 ⟨_, List.getElem_mem h, e⟩
theorem any_none {α : Type} {p : α → Bool} {l : List α} (h : ∀ k (hk : k < l.length), p l[k] = false) : l.any p = false := by
  rw [List.any_eq_false]
  intro s hs
  obtain ⟨k, hk, rfl⟩ := List.mem_iff_getElem.1 hs
  rw [h k hk]
  decide
set_option maxHeartbeats 4000000 in
theorem IndexFuncS_any (A : Option Addr) (n c : Nat) (l : List Sp) (f : FuncId) (lb : Array Value) (p : Sp → Bool) (w : World) (hn : l.length = n) (hr : RdS w A l) (hl : n ≤ 2097152)
    (hen : ∀ xs w, Sem.run Tryz.prog (callFunc f xs) w = .ok (.enter f xs) w)
    (hp : ∀ k (hk : k < l.length) W, Ext w W → Calls Tryz.prog f (#[spV l[k]] ++ lb) W fun e w' => e = .returned (.bool (p l[k])) ∧ Ext W w') :
    Calls Tryz.prog 199 #[.slice A n c, .func (.func f) #[] lb] w fun e w' => ∃ z : Int, e = .returned (.int .i64 z) ∧ (0 ≤ z ↔ l.any p = true) ∧ Ext w w' := by
  have HN := Lib.hid hn
  have HP := Lib.hid hp
  clear hn hp
  go_enter Tryz.func199, Tryz.ntmps199
  go_wp2
  go_loopw [8] (fun i wr => ∃ k : Nat, k ≤ n ∧ i = .int .i64 k ∧ Hid (∀ j (hj : j < l.length), j < k → p l[j] = false) ∧ Ext w wr) (fun i _ => n - (intOf i).toNat)
  case atStart => exact ⟨0, Nat.zero_le _, rfl, fun j _ h => absurd h (Nat.not_lt_zero _), Ext.refl _⟩
  case round =>
    obtain ⟨k, hk, rfl, HALL, hxr⟩ := hrel
    by_cases hlt : k < n
    · have hk1 : k < l.length := by rw [HN.out]; exact hlt
      obtain ⟨b, o, rfl, hX⟩ := hr (fun e => by rw [e] at hk1; exact absurd hk1 (Nat.not_lt_zero _))
      have X := hX.ext hxr
      have x0 := X.c0 k hk1; have x1 := X.c1 k hk1; have x2 := X.c2 k hk1; have x3 := X.c3 k hk1; have x4 := X.c4 k hk1
      have x5 := X.c5 k hk1; have x6 := X.c6 k hk1; have x7 := X.c7 k hk1; have x8 := X.c8 k hk1; have x9 := X.c9 k hk1
      have HNX := Lib.hid (show p l[k] = false → ∀ j (hj : j < l.length), j < k + 1 → p l[j] = false from fun e j hj h => by
        by_cases hjk : j = k
        · subst hjk; exact e
        · exact HALL.out j hj (by omega))
      have HYES := Lib.hid (fun e => any_at (p := p) hk1 e)
      have hc := HP.out k hk1
      clear X
      generalize p l[k] = r at *
      generalize l[k] = s at *
      obtain ⟨hf, ht, ⟨f1, f2, f3, fa⟩, ⟨t1, t2, t3, ta⟩⟩ := s
      dsimp only [spV] at x0 x1 x2 x3 x4 x5 x6 x7 x8 x9 hc
      have HC := Lib.hid hc
      clear hc
      go_wp2_with fail
      refine (HC.out _ hxr).mono ?_
      rintro e w1 ⟨rfl, hx1⟩
      cases r
      · have HF := Lib.hid (HNX.out rfl)
        go_wp2
        go_roundw
        case rel => exact ⟨k + 1, by omega, by go_num, HF.out, hxr.trans hx1⟩
        case measure => simp [intOf]; omega
      · have HF := Lib.hid (HYES.out rfl)
        go_wp2
        go_ret
        exact ⟨(k : Int), rfl, ⟨fun _ => HF.out, fun _ => by omega⟩, hxr.trans hx1⟩
    · obtain rfl : k = n := by omega
      have HF := Lib.hid (any_none (p := p) fun j hj => HALL.out j hj (by have := HN.out; omega))
      go_wp2
      go_ret
      exact ⟨-1, rfl, ⟨fun h => by omega, fun h => by rw [HF.out] at h; cases h⟩, hxr⟩
set_option maxHeartbeats 4000000 in
theorem ContainsFuncS_any (A : Option Addr) (n c : Nat) (l : List Sp) (f : FuncId) (lb : Array Value) (p : Sp → Bool) (w : World) (hn : l.length = n) (hr : RdS w A l) (hl : n ≤ 2097152)
    (hen : ∀ xs w, Sem.run Tryz.prog (callFunc f xs) w = .ok (.enter f xs) w)
    (hp : ∀ k (hk : k < l.length) W, Ext w W → Calls Tryz.prog f (#[spV l[k]] ++ lb) W fun e w' => e = .returned (.bool (p l[k])) ∧ Ext W w') :
    Calls Tryz.prog 126 #[.slice A n c, .func (.func f) #[] lb] w fun e w' => e = .returned (.bool (l.any p)) ∧ Ext w w' := by
  have CI := Lib.hid (IndexFuncS_any A n c l f lb p w hn hr hl hen hp)
  clear hn hr hp
  generalize l.any p = r at *
  go_enter Tryz.func126, Tryz.ntmps126
  go_wp2_with fail
  refine CI.out.mono ?_
  rintro e w1 ⟨z, rfl, hz, hx1⟩
  have HZ := Lib.hid hz
  clear hz
  go_wp2
  go_ret
  refine ⟨ret_bool ?_, hx1⟩
  have h := HZ.out
  cases r
  · have : ¬ 0 ≤ z := fun e => by have := h.1 e; cases this
    simp; omega
  · have := h.2 rfl
    simp; omega
set_option maxHeartbeats 8000000 in
theorem Inside_any (s : Sp) (v : V4) (w : World) (hg : GoodN w) (h1 : s.f.a.size ≤ 2097152) (h2 : s.t.a.size ≤ 2097152) (h3 : v.a.size ≤ 2097152) (e1 : s.f.err = 0) (e2 : s.t.err = 0) (e3 : v.err = 0) :
    Calls Tryz.prog 128 #[spV s, verV v] w fun e w' => e = .returned (.bool (insideL s v)) ∧ Ext w w' := by
  have cF := fun W (h : Ext w W) => CompareOf_any v.a1 v.a2 v.a3 s.f.a1 s.f.a2 s.f.a3 v.a s.f.a W (hg.ext h) h3 h1 e3 e1
  have cT := fun W (h : Ext w W) => CompareOf_any v.a1 v.a2 v.a3 s.t.a1 s.t.a2 s.t.a3 v.a s.t.a W (hg.ext h) h3 h2 e3 e2
  have hi : insideL s v = (!(s.hf && decide (orderL v.a1 v.a2 v.a3 (bs v.a) s.f.a1 s.f.a2 s.f.a3 (bs s.f.a) < 0)) && !(s.ht && decide (0 ≤ orderL v.a1 v.a2 v.a3 (bs v.a) s.t.a1 s.t.a2 s.t.a3 (bs s.t.a)))) := rfl
  rw [hi]
  generalize orderL v.a1 v.a2 v.a3 (bs v.a) s.f.a1 s.f.a2 s.f.a3 (bs s.f.a) = OF at *
  generalize orderL v.a1 v.a2 v.a3 (bs v.a) s.t.a1 s.t.a2 s.t.a3 (bs s.t.a) = OT at *
  obtain ⟨hf, ht, ⟨f1, f2, f3, fa⟩, ⟨t1, t2, t3, ta⟩⟩ := s
  obtain ⟨v1, v2, v3, va⟩ := v
  dsimp only [spV, verV] at cF cT ⊢
  have CF := Lib.hid cF; have CT := Lib.hid cT
  clear cF cT hi e1 e2 e3
  have b1 := (Blk.new w 146 #[.bool hf, .bool ht, .int .i64 f1, .int .i64 f2, .int .i64 f3, .string fa, .int .i64 t1, .int .i64 t2, .int .i64 t3, .string ta]).alloc (.cells #[.int .i64 v1, .int .i64 v2, .int .i64 v3, .string va] 35)
  have b2 := Blk.new (w.alloc (.cells #[.bool hf, .bool ht, .int .i64 f1, .int .i64 f2, .int .i64 f3, .string fa, .int .i64 t1, .int .i64 t2, .int .i64 t3, .string ta] 146)) 35 #[.int .i64 v1, .int .i64 v2, .int .i64 v3, .string va]
  rw [World.size_alloc] at b2
  have hx0 : Ext w ((w.alloc (.cells #[.bool hf, .bool ht, .int .i64 f1, .int .i64 f2, .int .i64 f3, .string fa, .int .i64 t1, .int .i64 t2, .int .i64 t3, .string ta] 146)).alloc (.cells #[.int .i64 v1, .int .i64 v2, .int .i64 v3, .string va] 35)) := ((Ext.refl w).alloc _).alloc _
  -- the second half, from whatever world
  cases hf
  · cases ht
    · go_enter Tryz.func128, Tryz.ntmps128
      go_wp2
      go_ret
      exact ⟨rfl, hx0⟩
    · go_enter Tryz.func128, Tryz.ntmps128
      go_wp2_with fail
      refine (CT.out _ hx0).mono ?_
      rintro e w1 ⟨rfl, hx1⟩
      go_wp2
      go_ret
      refine ⟨ret_bool ?_, hx0.trans hx1⟩
      simp
  · cases ht
    · go_enter Tryz.func128, Tryz.ntmps128
      go_wp2_with fail
      refine (CF.out _ hx0).mono ?_
      rintro e w1 ⟨rfl, hx1⟩
      have c1 := (b1.ext hx1).cell; have c2 := (b2.ext hx1).cell; have l1 := (b1.ext hx1).lt; have l2 := (b2.ext hx1).lt
      by_cases hF : OF < 0
      · have HF := Lib.hid hF
        go_wp2
        go_ret
        refine ⟨ret_bool ?_, hx0.trans hx1⟩
        simp [HF.out]
      · have HF := Lib.hid hF
        go_wp2
        go_ret
        refine ⟨ret_bool ?_, hx0.trans hx1⟩
        have := HF.out
        first | (simp; done) | (simp; omega)
    · go_enter Tryz.func128, Tryz.ntmps128
      go_wp2_with fail
      refine (CF.out _ hx0).mono ?_
      rintro e w1 ⟨rfl, hx1⟩
      have c1 := (b1.ext hx1).cell; have c2 := (b2.ext hx1).cell; have l1 := (b1.ext hx1).lt; have l2 := (b2.ext hx1).lt
      by_cases hF : OF < 0
      · have HF := Lib.hid hF
        go_wp2
        go_ret
        refine ⟨ret_bool ?_, hx0.trans hx1⟩
        simp [HF.out]
      · have HF := Lib.hid (decide_eq_false hF)
        go_wp2_with fail
        refine (CT.out _ (hx0.trans hx1)).mono ?_
        rintro e w2 ⟨rfl, hx2⟩
        go_wp2
        go_ret
        refine ⟨ret_bool ?_, (hx0.trans hx1).trans hx2⟩
        simp [HF.out]
end Go.Proofs.YtaobnifiengglaaGreatDoor
