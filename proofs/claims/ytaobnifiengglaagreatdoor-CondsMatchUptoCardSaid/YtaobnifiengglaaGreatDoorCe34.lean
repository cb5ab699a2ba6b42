/- Contracts of slices.ContainsFunc over spans, outref2.Inside, HasOf. Contract of outref2.HasOf. Plain law: the words of a text that is put together from pieces. -/
import Derived.Test.YtaobnifiengglaaGreatDoorCe33
import Derived.Test.YtaobnifiengglaaGreatDoorCe09
import Derived.Laws.EntriesVeiled
import Derived.Test.YtaobnifiengglaaGreatDoorCe30
import Derived.Test.YtaobnifiengglaaGreatDoorCe27

namespace Go.Proofs.YtaobnifiengglaaGreatDoor
open Go.RowKit

theorem any_at {α : Type} {p : α → Bool} {l : List α} {k : Nat} (h : k < l.length) (e : p l[k] = true) : l.any p = true := List.any_eq_true.2 ⟨_, List.getElem_mem h, e⟩
theorem any_none {α : Type} {p : α → Bool} {l : List α} (h : ∀ k (hk : k < l.length), p l[k] = false) : l.any p = false := by
  rw [List.any_eq_false]
  intro s hs
  obtain ⟨k, hk, rfl⟩ := List.mem_iff_getElem.1 hs
  rw [h k hk]
  decide
set_option maxHeartbeats 4000000 in
theorem IndexFuncS_any (A : Option Addr) (n c : Nat) (l : List Sp) (f : FuncId) (lb : Array Value) (p : Sp → Bool) (w : World) (hn : l.length = n) (hr : RdS w A l) (hl : n ≤ 2097152)
    (hen : ∀ xs w, Sem.run Tryz.prog (callFunc f xs) w = .ok (.enter f xs) w)
    (hp : ∀ k (hk : k < l.length) W, Ext w W → Calls Tryz.prog f (#[spV l[k]] ++ lb) W fun e w' => e = .returned (.bool (p l[k])) ∧ Ext W w') :
    Calls Tryz.prog 199 #[.slice A n c, .func (.func f) #[] lb] w fun e w' => ∃ z : Int, e = .returned (.int .i64 z) ∧ (0 ≤ z ↔ l.any p = true) ∧ Ext w w' := by
  have HN := Lib.hid hn
  have HP := Lib.hid hp
  clear hn hp
  go_enter Tryz.func199, Tryz.ntmps199
  go_wp2
  go_loopw [8] (fun i wr => ∃ k : Nat, k ≤ n ∧ i = .int .i64 k ∧ Hid (∀ j (hj : j < l.length), j < k → p l[j] = false) ∧ Ext w wr) (fun i _ => n - (intOf i).toNat)
  case atStart => exact ⟨0, Nat.zero_le _, rfl, fun j _ h => absurd h (Nat.not_lt_zero _), Ext.refl _⟩
  case round =>
    obtain ⟨k, hk, rfl, HALL, hxr⟩ := hrel
    by_cases hlt : k < n
    · have hk1 : k < l.length := by rw [HN.out]; exact hlt
      obtain ⟨b, o, rfl, hX⟩ := hr (fun e => by rw [e] at hk1; exact absurd hk1 (Nat.not_lt_zero _))
      have X := hX.ext hxr
      have x0 := X.c0 k hk1; have x1 := X.c1 k hk1; have x2 := X.c2 k hk1; have x3 := X.c3 k hk1; have x4 := X.c4 k hk1
      have x5 := X.c5 k hk1; have x6 := X.c6 k hk1; have x7 := X.c7 k hk1; have x8 := X.c8 k hk1; have x9 := X.c9 k hk1
      have HNX := Lib.hid (show p l[k] = false → ∀ j (hj : j < l.length), j < k + 1 → p l[j] = false from fun e j hj h => by
        by_cases hjk : j = k
        · subst hjk; exact e
        · exact HALL.out j hj (by omega))
      have HYES := Lib.hid (fun e => any_at (p := p) hk1 e)
      have hc := HP.out k hk1
      clear X
      generalize p l[k] = r at *
      generalize l[k] = s at *
      obtain ⟨hf, ht, ⟨f1, f2, f3, fa⟩, ⟨t1, t2, t3, ta⟩⟩ := s
      dsimp only [spV] at x0 x1 x2 x3 x4 x5 x6 x7 x8 x9 hc
      have HC := Lib.hid hc
      clear hc
      go_wp2_with fail
      refine (HC.out _ hxr).mono ?_
      rintro e w1 ⟨rfl, hx1⟩
      cases r
      · have HF := Lib.hid (HNX.out rfl)
        go_wp2
        go_roundw
        case rel => exact ⟨k + 1, by omega, by go_num, HF.out, hxr.trans hx1⟩
        case measure => simp [intOf]; omega
      · have HF := Lib.hid (HYES.out rfl)
        go_wp2
        go_ret
        exact ⟨(k : Int), rfl, ⟨fun _ => HF.out, fun _ => by omega⟩, hxr.trans hx1⟩
    · obtain rfl : k = n := by omega
      have HF := Lib.hid (any_none (p := p) fun j hj => HALL.out j hj (by have := HN.out; omega))
      go_wp2
      go_ret
      exact ⟨-1, rfl, ⟨fun h => by omega, fun h => by rw [HF.out] at h; cases h⟩, hxr⟩
set_option maxHeartbeats 4000000 in
theorem ContainsFuncS_any (A : Option Addr) (n c : Nat) (l : List Sp) (f : FuncId) (lb : Array Value) (p : Sp → Bool) (w : World) (hn : l.length = n) (hr : RdS w A l) (hl : n ≤ 2097152)
    (hen : ∀ xs w, Sem.run Tryz.prog (callFunc f xs) w = .ok (.enter f xs) w)
    (hp : ∀ k (hk : k < l.length) W, Ext w W → Calls Tryz.prog f (#[spV l[k]] ++ lb) W fun e w' => e = .returned (.bool (p l[k])) ∧ Ext W w') :
    Calls Tryz.prog 126 #[.slice A n c, .func (.func f) #[] lb] w fun e w' => e = .returned (.bool (l.any p)) ∧ Ext w w' := by
  have CI := Lib.hid (IndexFuncS_any A n c l f lb p w hn hr hl hen hp)
  clear hn hr hp
  generalize l.any p = r at *
  go_enter Tryz.func126, Tryz.ntmps126
  go_wp2_with fail
  refine CI.out.mono ?_
  rintro e w1 ⟨z, rfl, hz, hx1⟩
  have HZ := Lib.hid hz
  clear hz
  go_wp2
  go_ret
  refine ⟨ret_bool ?_, hx1⟩
  have h := HZ.out
  cases r
  · have : ¬ 0 ≤ z := fun e => by have := h.1 e; cases this
    simp; omega
  · have := h.2 rfl
    simp; omega
set_option maxHeartbeats 8000000 in
theorem Inside_any (s : Sp) (v : V4) (w : World) (hg : GoodN w) (h1 : s.f.a.size ≤ 2097152) (h2 : s.t.a.size ≤ 2097152) (h3 : v.a.size ≤ 2097152) (e1 : s.f.err = 0) (e2 : s.t.err = 0) (e3 : v.err = 0) :
    Calls Tryz.prog 128 #[spV s, verV v] w fun e w' => e = .returned (.bool (insideL s v)) ∧ Ext w w' := by
  have cF := fun W (h : Ext w W) => CompareOf_any v.a1 v.a2 v.a3 s.f.a1 s.f.a2 s.f.a3 v.a s.f.a W (hg.ext h) h3 h1 e3 e1
  have cT := fun W (h : Ext w W) => CompareOf_any v.a1 v.a2 v.a3 s.t.a1 s.t.a2 s.t.a3 v.a s.t.a W (hg.ext h) h3 h2 e3 e2
  have hi : insideL s v = (!(s.hf && decide (orderL v.a1 v.a2 v.a3 (bs v.a) s.f.a1 s.f.a2 s.f.a3 (bs s.f.a) < 0)) && !(s.ht && decide (0 ≤ orderL v.a1 v.a2 v.a3 (bs v.a) s.t.a1 s.t.a2 s.t.a3 (bs s.t.a)))) := rfl
  rw [hi]
  generalize orderL v.a1 v.a2 v.a3 (bs v.a) s.f.a1 s.f.a2 s.f.a3 (bs s.f.a) = OF at *
  generalize orderL v.a1 v.a2 v.a3 (bs v.a) s.t.a1 s.t.a2 s.t.a3 (bs s.t.a) = OT at *
  obtain ⟨hf, ht, ⟨f1, f2, f3, fa⟩, ⟨t1, t2, t3, ta⟩⟩ := s
  obtain ⟨v1, v2, v3, va⟩ := v
  dsimp only [spV, verV] at cF cT ⊢
  have CF := Lib.hid cF; have CT := Lib.hid cT
  clear cF cT hi e1 e2 e3
  have b1 := (Blk.new w 146 #[.bool hf, .bool ht, .int .i64 f1, .int .i64 f2, .int .i64 f3, .string fa, .int .i64 t1, .int .i64 t2, .int .i64 t3, .string ta]).alloc (.cells #[.int .i64 v1, .int .i64 v2, .int .i64 v3, .string va] 35)
  have b2 := Blk.new (w.alloc (.cells #[.bool hf, .bool ht, .int .i64 f1, .int .i64 f2, .int .i64 f3, .string fa, .int .i64 t1, .int .i64 t2, .int .i64 t3, .string ta] 146)) 35 #[.int .i64 v1, .int .i64 v2, .int .i64 v3, .string va]
  rw [World.size_alloc] at b2
  have hx0 : Ext w ((w.alloc (.cells #[.bool hf, .bool ht, .int .i64 f1, .int .i64 f2, .int .i64 f3, .string fa, .int .i64 t1, .int .i64 t2, .int .i64 t3, .string ta] 146)).alloc (.cells #[.int .i64 v1, .int .i64 v2, .int .i64 v3, .string va] 35)) := ((Ext.refl w).alloc _).alloc _
  -- the second half, from whatever world
  cases hf
  · cases ht
    · go_enter Tryz.func128, Tryz.ntmps128
      go_wp2
      go_ret
      exact ⟨rfl, hx0⟩
    · go_enter Tryz.func128, Tryz.ntmps128
      go_wp2_with fail
      refine (CT.out _ hx0).mono ?_
      rintro e w1 ⟨rfl, hx1⟩
      go_wp2
      go_ret
      refine ⟨ret_bool ?_, hx0.trans hx1⟩
      simp
  · cases ht
    · go_enter Tryz.func128, Tryz.ntmps128
      go_wp2_with fail
      refine (CF.out _ hx0).mono ?_
      rintro e w1 ⟨rfl, hx1⟩
      have c1 := (b1.ext hx1).cell; have c2 := (b2.ext hx1).cell; have l1 := (b1.ext hx1).lt; have l2 := (b2.ext hx1).lt
      by_cases hF : OF < 0
      · have HF := Lib.hid hF
        go_wp2
        go_ret
        refine ⟨ret_bool ?_, hx0.trans hx1⟩
        simp [HF.out]
      · have HF := Lib.hid hF
        go_wp2
        go_ret
        refine ⟨ret_bool ?_, hx0.trans hx1⟩
        have := HF.out
        first | (simp; done) | (simp; omega)
    · go_enter Tryz.func128, Tryz.ntmps128
      go_wp2_with fail
      refine (CF.out _ hx0).mono ?_
      rintro e w1 ⟨rfl, hx1⟩
      have c1 := (b1.ext hx1).cell; have c2 := (b2.ext hx1).cell; have l1 := (b1.ext hx1).lt; have l2 := (b2.ext hx1).lt
      by_cases hF : OF < 0
      · have HF := Lib.hid hF
        go_wp2
        go_ret
        refine ⟨ret_bool ?_, hx0.trans hx1⟩
        simp [HF.out]
      · have HF := Lib.hid (decide_eq_false hF)
        go_wp2_with fail
        refine (CT.out _ (hx0.trans hx1)).mono ?_
        rintro e w2 ⟨rfl, hx2⟩
        go_wp2
        go_ret
        refine ⟨ret_bool ?_, (hx0.trans hx1).trans hx2⟩
        simp [HF.out]
end Go.Proofs.YtaobnifiengglaaGreatDoor

namespace Go.Proofs.YtaobnifiengglaaGreatDoor
open Go.RowKit

set_option maxHeartbeats 8000000 in
theorem near_any (h : Bool) (e : V4) (v1 v2 v3 : Int) (va : ByteArray) (gv : Nat) (w : World) (bV : Blk w gv 35 #[.int .i64 v1, .int .i64 v2, .int .i64 v3, .string va]) :
    Calls Tryz.prog 125 #[.bool h, verV e, .pointer (some ⟨gv, 0, none⟩)] w fun r w' => r = .returned (.bool (nearL h e ⟨v1, v2, v3, va⟩)) ∧ Ext w w' := by
  obtain ⟨e1, e2, e3, ea⟩ := e
  have hN : nearL h ⟨e1, e2, e3, ea⟩ ⟨v1, v2, v3, va⟩ = (h && !decide (ea.size = 0) && decide (e1 = v1) && decide (e2 = v2) && decide (e3 = v3)) := rfl
  rw [hN]
  clear hN
  have bV2 := bV.alloc (.cells #[.int .i64 e1, .int .i64 e2, .int .i64 e3, .string ea] 35)
  have cV := bV2.cell; have lV := bV2.lt
  cases h
  · go_enter Tryz.func125, Tryz.ntmps125
    go_wp2
    go_ret
    exact ⟨rfl, (by repeat (first | with_reducible exact Ext.refl _ | with_reducible assumption | with_reducible apply Ext.drewN | with_reducible apply Ext.drew | with_reducible apply Ext.alloc | exact Ext.refl _ | assumption | apply Ext.drewN | apply Ext.drew | apply Ext.alloc))⟩
  rcases Nat.eq_zero_or_pos ea.size with h0 | h0
  · have hl := emp_of_size h0
    have hb := emp_bool h0
    have H0 := Lib.hid h0
    clear h0
    go_enter Tryz.func125, Tryz.ntmps125
    go_wp2
    go_ret
    refine ⟨ret_bool ?_, (by repeat (first | with_reducible exact Ext.refl _ | with_reducible assumption | with_reducible apply Ext.drewN | with_reducible apply Ext.drew | with_reducible apply Ext.alloc | exact Ext.refl _ | assumption | apply Ext.drewN | apply Ext.drew | apply Ext.alloc))⟩
    simp [H0.out]
  · have hl := nemp_of_size h0
    have hb := nemp_bool h0
    have H0 := Lib.hid (show ¬ ea.size = 0 by omega)
    by_cases q1 : e1 = v1
    · subst q1
      by_cases q2 : e2 = v2
      · subst q2
        go_enter Tryz.func125, Tryz.ntmps125
        go_wp2
        go_ret
        refine ⟨ret_bool ?_, (by repeat (first | with_reducible exact Ext.refl _ | with_reducible assumption | with_reducible apply Ext.drewN | with_reducible apply Ext.drew | with_reducible apply Ext.alloc | exact Ext.refl _ | assumption | apply Ext.drewN | apply Ext.drew | apply Ext.alloc))⟩
        simp [H0.out]
        by_cases q3 : e3 = v3 <;> simp [q3]
      · go_enter Tryz.func125, Tryz.ntmps125
        go_wp2
        go_ret
        refine ⟨ret_bool ?_, (by repeat (first | with_reducible exact Ext.refl _ | with_reducible assumption | with_reducible apply Ext.drewN | with_reducible apply Ext.drew | with_reducible apply Ext.alloc | exact Ext.refl _ | assumption | apply Ext.drewN | apply Ext.drew | apply Ext.alloc))⟩
        simp [q2]
    · go_enter Tryz.func125, Tryz.ntmps125
      go_wp2
      go_ret
      refine ⟨ret_bool ?_, (by repeat (first | with_reducible exact Ext.refl _ | with_reducible assumption | with_reducible apply Ext.drewN | with_reducible apply Ext.drew | with_reducible apply Ext.alloc | exact Ext.refl _ | assumption | apply Ext.drewN | apply Ext.drew | apply Ext.alloc))⟩
      simp [q1]
/-- what the closure says of one span -/
def hitD (al : Bool) (s : Sp) (v : V4) : Bool := insideL s v && (decide (v.a.size = 0) || al || nearL s.hf s.f v || nearL s.ht s.t v)
set_option maxHeartbeats 8000000 in
set_option maxRecDepth 100000 in
theorem hit_any (al : Bool) (s : Sp) (v : V4) (gv ga gn : Nat) (w : World) (hg : GoodN w) (h1 : s.f.a.size ≤ 2097152) (h2 : s.t.a.size ≤ 2097152) (h3 : v.a.size ≤ 2097152) (e1 : s.f.err = 0) (e2 : s.t.err = 0) (e3 : v.err = 0)
    (bV : Blk w gv 35 #[.int .i64 v.a1, .int .i64 v.a2, .int .i64 v.a3, .string v.a]) (bA : w.cell? ⟨ga, 0, none⟩ = some (.bool al)) (bN : w.cell? ⟨gn, 0, none⟩ = some (.func (.func 125) #[] #[.pointer (some ⟨gv, 0, none⟩)])) :
    Calls Tryz.prog 127 #[spV s, .pointer (some ⟨gv, 0, none⟩), .pointer (some ⟨ga, 0, none⟩), .pointer (some ⟨gn, 0, none⟩)] w fun e w' => e = .returned (.bool (hitD al s v)) ∧ Ext w w' := by
  have cI := fun W (h : Ext w W) => Inside_any s v W (hg.ext h) h1 h2 h3 e1 e2 e3
  have cN1 := fun W (h : Ext w W) => near_any s.hf s.f v.a1 v.a2 v.a3 v.a gv W (bV.ext h)
  have cN2 := fun W (h : Ext w W) => near_any s.ht s.t v.a1 v.a2 v.a3 v.a gv W (bV.ext h)
  have hH : hitD al s v = (insideL s v && (decide (v.a.size = 0) || al || nearL s.hf s.f v || nearL s.ht s.t v)) := rfl
  rw [hH]
  clear hH
  rw [show (⟨v.a1, v.a2, v.a3, v.a⟩ : V4) = v from rfl] at cN1 cN2
  generalize insideL s v = I at *
  generalize nearL s.hf s.f v = N1 at *
  generalize nearL s.ht s.t v = N2 at *
  obtain ⟨hf, ht, ⟨f1, f2, f3, fa⟩, ⟨t1, t2, t3, ta⟩⟩ := s
  obtain ⟨v1, v2, v3, va⟩ := v
  dsimp only [spV, verV] at cI cN1 cN2 bV ⊢
  have CI := Lib.hid cI; have CN1 := Lib.hid cN1; have CN2 := Lib.hid cN2
  clear cI cN1 cN2 e1 e2 e3
  have hx0 : Ext w (w.alloc (.cells #[.bool hf, .bool ht, .int .i64 f1, .int .i64 f2, .int .i64 f3, .string fa, .int .i64 t1, .int .i64 t2, .int .i64 t3, .string ta] 146)) := (Ext.refl w).alloc _
  have bS := Blk.new w 146 #[.bool hf, .bool ht, .int .i64 f1, .int .i64 f2, .int .i64 f3, .string fa, .int .i64 t1, .int .i64 t2, .int .i64 t3, .string ta]
  have bV0 := bV.alloc (.cells #[.bool hf, .bool ht, .int .i64 f1, .int .i64 f2, .int .i64 f3, .string fa, .int .i64 t1, .int .i64 t2, .int .i64 t3, .string ta] 146)
  have cV0 := bV0.cell; have lV0 := bV0.lt
  have lA := lt_of_cell bA; have lN := lt_of_cell bN; have lV := bV.lt
  go_enter Tryz.func127, Tryz.ntmps127
  go_wp2_with fail
  refine (CI.out _ hx0).mono ?_
  rintro e w1 ⟨rfl, hx1⟩
  have hxw := hx0.trans hx1
  have bS1 := bS.ext hx1; have bV1 := bV.ext hxw
  have cS1 := bS1.cell; have lS1 := bS1.lt; have cV1 := bV1.cell; have lV1 := bV1.lt
  have a1 := hxw.cell bA; have n1 := hxw.cell bN
  clear cV0 lV0
  cases I
  · go_wp2
    go_ret
    exact ⟨rfl, hxw⟩
  rcases Nat.eq_zero_or_pos va.size with h0 | h0
  · have hl := emp_of_size h0
    have hb := emp_bool h0
    have H0 := Lib.hid h0
    clear h0
    go_wp2
    go_ret
    refine ⟨ret_bool ?_, hxw⟩
    simp [H0.out]
  have hl := nemp_of_size h0
  have hb := nemp_bool h0
  have H0 := Lib.hid (show decide (va.size = 0) = false from decide_eq_false (by omega))
  cases al
  rotate_left
  · go_wp2
    go_ret
    refine ⟨ret_bool ?_, hxw⟩
    simp
  go_wp2_with fail
  refine (CN1.out _ hxw).mono ?_
  rintro e w2 ⟨rfl, hx2⟩
  have bS2 := bS1.ext hx2
  have cS2 := bS2.cell; have lS2 := bS2.lt
  have n2 := hx2.cell n1
  clear cS1 lS1 cV1 lV1 a1 n1
  cases N1
  rotate_left
  · go_wp2
    go_ret
    refine ⟨ret_bool ?_, hxw.trans hx2⟩
    simp
  go_wp2_with fail
  refine (CN2.out _ (hxw.trans hx2)).mono ?_
  rintro e w3 ⟨rfl, hx3⟩
  go_wp2
  go_ret
  refine ⟨ret_bool ?_, (hxw.trans hx2).trans hx3⟩
  rw [H0.out]
  cases N2 <;> rfl
theorem enters_hit : ∀ xs w, Sem.run Tryz.prog (callFunc 127 xs) w = .ok (.enter 127 xs) w := enters_of Tryz.func127 (by kernel_rfl) rfl
theorem any_same {α : Type} {p q : α → Bool} {l : List α} (h : ∀ k (hk : k < l.length), p l[k] = q l[k]) : l.any p = l.any q := by
  rw [Bool.eq_iff_iff, List.any_eq_true, List.any_eq_true]
  constructor
  · rintro ⟨s, hs, e⟩
    obtain ⟨k, hk, rfl⟩ := List.mem_iff_getElem.1 hs
    exact ⟨_, hs, by rw [← h k hk]; exact e⟩
  · rintro ⟨s, hs, e⟩
    obtain ⟨k, hk, rfl⟩ := List.mem_iff_getElem.1 hs
    exact ⟨_, hs, by rw [h k hk]; exact e⟩
theorem hasD_one {s : Sp} {v : V4} : [s].any (fun x => hitD (!s.hf && !s.ht) x v) = hasL [s] v := by
  unfold hasL
  simp only [List.any_cons, List.any_nil, Bool.or_false, List.length_singleton]
  unfold hitD hitL
  simp
theorem hasD_many {l : List Sp} {v : V4} (h : l.length ≠ 1) : l.any (fun x => hitD false x v) = hasL l v := by
  unfold hasL
  refine any_same fun k hk => ?_
  unfold hitD hitL
  rw [decide_eq_false h]
  simp
set_option maxHeartbeats 8000000 in
set_option maxRecDepth 100000 in
theorem HasOf_any (A : Option Addr) (n c : Nat) (l : List Sp) (v : V4) (w : World) (hg : GoodN w) (hn : l.length = n) (hr : RdS w A l) (hs : SmallS l) (hl : n ≤ 2097152) (hv : v.a.size ≤ 2097152) (ho : rngErr l = 0) (hov : v.err = 0) :
    Calls Tryz.prog 53 #[.agg #[.slice A n c], verV v] w fun e w' => e = .returned (.bool (hasL l v)) ∧ Ext w w' := by
  have cC := fun (al : Bool) gv ga gn W (h : Ext w W) (bV : Blk W gv 35 #[.int .i64 v.a1, .int .i64 v.a2, .int .i64 v.a3, .string v.a]) (bA : W.cell? ⟨ga, 0, none⟩ = some (.bool al)) (bN : W.cell? ⟨gn, 0, none⟩ = some (.func (.func 125) #[] #[.pointer (some ⟨gv, 0, none⟩)])) =>
    ContainsFuncS_any A n c l 127 #[.pointer (some ⟨gv, 0, none⟩), .pointer (some ⟨ga, 0, none⟩), .pointer (some ⟨gn, 0, none⟩)] (fun s => hitD al s v) W hn (hr.ext h) hl enters_hit (fun k hk W2 h2 =>
      have he := spErr_parts (rng_each ho hk)
      have hz := hs l[k] (List.getElem_mem hk)
      hit_any al l[k] v gv ga gn W2 (hg.ext (h.trans h2)) hz.1 hz.2 hv he.2.2.1 he.2.2.2.1 hov (bV.ext h2) (h2.cell bA) (h2.cell bN))
  have h1 := fun h => hasD_many (l := l) (v := v) h
  have h2 : ∀ s, l = [s] → l.any (fun x => hitD (!s.hf && !s.ht) x v) = hasL l v := fun s e => by rw [e]; exact hasD_one
  generalize hasL l v = R at *
  have CC := Lib.hid cC; have H1 := Lib.hid h1; have H2 := Lib.hid h2; have HN := Lib.hid hn
  clear cC h1 h2 hn ho hov hs
  obtain ⟨v1, v2, v3, va⟩ := v
  dsimp only [verV] at CC hv ⊢
  by_cases hone : n = 1
  · subst hone
    obtain ⟨s, hs⟩ := List.length_eq_one_iff.1 HN.out
    obtain ⟨b, o, rfl, hX⟩ := hr (fun e => by rw [hs] at e; cases e)
    have x0 := hX.c0 0 (by rw [HN.out]; decide); have x1 := hX.c1 0 (by rw [HN.out]; decide)
    have HR := Lib.hid (H2.out s hs)
    have hs0 : l[0]'(by rw [HN.out]; decide) = s := by simp [hs]
    rw [hs0, Nat.zero_mul, Nat.add_zero] at x0 x1
    have l0 := lt_of_cell x0
    clear hX hs0 H1 H2
    have CC2 := Lib.hid (fun gv ga gn W h bV bA bN => CC.out (!s.hf && !s.ht) gv ga gn W h bV bA bN)
    simp only [HR.out] at CC2
    clear HR hs hr CC
    generalize s.hf = hf at *
    generalize s.ht = ht at *
    have W0 := Blk.new (w.alloc (.cells #[.slice (some ⟨b, o, none⟩) 1 c] 51)) 35 #[.int .i64 v1, .int .i64 v2, .int .i64 v3, .string va]
    rw [World.size_alloc] at W0
    have hF := (fun T => Blk.new ((w.alloc (.cells #[.slice (some ⟨b, o, none⟩) 1 c] 51)).alloc (.cells #[.int .i64 v1, .int .i64 v2, .int .i64 v3, .string va] 35)) T #[(.func (.func 125) #[] #[.pointer (some ⟨w.heap.size + 1, 0, none⟩)])])
    simp only [World.size_alloc] at hF
    have l1 : b < w.heap.size + 1 := by omega
    have l2 : b < w.heap.size + 1 + 1 := by omega
    have l3 : b < w.heap.size + 1 + 1 + 1 := by omega
    cases hf <;> cases ht
    all_goals
      go_enter Tryz.func53, Tryz.ntmps53
      go_wp2_with fail
      refine (CC2.out (w.heap.size + 1) (w.heap.size + 1 + 1 + 1) (w.heap.size + 1 + 1) _ (by repeat (first | with_reducible exact Ext.refl _ | with_reducible assumption | with_reducible apply Ext.drewN | with_reducible apply Ext.drew | with_reducible apply Ext.alloc | exact Ext.refl _ | assumption | apply Ext.drewN | apply Ext.drew | apply Ext.alloc)) ((W0.alloc _).alloc _) ?_ ((((hF _).alloc _).cell 0).trans rfl)).mono ?_
      · rw [World.cell?_alloc_at _ _ _ _ (by simp [World.size_alloc])]
        rfl
      rintro e w1 ⟨rfl, hx1⟩
      go_wp2
      go_ret
      exact ⟨rfl, Ext.trans (by repeat (first | with_reducible exact Ext.refl _ | with_reducible assumption | with_reducible apply Ext.drewN | with_reducible apply Ext.drew | with_reducible apply Ext.alloc | exact Ext.refl _ | assumption | apply Ext.drewN | apply Ext.drew | apply Ext.alloc)) hx1⟩
  · have hne : ((n : Int) == 1) = false := by rw [beq_eq_false_iff_ne]; omega
    have HR := Lib.hid (H1.out (by rw [HN.out]; exact hone))
    have CC2 := Lib.hid (fun gv ga gn W h bV bA bN => CC.out false gv ga gn W h bV bA bN)
    simp only [HR.out] at CC2
    clear H1 H2 HR CC hr
    have W0 := Blk.new (w.alloc (.cells #[.slice A n c] 51)) 35 #[.int .i64 v1, .int .i64 v2, .int .i64 v3, .string va]
    rw [World.size_alloc] at W0
    have hF := (fun T => Blk.new ((w.alloc (.cells #[.slice A n c] 51)).alloc (.cells #[.int .i64 v1, .int .i64 v2, .int .i64 v3, .string va] 35)) T #[(.func (.func 125) #[] #[.pointer (some ⟨w.heap.size + 1, 0, none⟩)])])
    simp only [World.size_alloc] at hF
    go_enter Tryz.func53, Tryz.ntmps53
    go_wp2_with fail
    refine (CC2.out (w.heap.size + 1) (w.heap.size + 1 + 1 + 1) (w.heap.size + 1 + 1) _ (by repeat (first | with_reducible exact Ext.refl _ | with_reducible assumption | with_reducible apply Ext.drewN | with_reducible apply Ext.drew | with_reducible apply Ext.alloc | exact Ext.refl _ | assumption | apply Ext.drewN | apply Ext.drew | apply Ext.alloc)) ((W0.alloc _).alloc _) ?_ ((((hF _).alloc _).cell 0).trans rfl)).mono ?_
    · rw [World.cell?_alloc_at _ _ _ _ (by simp [World.size_alloc])]
      rfl
    rintro e w1 ⟨rfl, hx1⟩
    go_wp2
    go_ret
    exact ⟨rfl, Ext.trans (by repeat (first | with_reducible exact Ext.refl _ | with_reducible assumption | with_reducible apply Ext.drewN | with_reducible apply Ext.drew | with_reducible apply Ext.alloc | exact Ext.refl _ | assumption | apply Ext.drewN | apply Ext.drew | apply Ext.alloc)) hx1⟩
end Go.Proofs.YtaobnifiengglaaGreatDoor

namespace Go.Proofs.YtaobnifiengglaaGreatDoor

/-- a word without its place -/
structure Aw where
  k : UInt8
  t : Str
  v : Str
def Wd.ab (d : Wd) : Aw := ⟨d.k, bs d.t, bs d.v⟩
def stopS : Str → Prop
  | [] => True
  | c :: _ => tokB c = false
/-- a piece has these words, wherever it stands ahead of what ends a word -/
def TokOf (L : Str) (A : List Aw) : Prop := ∀ (s : ByteArray) (i : Nat) (R : Str), (bs s).drop i = L ++ R → stopS R → ∃ W, wordsT s i = W ++ wordsT s (i + L.length) ∧ W.map Wd.ab = A
/-- .. wherever it stands -/
def TokS (L : Str) (A : List Aw) : Prop := ∀ (s : ByteArray) (i : Nat) (R : Str), (bs s).drop i = L ++ R → ∃ W, wordsT s i = W ++ wordsT s (i + L.length) ∧ W.map Wd.ab = A
theorem TokS.of {L : Str} {A : List Aw} (h : TokS L A) : TokOf L A := fun s i R e _ => h s i R e
theorem drop_here {s : ByteArray} {i : Nat} {c : UInt8} {R : Str} (h : (bs s).drop i = c :: R) : ∃ hi : i < s.size, s[i] = c ∧ (bs s).drop (i + 1) = R := by
  have hi : i < s.size := by
    refine Nat.lt_of_not_le fun hle => ?_
    rw [List.drop_of_length_le (by rw [bs_length]; exact hle)] at h
    cases h
  rw [drop_cons s i hi] at h
  injection h with h1 h2
  exact ⟨hi, h1, h2⟩
theorem tokS_app {L1 L2 : Str} {A1 A2 : List Aw} (h1 : TokS L1 A1) (h2 : TokOf L2 A2) : TokOf (L1 ++ L2) (A1 ++ A2) := fun s i R h hR => by
  rw [List.append_assoc] at h
  obtain ⟨W1, e1, m1⟩ := h1 s i (L2 ++ R) h
  obtain ⟨W2, e2, m2⟩ := h2 s (i + L1.length) R (by rw [← List.drop_drop, h, List.drop_left]) hR
  exact ⟨W1 ++ W2, by rw [e1, e2, List.append_assoc, List.length_append, Nat.add_assoc], by rw [List.map_append, m1, m2]⟩
theorem tok_app {L1 L2 : Str} {A1 A2 : List Aw} (h1 : TokOf L1 A1) (h2 : TokOf L2 A2) (hs : L2 ≠ []) (hh : stopS L2) : TokOf (L1 ++ L2) (A1 ++ A2) := fun s i R h hR => by
  rw [List.append_assoc] at h
  obtain ⟨W1, e1, m1⟩ := h1 s i (L2 ++ R) h (by cases L2 with | nil => exact absurd rfl hs | cons c r => exact hh)
  obtain ⟨W2, e2, m2⟩ := h2 s (i + L1.length) R (by rw [← List.drop_drop, h, List.drop_left]) hR
  exact ⟨W1 ++ W2, by rw [e1, e2, List.append_assoc, List.length_append, Nat.add_assoc], by rw [List.map_append, m1, m2]⟩
theorem run_all {f : UInt8 → Bool} : ∀ (t R : Str), (∀ c ∈ t, f c = true) → (∀ c r, R = c :: r → f c = false) → runN f (t ++ R) = t.length
  | [], [], _, _ => rfl
  | [], c :: r, _, h => by
    rw [List.nil_append, runN, if_neg (by rw [h c r rfl]; decide)]
    rfl
  | c :: t, R, h1, h2 => by
    rw [List.cons_append, runN, if_pos (h1 c (by simp)), run_all t R (fun x hx => h1 x (by simp [hx])) h2]
    rfl
theorem tokB_parts {c : UInt8} (h : tokB c = true) : blankB c = false ∧ ¬ signB c = true ∧ ¬ c = 34 := by
  unfold tokB at h
  simp only [Bool.and_eq_true, Bool.not_eq_true', beq_eq_false_iff_ne] at h
  exact ⟨h.1.1, by rw [h.1.2]; decide, h.2⟩
theorem tkOf_word {t : Str} (hne : t ≠ []) (hall : ∀ c ∈ t, tokB c = true) : TokOf t [⟨119, t, []⟩] := fun s i R h hR => by
  obtain ⟨c, r, rfl⟩ := List.exists_cons_of_ne_nil hne
  obtain ⟨hi, hc, _⟩ := drop_here (by rw [h]; rfl)
  have hr : runN tokB ((bs s).drop i) = (c :: r).length := by
    rw [h]
    exact run_all _ _ hall fun x y e => by subst e; exact hR
  obtain ⟨hb, hs, hq⟩ := tokB_parts (hall c (by simp))
  rw [← hc] at hb hs hq
  rw [words_word hi hb hs hq, hr]
  refine ⟨[_], rfl, ?_⟩
  have e : bs (s.extract i (i + (c :: r).length)) = c :: r := by
    show (s.extract i (i + (c :: r).length)).data.toList = _
    rw [Lib.extract_data]
    have e : ((bs s).drop i).take (c :: r).length = c :: r := by rw [h, List.take_left]
    first | (rw [List.drop_take, Nat.add_sub_cancel_left]; exact e) | (rw [Nat.add_sub_cancel_left]; exact e) | (simpa [List.drop_take] using e)
  rw [List.map_cons, List.map_nil, Wd.ab, e]
theorem tok_blank {L : Str} {A : List Aw} (h : TokOf L A) : TokOf (32 :: L) A := fun s i R e hR => by
  obtain ⟨hi, hc, hd⟩ := drop_here (by rw [e]; rfl)
  obtain ⟨W, e1, m1⟩ := h s (i + 1) R hd hR
  refine ⟨W, ?_, m1⟩
  rw [words_blank hi (by rw [hc]; decide), e1, List.length_cons, show i + 1 + L.length = i + (L.length + 1) by omega]
theorem tokS_sign {c : UInt8} (h : signB c = true) (hb : blankB c = false) : TokS [c] [⟨c, [c], []⟩] := fun s i R e => by
  obtain ⟨hi, hc, hd⟩ := drop_here (by rw [e]; rfl)
  refine ⟨[_], by rw [words_sign hi (by rw [hc]; exact hb) (by rw [hc]; exact h)]; rfl, ?_⟩
  rw [List.map_cons, List.map_nil, Wd.ab, hc]
theorem tokS_quote (x : Str) : TokS (quoteL x) [⟨113, [], x⟩] := fun s i R e => by
  obtain ⟨hi, hc, hd⟩ := drop_here (show (bs s).drop i = 34 :: (esc x ++ [34] ++ R) by rw [e]; rfl)
  have hu : unq ((bs s).drop (i + 1)) = some (x, R) := by rw [hd, List.append_assoc]; exact unq_esc x R
  have hq : qat (bs s) i = (x, (bs s).length - R.length, true) := by rw [qat, hu]; rfl
  have hl : (bs s).length - R.length = i + (quoteL x).length := by
    have h := congrArg List.length e
    rw [List.length_drop, List.length_append] at h
    have := (bs_length s)
    omega
  have hw := words_quote hi (by rw [hc]; decide) (by rw [hc]; decide) hc (by rw [hq])
  rw [hq] at hw
  dsimp only at hw
  rw [hl] at hw
  refine ⟨[_], hw, ?_⟩
  rfl
end Go.Proofs.YtaobnifiengglaaGreatDoor
