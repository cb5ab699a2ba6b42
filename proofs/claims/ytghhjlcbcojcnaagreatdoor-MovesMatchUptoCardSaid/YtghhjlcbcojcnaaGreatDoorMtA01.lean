/- Contracts of slices.ContainsFunc over spans, outref2.Inside, HasOf. Contract of outref2.HasOf. slices.Compare over lists of numbers of one length; slices.Equal over one list. Maps of ways. -/
import Derived.Test.YtghhjlcbcojcnaaGreatDoorMt24
import Derived.Test.YtghhjlcbcojcnaaGreatDoorMt07
import Derived.Laws.EntriesVeiled
import Derived.Test.YtghhjlcbcojcnaaGreatDoorMt36

namespace Go.Proofs.YtghhjlcbcojcnaaGreatDoor
open Go.RowKit

theorem any_at {α : Type} {p : α → Bool} {l : List α} {k : Nat} (h : k < l.length) (e : p l[k] = true) : l.any p = true := List.any_eq_true.2 ⟨_, List.getElem_mem h, e⟩
theorem any_none {α : Type} {p : α → Bool} {l : List α} (h : ∀ k (hk : k < l.length), p l[k] = false) : l.any p = false := by
  rw [List.any_eq_false]
  intro s hs
  obtain ⟨k, hk, rfl⟩ := List.mem_iff_getElem.1 hs
  rw [h k hk]
  decide
set_option maxHeartbeats 4000000 in
theorem IndexFuncS_any (A : Option Addr) (n c : Nat) (l : List Sp) (f : FuncId) (lb : Array Value) (p : Sp → Bool) (w : World) (hn : l.length = n) (hr : RdS w A l) (hl : n ≤ 2097152)
    (hen : ∀ xs w, Sem.run Tryz.prog (callFunc f xs) w = .ok (.enter f xs) w)
    (hp : ∀ k (hk : k < l.length) W, Ext w W → Calls Tryz.prog f (#[spV l[k]] ++ lb) W fun e w' => e = .returned (.bool (p l[k])) ∧ Ext W w') :
    Calls Tryz.prog 198 #[.slice A n c, .func (.func f) #[] lb] w fun e w' => ∃ z : Int, e = .returned (.int .i64 z) ∧ (0 ≤ z ↔ l.any p = true) ∧ Ext w w' := by
  have HN := Lib.hid hn
  have HP := Lib.hid hp
  clear hn hp
  go_enter Tryz.func198, Tryz.ntmps198
  go_wp2
  go_loopw [8] (fun i wr => ∃ k : Nat, k ≤ n ∧ i = .int .i64 k ∧ Hid (∀ j (hj : j < l.length), j < k → p l[j] = false) ∧ Ext w wr) (fun i _ => n - (intOf i).toNat)
  case atStart => exact ⟨0, Nat.zero_le _, rfl, fun j _ h => absurd h (Nat.not_lt_zero _), Ext.refl _⟩
  case round =>
    obtain ⟨k, hk, rfl, HALL, hxr⟩ := hrel
    by_cases hlt : k < n
    · have hk1 : k < l.length := by rw [HN.out]; exact hlt
      obtain ⟨b, o, rfl, hX⟩ := hr (fun e => by rw [e] at hk1; exact absurd hk1 (Nat.not_lt_zero _))
      have X := hX.ext hxr
      have x0 := X.c0 k hk1; have x1 := X.c1 k hk1; have x2 := X.c2 k hk1; have x3 := X.c3 k hk1; have x4 := X.c4 k hk1
      have x5 := X.c5 k hk1; have x6 := X.c6 k hk1; have x7 := X.c7 k hk1; have x8 := X.c8 k hk1; have x9 := X.c9 k hk1
      have HNX := Lib.hid (show p l[k] = false → ∀ j (hj : j < l.length), j < k + 1 → p l[j] = false from fun e j hj h => by
        by_cases hjk : j = k
        · subst hjk; exact e
        · exact HALL.out j hj (by omega))
      have HYES := Lib.hid (fun e => any_at (p := p) hk1 e)
      have hc := HP.out k hk1
      clear X
      generalize p l[k] = r at *
      generalize l[k] = s at *
      obtain ⟨hf, ht, ⟨f1, f2, f3, fa⟩, ⟨t1, t2, t3, ta⟩⟩ := s
      dsimp only [spV] at x0 x1 x2 x3 x4 x5 x6 x7 x8 x9 hc
      have HC := Lib.hid hc
      clear hc
      go_wp2_with fail
      refine (HC.out _ hxr).mono ?_
      rintro e w1 ⟨rfl, hx1⟩
      cases r
      · have HF := Lib.hid (HNX.out rfl)
        go_wp2
        go_roundw
        case rel => exact ⟨k + 1, by omega, by go_num, HF.out, hxr.trans hx1⟩
        case measure => simp [intOf]; omega
      · have HF := Lib.hid (HYES.out rfl)
        go_wp2
        go_ret
        exact ⟨(k : Int), rfl, ⟨fun _ => HF.out, fun _ => by omega⟩, hxr.trans hx1⟩
    · obtain rfl : k = n := by omega
      have HF := Lib.hid (any_none (p := p) fun j hj => HALL.out j hj (by have := HN.out; omega))
      go_wp2
      go_ret
      exact ⟨-1, rfl, ⟨fun h => by omega, fun h => by rw [HF.out] at h; cases h⟩, hxr⟩
set_option maxHeartbeats 4000000 in
theorem ContainsFuncS_any (A : Option Addr) (n c : Nat) (l : List Sp) (f : FuncId) (lb : Array Value) (p : Sp → Bool) (w : World) (hn : l.length = n) (hr : RdS w A l) (hl : n ≤ 2097152)
    (hen : ∀ xs w, Sem.run Tryz.prog (callFunc f xs) w = .ok (.enter f xs) w)
    (hp : ∀ k (hk : k < l.length) W, Ext w W → Calls Tryz.prog f (#[spV l[k]] ++ lb) W fun e w' => e = .returned (.bool (p l[k])) ∧ Ext W w') :
    Calls Tryz.prog 133 #[.slice A n c, .func (.func f) #[] lb] w fun e w' => e = .returned (.bool (l.any p)) ∧ Ext w w' := by
  have CI := Lib.hid (IndexFuncS_any A n c l f lb p w hn hr hl hen hp)
  clear hn hr hp
  generalize l.any p = r at *
  go_enter Tryz.func133, Tryz.ntmps133
  go_wp2_with fail
  refine CI.out.mono ?_
  rintro e w1 ⟨z, rfl, hz, hx1⟩
  have HZ := Lib.hid hz
  clear hz
  go_wp2
  go_ret
  refine ⟨ret_bool ?_, hx1⟩
  have h := HZ.out
  cases r
  · have : ¬ 0 ≤ z := fun e => by have := h.1 e; cases this
    simp; omega
  · have := h.2 rfl
    simp; omega
set_option maxHeartbeats 8000000 in
theorem Inside_any (s : Sp) (v : V4) (w : World) (hg : GoodN w) (h1 : s.f.a.size ≤ 2097152) (h2 : s.t.a.size ≤ 2097152) (h3 : v.a.size ≤ 2097152) (e1 : s.f.err = 0) (e2 : s.t.err = 0) (e3 : v.err = 0) :
    Calls Tryz.prog 135 #[spV s, verV v] w fun e w' => e = .returned (.bool (insideL s v)) ∧ Ext w w' := by
  have cF := fun W (h : Ext w W) => CompareOf_any v.a1 v.a2 v.a3 s.f.a1 s.f.a2 s.f.a3 v.a s.f.a W (hg.ext h) h3 h1 e3 e1
  have cT := fun W (h : Ext w W) => CompareOf_any v.a1 v.a2 v.a3 s.t.a1 s.t.a2 s.t.a3 v.a s.t.a W (hg.ext h) h3 h2 e3 e2
  have hi : insideL s v = (!(s.hf && decide (orderL v.a1 v.a2 v.a3 (bs v.a) s.f.a1 s.f.a2 s.f.a3 (bs s.f.a) < 0)) && !(s.ht && decide (0 ≤ orderL v.a1 v.a2 v.a3 (bs v.a) s.t.a1 s.t.a2 s.t.a3 (bs s.t.a)))) := rfl
  rw [hi]
  generalize orderL v.a1 v.a2 v.a3 (bs v.a) s.f.a1 s.f.a2 s.f.a3 (bs s.f.a) = OF at *
  generalize orderL v.a1 v.a2 v.a3 (bs v.a) s.t.a1 s.t.a2 s.t.a3 (bs s.t.a) = OT at *
  obtain ⟨hf, ht, ⟨f1, f2, f3, fa⟩, ⟨t1, t2, t3, ta⟩⟩ := s
  obtain ⟨v1, v2, v3, va⟩ := v
  dsimp only [spV, verV] at cF cT ⊢
  have CF := Lib.hid cF; have CT := Lib.hid cT
  clear cF cT hi e1 e2 e3
  have b1 := (Blk.new w 145 #[.bool hf, .bool ht, .int .i64 f1, .int .i64 f2, .int .i64 f3, .string fa, .int .i64 t1, .int .i64 t2, .int .i64 t3, .string ta]).alloc (.cells #[.int .i64 v1, .int .i64 v2, .int .i64 v3, .string va] 35)
  have b2 := Blk.new (w.alloc (.cells #[.bool hf, .bool ht, .int .i64 f1, .int .i64 f2, .int .i64 f3, .string fa, .int .i64 t1, .int .i64 t2, .int .i64 t3, .string ta] 145)) 35 #[.int .i64 v1, .int .i64 v2, .int .i64 v3, .string va]
  rw [World.size_alloc] at b2
  have hx0 : Ext w ((w.alloc (.cells #[.bool hf, .bool ht, .int .i64 f1, .int .i64 f2, .int .i64 f3, .string fa, .int .i64 t1, .int .i64 t2, .int .i64 t3, .string ta] 145)).alloc (.cells #[.int .i64 v1, .int .i64 v2, .int .i64 v3, .string va] 35)) := ((Ext.refl w).alloc _).alloc _
  -- the second half, from whatever world
  cases hf
  · cases ht
    · go_enter Tryz.func135, Tryz.ntmps135
      go_wp2
      go_ret
      exact ⟨rfl, hx0⟩
    · go_enter Tryz.func135, Tryz.ntmps135
      go_wp2_with fail
      refine (CT.out _ hx0).mono ?_
      rintro e w1 ⟨rfl, hx1⟩
      go_wp2
      go_ret
      refine ⟨ret_bool ?_, hx0.trans hx1⟩
      simp
  · cases ht
    · go_enter Tryz.func135, Tryz.ntmps135
      go_wp2_with fail
      refine (CF.out _ hx0).mono ?_
      rintro e w1 ⟨rfl, hx1⟩
      have c1 := (b1.ext hx1).cell; have c2 := (b2.ext hx1).cell; have l1 := (b1.ext hx1).lt; have l2 := (b2.ext hx1).lt
      by_cases hF : OF < 0
      · have HF := Lib.hid hF
        go_wp2
        go_ret
        refine ⟨ret_bool ?_, hx0.trans hx1⟩
        simp [HF.out]
      · have HF := Lib.hid hF
        go_wp2
        go_ret
        refine ⟨ret_bool ?_, hx0.trans hx1⟩
        have := HF.out
        first | (simp; done) | (simp; omega)
    · go_enter Tryz.func135, Tryz.ntmps135
      go_wp2_with fail
      refine (CF.out _ hx0).mono ?_
      rintro e w1 ⟨rfl, hx1⟩
      have c1 := (b1.ext hx1).cell; have c2 := (b2.ext hx1).cell; have l1 := (b1.ext hx1).lt; have l2 := (b2.ext hx1).lt
      by_cases hF : OF < 0
      · have HF := Lib.hid hF
        go_wp2
        go_ret
        refine ⟨ret_bool ?_, hx0.trans hx1⟩
        simp [HF.out]
      · have HF := Lib.hid (decide_eq_false hF)
        go_wp2_with fail
        refine (CT.out _ (hx0.trans hx1)).mono ?_
        rintro e w2 ⟨rfl, hx2⟩
        go_wp2
        go_ret
        refine ⟨ret_bool ?_, (hx0.trans hx1).trans hx2⟩
        simp [HF.out]
end Go.Proofs.YtghhjlcbcojcnaaGreatDoor

namespace Go.Proofs.YtghhjlcbcojcnaaGreatDoor
open Go.RowKit

set_option maxHeartbeats 8000000 in
theorem near_any (h : Bool) (e : V4) (v1 v2 v3 : Int) (va : ByteArray) (gv : Nat) (w : World) (bV : Blk w gv 35 #[.int .i64 v1, .int .i64 v2, .int .i64 v3, .string va]) :
    Calls Tryz.prog 132 #[.bool h, verV e, .pointer (some ⟨gv, 0, none⟩)] w fun r w' => r = .returned (.bool (nearL h e ⟨v1, v2, v3, va⟩)) ∧ Ext w w' := by
  obtain ⟨e1, e2, e3, ea⟩ := e
  have hN : nearL h ⟨e1, e2, e3, ea⟩ ⟨v1, v2, v3, va⟩ = (h && !decide (ea.size = 0) && decide (e1 = v1) && decide (e2 = v2) && decide (e3 = v3)) := rfl
  rw [hN]
  clear hN
  have bV2 := bV.alloc (.cells #[.int .i64 e1, .int .i64 e2, .int .i64 e3, .string ea] 35)
  have cV := bV2.cell; have lV := bV2.lt
  cases h
  · go_enter Tryz.func132, Tryz.ntmps132
    go_wp2
    go_ret
    exact ⟨rfl, (by repeat (first | with_reducible exact Ext.refl _ | with_reducible assumption | with_reducible apply Ext.drewN | with_reducible apply Ext.drew | with_reducible apply Ext.alloc | exact Ext.refl _ | assumption | apply Ext.drewN | apply Ext.drew | apply Ext.alloc))⟩
  rcases Nat.eq_zero_or_pos ea.size with h0 | h0
  · have hl := emp_of_size h0
    have hb := emp_bool h0
    have H0 := Lib.hid h0
    clear h0
    go_enter Tryz.func132, Tryz.ntmps132
    go_wp2
    go_ret
    refine ⟨ret_bool ?_, (by repeat (first | with_reducible exact Ext.refl _ | with_reducible assumption | with_reducible apply Ext.drewN | with_reducible apply Ext.drew | with_reducible apply Ext.alloc | exact Ext.refl _ | assumption | apply Ext.drewN | apply Ext.drew | apply Ext.alloc))⟩
    simp [H0.out]
  · have hl := nemp_of_size h0
    have hb := nemp_bool h0
    have H0 := Lib.hid (show ¬ ea.size = 0 by omega)
    by_cases q1 : e1 = v1
    · subst q1
      by_cases q2 : e2 = v2
      · subst q2
        go_enter Tryz.func132, Tryz.ntmps132
        go_wp2
        go_ret
        refine ⟨ret_bool ?_, (by repeat (first | with_reducible exact Ext.refl _ | with_reducible assumption | with_reducible apply Ext.drewN | with_reducible apply Ext.drew | with_reducible apply Ext.alloc | exact Ext.refl _ | assumption | apply Ext.drewN | apply Ext.drew | apply Ext.alloc))⟩
        simp [H0.out]
        by_cases q3 : e3 = v3 <;> simp [q3]
      · go_enter Tryz.func132, Tryz.ntmps132
        go_wp2
        go_ret
        refine ⟨ret_bool ?_, (by repeat (first | with_reducible exact Ext.refl _ | with_reducible assumption | with_reducible apply Ext.drewN | with_reducible apply Ext.drew | with_reducible apply Ext.alloc | exact Ext.refl _ | assumption | apply Ext.drewN | apply Ext.drew | apply Ext.alloc))⟩
        simp [q2]
    · go_enter Tryz.func132, Tryz.ntmps132
      go_wp2
      go_ret
      refine ⟨ret_bool ?_, (by repeat (first | with_reducible exact Ext.refl _ | with_reducible assumption | with_reducible apply Ext.drewN | with_reducible apply Ext.drew | with_reducible apply Ext.alloc | exact Ext.refl _ | assumption | apply Ext.drewN | apply Ext.drew | apply Ext.alloc))⟩
      simp [q1]
/-- what the closure says of one span -/
def hitD (al : Bool) (s : Sp) (v : V4) : Bool := insideL s v && (decide (v.a.size = 0) || al || nearL s.hf s.f v || nearL s.ht s.t v)
set_option maxHeartbeats 8000000 in
set_option maxRecDepth 100000 in
theorem hit_any (al : Bool) (s : Sp) (v : V4) (gv ga gn : Nat) (w : World) (hg : GoodN w) (h1 : s.f.a.size ≤ 2097152) (h2 : s.t.a.size ≤ 2097152) (h3 : v.a.size ≤ 2097152) (e1 : s.f.err = 0) (e2 : s.t.err = 0) (e3 : v.err = 0)
    (bV : Blk w gv 35 #[.int .i64 v.a1, .int .i64 v.a2, .int .i64 v.a3, .string v.a]) (bA : w.cell? ⟨ga, 0, none⟩ = some (.bool al)) (bN : w.cell? ⟨gn, 0, none⟩ = some (.func (.func 132) #[] #[.pointer (some ⟨gv, 0, none⟩)])) :
    Calls Tryz.prog 134 #[spV s, .pointer (some ⟨gv, 0, none⟩), .pointer (some ⟨ga, 0, none⟩), .pointer (some ⟨gn, 0, none⟩)] w fun e w' => e = .returned (.bool (hitD al s v)) ∧ Ext w w' := by
  have cI := fun W (h : Ext w W) => Inside_any s v W (hg.ext h) h1 h2 h3 e1 e2 e3
  have cN1 := fun W (h : Ext w W) => near_any s.hf s.f v.a1 v.a2 v.a3 v.a gv W (bV.ext h)
  have cN2 := fun W (h : Ext w W) => near_any s.ht s.t v.a1 v.a2 v.a3 v.a gv W (bV.ext h)
  have hH : hitD al s v = (insideL s v && (decide (v.a.size = 0) || al || nearL s.hf s.f v || nearL s.ht s.t v)) := rfl
  rw [hH]
  clear hH
  rw [show (⟨v.a1, v.a2, v.a3, v.a⟩ : V4) = v from rfl] at cN1 cN2
  generalize insideL s v = I at *
  generalize nearL s.hf s.f v = N1 at *
  generalize nearL s.ht s.t v = N2 at *
  obtain ⟨hf, ht, ⟨f1, f2, f3, fa⟩, ⟨t1, t2, t3, ta⟩⟩ := s
  obtain ⟨v1, v2, v3, va⟩ := v
  dsimp only [spV, verV] at cI cN1 cN2 bV ⊢
  have CI := Lib.hid cI; have CN1 := Lib.hid cN1; have CN2 := Lib.hid cN2
  clear cI cN1 cN2 e1 e2 e3
  have hx0 : Ext w (w.alloc (.cells #[.bool hf, .bool ht, .int .i64 f1, .int .i64 f2, .int .i64 f3, .string fa, .int .i64 t1, .int .i64 t2, .int .i64 t3, .string ta] 145)) := (Ext.refl w).alloc _
  have bS := Blk.new w 145 #[.bool hf, .bool ht, .int .i64 f1, .int .i64 f2, .int .i64 f3, .string fa, .int .i64 t1, .int .i64 t2, .int .i64 t3, .string ta]
  have bV0 := bV.alloc (.cells #[.bool hf, .bool ht, .int .i64 f1, .int .i64 f2, .int .i64 f3, .string fa, .int .i64 t1, .int .i64 t2, .int .i64 t3, .string ta] 145)
  have cV0 := bV0.cell; have lV0 := bV0.lt
  have lA := lt_of_cell bA; have lN := lt_of_cell bN; have lV := bV.lt
  go_enter Tryz.func134, Tryz.ntmps134
  go_wp2_with fail
  refine (CI.out _ hx0).mono ?_
  rintro e w1 ⟨rfl, hx1⟩
  have hxw := hx0.trans hx1
  have bS1 := bS.ext hx1; have bV1 := bV.ext hxw
  have cS1 := bS1.cell; have lS1 := bS1.lt; have cV1 := bV1.cell; have lV1 := bV1.lt
  have a1 := hxw.cell bA; have n1 := hxw.cell bN
  clear cV0 lV0
  cases I
  · go_wp2
    go_ret
    exact ⟨rfl, hxw⟩
  rcases Nat.eq_zero_or_pos va.size with h0 | h0
  · have hl := emp_of_size h0
    have hb := emp_bool h0
    have H0 := Lib.hid h0
    clear h0
    go_wp2
    go_ret
    refine ⟨ret_bool ?_, hxw⟩
    simp [H0.out]
  have hl := nemp_of_size h0
  have hb := nemp_bool h0
  have H0 := Lib.hid (show decide (va.size = 0) = false from decide_eq_false (by omega))
  cases al
  rotate_left
  · go_wp2
    go_ret
    refine ⟨ret_bool ?_, hxw⟩
    simp
  go_wp2_with fail
  refine (CN1.out _ hxw).mono ?_
  rintro e w2 ⟨rfl, hx2⟩
  have bS2 := bS1.ext hx2
  have cS2 := bS2.cell; have lS2 := bS2.lt
  have n2 := hx2.cell n1
  clear cS1 lS1 cV1 lV1 a1 n1
  cases N1
  rotate_left
  · go_wp2
    go_ret
    refine ⟨ret_bool ?_, hxw.trans hx2⟩
    simp
  go_wp2_with fail
  refine (CN2.out _ (hxw.trans hx2)).mono ?_
  rintro e w3 ⟨rfl, hx3⟩
  go_wp2
  go_ret
  refine ⟨ret_bool ?_, (hxw.trans hx2).trans hx3⟩
  rw [H0.out]
  cases N2 <;> rfl
theorem enters_hit : ∀ xs w, Sem.run Tryz.prog (callFunc 134 xs) w = .ok (.enter 134 xs) w := enters_of Tryz.func134 (by kernel_rfl) rfl
theorem any_same {α : Type} {p q : α → Bool} {l : List α} (h : ∀ k (hk : k < l.length), p l[k] = q l[k]) : l.any p = l.any q := by
  rw [Bool.eq_iff_iff, List.any_eq_true, List.any_eq_true]
  constructor
  · rintro ⟨s, hs, e⟩
    obtain ⟨k, hk, rfl⟩ := List.mem_iff_getElem.1 hs
    exact ⟨_, hs, by rw [← h k hk]; exact e⟩
  · rintro ⟨s, hs, e⟩
    obtain ⟨k, hk, rfl⟩ := List.mem_iff_getElem.1 hs
    exact ⟨_, hs, by rw [h k hk]; exact e⟩
theorem hasD_one {s : Sp} {v : V4} : [s].any (fun x => hitD (!s.hf && !s.ht) x v) = hasL [s] v := by
  unfold hasL
  simp only [List.any_cons, List.any_nil, Bool.or_false, List.length_singleton]
  unfold hitD hitL
  simp
theorem hasD_many {l : List Sp} {v : V4} (h : l.length ≠ 1) : l.any (fun x => hitD false x v) = hasL l v := by
  unfold hasL
  refine any_same fun k hk => ?_
  unfold hitD hitL
  rw [decide_eq_false h]
  simp
set_option maxHeartbeats 8000000 in
set_option maxRecDepth 100000 in
theorem HasOf_any (A : Option Addr) (n c : Nat) (l : List Sp) (v : V4) (w : World) (hg : GoodN w) (hn : l.length = n) (hr : RdS w A l) (hs : SmallS l) (hl : n ≤ 2097152) (hv : v.a.size ≤ 2097152) (ho : rngErr l = 0) (hov : v.err = 0) :
    Calls Tryz.prog 54 #[.agg #[.slice A n c], verV v] w fun e w' => e = .returned (.bool (hasL l v)) ∧ Ext w w' := by
  have cC := fun (al : Bool) gv ga gn W (h : Ext w W) (bV : Blk W gv 35 #[.int .i64 v.a1, .int .i64 v.a2, .int .i64 v.a3, .string v.a]) (bA : W.cell? ⟨ga, 0, none⟩ = some (.bool al)) (bN : W.cell? ⟨gn, 0, none⟩ = some (.func (.func 132) #[] #[.pointer (some ⟨gv, 0, none⟩)])) =>
    ContainsFuncS_any A n c l 134 #[.pointer (some ⟨gv, 0, none⟩), .pointer (some ⟨ga, 0, none⟩), .pointer (some ⟨gn, 0, none⟩)] (fun s => hitD al s v) W hn (hr.ext h) hl enters_hit (fun k hk W2 h2 =>
      have he := spErr_parts (rng_each ho hk)
      have hz := hs l[k] (List.getElem_mem hk)
      hit_any al l[k] v gv ga gn W2 (hg.ext (h.trans h2)) hz.1 hz.2 hv he.2.2.1 he.2.2.2.1 hov (bV.ext h2) (h2.cell bA) (h2.cell bN))
  have h1 := fun h => hasD_many (l := l) (v := v) h
  have h2 : ∀ s, l = [s] → l.any (fun x => hitD (!s.hf && !s.ht) x v) = hasL l v := fun s e => by rw [e]; exact hasD_one
  generalize hasL l v = R at *
  have CC := Lib.hid cC; have H1 := Lib.hid h1; have H2 := Lib.hid h2; have HN := Lib.hid hn
  clear cC h1 h2 hn ho hov hs
  obtain ⟨v1, v2, v3, va⟩ := v
  dsimp only [verV] at CC hv ⊢
  by_cases hone : n = 1
  · subst hone
    obtain ⟨s, hs⟩ := List.length_eq_one_iff.1 HN.out
    obtain ⟨b, o, rfl, hX⟩ := hr (fun e => by rw [hs] at e; cases e)
    have x0 := hX.c0 0 (by rw [HN.out]; decide); have x1 := hX.c1 0 (by rw [HN.out]; decide)
    have HR := Lib.hid (H2.out s hs)
    have hs0 : l[0]'(by rw [HN.out]; decide) = s := by simp [hs]
    rw [hs0, Nat.zero_mul, Nat.add_zero] at x0 x1
    have l0 := lt_of_cell x0
    clear hX hs0 H1 H2
    have CC2 := Lib.hid (fun gv ga gn W h bV bA bN => CC.out (!s.hf && !s.ht) gv ga gn W h bV bA bN)
    simp only [HR.out] at CC2
    clear HR hs hr CC
    generalize s.hf = hf at *
    generalize s.ht = ht at *
    have W0 := Blk.new (w.alloc (.cells #[.slice (some ⟨b, o, none⟩) 1 c] 51)) 35 #[.int .i64 v1, .int .i64 v2, .int .i64 v3, .string va]
    rw [World.size_alloc] at W0
    have hF := (fun T => Blk.new ((w.alloc (.cells #[.slice (some ⟨b, o, none⟩) 1 c] 51)).alloc (.cells #[.int .i64 v1, .int .i64 v2, .int .i64 v3, .string va] 35)) T #[(.func (.func 132) #[] #[.pointer (some ⟨w.heap.size + 1, 0, none⟩)])])
    simp only [World.size_alloc] at hF
    have l1 : b < w.heap.size + 1 := by omega
    have l2 : b < w.heap.size + 1 + 1 := by omega
    have l3 : b < w.heap.size + 1 + 1 + 1 := by omega
    cases hf <;> cases ht
    all_goals
      go_enter Tryz.func54, Tryz.ntmps54
      go_wp2_with fail
      refine (CC2.out (w.heap.size + 1) (w.heap.size + 1 + 1 + 1) (w.heap.size + 1 + 1) _ (by repeat (first | with_reducible exact Ext.refl _ | with_reducible assumption | with_reducible apply Ext.drewN | with_reducible apply Ext.drew | with_reducible apply Ext.alloc | exact Ext.refl _ | assumption | apply Ext.drewN | apply Ext.drew | apply Ext.alloc)) ((W0.alloc _).alloc _) ?_ ((((hF _).alloc _).cell 0).trans rfl)).mono ?_
      · rw [World.cell?_alloc_at _ _ _ _ (by simp [World.size_alloc])]
        rfl
      rintro e w1 ⟨rfl, hx1⟩
      go_wp2
      go_ret
      exact ⟨rfl, Ext.trans (by repeat (first | with_reducible exact Ext.refl _ | with_reducible assumption | with_reducible apply Ext.drewN | with_reducible apply Ext.drew | with_reducible apply Ext.alloc | exact Ext.refl _ | assumption | apply Ext.drewN | apply Ext.drew | apply Ext.alloc)) hx1⟩
  · have hne : ((n : Int) == 1) = false := by rw [beq_eq_false_iff_ne]; omega
    have HR := Lib.hid (H1.out (by rw [HN.out]; exact hone))
    have CC2 := Lib.hid (fun gv ga gn W h bV bA bN => CC.out false gv ga gn W h bV bA bN)
    simp only [HR.out] at CC2
    clear H1 H2 HR CC hr
    have W0 := Blk.new (w.alloc (.cells #[.slice A n c] 51)) 35 #[.int .i64 v1, .int .i64 v2, .int .i64 v3, .string va]
    rw [World.size_alloc] at W0
    have hF := (fun T => Blk.new ((w.alloc (.cells #[.slice A n c] 51)).alloc (.cells #[.int .i64 v1, .int .i64 v2, .int .i64 v3, .string va] 35)) T #[(.func (.func 132) #[] #[.pointer (some ⟨w.heap.size + 1, 0, none⟩)])])
    simp only [World.size_alloc] at hF
    go_enter Tryz.func54, Tryz.ntmps54
    go_wp2_with fail
    refine (CC2.out (w.heap.size + 1) (w.heap.size + 1 + 1 + 1) (w.heap.size + 1 + 1) _ (by repeat (first | with_reducible exact Ext.refl _ | with_reducible assumption | with_reducible apply Ext.drewN | with_reducible apply Ext.drew | with_reducible apply Ext.alloc | exact Ext.refl _ | assumption | apply Ext.drewN | apply Ext.drew | apply Ext.alloc)) ((W0.alloc _).alloc _) ?_ ((((hF _).alloc _).cell 0).trans rfl)).mono ?_
    · rw [World.cell?_alloc_at _ _ _ _ (by simp [World.size_alloc])]
      rfl
    rintro e w1 ⟨rfl, hx1⟩
    go_wp2
    go_ret
    exact ⟨rfl, Ext.trans (by repeat (first | with_reducible exact Ext.refl _ | with_reducible assumption | with_reducible apply Ext.drewN | with_reducible apply Ext.drew | with_reducible apply Ext.alloc | exact Ext.refl _ | assumption | apply Ext.drewN | apply Ext.drew | apply Ext.alloc)) hx1⟩
end Go.Proofs.YtghhjlcbcojcnaaGreatDoor

namespace Go.Proofs.YtghhjlcbcojcnaaGreatDoor
open Go.RowKit

theorem lexle_mid : ∀ (a : List Nat) {x y : Nat} (r s : List Nat), x ≠ y → (lexle (a ++ x :: r) (a ++ y :: s) ↔ x < y)
  | [], x, y, r, s, h => by simp [lexle, h]
  | c :: a, x, y, r, s, h => by
    have := lexle_mid a r s h
    simp only [List.cons_append, lexle, Nat.lt_irrefl, false_or, true_and]
    exact this
set_option maxHeartbeats 4000000 in
theorem CompareI_any (p q : List Nat) (u1 u2 : Value) (w : World) (h1 : LstAt w p u1) (h2 : LstAt w q u2) (hl : p.length = q.length) (hn : p.length ≤ 1000000) :
    Calls Tryz.prog 151 #[u1, u2] w fun e w' => ∃ z : Int, e = .returned (.int .i64 z) ∧ (z < 0 ↔ ¬ lexle q p) ∧ w = w' := by
  obtain ⟨A1, c1, rfl, k1⟩ := h1.form
  obtain ⟨A2, c2, rfl, k2⟩ := h2.form
  obtain ⟨n, hp⟩ : ∃ n, p.length = n := ⟨_, rfl⟩
  have hq : q.length = n := by rw [← hl, hp]
  rw [hp] at hn
  rw [hp, hq]
  have HP := Lib.hid hp; have HQ := Lib.hid hq
  have K1 := Lib.hid k1; have K2 := Lib.hid k2
  clear h1 h2 k1 k2 hl hp hq
  go_enter Tryz.func151, Tryz.ntmps151
  go_wp2
  go_loop [11] (fun t => ∃ k : Nat, k ≤ n ∧ t = .int .i64 k ∧ Hid (p.take k = q.take k)) (fun t => n - (intOf t).toNat)
  case atStart => exact ⟨0, Nat.zero_le _, rfl, rfl⟩
  case round =>
    obtain ⟨k, hk, rfl, HT⟩ := hrel
    by_cases hlt : k < n
    · have hk1 : k < p.length := by rw [HP.out]; exact hlt
      have hk2 : k < q.length := by rw [HQ.out]; exact hlt
      obtain ⟨g1, rfl, d1⟩ := K1.out (fun e => by rw [e] at hk1; exact absurd hk1 (Nat.not_lt_zero _))
      obtain ⟨g2, rfl, d2⟩ := K2.out (fun e => by rw [e] at hk2; exact absurd hk2 (Nat.not_lt_zero _))
      have x1 := d1 k hk1
      have x2 := d2 k hk2
      have HN1 := Lib.hid (take_next (List.getElem?_eq_getElem hk1))
      have HN2 := Lib.hid (take_next (List.getElem?_eq_getElem hk2))
      have HE1 := Lib.hid (show p = p.take k ++ p[k] :: p.drop (k + 1) from by rw [← List.drop_eq_getElem_cons hk1, List.take_append_drop])
      have HE2 := Lib.hid (show q = q.take k ++ q[k] :: q.drop (k + 1) from by rw [← List.drop_eq_getElem_cons hk2, List.take_append_drop])
      generalize p[k] = a at *
      generalize q[k] = b at *
      clear d1 d2
      have CC := Lib.hid (fun W => compareInt_any (a : Int) (b : Int) W)
      by_cases hab : a = b
      · subst hab
        have hc : Lib.compareInt (a : Int) (a : Int) = 0 := by unfold Lib.compareInt; rw [if_neg (by omega), if_neg (by omega)]
        rw [hc] at CC
        clear hc
        go_wp2_with fail
        refine (CC.out _).mono ?_
        rintro e w' ⟨rfl, rfl⟩
        go_wp2
        go_round
        case rel => exact ⟨k + 1, by omega, by go_num, by show p.take (k + 1) = q.take (k + 1); rw [HN1.out, HN2.out, HT.out]⟩
        case measure => simp [intOf]; omega
      · obtain ⟨z, hz⟩ : ∃ z, Lib.compareInt (a : Int) (b : Int) = z := ⟨_, rfl⟩
        have hz0 : (z != 0) = true := by
          rw [bne_iff_ne, ← hz]
          unfold Lib.compareInt
          repeat' split
          all_goals omega
        have HZ := Lib.hid (show z < 0 ↔ ¬ lexle q p from by
          rw [HE2.out, HE1.out, HT.out, lexle_mid _ _ _ (fun e => hab e.symm), ← hz]
          unfold Lib.compareInt
          repeat' split
          all_goals omega)
        rw [hz] at CC
        clear hz hab
        go_wp2_with fail
        refine (CC.out _).mono ?_
        rintro e w' ⟨rfl, rfl⟩
        go_wp2
        go_ret
        exact ⟨z, rfl, HZ.out, rfl⟩
    · obtain rfl : k = n := by omega
      have HE := Lib.hid (show lexle q p from by
        have h := HT.out
        rw [List.take_of_length_le (by rw [HP.out]; exact Nat.le_refl _), List.take_of_length_le (by rw [HQ.out]; exact Nat.le_refl _)] at h
        rw [h]; exact lexle_refl _)
      go_wp2
      go_ret
      exact ⟨0, rfl, ⟨fun h => absurd h (by decide), fun h => absurd HE.out h⟩, rfl⟩
set_option maxHeartbeats 4000000 in
theorem EqualI_any (p : List Nat) (u1 u2 : Value) (w : World) (h1 : LstAt w p u1) (h2 : LstAt w p u2) (hn : p.length ≤ 1000000) :
    Calls Tryz.prog 76 #[u1, u2] w fun e w' => e = .returned (.bool true) ∧ Ext w w' := by
  obtain ⟨A1, c1, rfl, k1⟩ := h1.form
  obtain ⟨A2, c2, rfl, k2⟩ := h2.form
  obtain ⟨n, hp⟩ : ∃ n, p.length = n := ⟨_, rfl⟩
  rw [hp] at hn
  rw [hp]
  have hne : ((n : Int) != (n : Int)) = false := by rw [bne, beq_iff_eq.2 rfl]; rfl
  have HP := Lib.hid hp
  have K1 := Lib.hid k1; have K2 := Lib.hid k2
  clear h1 h2 k1 k2 hp
  go_enter Tryz.func76, Tryz.ntmps76
  go_wp2
  go_loopw [13] (fun t wr => ∃ k : Nat, k ≤ n ∧ t = .int .i64 k ∧ Ext w wr) (fun t _ => n - (intOf t).toNat)
  case atStart => exact ⟨0, Nat.zero_le _, rfl, Ext.refl _⟩
  case round =>
    obtain ⟨k, hk, rfl, hxr⟩ := hrel
    by_cases hlt : k < n
    · have hk1 : k < p.length := by rw [HP.out]; exact hlt
      obtain ⟨g1, rfl, d1⟩ := K1.out (fun e => by rw [e] at hk1; exact absurd hk1 (Nat.not_lt_zero _))
      obtain ⟨g2, rfl, d2⟩ := K2.out (fun e => by rw [e] at hk1; exact absurd hk1 (Nat.not_lt_zero _))
      have x1 := hxr.cell (d1 k hk1)
      have x2 := hxr.cell (d2 k hk1)
      generalize p[k] = a at *
      clear d1 d2
      have haa : ((a : Int) != (a : Int)) = false := by simp
      go_wp2
      go_quiet (fail)
      go_wp2
      go_roundw
      case rel => exact ⟨k + 1, by omega, by go_num, hxr.drewN _⟩
      case measure => simp [intOf]; omega
    · obtain rfl : k = n := by omega
      go_wp2
      go_ret
      exact ⟨rfl, hxr⟩

/-! ### How many entries a map has -/
theorem VMap.tight {w : World} {b n : Nat} {f : V4 → Option Value} (h : VMap w b n f) (L : List V4) (hL : ∀ v, OkV v → (f v).isSome = true → v ∈ L) : VMap w b L.length f := by
  obtain ⟨D, ⟨es, clock, hb, F, hs, hD⟩, hv⟩ := h
  refine ⟨D, ⟨es, clock, hb, F, ?_, hD⟩, hv⟩
  have hlen : ((es.toList.map (WideElems.rg Tryz.prog 35 elemH)).map Prod.fst).length = es.size := by simp
  have hap := Maps.fit_apart ver_keyed F
  have hnd : ((es.toList.map (WideElems.rg Tryz.prog 35 elemH)).map Prod.fst).Nodup := List.pairwise_map.2 hap
  have hsub : ∀ l ∈ (es.toList.map (WideElems.rg Tryz.prog 35 elemH)).map Prod.fst, l ∈ L.map keyV := fun l hl => by
    obtain ⟨q, hq, rfl⟩ := List.mem_map.1 hl
    obtain ⟨x, hx⟩ := Maps.fit_keys F q hq
    obtain ⟨v, rfl, hov⟩ := key_back hx
    have e : q.1 = keyV v := Option.some.inj (hx.symm.trans (keyV_of hov))
    have hh : Maps.has D (keyV v) = true := by
      rw [hD, Maps.has_eq]
      exact List.any_eq_true.2 ⟨q, (WideShapes.sorted_perm _).mem_iff.2 hq, by rw [e]; exact WideAt.sameKey_self (keyV_lit hov)⟩
    rw [hv.has hov] at hh
    rw [e]
    exact List.mem_map.2 ⟨v, hL v hov hh, rfl⟩
  have := @nodup_sub Lit (fun a b => Classical.propDecidable (a = b)) _ _ hnd hsub
  rw [hlen, List.length_map] at this
  exact this

/-! ### Maps of ways -/
/-- block b is a map that tells, for versions, lists of numbers -/
def MapL (w : World) (b n : Nat) (f : V4 → Option (List Nat)) : Prop := ∃ F, VMap w b n F ∧ ∀ v, (f v = none → F v = none) ∧ ∀ p, f v = some p → ∃ u, F v = some u ∧ LstAt w p u
namespace MapL
variable {w w' : World} {b n : Nat} {f : V4 → Option (List Nat)}
theorem kept (h : MapL w b n f) {row : Option Nat} (hg : w.grownBy w' row) (hb : some b ≠ row) (hl : ∀ p u, LstAt w p u → u.ownBlock ≠ row ∨ u.ownBlock = none) : MapL w' b n f := by
  obtain ⟨F, h1, h2⟩ := h
  refine ⟨F, h1.far hg hb, fun v => ⟨(h2 v).1, fun p hp => ?_⟩⟩
  obtain ⟨u, hu, hl2⟩ := (h2 v).2 p hp
  exact ⟨u, hu, hl2.kept hg (hl p u hl2)⟩
theorem ext (h : MapL w b n f) (hx : Ext w w') : MapL w' b n f := h.kept (hx.by none) (by simp) (fun p u _ => by
  cases hu : u.ownBlock with
  | none => exact .inr rfl
  | some g => exact .inl (by simp))
theorem mono (h : MapL w b n f) {m : Nat} (hm : n ≤ m) : MapL w b m f := by
  obtain ⟨F, h1, h2⟩ := h
  exact ⟨F, h1.mono hm, h2⟩
theorem lt (h : MapL w b n f) : b < w.heap.size := by
  obtain ⟨F, h1, h2⟩ := h
  exact h1.lt
theorem made (w : World) : MapL (w.alloc (.map #[] 0)) w.heap.size 0 (fun _ => none) := ⟨_, VMap.made w, fun v => ⟨fun _ => rfl, fun _ h => by cases h⟩⟩
theorem tight (h : MapL w b n f) (L : List V4) (hL : ∀ v, OkV v → (f v).isSome = true → v ∈ L) : MapL w b L.length f := by
  obtain ⟨F, h1, h2⟩ := h
  refine ⟨F, h1.tight L (fun v hv hs => hL v hv ?_), h2⟩
  cases hf : f v with
  | none => rw [(h2 v).1 hf] at hs; cases hs
  | some p => rfl
/-- another map has turned -/
theorem other (h : MapL w b n f) {b2 n2 : Nat} {F2 : V4 → Option Value} (h2 : VMap w b2 n2 F2) (hg : w.grownBy w' (some b2)) (hne : b ≠ b2) : MapL w' b n f :=
  h.kept hg (by simpa using hne) (fun p u hl => hl.not_map h2)
theorem look (h : MapL w b n f) {t : TypeId} (ht : Tryz.prog.underlying t = some (.map 35 98)) (hz : (zeroValue 98).run Tryz.prog w = .ok (.slice none 0 0) w) {v : V4} (hv : OkV v) :
    ∃ u, (Instr.lookup t (.map (some b)) (verV v) true).run Tryz.prog w = .ok (.tuple #[u, .bool (f v).isSome]) w ∧ LstAt w ((f v).getD []) u := by
  obtain ⟨F, h1, h2⟩ := h
  have hl := (h1.look ht hz hv).1
  cases hf : f v with
  | none =>
    rw [(h2 v).1 hf] at hl
    exact ⟨_, hl, LstAt.nil _⟩
  | some p =>
    obtain ⟨u, hu, hl2⟩ := (h2 v).2 p hf
    rw [hu] at hl
    exact ⟨_, hl, hl2⟩
theorem upd (h : MapL w b n f) {t : TypeId} (ht : Tryz.prog.underlying t = some (.map 35 98)) {v : V4} (hv : OkV v) {p : List Nat} {u : Value} (hu : LstAt w p u) (hn : n ≤ 2097152) :
    ∃ w', (Instr.mapUpdate t (.map (some b)) (verV v) u).run Tryz.prog w = .ok () w' ∧ MapL w' b (n + 1) (fun x => if x = v then some p else f x) ∧ w.grownBy w' (some b) := by
  obtain ⟨F, h1, h2⟩ := h
  obtain ⟨w', hrun, h3, hg⟩ := h1.upd ht hv u hn
  refine ⟨w', hrun, ⟨_, h3, fun x => ?_⟩, hg⟩
  unfold setV
  dsimp only
  by_cases e : x = v
  · rw [if_pos e, if_pos e]
    exact ⟨(fun h => by cases h), fun q hq => by cases hq; exact ⟨u, rfl, hu.kept hg (hu.not_map h1)⟩⟩
  · rw [if_neg e, if_neg e]
    refine ⟨(h2 x).1, fun q hq => ?_⟩
    obtain ⟨u2, hu2, hl2⟩ := (h2 x).2 q hq
    exact ⟨u2, hu2, hl2.kept hg (hl2.not_map h1)⟩
end MapL
end Go.Proofs.YtghhjlcbcojcnaaGreatDoor
