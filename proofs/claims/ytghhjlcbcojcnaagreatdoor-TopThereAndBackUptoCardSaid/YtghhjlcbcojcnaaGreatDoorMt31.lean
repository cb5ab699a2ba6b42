/- Plain law: what rules leave is finite, small and right. Contracts of migrate.runFault and of outref2.RunError. -/
import Derived.Test.YtghhjlcbcojcnaaGreatDoorMt30
import Derived.Test.YtghhjlcbcojcnaaGreatDoorMt25
import Derived.Test.YtghhjlcbcojcnaaGreatDoorMt23
import Derived.Test.YtghhjlcbcojcnaaGreatDoorMt15
import Derived.Test.YtghhjlcbcojcnaaGreatDoorMt28

namespace Go.Proofs.YtghhjlcbcojcnaaGreatDoor

theorem keysOf_nofin {f : Tb} (h : ¬ FinT f) : keysOf f = [] := by unfold keysOf; rw [dif_neg h]
theorem seL_small {f : Tb} (h : Okt f) : SmallE (seL f) := fun s hs => by
  obtain ⟨k, hk, rfl⟩ := List.mem_map.1 hs
  by_cases hf : FinT f
  · have hm := (mem_keysOf hf k).1 hk
    cases hv : f k with
    | none => rw [hv] at hm; cases hm
    | some v =>
      obtain ⟨p1, p2⟩ := h k v hv
      simp only [pathL, valueL, Bool.and_eq_true, decide_eq_true_eq] at p1 p2
      dsimp only
      rw [← bs_length, ← bs_length, bs_mk, bs_mk, Option.getD_some]
      omega
  · rw [keysOf_nofin hf] at hk; cases hk
theorem seL_right {f : Tb} (h : Okt f) : seErr pathL (seL f) = 0 := by
  by_cases hf : FinT f
  · exact seL_ok hf h
  · rw [seL, keysOf_nofin hf]; rfl
theorem run_len : ∀ {rs : List Ru} {f : Tb}, (keysOf f).length ≤ 2000 → runE rs f = 0 → (keysOf (runF rs f)).length ≤ 2000
  | [], _, h, _ => h
  | r :: rs, f, h, h0 => by
    unfold runE at h0
    by_cases h1 : doE r f = 0
    · rw [if_pos h1] at h0
      exact run_len (rs := rs) (doE_ok h1).2 h0
    · rw [if_neg h1] at h0; exact absurd h0 h1
theorem runErr_parts {es : List Se} {rs : List Ru} (h : runErr es rs = 0) : seErr pathL es = 0 ∧ es.length ≤ 2000 ∧ rs.length ≤ 100 ∧ ∀ r ∈ rs, ruErr r = 0 := by
  have h1 := firstI_all h
  have h2 := h1 (if 2000 < es.length ∨ 100 < rs.length then 4 else 0) (by simp)
  by_cases h3 : 2000 < es.length ∨ 100 < rs.length
  · rw [if_pos h3] at h2; cases h2
  · exact ⟨h1 _ (by simp), by omega, by omega, fun r hr => h1 _ (by simp only [List.mem_cons, List.mem_map]; exact .inr (.inr ⟨r, hr, rfl⟩))⟩
theorem runR_parts {es : List Se} {rs : List Ru} (h : runR es rs = 0) : runErr es rs = 0 ∧ runE rs (tbl es) = 0 := by
  unfold runR at h
  by_cases h1 : runErr es rs = 0
  · rw [if_pos h1] at h; exact ⟨h1, h⟩
  · rw [if_neg h1] at h; exact absurd h h1
theorem tbl_len {es : List Se} (h : seErr pathL es = 0) : (keysOf (tbl es)).length = es.length := by rw [keysOf_tbl (seErr_asc h), List.length_map]
/-- what Run returns -/
theorem run_out (es : List Se) (rs : List Ru) : (runS es rs).length ≤ 2000 ∧ SmallE (runS es rs) ∧ seErr pathL (runS es rs) = 0 := by
  unfold runS
  by_cases h : runR es rs = 0
  · rw [if_pos h]
    obtain ⟨h1, h2⟩ := runR_parts h
    obtain ⟨a, b, c, d⟩ := runErr_parts h1
    have ho := okt_run (okt_tbl a) d h2
    refine ⟨?_, seL_small ho, seL_right ho⟩
    rw [seL_length]
    exact run_len (by rw [tbl_len a]; exact b) h2
  · rw [if_neg h]
    exact ⟨Nat.zero_le _, (fun _ h => by cases h), rfl⟩

/-! ### Finite tables -/
theorem fin_sub {g : Tb} (L : List Str) (h : ∀ x, (g x).isSome = true → x ∈ L) : FinT g :=
  ⟨L.filter fun x => (g x).isSome, fun x => by rw [List.mem_filter]; exact ⟨fun h => h.2, fun hx => ⟨h x hx, hx⟩⟩⟩
theorem fin_do {r : Ru} {f : Tb} (h : FinT f) : FinT (doF r f) := by
  obtain ⟨L, hL⟩ := h
  have hs : ∀ (g : Tb) (k v : Str), (∀ x, (g x).isSome = true → x ∈ L) → ∀ x, (setT g k v x).isSome = true → x ∈ k :: L := fun g k v hg x hx => by
    unfold setT at hx
    by_cases e : x = k
    · simp [e]
    · rw [if_neg e] at hx; simp [hg x hx]
  have hd : ∀ (k : Str), ∀ x, (delT f k x).isSome = true → x ∈ L := fun k x hx => by
    unfold delT at hx
    by_cases e : x = k
    · rw [if_pos e] at hx; cases hx
    · rw [if_neg e] at hx; exact (hL x).2 hx
  have h0 : ∀ x, (f x).isSome = true → x ∈ L := fun x hx => (hL x).2 hx
  unfold doF
  by_cases h1 : r.kind = 1
  · rw [if_pos h1]
    cases f r.key with
    | none => exact ⟨L, hL⟩
    | some v => exact fin_sub _ (hs _ _ _ (hd _))
  rw [if_neg h1]
  by_cases h2 : r.kind = 2
  · rw [if_pos h2]
    refine fin_sub (L.map (newKey r.key r.tt) ++ L) fun x hx => ?_
    unfold moveT at hx
    cases hm : movedT f r.key r.tt (fun _ => false) x with
    | some v =>
      obtain ⟨y, _, y2, rfl⟩ := moved_some hm
      exact List.mem_append.2 (.inl (List.mem_map.2 ⟨y, (hL y).2 (by rw [y2]; rfl), rfl⟩))
    | none =>
      rw [hm] at hx
      simp only [Option.none_or, cutT] at hx
      split at hx
      · cases hx
      · exact List.mem_append.2 (.inr (h0 x hx))
  rw [if_neg h2]
  by_cases h3 : r.kind = 3
  · rw [if_pos h3]
    cases f r.key with
    | none => exact ⟨L, hL⟩
    | some v => exact fin_sub _ (hs _ _ _ h0)
  rw [if_neg h3]
  by_cases h4 : r.kind = 4
  · rw [if_pos h4]; exact fin_sub _ (hs _ _ _ h0)
  rw [if_neg h4]
  by_cases h5 : r.kind = 5
  · rw [if_pos h5]
    cases f r.key with
    | none => exact fin_sub _ (hs _ _ _ h0)
    | some v => exact ⟨L, hL⟩
  rw [if_neg h5]
  by_cases h6 : r.kind = 6
  · rw [if_pos h6]; exact fin_sub _ (hd _)
  rw [if_neg h6]
  cases f r.key with
  | none => exact ⟨L, hL⟩
  | some v =>
    dsimp only
    split
    · exact fin_sub _ (hs _ _ _ h0)
    · split
      · exact fin_sub _ (hs _ _ _ h0)
      · exact ⟨L, hL⟩
theorem fin_run : ∀ {rs : List Ru} {f : Tb}, FinT f → FinT (runF rs f)
  | [], _, h => h
  | r :: rs, _, h => fin_run (rs := rs) (fin_do (r := r) h)

/-! ### There and back -/
theorem inv_parts {rs : List Ru} (h : invE rs = 0) : rs.length ≤ 100 ∧ ∀ r ∈ rs, (invL r).2 = 0 := by
  unfold invE at h
  by_cases h1 : 100 < rs.length
  · rw [if_pos h1] at h; cases h
  · rw [if_neg h1] at h
    exact ⟨by omega, fun r hr => firstI_all h _ (List.mem_map.2 ⟨r, hr, rfl⟩)⟩
theorem clean_back {es : List Se} {rs : List Ru} (h : runR es rs = 0) (hi : invE rs = 0) (hc : cleanB rs (tbl es) = true) : runR (runS es rs) (invS rs) = 0 ∧ runS (runS es rs) (invS rs) = es := by
  obtain ⟨h1, h2⟩ := runR_parts h
  obtain ⟨a, b, c, d⟩ := runErr_parts h1
  obtain ⟨_, i2⟩ := inv_parts hi
  have ho := okt_run (okt_tbl a) d h2
  have hS : runS es rs = seL (runF rs (tbl es)) := by rw [runS, if_pos h]
  have hI : invS rs = (rs.map backR).reverse := by
    rw [invS, if_pos hi]
    congr 1
    exact List.map_congr_left fun r hr => (inv_ok (d r hr) (i2 r hr)).1
  obtain ⟨k1, k2⟩ := back_all (f := tbl es) d (fun r hr => (inv_ok (d r hr) (i2 r hr)).2) (okt_tbl a) (by rw [tbl_len a]; exact b) h2 hc
  have hT : tbl (runS es rs) = runF rs (tbl es) := by rw [hS]; exact tbl_seL (fin_run (fin_tbl es))
  obtain ⟨o1, _, o3⟩ := run_out es rs
  have hE : runErr (runS es rs) (invS rs) = 0 := by
    have hl : (invS rs).length ≤ 100 := by rw [hI]; simpa using c
    unfold runErr
    rw [firstI, if_pos o3, if_neg (by omega), firstI, if_pos rfl]
    refine firstI_zero fun x hx => ?_
    obtain ⟨r, hr, rfl⟩ := List.mem_map.1 hx
    rw [hI, List.mem_reverse] at hr
    obtain ⟨q, hq, rfl⟩ := List.mem_map.1 hr
    exact back_right (d q hq)
  have hR : runR (runS es rs) (invS rs) = 0 := by rw [runR, if_pos hE, hT, hI]; exact k2
  refine ⟨hR, ?_⟩
  have e2 : runS (runS es rs) (invS rs) = seL (runF (invS rs) (tbl (runS es rs))) := by rw [runS, if_pos hR]
  rw [e2, hT, hI, k1]
  exact seL_tbl a
end Go.Proofs.YtghhjlcbcojcnaaGreatDoor

namespace Go.Proofs.YtghhjlcbcojcnaaGreatDoor
open Go.RowKit

theorem runErr_a {es : List Se} {rs : List Ru} (h : ¬ seErr pathL es = 0) : runErr es rs = seErr pathL es := by rw [runErr, firstI, if_neg h]
theorem runErr_b {es : List Se} {rs : List Ru} (h : seErr pathL es = 0) (h2 : 2000 < es.length ∨ 100 < rs.length) : runErr es rs = 4 := by
  rw [runErr, firstI, if_pos h, if_pos h2, firstI, if_neg (by decide)]
theorem runErr_c {es : List Se} {rs : List Ru} (h : seErr pathL es = 0) (h2 : ¬ (2000 < es.length ∨ 100 < rs.length)) : runErr es rs = firstI (rs.map ruErr) := by
  rw [runErr, firstI, if_pos h, if_neg h2, firstI, if_pos rfl]
theorem runErr_zero {es : List Se} {rs : List Ru} (h : runErr es rs = 0) : seErr pathL es = 0 ∧ es.length ≤ 2000 ∧ rs.length ≤ 100 ∧ ∀ r ∈ rs, ruErr r = 0 := by
  have h1 := firstI_all h
  have h2 := h1 (if 2000 < es.length ∨ 100 < rs.length then 4 else 0) (by simp)
  by_cases h3 : 2000 < es.length ∨ 100 < rs.length
  · rw [if_pos h3] at h2; cases h2
  · exact ⟨h1 _ (by simp), by omega, by omega, fun r hr => h1 _ (by simp only [List.mem_cons, List.mem_map]; exact .inr (.inr ⟨r, hr, rfl⟩))⟩
theorem snocI (l : List Int) (e : Int) : firstI (l ++ [e]) = firstI [firstI l, e] := by
  induction l with
  | nil => simp [firstI]
  | cons x r ih =>
    by_cases h : x = 0
    · subst h
      simp only [List.cons_append, firstI, if_true] at ih ⊢
      exact ih
    · simp only [List.cons_append, firstI, if_neg h]
/-- the errors of rules, one by one -/
def ruErrs (rs : List RB) : List Int := rs.map fun r => ruErr r.l
theorem ruErrs_length (rs : List RB) : (ruErrs rs).length = rs.length := by simp [ruErrs]
theorem ruErrs_get (rs : List RB) (k : Nat) (h : k < rs.length) : (ruErrs rs)[k]? = some (ruErr rs[k].l) := by simp [ruErrs, List.getElem?_eq_getElem h]
theorem take_next {α : Type} {L : List α} {k : Nat} {e : α} (h : L[k]? = some e) : L.take (k + 1) = L.take k ++ [e] := by rw [List.take_add_one, h, Option.toList_some]
theorem ruErrs_map (rs : List RB) : (rs.map RB.l).map ruErr = ruErrs rs := by simp [ruErrs]

set_option maxHeartbeats 8000000 in
set_option maxRecDepth 100000 in
theorem runFault_any (A A2 : Option Addr) (n m c c2 : Nat) (es : List Se) (rs : List RB) (w : World) (hg : GoodN w) (hn : es.length = n) (hm : rs.length = m) (hr : RdE w A es) (hr2 : RdU w A2 rs) (hs : SmallE es) (hs2 : SmallU rs) (hl : n ≤ 2097152) (hl2 : m ≤ 2097152) :
    Calls Tryz.prog 142 #[.slice A n c, .slice A2 m c2] w fun e w' => e = .returned (.int .i64 (runErr es (rs.map RB.l))) ∧ Ext w w' := by
  have CF := Lib.hid (mFault_any A n c es w hg hn hr hs hl)
  have CK := Lib.hid (fun W (h : Ext w W) k (hk : k < rs.length) => CheckRule_any rs[k] W (hg.toGood.ext h) (hs2 _ (List.getElem_mem hk)))
  have HA := Lib.hid (runErr_a (es := es) (rs := rs.map RB.l))
  have HB := Lib.hid (runErr_b (es := es) (rs := rs.map RB.l))
  have HC := Lib.hid (runErr_c (es := es) (rs := rs.map RB.l))
  rw [List.length_map, hn, hm] at HB HC
  rw [ruErrs_map] at HC
  have HG := Lib.hid (ruErrs_get rs)
  have HLN := Lib.hid (ruErrs_length rs)
  have HR := Lib.hid hr2
  have HM := Lib.hid hm
  generalize ruErrs rs = L at *
  generalize seErr pathL es = E at *
  generalize runErr es (rs.map RB.l) = F at *
  clear hn hm hr hr2 hs hs2 hg
  by_cases h0 : E = 0
  rotate_left
  · have hne : (E != 0) = true := by rw [bne_iff_ne]; exact h0
    have HF := Lib.hid (HA.out h0)
    clear h0
    go_enter Tryz.func142, Tryz.ntmps142
    go_wp2_with fail
    refine CF.out.mono ?_
    rintro e w1 ⟨rfl, hx1⟩
    go_wp2
    go_ret
    exact ⟨ret_int HF.out.symm, hx1⟩
  subst h0
  by_cases h1 : 2000 < n
  · have HF := Lib.hid (HB.out rfl (.inl h1))
    go_enter Tryz.func142, Tryz.ntmps142
    go_wp2_with fail
    refine CF.out.mono ?_
    rintro e w1 ⟨rfl, hx1⟩
    go_wp2
    go_ret
    exact ⟨ret_int HF.out.symm, hx1⟩
  by_cases h2 : 100 < m
  · have HF := Lib.hid (HB.out rfl (.inr h2))
    go_enter Tryz.func142, Tryz.ntmps142
    go_wp2_with fail
    refine CF.out.mono ?_
    rintro e w1 ⟨rfl, hx1⟩
    go_wp2
    go_ret
    exact ⟨ret_int HF.out.symm, hx1⟩
  have HF := Lib.hid (HC.out rfl (by omega))
  go_enter Tryz.func142, Tryz.ntmps142
  go_wp2_with fail
  refine CF.out.mono ?_
  rintro e w1 ⟨rfl, hx1⟩
  go_wp2
  go_loopw [24] (fun i wr => ∃ k : Nat, k ≤ m ∧ i = .int .i64 k ∧ (∀ x ∈ L.take k, x = 0) ∧ Ext w wr) (fun i _ => m - (intOf i).toNat)
  case atStart => exact ⟨0, Nat.zero_le _, rfl, by simp, hx1⟩
  case round =>
    clear hx1
    obtain ⟨k, hk, rfl, hall, hxr⟩ := hrel
    have HALL := Lib.hid hall
    clear hall
    by_cases hlt : k < m
    · have hk1 : k < rs.length := by rw [HM.out]; exact hlt
      obtain ⟨b, o, rfl, hX⟩ := (HR.out.ext hxr) (fun e => by rw [e] at hk1; exact absurd hk1 (Nat.not_lt_zero _))
      have x0 := hX.c0 k hk1; have x1 := hX.c1 k hk1; have x2 := hX.c2 k hk1; have x3 := hX.c3 k hk1; have x4 := hX.c4 k hk1
      have hgk := HG.out k hk1
      have CR := Lib.hid (fun W (h : Ext w W) => CK.out W h k hk1)
      generalize rs[k] = r at *
      generalize ruErr r.l = ek at *
      obtain ⟨HKL, hgk1⟩ := List.getElem?_eq_some_iff.1 hgk
      have HGK := Lib.hid hgk1
      obtain ⟨r0, r1, r2, r3, r4⟩ := r
      dsimp only at x0 x1 x2 x3 x4
      clear hX hgk hgk1
      have b1 := Blk.new wr 23 #[.int .i64 r0, .string r1, .string r2, .string r3, .string r4]
      have hc1 := b1.cell
      clear b1
      by_cases he : ek = 0
      · subst he
        go_wp2_with fail
        refine (CR.out _ (hxr.alloc _)).mono ?_
        rintro e w2 ⟨rfl, hx2⟩
        go_wp2
        go_roundw
        case rel => exact ⟨k + 1, by omega, by go_num, take_zero_succ HKL HALL.out HGK.out, (hxr.alloc _).trans hx2⟩
        case measure => simp [intOf]; omega
      · have hne : (ek != 0) = true := by rw [bne_iff_ne]; exact he
        have HE := Lib.hid (show F = ek from by
          rw [HF.out, firstI_at HKL HALL.out (by rw [HGK.out]; exact he)]
          exact HGK.out)
        clear he
        go_wp2_with fail
        refine (CR.out _ (hxr.alloc _)).mono ?_
        rintro e w2 ⟨rfl, hx2⟩
        go_wp2
        go_ret
        exact ⟨ret_int HE.out.symm, (hxr.alloc _).trans hx2⟩
    · obtain rfl : k = m := by omega
      have HE := Lib.hid (show F = 0 from by
        rw [HF.out]
        refine firstI_zero fun x hx => HALL.out x ?_
        rw [List.take_of_length_le (by rw [HLN.out, HM.out]; exact Nat.le_refl _)]
        exact hx)
      go_wp2
      go_ret
      exact ⟨ret_int HE.out.symm, hxr⟩

set_option maxHeartbeats 8000000 in
set_option maxRecDepth 100000 in
theorem RunError_any (A A2 : Option Addr) (n m c c2 : Nat) (es : List Se) (rs : List RB) (w : World) (hg : Good w) (hn : es.length = n) (hm : rs.length = m) (hr : RdE w A es) (hr2 : RdU w A2 rs) (hs : SmallE es) (hs2 : SmallU rs) (hl : n ≤ 2097152) (hl2 : m ≤ 2097152) :
    Calls Tryz.prog 147 #[.slice A n c, .slice A2 m c2] w fun e w' => e = .returned (.int .i64 (runErr es (rs.map RB.l))) ∧ Ext w w' := by
  have CF := Lib.hid (ListErrorS_any A n c es w hg hn hr hs hl)
  have CK := Lib.hid (fun W (h : Ext w W) k (hk : k < rs.length) => RuleError_any rs[k] W (hg.ext h) (hs2 _ (List.getElem_mem hk)))
  have hF : runErr es (rs.map RB.l) = firstI (firstI [seErr pathL es, (if decide (2000 < n) then 4 else 0), (if decide (100 < m) then 4 else 0)] :: ruErrs rs) := by
    rw [← ruErrs_map, ← hn, ← hm, runErr, List.length_map]
    by_cases h0 : seErr pathL es = 0
    · by_cases h1 : 2000 < es.length
      · simp [firstI, h0, h1]
      · by_cases h2 : 100 < rs.length
        · simp [firstI, h0, h1, h2]
        · simp [firstI, h0, h1, h2]
    · simp [firstI, h0]
  have d1 : decide ((2000 : Int) < (n : Int)) = decide (2000 < n) := by rw [decide_eq_decide]; omega
  have d2 : decide ((100 : Int) < (m : Int)) = decide (100 < m) := by rw [decide_eq_decide]; omega
  rw [hF, ← d1, ← d2]
  clear hF d1 d2
  have HG := Lib.hid (ruErrs_get rs)
  have HLN := Lib.hid (ruErrs_length rs)
  have HR := Lib.hid hr2
  have HM := Lib.hid hm
  generalize ruErrs rs = L at *
  generalize seErr pathL es = E at *
  have CW1 := Lib.hid (fun W => When_any (decide ((2000 : Int) < (n : Int))) 4 W)
  have CW2 := Lib.hid (fun W => When_any (decide ((100 : Int) < (m : Int))) 4 W)
  clear hn hm hr hr2 hs hs2 hg
  obtain ⟨E1, hE1⟩ : ∃ E1, (if decide ((2000 : Int) < (n : Int)) = true then (4 : Int) else 0) = E1 := ⟨_, rfl⟩
  obtain ⟨E2, hE2⟩ : ∃ E2, (if decide ((100 : Int) < (m : Int)) = true then (4 : Int) else 0) = E2 := ⟨_, rfl⟩
  rw [hE1] at CW1
  rw [hE2] at CW2
  rw [hE1, hE2]
  clear hE1 hE2
  obtain ⟨F, hF⟩ : ∃ F, firstI [E, E1, E2] = F := ⟨_, rfl⟩
  rw [hF]
  have HF := Lib.hid hF
  clear hF
  go_enter Tryz.func147, Tryz.ntmps147
  go_wp2_with fail
  refine CF.out.mono ?_
  rintro e w1 ⟨rfl, hx1⟩
  go_wp2_with fail
  refine (CW1.out _).mono ?_
  rintro e w' ⟨rfl, rfl⟩
  go_wp2_with fail
  refine (CW2.out _).mono ?_
  rintro e w' ⟨rfl, rfl⟩
  go_wp2_with fail
  refine (First_any _ _ [E, E1, E2] _ ?_ (by simp)).mono ?_
  · intro k hk
    rw [World.cell?_alloc_at _ _ _ _ rfl]
    match k, hk with
    | 0, _ => rfl
    | 1, _ => rfl
    | 2, _ => rfl
  rw [HF.out]
  rintro e w' ⟨rfl, rfl⟩
  have hxs := hx1.alloc (.cells #[.int .i64 E, .int .i64 E1, .int .i64 E2] 24)
  go_wp2
  go_loopw [22, 5] (fun i v wr => ∃ k : Nat, k ≤ m ∧ i = .int .i64 k ∧ v = .int .i64 (firstI (F :: L.take k)) ∧ Ext w wr) (fun i _ _ => m - (intOf i).toNat)
  case atStart => exact ⟨0, Nat.zero_le _, rfl, by by_cases h : F = 0 <;> simp [firstI, h], hxs⟩
  case round =>
    clear hxs hx1
    obtain ⟨k, hk, rfl, rfl, hxr⟩ := hrel
    by_cases hlt : k < m
    · have hk1 : k < rs.length := by rw [HM.out]; exact hlt
      obtain ⟨b, o, rfl, hX⟩ := (HR.out.ext hxr) (fun e => by rw [e] at hk1; exact absurd hk1 (Nat.not_lt_zero _))
      have x0 := hX.c0 k hk1; have x1 := hX.c1 k hk1; have x2 := hX.c2 k hk1; have x3 := hX.c3 k hk1; have x4 := hX.c4 k hk1
      have hgk := HG.out k hk1
      have HST := Lib.hid (show firstI (F :: L.take (k + 1)) = firstI [firstI (F :: L.take k), ruErr rs[k].l] from by
        rw [← snocI, List.cons_append, ← take_next hgk])
      have CR := Lib.hid (fun W (h : Ext w W) => CK.out W h k hk1)
      clear hgk
      generalize rs[k] = r at *
      generalize ruErr r.l = ek at *
      obtain ⟨r0, r1, r2, r3, r4⟩ := r
      dsimp only at x0 x1 x2 x3 x4
      generalize firstI (F :: L.take k) = G at *
      clear hX
      have b1 := Blk.new wr 23 #[.int .i64 r0, .string r1, .string r2, .string r3, .string r4]
      have hc1 := b1.cell
      clear b1
      go_wp2_with fail
      refine (CR.out _ (hxr.alloc _)).mono ?_
      rintro e w2 ⟨rfl, hx2⟩
      go_wp2_with fail
      refine (First_any _ _ [G, ek] _ ?_ (by simp)).mono ?_
      · intro k hk
        rw [World.cell?_alloc_at _ _ _ _ rfl]
        match k, hk with
        | 0, _ => rfl
        | 1, _ => rfl
      rw [← HST.out]
      rintro e w' ⟨rfl, rfl⟩
      go_wp2
      go_roundw
      case rel => exact ⟨k + 1, by omega, by go_num, rfl, ((hxr.alloc _).trans hx2).alloc _⟩
      case measure => simp [intOf]; omega
    · obtain rfl : k = m := by omega
      have HE := Lib.hid (show L.take k = L from List.take_of_length_le (by rw [HLN.out, HM.out]; exact Nat.le_refl _))
      go_wp2
      go_ret
      exact ⟨ret_int (by rw [HE.out]), hxr⟩
end Go.Proofs.YtghhjlcbcojcnaaGreatDoor
