/- Contracts of migrate.runFault and of outref2.RunError. -/
import Derived.Test.YtghhjlcbcojcnaaGreatDoorRn27
import Derived.Test.YtghhjlcbcojcnaaGreatDoorRn24
import Derived.Test.YtghhjlcbcojcnaaGreatDoorRn16
import Derived.Test.YtghhjlcbcojcnaaGreatDoorRn32

namespace Go.Proofs.YtghhjlcbcojcnaaGreatDoor
open Go.RowKit

theorem runErr_a {es : List Se} {rs : List Ru} (h : ¬ seErr pathL es = 0) : runErr es rs = seErr pathL es := by rw [runErr, firstI, if_neg h]
theorem runErr_b {es : List Se} {rs : List Ru} (h : seErr pathL es = 0) (h2 : 2000 < es.length ∨ 100 < rs.length) : runErr es rs = 4 := by
  rw [runErr, firstI, if_pos h, if_pos h2, firstI, if_neg (by decide)]
theorem runErr_c {es : List Se} {rs : List Ru} (h : seErr pathL es = 0) (h2 : ¬ (2000 < es.length ∨ 100 < rs.length)) : runErr es rs = firstI (rs.map ruErr) := by
  rw [runErr, firstI, if_pos h, if_neg h2, firstI, if_pos rfl]
theorem runErr_zero {es : List Se} {rs : List Ru} (h : runErr es rs = 0) : seErr pathL es = 0 ∧ es.length ≤ 2000 ∧ rs.length ≤ 100 ∧ ∀ r ∈ rs, ruErr r = 0 := by
  have h1 := firstI_all h
  have h2 := h1 (if 2000 < es.length ∨ 100 < rs.length then 4 else 0) (by simp)
  by_cases h3 : 2000 < es.length ∨ 100 < rs.length
  · rw [if_pos h3] at h2; cases h2
  · exact ⟨h1 _ (by simp), by omega, by omega, fun r hr => h1 _ (by simp only [List.mem_cons, List.mem_map]; exact .inr (.inr ⟨r, hr, rfl⟩))⟩
theorem snocI (l : List Int) (e : Int) : firstI (l ++ [e]) = firstI [firstI l, e] := by
  induction l with
  | nil => simp [firstI]
  | cons x r ih =>
    by_cases h : x = 0
    · subst h
      simp only [List.cons_append, firstI, if_true] at ih ⊢
      exact ih
    · simp only [List.cons_append, firstI, if_neg h]
/-- the errors of rules, one by one -/
def ruErrs (rs : List RB) : List Int := rs.map fun r => ruErr r.l
theorem ruErrs_length (rs : List RB) : (ruErrs rs).length = rs.length := by simp [ruErrs]
theorem ruErrs_get (rs : List RB) (k : Nat) (h : k < rs.length) : (ruErrs rs)[k]? = some (ruErr rs[k].l) := by simp [ruErrs, List.getElem?_eq_getElem h]
theorem take_next {α : Type} {L : List α} {k : Nat} {e : α} (h : L[k]? = some e) : L.take (k + 1) = L.take k ++ [e] := by rw [List.take_add_one, h, Option.toList_some]
theorem ruErrs_map (rs : List RB) : (rs.map RB.l).map ruErr = ruErrs rs := by simp [ruErrs]

set_option maxHeartbeats 8000000 in
set_option maxRecDepth 100000 in
theorem runFault_any (A A2 : Option Addr) (n m c c2 : Nat) (es : List Se) (rs : List RB) (w : World) (hg : GoodN w) (hn : es.length = n) (hm : rs.length = m) (hr : RdE w A es) (hr2 : RdU w A2 rs) (hs : SmallE es) (hs2 : SmallU rs) (hl : n ≤ 2097152) (hl2 : m ≤ 2097152) :
    Calls Tryz.prog 142 #[.slice A n c, .slice A2 m c2] w fun e w' => e = .returned (.int .i64 (runErr es (rs.map RB.l))) ∧ Ext w w' := by
  have CF := Lib.hid (mFault_any A n c es w hg hn hr hs hl)
  have CK := Lib.hid (fun W (h : Ext w W) k (hk : k < rs.length) => CheckRule_any rs[k] W (hg.toGood.ext h) (hs2 _ (List.getElem_mem hk)))
  have HA := Lib.hid (runErr_a (es := es) (rs := rs.map RB.l))
  have HB := Lib.hid (runErr_b (es := es) (rs := rs.map RB.l))
  have HC := Lib.hid (runErr_c (es := es) (rs := rs.map RB.l))
  rw [List.length_map, hn, hm] at HB HC
  rw [ruErrs_map] at HC
  have HG := Lib.hid (ruErrs_get rs)
  have HLN := Lib.hid (ruErrs_length rs)
  have HR := Lib.hid hr2
  have HM := Lib.hid hm
  generalize ruErrs rs = L at *
  generalize seErr pathL es = E at *
  generalize runErr es (rs.map RB.l) = F at *
  clear hn hm hr hr2 hs hs2 hg
  by_cases h0 : E = 0
  rotate_left
  · have hne : (E != 0) = true := by rw [bne_iff_ne]; exact h0
    have HF := Lib.hid (HA.out h0)
    clear h0
    go_enter Tryz.func142, Tryz.ntmps142
    go_wp2_with fail
    refine CF.out.mono ?_
    rintro e w1 ⟨rfl, hx1⟩
    go_wp2
    go_ret
    exact ⟨ret_int HF.out.symm, hx1⟩
  subst h0
  by_cases h1 : 2000 < n
  · have HF := Lib.hid (HB.out rfl (.inl h1))
    go_enter Tryz.func142, Tryz.ntmps142
    go_wp2_with fail
    refine CF.out.mono ?_
    rintro e w1 ⟨rfl, hx1⟩
    go_wp2
    go_ret
    exact ⟨ret_int HF.out.symm, hx1⟩
  by_cases h2 : 100 < m
  · have HF := Lib.hid (HB.out rfl (.inr h2))
    go_enter Tryz.func142, Tryz.ntmps142
    go_wp2_with fail
    refine CF.out.mono ?_
    rintro e w1 ⟨rfl, hx1⟩
    go_wp2
    go_ret
    exact ⟨ret_int HF.out.symm, hx1⟩
  have HF := Lib.hid (HC.out rfl (by omega))
  go_enter Tryz.func142, Tryz.ntmps142
  go_wp2_with fail
  refine CF.out.mono ?_
  rintro e w1 ⟨rfl, hx1⟩
  go_wp2
  go_loopw [24] (fun i wr => ∃ k : Nat, k ≤ m ∧ i = .int .i64 k ∧ (∀ x ∈ L.take k, x = 0) ∧ Ext w wr) (fun i _ => m - (intOf i).toNat)
  case atStart => exact ⟨0, Nat.zero_le _, rfl, by simp, hx1⟩
  case round =>
    clear hx1
    obtain ⟨k, hk, rfl, hall, hxr⟩ := hrel
    have HALL := Lib.hid hall
    clear hall
    by_cases hlt : k < m
    · have hk1 : k < rs.length := by rw [HM.out]; exact hlt
      obtain ⟨b, o, rfl, hX⟩ := (HR.out.ext hxr) (fun e => by rw [e] at hk1; exact absurd hk1 (Nat.not_lt_zero _))
      have x0 := hX.c0 k hk1; have x1 := hX.c1 k hk1; have x2 := hX.c2 k hk1; have x3 := hX.c3 k hk1; have x4 := hX.c4 k hk1
      have hgk := HG.out k hk1
      have CR := Lib.hid (fun W (h : Ext w W) => CK.out W h k hk1)
      generalize rs[k] = r at *
      generalize ruErr r.l = ek at *
      obtain ⟨HKL, hgk1⟩ := List.getElem?_eq_some_iff.1 hgk
      have HGK := Lib.hid hgk1
      obtain ⟨r0, r1, r2, r3, r4⟩ := r
      dsimp only at x0 x1 x2 x3 x4
      clear hX hgk hgk1
      have b1 := Blk.new wr 23 #[.int .i64 r0, .string r1, .string r2, .string r3, .string r4]
      have hc1 := b1.cell
      clear b1
      by_cases he : ek = 0
      · subst he
        go_wp2_with fail
        refine (CR.out _ (hxr.alloc _)).mono ?_
        rintro e w2 ⟨rfl, hx2⟩
        go_wp2
        go_roundw
        case rel => exact ⟨k + 1, by omega, by go_num, take_zero_succ HKL HALL.out HGK.out, (hxr.alloc _).trans hx2⟩
        case measure => simp [intOf]; omega
      · have hne : (ek != 0) = true := by rw [bne_iff_ne]; exact he
        have HE := Lib.hid (show F = ek from by
          rw [HF.out, firstI_at HKL HALL.out (by rw [HGK.out]; exact he)]
          exact HGK.out)
        clear he
        go_wp2_with fail
        refine (CR.out _ (hxr.alloc _)).mono ?_
        rintro e w2 ⟨rfl, hx2⟩
        go_wp2
        go_ret
        exact ⟨ret_int HE.out.symm, (hxr.alloc _).trans hx2⟩
    · obtain rfl : k = m := by omega
      have HE := Lib.hid (show F = 0 from by
        rw [HF.out]
        refine firstI_zero fun x hx => HALL.out x ?_
        rw [List.take_of_length_le (by rw [HLN.out, HM.out]; exact Nat.le_refl _)]
        exact hx)
      go_wp2
      go_ret
      exact ⟨ret_int HE.out.symm, hxr⟩

set_option maxHeartbeats 8000000 in
set_option maxRecDepth 100000 in
theorem RunError_any (A A2 : Option Addr) (n m c c2 : Nat) (es : List Se) (rs : List RB) (w : World) (hg : Good w) (hn : es.length = n) (hm : rs.length = m) (hr : RdE w A es) (hr2 : RdU w A2 rs) (hs : SmallE es) (hs2 : SmallU rs) (hl : n ≤ 2097152) (hl2 : m ≤ 2097152) :
    Calls Tryz.prog 147 #[.slice A n c, .slice A2 m c2] w fun e w' => e = .returned (.int .i64 (runErr es (rs.map RB.l))) ∧ Ext w w' := by
  have CF := Lib.hid (ListErrorS_any A n c es w hg hn hr hs hl)
  have CK := Lib.hid (fun W (h : Ext w W) k (hk : k < rs.length) => RuleError_any rs[k] W (hg.ext h) (hs2 _ (List.getElem_mem hk)))
  have hF : runErr es (rs.map RB.l) = firstI (firstI [seErr pathL es, (if decide (2000 < n) then 4 else 0), (if decide (100 < m) then 4 else 0)] :: ruErrs rs) := by
    rw [← ruErrs_map, ← hn, ← hm, runErr, List.length_map]
    by_cases h0 : seErr pathL es = 0
    · by_cases h1 : 2000 < es.length
      · simp [firstI, h0, h1]
      · by_cases h2 : 100 < rs.length
        · simp [firstI, h0, h1, h2]
        · simp [firstI, h0, h1, h2]
    · simp [firstI, h0]
  have d1 : decide ((2000 : Int) < (n : Int)) = decide (2000 < n) := by rw [decide_eq_decide]; omega
  have d2 : decide ((100 : Int) < (m : Int)) = decide (100 < m) := by rw [decide_eq_decide]; omega
  rw [hF, ← d1, ← d2]
  clear hF d1 d2
  have HG := Lib.hid (ruErrs_get rs)
  have HLN := Lib.hid (ruErrs_length rs)
  have HR := Lib.hid hr2
  have HM := Lib.hid hm
  generalize ruErrs rs = L at *
  generalize seErr pathL es = E at *
  have CW1 := Lib.hid (fun W => When_any (decide ((2000 : Int) < (n : Int))) 4 W)
  have CW2 := Lib.hid (fun W => When_any (decide ((100 : Int) < (m : Int))) 4 W)
  clear hn hm hr hr2 hs hs2 hg
  obtain ⟨E1, hE1⟩ : ∃ E1, (if decide ((2000 : Int) < (n : Int)) = true then (4 : Int) else 0) = E1 := ⟨_, rfl⟩
  obtain ⟨E2, hE2⟩ : ∃ E2, (if decide ((100 : Int) < (m : Int)) = true then (4 : Int) else 0) = E2 := ⟨_, rfl⟩
  rw [hE1] at CW1
  rw [hE2] at CW2
  rw [hE1, hE2]
  clear hE1 hE2
  obtain ⟨F, hF⟩ : ∃ F, firstI [E, E1, E2] = F := ⟨_, rfl⟩
  rw [hF]
  have HF := Lib.hid hF
  clear hF
  go_enter Tryz.func147, Tryz.ntmps147
  go_wp2_with fail
  refine CF.out.mono ?_
  rintro e w1 ⟨rfl, hx1⟩
  go_wp2_with fail
  refine (CW1.out _).mono ?_
  rintro e w' ⟨rfl, rfl⟩
  go_wp2_with fail
  refine (CW2.out _).mono ?_
  rintro e w' ⟨rfl, rfl⟩
  go_wp2_with fail
  refine (First_any _ _ [E, E1, E2] _ ?_ (by simp)).mono ?_
  · intro k hk
    rw [World.cell?_alloc_at _ _ _ _ rfl]
    match k, hk with
    | 0, _ => rfl
    | 1, _ => rfl
    | 2, _ => rfl
  rw [HF.out]
  rintro e w' ⟨rfl, rfl⟩
  have hxs := hx1.alloc (.cells #[.int .i64 E, .int .i64 E1, .int .i64 E2] 24)
  go_wp2
  go_loopw [22, 5] (fun i v wr => ∃ k : Nat, k ≤ m ∧ i = .int .i64 k ∧ v = .int .i64 (firstI (F :: L.take k)) ∧ Ext w wr) (fun i _ _ => m - (intOf i).toNat)
  case atStart => exact ⟨0, Nat.zero_le _, rfl, by by_cases h : F = 0 <;> simp [firstI, h], hxs⟩
  case round =>
    clear hxs hx1
    obtain ⟨k, hk, rfl, rfl, hxr⟩ := hrel
    by_cases hlt : k < m
    · have hk1 : k < rs.length := by rw [HM.out]; exact hlt
      obtain ⟨b, o, rfl, hX⟩ := (HR.out.ext hxr) (fun e => by rw [e] at hk1; exact absurd hk1 (Nat.not_lt_zero _))
      have x0 := hX.c0 k hk1; have x1 := hX.c1 k hk1; have x2 := hX.c2 k hk1; have x3 := hX.c3 k hk1; have x4 := hX.c4 k hk1
      have hgk := HG.out k hk1
      have HST := Lib.hid (show firstI (F :: L.take (k + 1)) = firstI [firstI (F :: L.take k), ruErr rs[k].l] from by
        rw [← snocI, List.cons_append, ← take_next hgk])
      have CR := Lib.hid (fun W (h : Ext w W) => CK.out W h k hk1)
      clear hgk
      generalize rs[k] = r at *
      generalize ruErr r.l = ek at *
      obtain ⟨r0, r1, r2, r3, r4⟩ := r
      dsimp only at x0 x1 x2 x3 x4
      generalize firstI (F :: L.take k) = G at *
      clear hX
      have b1 := Blk.new wr 23 #[.int .i64 r0, .string r1, .string r2, .string r3, .string r4]
      have hc1 := b1.cell
      clear b1
      go_wp2_with fail
      refine (CR.out _ (hxr.alloc _)).mono ?_
      rintro e w2 ⟨rfl, hx2⟩
      go_wp2_with fail
      refine (First_any _ _ [G, ek] _ ?_ (by simp)).mono ?_
      · intro k hk
        rw [World.cell?_alloc_at _ _ _ _ rfl]
        match k, hk with
        | 0, _ => rfl
        | 1, _ => rfl
      rw [← HST.out]
      rintro e w' ⟨rfl, rfl⟩
      go_wp2
      go_roundw
      case rel => exact ⟨k + 1, by omega, by go_num, rfl, ((hxr.alloc _).trans hx2).alloc _⟩
      case measure => simp [intOf]; omega
    · obtain rfl : k = m := by omega
      have HE := Lib.hid (show L.take k = L from List.take_of_length_le (by rw [HLN.out, HM.out]; exact Nat.le_refl _))
      go_wp2
      go_ret
      exact ⟨ret_int (by rw [HE.out]), hxr⟩
end Go.Proofs.YtghhjlcbcojcnaaGreatDoor
