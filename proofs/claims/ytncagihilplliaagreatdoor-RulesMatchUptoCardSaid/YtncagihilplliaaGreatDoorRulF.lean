/- Contracts of migrate.quoted and of outref2.quotedAt. -/
import Derived.Test.YtncagihilplliaaGreatDoorRulE
namespace Go.Proofs.YtncagihilplliaaGreatDoor
open Go.RowKit

/-! ### Reading on, byte by byte -/
def InvQ (L : Str) (R : Option (Str × Str)) (k : Nat) (done : Str) : Prop := R = (unq (L.drop k)).map fun x => (done ++ x.1, x.2)
theorem drop_cons (s : ByteArray) (k : Nat) (h : k < s.size) : (bs s).drop k = s[k] :: (bs s).drop (k + 1) := by
  rw [List.drop_eq_getElem_cons (by rw [bs_length]; exact h)]; rfl
theorem invQ_start (L : Str) (i : Nat) : InvQ L (unq (L.drop i)) i [] := by
  unfold InvQ
  cases unq (L.drop i) <;> rfl
section
variable {s : ByteArray} {R : Option (Str × Str)} {k : Nat} {done : Str}
theorem invQ_out (h : InvQ (bs s) R k done) (hk : s.size ≤ k) : R = none := by
  rw [h, List.drop_of_length_le (by rw [bs_length]; exact hk), unq_nil]; rfl
theorem invQ_end (h : InvQ (bs s) R k done) (hk : k < s.size) (h1 : s[k] = 34) : R = some (done, (bs s).drop (k + 1)) := by
  rw [h, drop_cons s k hk, h1, unq_end]; simp
theorem invQ_one (h : InvQ (bs s) R k done) (hk : k < s.size) (h1 : ¬ s[k] = 34) (h2 : ¬ s[k] = 92) : InvQ (bs s) R (k + 1) (done ++ [s[k]]) := by
  unfold InvQ at h ⊢
  rw [h, drop_cons s k hk, unq_one h1 h2, Option.map_map]
  congr 1
  funext x
  simp
theorem invQ_last (h : InvQ (bs s) R k done) (hk : k + 1 = s.size) (h1 : s[k] = 92) : R = none := by
  rw [h, drop_cons s k (by omega), h1, List.drop_of_length_le (by rw [bs_length]; omega), unq_back0]; rfl
theorem invQ_bad (h : InvQ (bs s) R k done) (hk : k + 1 < s.size) (h1 : s[k] = 92) (h2 : ¬ s[k + 1] = 34) (h3 : ¬ s[k + 1] = 92) : R = none := by
  rw [h, drop_cons s k (by omega), h1, drop_cons s (k + 1) hk, unq_bad (fun e => e.elim h2 h3)]; rfl
theorem invQ_two (h : InvQ (bs s) R k done) (hk : k + 1 < s.size) (h1 : s[k] = 92) (h2 : s[k + 1] = 34 ∨ s[k + 1] = 92) : InvQ (bs s) R (k + 1 + 1) (done ++ [s[k + 1]]) := by
  unfold InvQ at h ⊢
  rw [h, drop_cons s k (by omega), h1, drop_cons s (k + 1) hk, unq_two h2, Option.map_map]
  congr 1
  funext x
  simp
end
theorem byte_no {c : UInt8} {n : UInt8} (h : ¬ c = n) (z : Int) (hz : z = n.toNat) : ((c.toNat : Int) == z) = false := by
  rw [beq_eq_false_iff_ne]
  intro e
  exact h (UInt8.toNat_inj.1 (by omega))
theorem byte_ne {c : UInt8} {n : UInt8} (h : ¬ c = n) (z : Int) (hz : z = n.toNat) : ((c.toNat : Int) != z) = true := by
  rw [bne, byte_no h z hz]; rfl

/-- outref2.quotedAt -/
def qatR (n : Nat) : Option (Str × Str) → Str × Nat × Bool
  | none => ([], 0, false)
  | some (t, z) => (t, n - z.length, true)
def qat (l : Str) (i : Nat) : Str × Nat × Bool := qatR l.length (unq (l.drop (i + 1)))
theorem one_of (s : ByteArray) (k : Nat) (h : k < s.size) : bs (s.extract k (k + 1)) = [s[k]] := by
  show (s.extract k (k + 1)).data.toList = _
  rw [Lib.extract_data]
  have e : (s.data.toList.take (k + 1)).drop k = [s[k]] := by
    rw [take_snocB s k h, List.drop_append_of_le_length (by simp; omega)]
    simp
  first | exact e | (rw [← List.drop_take] at *; exact e) | (simpa [List.drop_take] using e)
set_option maxRecDepth 100000 in
set_option maxHeartbeats 4000000 in
theorem quotedAt_any (s : ByteArray) (i : Nat) (w : World) (hs : s.size ≤ 2097152) (hi : i ≤ 2097152) :
    Calls Tryz.prog 55 #[.string s, .int .i64 i] w fun e w' => e = .returned (.tuple #[S (qat (bs s) i).1, .int .i64 (qat (bs s) i).2.1, .bool (qat (bs s) i).2.2]) ∧ w = w' := by
  obtain ⟨R, hR⟩ : ∃ R, unq ((bs s).drop (i + 1)) = R := ⟨_, rfl⟩
  have hq : qat (bs s) i = qatR s.size R := by rw [qat, hR, bs_length]
  have hst := invQ_start (bs s) (i + 1)
  rw [hR] at hst
  rw [hq]
  have HST := Lib.hid hst
  clear hst hq hR
  go_enter Tryz.func55, Tryz.ntmps55
  go_wp2
  go_loop [7, 8] (fun o k' => ∃ (k : Nat) (out : ByteArray), k' = .int .i64 k ∧ o = .string out ∧ (k ≤ s.size ∨ out.size = 0) ∧ k ≤ 2097153 ∧ out.size ≤ k ∧ InvQ (bs s) R k (bs out)) (fun _ k => s.size - (intOf k).toNat)
  case atStart => exact ⟨i + 1, ⟨#[]⟩, by go_num, rfl, .inr rfl, by omega, Nat.zero_le _, HST.out⟩
  case round =>
    obtain ⟨k, out, rfl, rfl, hk1, hk2, hk3, hinv⟩ := hrel
    have HINV := Lib.hid hinv
    clear hinv
    by_cases hlt : k < s.size
    · by_cases h34 : s[k] = 34
      · have e1 : ((s[k].toNat : Int) == 34) = true := by rw [h34]; rfl
        have hres := invQ_end HINV.out hlt h34
        subst hres
        clear h34
        go_wp2
        go_ret3
        refine ⟨?_, rfl⟩
        have hl : s.size - ((bs s).drop (k + 1)).length = k + 1 := by rw [List.length_drop, bs_length]; omega
        simp only [qatR, hl, S_bs]
        go_num
      have e1 := byte_no h34 34 rfl
      by_cases h92 : s[k] = 92
      · have e2 : ((s[k].toNat : Int) == 92) = true := by rw [h92]; rfl
        by_cases hend : k + 1 = s.size
        · have hres := invQ_last HINV.out hend h92
          subst hres
          have hE : ((k : Int) + 1 == (s.size : Int)) = true := by rw [beq_iff_eq]; omega
          clear h34 h92
          go_wp2
          go_ret3
          exact ⟨rfl, rfl⟩
        have hlt2 : k + 1 < s.size := by omega
        have hE : ((k : Int) + 1 == (s.size : Int)) = false := by rw [beq_eq_false_iff_ne]; omega
        have hn1 := one_of s (k + 1) hlt2
        have hIx : s[k + 1] = s[k + 1] := rfl
        by_cases hok : s[k + 1] = 34 ∨ s[k + 1] = 92
        · have hinv2 := invQ_two HINV.out hlt2 h92 hok
          rw [← hn1, ← bs_append] at hinv2
          have HI2 := Lib.hid hinv2
          have hz1 : (s.extract (k + 1) (k + 1 + 1)).size = 1 := by rw [← bs_length, hn1]; rfl
          clear hinv2 hn1 hIx h34 h92
          rcases hok with hd | hd
          · have e3 : ((s[k + 1].toNat : Int) != 34) = false := by rw [hd]; rfl
            clear hd
            go_wp2
            go_round
            case rel => exact ⟨k + 1 + 1, _, by go_num, rfl, .inl (by omega), by omega, by rw [ByteArray.size_append, hz1]; omega, HI2.out⟩
            case measure => simp [intOf]; omega
          · have e3 : ((s[k + 1].toNat : Int) != 34) = true := by rw [hd]; rfl
            have e4 : ((s[k + 1].toNat : Int) != 92) = false := by rw [hd]; rfl
            clear hd
            go_wp2
            go_round
            case rel => exact ⟨k + 1 + 1, _, by go_num, rfl, .inl (by omega), by omega, by rw [ByteArray.size_append, hz1]; omega, HI2.out⟩
            case measure => simp [intOf]; omega
        · have hres := invQ_bad HINV.out hlt2 h92 (fun e => hok (.inl e)) (fun e => hok (.inr e))
          have e3 := byte_ne (fun e => hok (.inl e)) 34 rfl
          have e4 := byte_ne (fun e => hok (.inr e)) 92 rfl
          subst hres
          clear h34 h92 hok hn1 hIx
          go_wp2
          go_ret3
          exact ⟨rfl, rfl⟩
      · have e2 := byte_no h92 92 rfl
        have hn1 := one_of s k hlt
        have hinv2 := invQ_one HINV.out hlt h34 h92
        rw [← hn1, ← bs_append] at hinv2
        have HI2 := Lib.hid hinv2
        have hz1 : (s.extract k (k + 1)).size = 1 := by rw [← bs_length, hn1]; rfl
        clear hinv2 hn1 h34 h92
        go_wp2
        go_round
        case rel => exact ⟨k + 1, _, by go_num, rfl, .inl (by omega), by omega, by rw [ByteArray.size_append, hz1]; omega, HI2.out⟩
        case measure => simp [intOf]; omega
    · have hres := invQ_out HINV.out (by omega)
      subst hres
      go_wp2
      go_ret3
      exact ⟨rfl, rfl⟩
/-- migrate.quoted -/
def qresR : Option (Str × Str) → Str × Str × Bool
  | none => ([], [], false)
  | some (t, z) => (t, z, true)
theorem conv_own {w : World} {B m : Nat} {v : Value} {l : Str} (h : w.ownsRow B 5 1 v m (u8s l)) :
    ∀ W, Ext w W → (convert 136 9 v).run Tryz.prog W = .ok (S l) W := fun W hW => by
  have hl : l.length = m := by have := h.1; rw [u8s_length, Nat.mul_one] at this; exact this
  rcases Nat.eq_zero_or_pos m with h0 | h0
  · rcases h.2 with ⟨rfl, _⟩ | ⟨g, cap, cur, rfl, _, _, _, _⟩
    · have e : l = [] := List.eq_nil_of_length_eq_zero (by omega)
      rw [e]
      exact run_convert_bytes_nil (P := Tryz.prog) W 136 5 Tryz.underlying136 Tryz.underlying5 0 0 9 Tryz.underlying9
    · have e : l = [] := List.eq_nil_of_length_eq_zero (by omega)
      subst h0
      rw [e]
      exact run_convert_bytes_arg (P := Tryz.prog) W 136 5 Tryz.underlying136 Tryz.underlying5 g 0 0 cap [] rfl (fun i hi => absurd hi (Nat.not_lt_zero _)) 9 Tryz.underlying9
  · obtain ⟨g, c, rfl, _, _, _, hc⟩ := own_form h h0
    subst hl
    have := run_convert_bytes_arg (P := Tryz.prog) W 136 5 Tryz.underlying136 Tryz.underlying5 g 0 l.length c (l.map fun x => (x.toNat : Int)) (by simp) (fun i hi => by
      rw [Nat.zero_add]
      refine (hW.cell (hc i (.int .u8 l[i].toNat) (by simp [u8s, hi]))).trans ?_
      simp [List.getD, hi]) 9 Tryz.underlying9
    rw [this]
    have e : (l.map fun x => (x.toNat : Int)).map (fun n => UInt8.ofNat n.toNat) = l := by
      rw [List.map_map]
      exact List.map_id'' (fun x => by simp) l
    unfold strOfNums
    rw [e]
set_option maxRecDepth 100000 in
set_option maxHeartbeats 8000000 in
theorem quoted_any (s : ByteArray) (w : World) (hs : s.size ≤ 2097152) :
    Calls Tryz.prog 52 #[.string s] w fun e w' => e = .returned (.tuple #[S (qresR (quotedL (bs s))).1, S (qresR (quotedL (bs s))).2.1, .bool (qresR (quotedL (bs s))).2.2]) ∧ Ext w w' := by
  rcases Nat.eq_zero_or_pos s.size with h0 | h0
  · have he : quotedL (bs s) = none := by rw [bs_nil h0]; rfl
    have hi := emp_bool h0
    rw [he]
    clear he
    go_enter Tryz.func52, Tryz.ntmps52
    go_wp2
    go_ret3
    exact ⟨rfl, Ext.refl _⟩
  have hi := nemp_bool h0
  have hd := drop_cons s 0 h0
  rw [List.drop_zero] at hd
  by_cases hc : s[0] = 34
  rotate_left
  · have he : quotedL (bs s) = none := by
      rw [hd]
      unfold quotedL
      split
      · rename_i e; injection e with e _; exact absurd e hc
      · rfl
    have e1 := byte_ne hc 34 rfl
    rw [he]
    clear he hd hc
    go_enter Tryz.func52, Tryz.ntmps52
    go_wp2
    go_ret3
    exact ⟨rfl, Ext.refl _⟩
  have e0 : ((s[0].toNat : Int) != 34) = false := by rw [hc]; rfl
  obtain ⟨R, hR⟩ : ∃ R, unq ((bs s).drop 1) = R := ⟨_, rfl⟩
  have hq : quotedL (bs s) = R := by rw [hd, hc, ← hR]; rfl
  have hst := invQ_start (bs s) 1
  rw [hR] at hst
  rw [hq]
  have HST := Lib.hid hst
  clear hst hq hR hd hc
  go_enter Tryz.func52, Tryz.ntmps52
  go_wp2
  go_loopw [5, 6] (fun v k' wr => ∃ (k : Nat) (done : Str), k' = .int .i64 k ∧ wr.ownsRow w.heap.size 5 1 v done.length (u8s done) ∧ k ≤ s.size ∧ done.length ≤ k ∧ InvQ (bs s) R k done ∧ Ext w wr) (fun _ k _ => s.size - (intOf k).toNat)
  case atStart => exact ⟨1, [], rfl, World.ownsRow_nil _ _ _ _, by omega, Nat.zero_le _, HST.out, Ext.refl _⟩
  case round =>
    obtain ⟨k, done, rfl, hown, hk1, hk3, hinv, hxr⟩ := hrel
    have HINV := Lib.hid hinv
    clear hinv
    by_cases hlt : k < s.size
    · by_cases h34 : s[k] = 34
      · have e1 : ((s[k].toNat : Int) == 34) = true := by rw [h34]; rfl
        have hres := invQ_end HINV.out hlt h34
        subst hres
        have hcv := conv_own hown wr.drew ((Ext.refl wr).drew)
        have hkk : (k : Int) + 1 ≤ s.size := by omega
        have hkw : IntKind.i64.wrap ((k : Int) + 1) = (k : Int) + 1 := by rw [IntKind.wrap_i64]; omega
        clear h34 hown
        go_wp2
        go_outline
        go_region
        all_goals
          go_wp2
          go_ret3
          have hd2 : Value.string (s.extract (k + 1) s.size) = S ((bs s).drop (k + 1)) := str_S (Lib.extract_to_end s (k + 1))
          refine ⟨?_, hxr.drew⟩
          show Ending.returned (.tuple #[S done, .string (s.extract (k + 1) s.size), .bool true]) = _
          rw [hd2]
          rfl
      have e1 := byte_no h34 34 rfl
      by_cases h92 : s[k] = 92
      · have e2 : ((s[k].toNat : Int) == 92) = true := by rw [h92]; rfl
        by_cases hend : k + 1 = s.size
        · have hres := invQ_last HINV.out hend h92
          subst hres
          have hE : ((k : Int) + 1 == (s.size : Int)) = true := by rw [beq_iff_eq]; omega
          clear h34 h92
          go_wp2
          go_ret3
          exact ⟨rfl, hxr⟩
        have hlt2 : k + 1 < s.size := by omega
        have hE : ((k : Int) + 1 == (s.size : Int)) = false := by rw [beq_eq_false_iff_ne]; omega
        by_cases hok : s[k + 1] = 34 ∨ s[k + 1] = 92
        · have hinv2 := invQ_two HINV.out hlt2 h92 hok
          have HI2 := Lib.hid hinv2
          clear hinv2 h34 h92
          rcases hok with hd | hd
          · have e3 : ((s[k + 1].toNat : Int) != 34) = false := by rw [hd]; rfl
            clear hd
            have HX := Lib.hid hxr
            have hsz := hxr.size
            go_wp2_with (at_builtin; refine wpList_app1 _ _ _ rfl _ _ 136 rfl (.int .u8 0) 1 1 Tryz.underlying136 info_u8 rfl (by decide) (by decide) w.heap.size _ done.length _ rfl hown _ rfl rfl (by simp [Value.oneCell']) (by omega) hsz ?_; intro v' w3 hown3 hx3 _)
            go_roundw
            case rel => exact ⟨k + 1 + 1, done ++ [s[k + 1]], by go_num, by rw [u8s_append, List.length_append]; exact hown3, by omega, by rw [List.length_append]; simp; omega, HI2.out, hx3 _ HX.out (Nat.le_refl _)⟩
            case measure => simp [intOf]; omega
          · have e3 : ((s[k + 1].toNat : Int) != 34) = true := by rw [hd]; rfl
            have e4 : ((s[k + 1].toNat : Int) != 92) = false := by rw [hd]; rfl
            clear hd
            have HX := Lib.hid hxr
            have hsz := hxr.size
            go_wp2_with (at_builtin; refine wpList_app1 _ _ _ rfl _ _ 136 rfl (.int .u8 0) 1 1 Tryz.underlying136 info_u8 rfl (by decide) (by decide) w.heap.size _ done.length _ rfl hown _ rfl rfl (by simp [Value.oneCell']) (by omega) hsz ?_; intro v' w3 hown3 hx3 _)
            go_roundw
            case rel => exact ⟨k + 1 + 1, done ++ [s[k + 1]], by go_num, by rw [u8s_append, List.length_append]; exact hown3, by omega, by rw [List.length_append]; simp; omega, HI2.out, hx3 _ HX.out (Nat.le_refl _)⟩
            case measure => simp [intOf]; omega
        · have hres := invQ_bad HINV.out hlt2 h92 (fun e => hok (.inl e)) (fun e => hok (.inr e))
          have e3 := byte_ne (fun e => hok (.inl e)) 34 rfl
          have e4 := byte_ne (fun e => hok (.inr e)) 92 rfl
          subst hres
          clear h34 h92 hok
          go_wp2
          go_ret3
          exact ⟨rfl, hxr⟩
      · have e2 := byte_no h92 92 rfl
        have hinv2 := invQ_one HINV.out hlt h34 h92
        have HI2 := Lib.hid hinv2
        clear hinv2 h34 h92
        have HX := Lib.hid hxr
        have hsz := hxr.size
        go_wp2_with (at_builtin; refine wpList_app1 _ _ _ rfl _ _ 136 rfl (.int .u8 0) 1 1 Tryz.underlying136 info_u8 rfl (by decide) (by decide) w.heap.size _ done.length _ rfl hown _ rfl rfl (by simp [Value.oneCell']) (by omega) hsz ?_; intro v' w3 hown3 hx3 _)
        go_roundw
        case rel => exact ⟨k + 1, done ++ [s[k]], by go_num, by rw [u8s_append, List.length_append]; exact hown3, by omega, by rw [List.length_append]; simp; omega, HI2.out, hx3 _ HX.out (Nat.le_refl _)⟩
        case measure => simp [intOf]; omega
    · have hres := invQ_out HINV.out (by omega)
      subst hres
      go_wp2
      go_ret3
      exact ⟨rfl, hxr⟩
end Go.Proofs.YtncagihilplliaaGreatDoor
