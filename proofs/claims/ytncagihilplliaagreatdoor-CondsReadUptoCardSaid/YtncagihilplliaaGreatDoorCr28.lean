/- Reading a text in quotes, byte by byte; contract of outref2.quotedAt. Contracts of ver.quotedAt, ver.isBlank, ver.kindOf. The condition reader of the program in memory: its state; 'is', 'fail'. -/
import Derived.Test.YtncagihilplliaaGreatDoorCr27
import Derived.Test.YtncagihilplliaaGreatDoorCr02
import Derived.Test.YtncagihilplliaaGreatDoorCr19
import Derived.Test.YtncagihilplliaaGreatDoorCr04

namespace Go.Proofs.YtncagihilplliaaGreatDoor
open Go.RowKit

/-! ### Reading on, byte by byte -/
def InvQ (L : Str) (R : Option (Str × Str)) (k : Nat) (done : Str) : Prop := R = (unq (L.drop k)).map fun x => (done ++ x.1, x.2)
theorem drop_cons (s : ByteArray) (k : Nat) (h : k < s.size) : (bs s).drop k = s[k] :: (bs s).drop (k + 1) := by
  rw [List.drop_eq_getElem_cons (by rw [bs_length]; exact h)]; rfl
theorem invQ_start (L : Str) (i : Nat) : InvQ L (unq (L.drop i)) i [] := by
  unfold InvQ
  cases unq (L.drop i) <;> rfl
section
variable {s : ByteArray} {R : Option (Str × Str)} {k : Nat} {done : Str}
theorem invQ_out (h : InvQ (bs s) R k done) (hk : s.size ≤ k) : R = none := by
  rw [h, List.drop_of_length_le (by rw [bs_length]; exact hk), unq_nil]; rfl
theorem invQ_end (h : InvQ (bs s) R k done) (hk : k < s.size) (h1 : s[k] = 34) : R = some (done, (bs s).drop (k + 1)) := by
  rw [h, drop_cons s k hk, h1, unq_end]; simp
theorem invQ_one (h : InvQ (bs s) R k done) (hk : k < s.size) (h1 : ¬ s[k] = 34) (h2 : ¬ s[k] = 92) : InvQ (bs s) R (k + 1) (done ++ [s[k]]) := by
  unfold InvQ at h ⊢
  rw [h, drop_cons s k hk, unq_one h1 h2, Option.map_map]
  congr 1
  funext x
  simp
theorem invQ_last (h : InvQ (bs s) R k done) (hk : k + 1 = s.size) (h1 : s[k] = 92) : R = none := by
  rw [h, drop_cons s k (by omega), h1, List.drop_of_length_le (by rw [bs_length]; omega), unq_back0]; rfl
theorem invQ_bad (h : InvQ (bs s) R k done) (hk : k + 1 < s.size) (h1 : s[k] = 92) (h2 : ¬ s[k + 1] = 34) (h3 : ¬ s[k + 1] = 92) : R = none := by
  rw [h, drop_cons s k (by omega), h1, drop_cons s (k + 1) hk, unq_bad (fun e => e.elim h2 h3)]; rfl
theorem invQ_two (h : InvQ (bs s) R k done) (hk : k + 1 < s.size) (h1 : s[k] = 92) (h2 : s[k + 1] = 34 ∨ s[k + 1] = 92) : InvQ (bs s) R (k + 1 + 1) (done ++ [s[k + 1]]) := by
  unfold InvQ at h ⊢
  rw [h, drop_cons s k (by omega), h1, drop_cons s (k + 1) hk, unq_two h2, Option.map_map]
  congr 1
  funext x
  simp
end
theorem byte_no {c : UInt8} {n : UInt8} (h : ¬ c = n) (z : Int) (hz : z = n.toNat) : ((c.toNat : Int) == z) = false := by
  rw [beq_eq_false_iff_ne]
  intro e
  exact h (UInt8.toNat_inj.1 (by omega))
theorem byte_ne {c : UInt8} {n : UInt8} (h : ¬ c = n) (z : Int) (hz : z = n.toNat) : ((c.toNat : Int) != z) = true := by
  rw [bne, byte_no h z hz]; rfl

/-- outref2.quotedAt -/
def qatR (n : Nat) : Option (Str × Str) → Str × Nat × Bool
  | none => ([], 0, false)
  | some (t, z) => (t, n - z.length, true)
def qat (l : Str) (i : Nat) : Str × Nat × Bool := qatR l.length (unq (l.drop (i + 1)))
theorem one_of (s : ByteArray) (k : Nat) (h : k < s.size) : bs (s.extract k (k + 1)) = [s[k]] := by
  show (s.extract k (k + 1)).data.toList = _
  rw [Lib.extract_data]
  have e : (s.data.toList.take (k + 1)).drop k = [s[k]] := by
    rw [take_snocB s k h, List.drop_append_of_le_length (by simp; omega)]
    simp
  first | exact e | (rw [← List.drop_take] at *; exact e) | (simpa [List.drop_take] using e)
set_option maxRecDepth 100000 in
set_option maxHeartbeats 4000000 in
theorem quotedAt_any (s : ByteArray) (i : Nat) (w : World) (hs : s.size ≤ 2097152) (hi : i ≤ 2097152) :
    Calls Tryz.prog 55 #[.string s, .int .i64 i] w fun e w' => e = .returned (.tuple #[S (qat (bs s) i).1, .int .i64 (qat (bs s) i).2.1, .bool (qat (bs s) i).2.2]) ∧ w = w' := by
  obtain ⟨R, hR⟩ : ∃ R, unq ((bs s).drop (i + 1)) = R := ⟨_, rfl⟩
  have hq : qat (bs s) i = qatR s.size R := by rw [qat, hR, bs_length]
  have hst := invQ_start (bs s) (i + 1)
  rw [hR] at hst
  rw [hq]
  have HST := Lib.hid hst
  clear hst hq hR
  go_enter Tryz.func55, Tryz.ntmps55
  go_wp2
  go_loop [7, 8] (fun o k' => ∃ (k : Nat) (out : ByteArray), k' = .int .i64 k ∧ o = .string out ∧ (k ≤ s.size ∨ out.size = 0) ∧ k ≤ 2097153 ∧ out.size ≤ k ∧ InvQ (bs s) R k (bs out)) (fun _ k => s.size - (intOf k).toNat)
  case atStart => exact ⟨i + 1, ⟨#[]⟩, by go_num, rfl, .inr rfl, by omega, Nat.zero_le _, HST.out⟩
  case round =>
    obtain ⟨k, out, rfl, rfl, hk1, hk2, hk3, hinv⟩ := hrel
    have HINV := Lib.hid hinv
    clear hinv
    by_cases hlt : k < s.size
    · by_cases h34 : s[k] = 34
      · have e1 : ((s[k].toNat : Int) == 34) = true := by rw [h34]; rfl
        have hres := invQ_end HINV.out hlt h34
        subst hres
        clear h34
        go_wp2
        go_ret3
        refine ⟨?_, rfl⟩
        have hl : s.size - ((bs s).drop (k + 1)).length = k + 1 := by rw [List.length_drop, bs_length]; omega
        simp only [qatR, hl, S_bs]
        go_num
      have e1 := byte_no h34 34 rfl
      by_cases h92 : s[k] = 92
      · have e2 : ((s[k].toNat : Int) == 92) = true := by rw [h92]; rfl
        by_cases hend : k + 1 = s.size
        · have hres := invQ_last HINV.out hend h92
          subst hres
          have hE : ((k : Int) + 1 == (s.size : Int)) = true := by rw [beq_iff_eq]; omega
          clear h34 h92
          go_wp2
          go_ret3
          exact ⟨rfl, rfl⟩
        have hlt2 : k + 1 < s.size := by omega
        have hE : ((k : Int) + 1 == (s.size : Int)) = false := by rw [beq_eq_false_iff_ne]; omega
        have hn1 := one_of s (k + 1) hlt2
        have hIx : s[k + 1] = s[k + 1] := rfl
        by_cases hok : s[k + 1] = 34 ∨ s[k + 1] = 92
        · have hinv2 := invQ_two HINV.out hlt2 h92 hok
          rw [← hn1, ← bs_append] at hinv2
          have HI2 := Lib.hid hinv2
          have hz1 : (s.extract (k + 1) (k + 1 + 1)).size = 1 := by rw [← bs_length, hn1]; rfl
          clear hinv2 hn1 hIx h34 h92
          rcases hok with hd | hd
          · have e3 : ((s[k + 1].toNat : Int) != 34) = false := by rw [hd]; rfl
            clear hd
            go_wp2
            go_round
            case rel => exact ⟨k + 1 + 1, _, by go_num, rfl, .inl (by omega), by omega, by rw [ByteArray.size_append, hz1]; omega, HI2.out⟩
            case measure => simp [intOf]; omega
          · have e3 : ((s[k + 1].toNat : Int) != 34) = true := by rw [hd]; rfl
            have e4 : ((s[k + 1].toNat : Int) != 92) = false := by rw [hd]; rfl
            clear hd
            go_wp2
            go_round
            case rel => exact ⟨k + 1 + 1, _, by go_num, rfl, .inl (by omega), by omega, by rw [ByteArray.size_append, hz1]; omega, HI2.out⟩
            case measure => simp [intOf]; omega
        · have hres := invQ_bad HINV.out hlt2 h92 (fun e => hok (.inl e)) (fun e => hok (.inr e))
          have e3 := byte_ne (fun e => hok (.inl e)) 34 rfl
          have e4 := byte_ne (fun e => hok (.inr e)) 92 rfl
          subst hres
          clear h34 h92 hok hn1 hIx
          go_wp2
          go_ret3
          exact ⟨rfl, rfl⟩
      · have e2 := byte_no h92 92 rfl
        have hn1 := one_of s k hlt
        have hinv2 := invQ_one HINV.out hlt h34 h92
        rw [← hn1, ← bs_append] at hinv2
        have HI2 := Lib.hid hinv2
        have hz1 : (s.extract k (k + 1)).size = 1 := by rw [← bs_length, hn1]; rfl
        clear hinv2 hn1 h34 h92
        go_wp2
        go_round
        case rel => exact ⟨k + 1, _, by go_num, rfl, .inl (by omega), by omega, by rw [ByteArray.size_append, hz1]; omega, HI2.out⟩
        case measure => simp [intOf]; omega
    · have hres := invQ_out HINV.out (by omega)
      subst hres
      go_wp2
      go_ret3
      exact ⟨rfl, rfl⟩
theorem conv_own {w : World} {B m : Nat} {v : Value} {l : Str} (h : w.ownsRow B 5 1 v m (u8s l)) :
    ∀ W, Ext w W → (convert 136 9 v).run Tryz.prog W = .ok (S l) W := fun W hW => by
  have hl : l.length = m := by have := h.1; rw [u8s_length, Nat.mul_one] at this; exact this
  rcases Nat.eq_zero_or_pos m with h0 | h0
  · rcases h.2 with ⟨rfl, _⟩ | ⟨g, cap, cur, rfl, _, _, _, _⟩
    · have e : l = [] := List.eq_nil_of_length_eq_zero (by omega)
      rw [e]
      exact run_convert_bytes_nil (P := Tryz.prog) W 136 5 Tryz.underlying136 Tryz.underlying5 0 0 9 Tryz.underlying9
    · have e : l = [] := List.eq_nil_of_length_eq_zero (by omega)
      subst h0
      rw [e]
      exact run_convert_bytes_arg (P := Tryz.prog) W 136 5 Tryz.underlying136 Tryz.underlying5 g 0 0 cap [] rfl (fun i hi => absurd hi (Nat.not_lt_zero _)) 9 Tryz.underlying9
  · obtain ⟨g, c, rfl, _, _, _, hc⟩ := own_form h h0
    subst hl
    have := run_convert_bytes_arg (P := Tryz.prog) W 136 5 Tryz.underlying136 Tryz.underlying5 g 0 l.length c (l.map fun x => (x.toNat : Int)) (by simp) (fun i hi => by
      rw [Nat.zero_add]
      refine (hW.cell (hc i (.int .u8 l[i].toNat) (by simp [u8s, hi]))).trans ?_
      simp [List.getD, hi]) 9 Tryz.underlying9
    rw [this]
    have e : (l.map fun x => (x.toNat : Int)).map (fun n => UInt8.ofNat n.toNat) = l := by
      rw [List.map_map]
      exact List.map_id'' (fun x => by simp) l
    unfold strOfNums
    rw [e]
end Go.Proofs.YtncagihilplliaaGreatDoor

namespace Go.Proofs.YtncagihilplliaaGreatDoor
open Go.RowKit

set_option maxRecDepth 100000 in
set_option maxHeartbeats 8000000 in
theorem quotedAtV_any (s : ByteArray) (i : Nat) (w : World) (hs : s.size ≤ 2097152) (hi : i ≤ 2097152) :
    Calls Tryz.prog 123 #[.string s, .int .i64 i] w fun e w' => e = .returned (.tuple #[S (qat (bs s) i).1, .int .i64 (qat (bs s) i).2.1, .bool (qat (bs s) i).2.2]) ∧ Ext w w' := by
  obtain ⟨R, hR⟩ : ∃ R, unq ((bs s).drop (i + 1)) = R := ⟨_, rfl⟩
  have hq : qat (bs s) i = qatR s.size R := by rw [qat, hR, bs_length]
  have hst := invQ_start (bs s) (i + 1)
  rw [hR] at hst
  rw [hq]
  have HST := Lib.hid hst
  clear hst hq hR
  go_enter Tryz.func123, Tryz.ntmps123
  go_wp2
  go_loopw [7, 8] (fun v k' wr => ∃ (k : Nat) (done : Str), k' = .int .i64 k ∧ wr.ownsRow w.heap.size 5 1 v done.length (u8s done) ∧ k ≤ 2097153 ∧ (k ≤ s.size ∨ done = []) ∧ done.length ≤ k ∧ InvQ (bs s) R k done ∧ Ext w wr) (fun _ k _ => s.size - (intOf k).toNat)
  case atStart => exact ⟨i + 1, [], by go_num, World.ownsRow_nil _ _ _ _, by omega, .inr rfl, Nat.zero_le _, HST.out, Ext.refl _⟩
  case round =>
    obtain ⟨k, done, rfl, hown, hk2, hk1, hk3, hinv, hxr⟩ := hrel
    have HINV := Lib.hid hinv
    clear hinv
    by_cases hlt : k < s.size
    · by_cases h34 : s[k] = 34
      · have e1 : ((s[k].toNat : Int) == 34) = true := by rw [h34]; rfl
        have hres := invQ_end HINV.out hlt h34
        subst hres
        have hcv := conv_own hown wr (Ext.refl wr)
        have hkk : (k : Int) + 1 ≤ s.size := by omega
        have hkw : IntKind.i64.wrap ((k : Int) + 1) = (k : Int) + 1 := by rw [IntKind.wrap_i64]; omega
        clear h34 hown
        go_wp2
        go_ret3
        refine ⟨?_, hxr⟩
        have hl : s.size - ((bs s).drop (k + 1)).length = k + 1 := by rw [List.length_drop, bs_length]; omega
        simp only [qatR, hl]
        go_num
      have e1 := byte_no h34 34 rfl
      by_cases h92 : s[k] = 92
      · have e2 : ((s[k].toNat : Int) == 92) = true := by rw [h92]; rfl
        by_cases hend : k + 1 = s.size
        · have hres := invQ_last HINV.out hend h92
          subst hres
          have hE : ((k : Int) + 1 == (s.size : Int)) = true := by rw [beq_iff_eq]; omega
          clear h34 h92
          go_wp2
          go_ret3
          exact ⟨rfl, hxr⟩
        have hlt2 : k + 1 < s.size := by omega
        have hE : ((k : Int) + 1 == (s.size : Int)) = false := by rw [beq_eq_false_iff_ne]; omega
        by_cases hok : s[k + 1] = 34 ∨ s[k + 1] = 92
        · have hinv2 := invQ_two HINV.out hlt2 h92 hok
          have HI2 := Lib.hid hinv2
          clear hinv2 h34 h92
          rcases hok with hd | hd
          · have e3 : ((s[k + 1].toNat : Int) != 34) = false := by rw [hd]; rfl
            clear hd
            have HX := Lib.hid hxr
            have hsz := hxr.size
            go_wp2_with (at_builtin; refine wpList_app1 _ _ _ rfl _ _ 136 rfl (.int .u8 0) 1 1 Tryz.underlying136 info_u8 rfl (by decide) (by decide) w.heap.size _ done.length _ rfl hown _ rfl rfl (by simp [Value.oneCell']) (by omega) hsz ?_; intro v' w3 hown3 hx3 _)
            go_roundw
            case rel => exact ⟨k + 1 + 1, done ++ [s[k + 1]], by go_num, by rw [u8s_append, List.length_append]; exact hown3, by omega, .inl (by omega), by rw [List.length_append]; simp; omega, HI2.out, hx3 _ HX.out (Nat.le_refl _)⟩
            case measure => simp [intOf]; omega
          · have e3 : ((s[k + 1].toNat : Int) != 34) = true := by rw [hd]; rfl
            have e4 : ((s[k + 1].toNat : Int) != 92) = false := by rw [hd]; rfl
            clear hd
            have HX := Lib.hid hxr
            have hsz := hxr.size
            go_wp2_with (at_builtin; refine wpList_app1 _ _ _ rfl _ _ 136 rfl (.int .u8 0) 1 1 Tryz.underlying136 info_u8 rfl (by decide) (by decide) w.heap.size _ done.length _ rfl hown _ rfl rfl (by simp [Value.oneCell']) (by omega) hsz ?_; intro v' w3 hown3 hx3 _)
            go_roundw
            case rel => exact ⟨k + 1 + 1, done ++ [s[k + 1]], by go_num, by rw [u8s_append, List.length_append]; exact hown3, by omega, .inl (by omega), by rw [List.length_append]; simp; omega, HI2.out, hx3 _ HX.out (Nat.le_refl _)⟩
            case measure => simp [intOf]; omega
        · have hres := invQ_bad HINV.out hlt2 h92 (fun e => hok (.inl e)) (fun e => hok (.inr e))
          have e3 := byte_ne (fun e => hok (.inl e)) 34 rfl
          have e4 := byte_ne (fun e => hok (.inr e)) 92 rfl
          subst hres
          clear h34 h92 hok
          go_wp2
          go_ret3
          exact ⟨rfl, hxr⟩
      · have e2 := byte_no h92 92 rfl
        have hinv2 := invQ_one HINV.out hlt h34 h92
        have HI2 := Lib.hid hinv2
        clear hinv2 h34 h92
        have HX := Lib.hid hxr
        have hsz := hxr.size
        go_wp2_with (at_builtin; refine wpList_app1 _ _ _ rfl _ _ 136 rfl (.int .u8 0) 1 1 Tryz.underlying136 info_u8 rfl (by decide) (by decide) w.heap.size _ done.length _ rfl hown _ rfl rfl (by simp [Value.oneCell']) (by omega) hsz ?_; intro v' w3 hown3 hx3 _)
        go_roundw
        case rel => exact ⟨k + 1, done ++ [s[k]], by go_num, by rw [u8s_append, List.length_append]; exact hown3, by omega, .inl (by omega), by rw [List.length_append]; simp; omega, HI2.out, hx3 _ HX.out (Nat.le_refl _)⟩
        case measure => simp [intOf]; omega
    · have hres := invQ_out HINV.out (by omega)
      subst hres
      go_wp2
      go_ret3
      exact ⟨rfl, hxr⟩
def blankB (c : UInt8) : Bool := c == 32 || c == 9
theorem isBlank_any (c : UInt8) (w : World) :
    Calls Tryz.prog 122 #[.int .u8 c.toNat] w fun e w' => e = .returned (.bool (blankB c)) ∧ w = w' := by
  have hb : blankB c = (decide ((c.toNat : Int) = 32) || decide ((c.toNat : Int) = 9)) := by
    have h (n : UInt8) (z : Int) (hz : z = n.toNat) : (c == n) = decide ((c.toNat : Int) = z) := by
      rw [Bool.eq_iff_iff, beq_iff_eq, decide_eq_true_iff, ← UInt8.toNat_inj]; omega
    unfold blankB
    rw [h 32 32 rfl, h 9 9 rfl]
  rw [hb]
  by_cases h1 : (c.toNat : Int) = 32 <;> by_cases h2 : (c.toNat : Int) = 9
  all_goals
    have e1 : ((c.toNat : Int) == 32) = decide ((c.toNat : Int) = 32) := rfl
    have e2 : ((c.toNat : Int) == 9) = decide ((c.toNat : Int) = 9) := rfl
    first | rw [decide_eq_true h1] at e1 ⊢ | rw [decide_eq_false h1] at e1 ⊢
    first | rw [decide_eq_true h2] at e2 ⊢ | rw [decide_eq_false h2] at e2 ⊢
    clear h1 h2 hb
    go_enter Tryz.func122, Tryz.ntmps122
    go_wp2
    go_ret
    exact ⟨rfl, rfl⟩
def kindOfL (t : Str) : Int := if t = [111, 114] then 8 else 7
theorem kindOf_any (t : ByteArray) (w : World) :
    Calls Tryz.prog 162 #[.string t] w fun e w' => e = .returned (.int .i64 (kindOfL (bs t))) ∧ w = w' := by
  by_cases h : bs t = [111, 114]
  · have e1 : (t.toList == [111, 114]) = true := by rw [lit_beq, h]; rfl
    have e2 : t = ⟨#[111, 114]⟩ := bs_inj h
    rw [kindOfL, if_pos h]
    clear h
    go_enter Tryz.func162, Tryz.ntmps162
    go_wp2
    go_ret
    exact ⟨rfl, rfl⟩
  · have e1 : (t.toList == [111, 114]) = false := by rw [lit_beq, beq_eq_false_iff_ne]; exact h
    rw [kindOfL, if_neg h]
    clear h
    go_enter Tryz.func162, Tryz.ntmps162
    go_wp2
    go_ret
    exact ⟨rfl, rfl⟩
end Go.Proofs.YtncagihilplliaaGreatDoor

namespace Go.Proofs.YtncagihilplliaaGreatDoor
open Go.RowKit

/-! ### A world of which one block alone was written -/
structure ExtX (g : Nat) (w w' : World) : Prop where
  os : w'.os = w.os
  tape : w'.tape = w.tape
  output : w'.output = w.output
  size : w.heap.size ≤ w'.heap.size
  block : ∀ k, k < w.heap.size → k ≠ g → w'.heap[k]? = w.heap[k]?
namespace ExtX
variable {g : Nat} {a b c w w' : World}
theorem refl (g : Nat) (w : World) : ExtX g w w := ⟨rfl, rfl, rfl, Nat.le_refl _, fun _ _ _ => rfl⟩
theorem ofExt (h : Ext a b) : ExtX g a b := ⟨h.os, h.tape, h.output, h.size, fun k hk _ => h.block k hk⟩
theorem trans (h : ExtX g a b) (k : ExtX g b c) : ExtX g a c :=
  ⟨k.os.trans h.os, k.tape.trans h.tape, k.output.trans h.output, Nat.le_trans h.size k.size, fun i hi hg => (k.block i (Nat.lt_of_lt_of_le hi h.size) hg).trans (h.block i hi hg)⟩
theorem setG (h : ExtX g a w) (o : Nat) (u : Value) : ExtX g a (w.setCell ⟨g, o, none⟩ u) :=
  h.trans ⟨rfl, rfl, rfl, by simp [World.setCell], fun k _ hg => by simp only [World.setCell, Array.getElem?_modify]; rw [if_neg (Ne.symm hg)]⟩
theorem set2 (h : ExtX g a w) {p : Addr} (hp : a.heap.size ≤ p.block) (u : Value) : ExtX g a (w.setCell p u) :=
  ⟨h.os, h.tape, h.output, by have := h.size; simpa [World.setCell] using this, fun k hk hg => by
    refine Eq.trans ?_ (h.block k hk hg)
    simp only [World.setCell, Array.getElem?_modify]
    rw [if_neg (by omega)]⟩
theorem alloc (h : ExtX g a w) (o : Obj) : ExtX g a (w.alloc o) := h.trans (ofExt ((Ext.refl w).alloc o))
theorem drew (h : ExtX g a w) : ExtX g a w.drew := h.trans (ofExt ((Ext.refl w).drew))
theorem ext (h : Ext a w) (k : ExtX g w w') (hg : a.heap.size ≤ g) : Ext a w' :=
  ⟨k.os.trans h.os, k.tape.trans h.tape, k.output.trans h.output, Nat.le_trans h.size k.size, fun i hi => (k.block i (Nat.lt_of_lt_of_le hi h.size) (by omega)).trans (h.block i hi)⟩
theorem cell (h : ExtX g a b) {k o : Nat} {v : Value} (hk : k ≠ g) (hc : a.cell? ⟨k, o, none⟩ = some v) : b.cell? ⟨k, o, none⟩ = some v := by
  have hl := lt_of_cell hc
  unfold World.cell? at hc ⊢
  rw [h.block k hl hk]
  exact hc
end ExtX
theorem Blk.extX {g : Nat} {w w' : World} {k : Nat} {t : TypeId} {cs : Array Value} (h : Blk w k t cs) (hx : ExtX g w w') (hk : k ≠ g) : Blk w' k t cs := (hx.block k h.lt hk).trans h

/-! ### The reader -/
/-- the reader: where it is, the next token (kind, place, text), the place of the error -/
structure St where
  p : Nat
  k : Int
  a : Nat
  t : ByteArray
  wr : Int
abbrev rdA (s : ByteArray) (σ : St) : Array Value := #[.string s, .int .i64 σ.p, .int .i64 σ.k, .int .i64 σ.a, .string σ.t, .int .i64 σ.wr]
abbrev Rd (w : World) (g : Nat) (s : ByteArray) (σ : St) : Prop := Blk w g 121 (rdA s σ)
theorem Rd.setP {w : World} {g : Nat} {s : ByteArray} {σ : St} (h : Rd w g s σ) (n : Nat) {z : Int} (hz : z = n) : Rd (w.setCell ⟨g, 1, none⟩ (.int .i64 z)) g s ⟨n, σ.k, σ.a, σ.t, σ.wr⟩ := by
  subst hz; exact h.set 1 _
theorem Rd.setW {w : World} {g : Nat} {s : ByteArray} {σ : St} (h : Rd w g s σ) (z : Int) : Rd (w.setCell ⟨g, 5, none⟩ (.int .i64 z)) g s ⟨σ.p, σ.k, σ.a, σ.t, z⟩ := h.set 5 _
theorem Rd.setT {w : World} {g : Nat} {s : ByteArray} {σ : St} (h : Rd w g s σ) (k : Int) (a : Nat) (t : ByteArray) : Rd (((w.setCell ⟨g, 2, none⟩ (.int .i64 k)).setCell ⟨g, 3, none⟩ (.int .i64 a)).setCell ⟨g, 4, none⟩ (.string t)) g s ⟨σ.p, k, a, t, σ.wr⟩ := ((h.set 2 _).set 3 _).set 4 _
def isF (σ : St) (k : Int) (t : Str) : Bool := decide (σ.wr < 0) && decide (σ.k = k) && decide (bs σ.t = t)
theorem ieq (a b : Int) : (a == b) = decide (a = b) := by
  by_cases h : a = b
  · rw [decide_eq_true h, beq_iff_eq]; exact h
  · rw [decide_eq_false h, beq_eq_false_iff_ne]; exact h
theorem is_any (g : Nat) (s : ByteArray) (σ : St) (k : Int) (t : ByteArray) (w : World) (h : Rd w g s σ) :
    Calls Tryz.prog 124 #[.pointer (some ⟨g, 0, none⟩), .int .i64 k, .string t] w fun e w' => e = .returned (.bool (isF σ k (bs t))) ∧ w = w' := by
  obtain ⟨p, sk, a, st, wr⟩ := σ
  have c := h.cell
  unfold isF
  dsimp only
  by_cases h1 : wr < 0
  · by_cases h2 : sk = k
    · by_cases h3 : bs st = bs t
      · have e3 : (st.toList == t.toList) = true := by rw [eqE, decide_eq_true h3]
        subst h2
        rw [decide_eq_true h1, decide_eq_true rfl, decide_eq_true h3]
        clear h3 h
        go_enter Tryz.func124, Tryz.ntmps124
        go_wp2
        go_ret
        exact ⟨rfl, rfl⟩
      · have e3 : (st.toList == t.toList) = false := by rw [eqE, decide_eq_false h3]
        subst h2
        rw [decide_eq_true h1, decide_eq_true rfl, decide_eq_false h3]
        clear h3 h
        go_enter Tryz.func124, Tryz.ntmps124
        go_wp2
        go_ret
        exact ⟨rfl, rfl⟩
    · have e2 : (sk == k) = false := by rw [ieq, decide_eq_false h2]
      rw [decide_eq_true h1, decide_eq_false h2]
      clear h2 h
      go_enter Tryz.func124, Tryz.ntmps124
      go_wp2
      go_ret
      exact ⟨rfl, rfl⟩
  · rw [decide_eq_false h1]
    clear h
    go_enter Tryz.func124, Tryz.ntmps124
    go_wp2
    go_ret
    exact ⟨rfl, rfl⟩
def failF (σ : St) (a : Int) : St := if σ.wr < 0 then { σ with wr := a } else σ
theorem fail_any (g : Nat) (s : ByteArray) (σ : St) (a : Int) (w : World) (h : Rd w g s σ) :
    Calls Tryz.prog 88 #[.pointer (some ⟨g, 0, none⟩), .int .i64 a] w fun e w' => e = .returned (.tuple #[]) ∧ Rd w' g s (failF σ a) ∧ ExtX g w w' := by
  obtain ⟨p, sk, a0, st, wr⟩ := σ
  have c := h.cell
  have f := h.free
  unfold failF
  dsimp only
  by_cases h1 : wr < 0
  · rw [if_pos h1]
    have hfin : Rd (w.setCell ⟨g, 5, none⟩ (.int .i64 a)) g s ⟨p, sk, a0, st, a⟩ := by simpa using h.set 5 (.int .i64 a)
    have HF := Lib.hid hfin
    clear h hfin
    go_enter Tryz.func88, Tryz.ntmps88
    go_wp2
    refine bodyPost_end (results_none rfl _ _ _) rfl ?_
    exact ⟨rfl, HF.out, (ExtX.refl g w).setG _ _⟩
  · rw [if_neg h1]
    have HF := Lib.hid h
    clear h
    go_enter Tryz.func88, Tryz.ntmps88
    go_wp2
    refine bodyPost_end (results_none rfl _ _ _) rfl ?_
    exact ⟨rfl, HF.out, ExtX.refl g w⟩
end Go.Proofs.YtncagihilplliaaGreatDoor
