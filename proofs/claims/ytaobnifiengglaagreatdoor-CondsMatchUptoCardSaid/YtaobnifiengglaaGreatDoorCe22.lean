/- Contracts of migrate.Inverse, PrintRule, and of outref2.InverseOf, Quoted, RuleText. Contracts of ver.quotedAt, ver.isBlank, ver.kindOf. The condition reader of the program in memory: its state; 'is', 'fail'. -/
import Derived.Test.YtaobnifiengglaaGreatDoorCe21
import Derived.Deep.RegionHeld3
import Derived.Test.YtaobnifiengglaaGreatDoorCe03

namespace Go.Proofs.YtaobnifiengglaaGreatDoor
open Go.RowKit

theorem RQuoted_any (s : ByteArray) (w : World) (hg : Good w) (hs : s.size ≤ 2097152) :
    Calls Tryz.prog 83 #[.string s] w fun e w' => e = .returned (S (quoteL (bs s))) ∧ Ext w w' := by
  have hr1 : ∀ W, Ext w W → Calls Tryz.prog 168 #[.string s, .string ⟨#[92]⟩, .string ⟨#[92, 92]⟩] W fun e w' => ∃ x : ByteArray, e = .returned (.string x) ∧ bs x = subst1 92 [92, 92] (bs s) ∧ x.size ≤ 4194304 ∧ Ext W w' := fun W hW => by
    obtain ⟨m, hm⟩ := (hg.ext hW).maxLen
    have hc : Lib.countB s ⟨#[92]⟩ ≤ s.size := by
      rw [← bs_length]
      rw [show Lib.countB s ⟨#[92]⟩ = (bs s).count 92 from Lib.count_one 92 (bs s)]
      exact List.count_le_length
    refine (Tryz.strings_ReplaceAll s ⟨#[92]⟩ ⟨#[92, 92]⟩ m W (by omega) hm (by decide) (by show s.size + Lib.countB s ⟨#[92]⟩ * 2 ≤ _; omega)).mono fun e w' ⟨h, hb⟩ => ?_
    have hl := subst1_len 92 [92, 92] (bs s) (by decide)
    rw [bs_length] at hl
    have he : Lib.replaceAll s.data.toList [92] [92, 92] = subst1 92 [92, 92] (bs s) := replaceAll_one 92 [92, 92] _ (by decide)
    exact ⟨_, h, by rw [bs_mk]; exact he, by rw [← bs_length, bs_mk]; show (Lib.replaceAll s.data.toList [92] [92, 92]).length ≤ _; rw [he]; omega, hb⟩
  have hr2 : ∀ W x, Ext w W → x.size ≤ 4194304 → Calls Tryz.prog 168 #[.string x, .string ⟨#[34]⟩, .string ⟨#[92, 34]⟩] W fun e w' => ∃ y : ByteArray, e = .returned (.string y) ∧ bs y = subst1 34 [92, 34] (bs x) ∧ y.size ≤ 8388608 ∧ Ext W w' := fun W x hW hx => by
    obtain ⟨m, hm⟩ := (hg.ext hW).maxLen
    have hc : Lib.countB x ⟨#[34]⟩ ≤ x.size := by
      rw [← bs_length]
      rw [show Lib.countB x ⟨#[34]⟩ = (bs x).count 34 from Lib.count_one 34 (bs x)]
      exact List.count_le_length
    refine (Tryz.strings_ReplaceAll x ⟨#[34]⟩ ⟨#[92, 34]⟩ m W (by omega) hm (by decide) (by show x.size + Lib.countB x ⟨#[34]⟩ * 2 ≤ _; omega)).mono fun e w' ⟨h, hb⟩ => ?_
    have hl := subst1_len 34 [92, 34] (bs x) (by decide)
    rw [bs_length] at hl
    have he : Lib.replaceAll x.data.toList [34] [92, 34] = subst1 34 [92, 34] (bs x) := replaceAll_one 34 [92, 34] _ (by decide)
    exact ⟨_, h, by rw [bs_mk]; exact he, by rw [← bs_length, bs_mk]; show (Lib.replaceAll x.data.toList [34] [92, 34]).length ≤ _; rw [he]; omega, hb⟩
  have HR1 := Lib.hid hr1
  have HR2 := Lib.hid hr2
  have HQ := Lib.hid (quoteL_eq (bs s))
  clear hr1 hr2
  go_enter Tryz.func83, Tryz.ntmps83
  go_wp2_with fail
  refine (HR1.out _ (Ext.refl _)).mono ?_
  rintro e w1 ⟨x, rfl, hb1, hz1, hx1⟩
  have HB1 := Lib.hid hb1
  clear hb1
  go_wp2_with fail
  refine (HR2.out _ _ hx1 hz1).mono ?_
  rintro e w2 ⟨y, rfl, hb2, hz2, hx2⟩
  have HB2 := Lib.hid hb2
  clear hb2
  go_wp2
  go_ret
  refine ⟨ret_strS ?_, hx1.trans hx2⟩
  rw [HQ.out, bs_append, bs_append, HB2.out, HB1.out, esc_two]
end Go.Proofs.YtaobnifiengglaaGreatDoor

namespace Go.Proofs.YtaobnifiengglaaGreatDoor
open Go.RowKit

set_option maxRecDepth 100000 in
set_option maxHeartbeats 8000000 in
theorem quotedAtV_any (s : ByteArray) (i : Nat) (w : World) (hs : s.size ≤ 2097152) (hi : i ≤ 2097152) :
    Calls Tryz.prog 190 #[.string s, .int .i64 i] w fun e w' => e = .returned (.tuple #[S (qat (bs s) i).1, .int .i64 (qat (bs s) i).2.1, .bool (qat (bs s) i).2.2]) ∧ Ext w w' := by
  obtain ⟨R, hR⟩ : ∃ R, unq ((bs s).drop (i + 1)) = R := ⟨_, rfl⟩
  have hq : qat (bs s) i = qatR s.size R := by rw [qat, hR, bs_length]
  have hst := invQ_start (bs s) (i + 1)
  rw [hR] at hst
  rw [hq]
  have HST := Lib.hid hst
  clear hst hq hR
  go_enter Tryz.func190, Tryz.ntmps190
  go_wp2
  go_loopw [7, 8] (fun v k' wr => ∃ (k : Nat) (done : Str), k' = .int .i64 k ∧ wr.ownsRow w.heap.size 5 1 v done.length (u8s done) ∧ k ≤ 2097153 ∧ (k ≤ s.size ∨ done = []) ∧ done.length ≤ k ∧ InvQ (bs s) R k done ∧ Ext w wr) (fun _ k _ => s.size - (intOf k).toNat)
  case atStart => exact ⟨i + 1, [], by go_num, World.ownsRow_nil _ _ _ _, by omega, .inr rfl, Nat.zero_le _, HST.out, Ext.refl _⟩
  case round =>
    obtain ⟨k, done, rfl, hown, hk2, hk1, hk3, hinv, hxr⟩ := hrel
    have HINV := Lib.hid hinv
    clear hinv
    by_cases hlt : k < s.size
    · by_cases h34 : s[k] = 34
      · have e1 : ((s[k].toNat : Int) == 34) = true := by rw [h34]; rfl
        have hres := invQ_end HINV.out hlt h34
        subst hres
        have hcv := conv_own hown wr (Ext.refl wr)
        have hkk : (k : Int) + 1 ≤ s.size := by omega
        have hkw : IntKind.i64.wrap ((k : Int) + 1) = (k : Int) + 1 := by rw [IntKind.wrap_i64]; omega
        clear h34 hown
        go_wp2
        go_ret3
        refine ⟨?_, hxr⟩
        have hl : s.size - ((bs s).drop (k + 1)).length = k + 1 := by rw [List.length_drop, bs_length]; omega
        simp only [qatR, hl]
        go_num
      have e1 := byte_no h34 34 rfl
      by_cases h92 : s[k] = 92
      · have e2 : ((s[k].toNat : Int) == 92) = true := by rw [h92]; rfl
        by_cases hend : k + 1 = s.size
        · have hres := invQ_last HINV.out hend h92
          subst hres
          have hE : ((k : Int) + 1 == (s.size : Int)) = true := by rw [beq_iff_eq]; omega
          clear h34 h92
          go_wp2
          go_ret3
          exact ⟨rfl, hxr⟩
        have hlt2 : k + 1 < s.size := by omega
        have hE : ((k : Int) + 1 == (s.size : Int)) = false := by rw [beq_eq_false_iff_ne]; omega
        by_cases hok : s[k + 1] = 34 ∨ s[k + 1] = 92
        · have hinv2 := invQ_two HINV.out hlt2 h92 hok
          have HI2 := Lib.hid hinv2
          clear hinv2 h34 h92
          rcases hok with hd | hd
          · have e3 : ((s[k + 1].toNat : Int) != 34) = false := by rw [hd]; rfl
            clear hd
            have HX := Lib.hid hxr
            have hsz := hxr.size
            go_wp2_with (at_builtin; refine wpList_app1 _ _ _ rfl _ _ 222 rfl (.int .u8 0) 1 1 Tryz.underlying222 info_u8 rfl (by decide) (by decide) w.heap.size _ done.length _ rfl hown _ rfl rfl (by simp [Value.oneCell']) (by omega) hsz ?_; intro v' w3 hown3 hx3 _)
            go_roundw
            case rel => exact ⟨k + 1 + 1, done ++ [s[k + 1]], by go_num, by rw [u8s_append, List.length_append]; exact hown3, by omega, .inl (by omega), by rw [List.length_append]; simp; omega, HI2.out, hx3 _ HX.out (Nat.le_refl _)⟩
            case measure => simp [intOf]; omega
          · have e3 : ((s[k + 1].toNat : Int) != 34) = true := by rw [hd]; rfl
            have e4 : ((s[k + 1].toNat : Int) != 92) = false := by rw [hd]; rfl
            clear hd
            have HX := Lib.hid hxr
            have hsz := hxr.size
            go_wp2_with (at_builtin; refine wpList_app1 _ _ _ rfl _ _ 222 rfl (.int .u8 0) 1 1 Tryz.underlying222 info_u8 rfl (by decide) (by decide) w.heap.size _ done.length _ rfl hown _ rfl rfl (by simp [Value.oneCell']) (by omega) hsz ?_; intro v' w3 hown3 hx3 _)
            go_roundw
            case rel => exact ⟨k + 1 + 1, done ++ [s[k + 1]], by go_num, by rw [u8s_append, List.length_append]; exact hown3, by omega, .inl (by omega), by rw [List.length_append]; simp; omega, HI2.out, hx3 _ HX.out (Nat.le_refl _)⟩
            case measure => simp [intOf]; omega
        · have hres := invQ_bad HINV.out hlt2 h92 (fun e => hok (.inl e)) (fun e => hok (.inr e))
          have e3 := byte_ne (fun e => hok (.inl e)) 34 rfl
          have e4 := byte_ne (fun e => hok (.inr e)) 92 rfl
          subst hres
          clear h34 h92 hok
          go_wp2
          go_ret3
          exact ⟨rfl, hxr⟩
      · have e2 := byte_no h92 92 rfl
        have hinv2 := invQ_one HINV.out hlt h34 h92
        have HI2 := Lib.hid hinv2
        clear hinv2 h34 h92
        have HX := Lib.hid hxr
        have hsz := hxr.size
        go_wp2_with (at_builtin; refine wpList_app1 _ _ _ rfl _ _ 222 rfl (.int .u8 0) 1 1 Tryz.underlying222 info_u8 rfl (by decide) (by decide) w.heap.size _ done.length _ rfl hown _ rfl rfl (by simp [Value.oneCell']) (by omega) hsz ?_; intro v' w3 hown3 hx3 _)
        go_roundw
        case rel => exact ⟨k + 1, done ++ [s[k]], by go_num, by rw [u8s_append, List.length_append]; exact hown3, by omega, .inl (by omega), by rw [List.length_append]; simp; omega, HI2.out, hx3 _ HX.out (Nat.le_refl _)⟩
        case measure => simp [intOf]; omega
    · have hres := invQ_out HINV.out (by omega)
      subst hres
      go_wp2
      go_ret3
      exact ⟨rfl, hxr⟩
def blankB (c : UInt8) : Bool := c == 32 || c == 9
theorem isBlank_any (c : UInt8) (w : World) :
    Calls Tryz.prog 189 #[.int .u8 c.toNat] w fun e w' => e = .returned (.bool (blankB c)) ∧ w = w' := by
  have hb : blankB c = (decide ((c.toNat : Int) = 32) || decide ((c.toNat : Int) = 9)) := by
    have h (n : UInt8) (z : Int) (hz : z = n.toNat) : (c == n) = decide ((c.toNat : Int) = z) := by
      rw [Bool.eq_iff_iff, beq_iff_eq, decide_eq_true_iff, ← UInt8.toNat_inj]; omega
    unfold blankB
    rw [h 32 32 rfl, h 9 9 rfl]
  rw [hb]
  by_cases h1 : (c.toNat : Int) = 32 <;> by_cases h2 : (c.toNat : Int) = 9
  all_goals
    have e1 : ((c.toNat : Int) == 32) = decide ((c.toNat : Int) = 32) := rfl
    have e2 : ((c.toNat : Int) == 9) = decide ((c.toNat : Int) = 9) := rfl
    first | rw [decide_eq_true h1] at e1 ⊢ | rw [decide_eq_false h1] at e1 ⊢
    first | rw [decide_eq_true h2] at e2 ⊢ | rw [decide_eq_false h2] at e2 ⊢
    clear h1 h2 hb
    go_enter Tryz.func189, Tryz.ntmps189
    go_wp2
    go_ret
    exact ⟨rfl, rfl⟩
def kindOfL (t : Str) : Int := if t = [111, 114] then 8 else 7
theorem kindOf_any (t : ByteArray) (w : World) :
    Calls Tryz.prog 243 #[.string t] w fun e w' => e = .returned (.int .i64 (kindOfL (bs t))) ∧ w = w' := by
  by_cases h : bs t = [111, 114]
  · have e1 : (t.toList == [111, 114]) = true := by rw [lit_beq, h]; rfl
    have e2 : t = ⟨#[111, 114]⟩ := bs_inj h
    rw [kindOfL, if_pos h]
    clear h
    go_enter Tryz.func243, Tryz.ntmps243
    go_wp2
    go_ret
    exact ⟨rfl, rfl⟩
  · have e1 : (t.toList == [111, 114]) = false := by rw [lit_beq, beq_eq_false_iff_ne]; exact h
    rw [kindOfL, if_neg h]
    clear h
    go_enter Tryz.func243, Tryz.ntmps243
    go_wp2
    go_ret
    exact ⟨rfl, rfl⟩
end Go.Proofs.YtaobnifiengglaaGreatDoor

namespace Go.Proofs.YtaobnifiengglaaGreatDoor
open Go.RowKit

/-! ### A world of which one block alone was written -/
structure ExtX (g : Nat) (w w' : World) : Prop where
  os : w'.os = w.os
  tape : w'.tape = w.tape
  output : w'.output = w.output
  size : w.heap.size ≤ w'.heap.size
  block : ∀ k, k < w.heap.size → k ≠ g → w'.heap[k]? = w.heap[k]?
namespace ExtX
variable {g : Nat} {a b c w w' : World}
theorem refl (g : Nat) (w : World) : ExtX g w w := ⟨rfl, rfl, rfl, Nat.le_refl _, fun _ _ _ => rfl⟩
theorem ofExt (h : Ext a b) : ExtX g a b := ⟨h.os, h.tape, h.output, h.size, fun k hk _ => h.block k hk⟩
theorem trans (h : ExtX g a b) (k : ExtX g b c) : ExtX g a c :=
  ⟨k.os.trans h.os, k.tape.trans h.tape, k.output.trans h.output, Nat.le_trans h.size k.size, fun i hi hg => (k.block i (Nat.lt_of_lt_of_le hi h.size) hg).trans (h.block i hi hg)⟩
theorem setG (h : ExtX g a w) (o : Nat) (u : Value) : ExtX g a (w.setCell ⟨g, o, none⟩ u) :=
  h.trans ⟨rfl, rfl, rfl, by simp [World.setCell], fun k _ hg => by simp only [World.setCell, Array.getElem?_modify]; rw [if_neg (Ne.symm hg)]⟩
theorem set2 (h : ExtX g a w) {p : Addr} (hp : a.heap.size ≤ p.block) (u : Value) : ExtX g a (w.setCell p u) :=
  ⟨h.os, h.tape, h.output, by have := h.size; simpa [World.setCell] using this, fun k hk hg => by
    refine Eq.trans ?_ (h.block k hk hg)
    simp only [World.setCell, Array.getElem?_modify]
    rw [if_neg (by omega)]⟩
theorem alloc (h : ExtX g a w) (o : Obj) : ExtX g a (w.alloc o) := h.trans (ofExt ((Ext.refl w).alloc o))
theorem drew (h : ExtX g a w) : ExtX g a w.drew := h.trans (ofExt ((Ext.refl w).drew))
theorem ext (h : Ext a w) (k : ExtX g w w') (hg : a.heap.size ≤ g) : Ext a w' :=
  ⟨k.os.trans h.os, k.tape.trans h.tape, k.output.trans h.output, Nat.le_trans h.size k.size, fun i hi => (k.block i (Nat.lt_of_lt_of_le hi h.size) (by omega)).trans (h.block i hi)⟩
theorem cell (h : ExtX g a b) {k o : Nat} {v : Value} (hk : k ≠ g) (hc : a.cell? ⟨k, o, none⟩ = some v) : b.cell? ⟨k, o, none⟩ = some v := by
  have hl := lt_of_cell hc
  unfold World.cell? at hc ⊢
  rw [h.block k hl hk]
  exact hc
end ExtX
theorem Blk.extX {g : Nat} {w w' : World} {k : Nat} {t : TypeId} {cs : Array Value} (h : Blk w k t cs) (hx : ExtX g w w') (hk : k ≠ g) : Blk w' k t cs := (hx.block k h.lt hk).trans h

/-! ### The reader -/
/-- the reader: where it is, the next token (kind, place, text), the place of the error -/
structure St where
  p : Nat
  k : Int
  a : Nat
  t : ByteArray
  wr : Int
abbrev rdA (s : ByteArray) (σ : St) : Array Value := #[.string s, .int .i64 σ.p, .int .i64 σ.k, .int .i64 σ.a, .string σ.t, .int .i64 σ.wr]
abbrev Rd (w : World) (g : Nat) (s : ByteArray) (σ : St) : Prop := Blk w g 164 (rdA s σ)
theorem Rd.setP {w : World} {g : Nat} {s : ByteArray} {σ : St} (h : Rd w g s σ) (n : Nat) {z : Int} (hz : z = n) : Rd (w.setCell ⟨g, 1, none⟩ (.int .i64 z)) g s ⟨n, σ.k, σ.a, σ.t, σ.wr⟩ := by
  subst hz; exact h.set 1 _
theorem Rd.setW {w : World} {g : Nat} {s : ByteArray} {σ : St} (h : Rd w g s σ) (z : Int) : Rd (w.setCell ⟨g, 5, none⟩ (.int .i64 z)) g s ⟨σ.p, σ.k, σ.a, σ.t, z⟩ := h.set 5 _
theorem Rd.setT {w : World} {g : Nat} {s : ByteArray} {σ : St} (h : Rd w g s σ) (k : Int) (a : Nat) (t : ByteArray) : Rd (((w.setCell ⟨g, 2, none⟩ (.int .i64 k)).setCell ⟨g, 3, none⟩ (.int .i64 a)).setCell ⟨g, 4, none⟩ (.string t)) g s ⟨σ.p, k, a, t, σ.wr⟩ := ((h.set 2 _).set 3 _).set 4 _
def isF (σ : St) (k : Int) (t : Str) : Bool := decide (σ.wr < 0) && decide (σ.k = k) && decide (bs σ.t = t)
theorem ieq (a b : Int) : (a == b) = decide (a = b) := by
  by_cases h : a = b
  · rw [decide_eq_true h, beq_iff_eq]; exact h
  · rw [decide_eq_false h, beq_eq_false_iff_ne]; exact h
theorem is_any (g : Nat) (s : ByteArray) (σ : St) (k : Int) (t : ByteArray) (w : World) (h : Rd w g s σ) :
    Calls Tryz.prog 191 #[.pointer (some ⟨g, 0, none⟩), .int .i64 k, .string t] w fun e w' => e = .returned (.bool (isF σ k (bs t))) ∧ w = w' := by
  obtain ⟨p, sk, a, st, wr⟩ := σ
  have c := h.cell
  unfold isF
  dsimp only
  by_cases h1 : wr < 0
  · by_cases h2 : sk = k
    · by_cases h3 : bs st = bs t
      · have e3 : (st.toList == t.toList) = true := by rw [eqE, decide_eq_true h3]
        subst h2
        rw [decide_eq_true h1, decide_eq_true rfl, decide_eq_true h3]
        clear h3 h
        go_enter Tryz.func191, Tryz.ntmps191
        go_wp2
        go_ret
        exact ⟨rfl, rfl⟩
      · have e3 : (st.toList == t.toList) = false := by rw [eqE, decide_eq_false h3]
        subst h2
        rw [decide_eq_true h1, decide_eq_true rfl, decide_eq_false h3]
        clear h3 h
        go_enter Tryz.func191, Tryz.ntmps191
        go_wp2
        go_ret
        exact ⟨rfl, rfl⟩
    · have e2 : (sk == k) = false := by rw [ieq, decide_eq_false h2]
      rw [decide_eq_true h1, decide_eq_false h2]
      clear h2 h
      go_enter Tryz.func191, Tryz.ntmps191
      go_wp2
      go_ret
      exact ⟨rfl, rfl⟩
  · rw [decide_eq_false h1]
    clear h
    go_enter Tryz.func191, Tryz.ntmps191
    go_wp2
    go_ret
    exact ⟨rfl, rfl⟩
def failF (σ : St) (a : Int) : St := if σ.wr < 0 then { σ with wr := a } else σ
theorem fail_any (g : Nat) (s : ByteArray) (σ : St) (a : Int) (w : World) (h : Rd w g s σ) :
    Calls Tryz.prog 116 #[.pointer (some ⟨g, 0, none⟩), .int .i64 a] w fun e w' => e = .returned (.tuple #[]) ∧ Rd w' g s (failF σ a) ∧ ExtX g w w' := by
  obtain ⟨p, sk, a0, st, wr⟩ := σ
  have c := h.cell
  have f := h.free
  unfold failF
  dsimp only
  by_cases h1 : wr < 0
  · rw [if_pos h1]
    have hfin : Rd (w.setCell ⟨g, 5, none⟩ (.int .i64 a)) g s ⟨p, sk, a0, st, a⟩ := by simpa using h.set 5 (.int .i64 a)
    have HF := Lib.hid hfin
    clear h hfin
    go_enter Tryz.func116, Tryz.ntmps116
    go_wp2
    refine bodyPost_end (results_none rfl _ _ _) rfl ?_
    exact ⟨rfl, HF.out, (ExtX.refl g w).setG _ _⟩
  · rw [if_neg h1]
    have HF := Lib.hid h
    clear h
    go_enter Tryz.func116, Tryz.ntmps116
    go_wp2
    refine bodyPost_end (results_none rfl _ _ _) rfl ?_
    exact ⟨rfl, HF.out, ExtX.refl g w⟩
end Go.Proofs.YtaobnifiengglaaGreatDoor
