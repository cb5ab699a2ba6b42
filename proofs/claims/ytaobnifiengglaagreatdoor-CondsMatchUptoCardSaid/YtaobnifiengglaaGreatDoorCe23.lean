/- The condition reader of the program: 'advance'. The condition reader of the program: 'take'. Plain law: the program's reading of a condition, as it runs; its places only go on. -/
import Derived.Test.YtaobnifiengglaaGreatDoorCe22

namespace Go.Proofs.YtaobnifiengglaaGreatDoor
open Go.RowKit

/-! ### Lengths of runs -/
def runN (f : UInt8 → Bool) : Str → Nat
  | [] => 0
  | c :: l => if f c = true then runN f l + 1 else 0
theorem runN_le (f : UInt8 → Bool) : ∀ l, runN f l ≤ l.length
  | [] => Nat.le_refl _
  | c :: l => by
    rw [runN]
    split
    · have := runN_le f l; simpa using this
    · exact Nat.zero_le _
theorem runN_yes (f : UInt8 → Bool) (s : ByteArray) {k : Nat} (h : k < s.size) (hf : f s[k] = true) : k + runN f ((bs s).drop k) = k + 1 + runN f ((bs s).drop (k + 1)) := by
  rw [drop_cons s k h, runN, if_pos hf]; omega
theorem runN_no (f : UInt8 → Bool) (s : ByteArray) {k : Nat} (h : k < s.size) (hf : f s[k] = false) : k + runN f ((bs s).drop k) = k := by
  rw [drop_cons s k h, runN, if_neg (by rw [hf]; decide)]; omega
theorem runN_out (f : UInt8 → Bool) (s : ByteArray) {k : Nat} (h : s.size ≤ k) : k + runN f ((bs s).drop k) = k := by
  rw [List.drop_of_length_le (by rw [bs_length]; exact h)]; rfl
theorem run_le (f : UInt8 → Bool) (s : ByteArray) {k : Nat} (h : k ≤ s.size) : k + runN f ((bs s).drop k) ≤ s.size := by
  have := runN_le f ((bs s).drop k)
  rw [List.length_drop, bs_length] at this
  omega
def signB (c : UInt8) : Bool := c == 40 || c == 41 || c == 61
/-- a byte of a word -/
def tokB (c : UInt8) : Bool := !blankB c && !signB c && !(c == 34)
/-- the next token from a place on -/
def tokF (s : ByteArray) (σ : St) (i : Nat) : St :=
  if h : i < s.size then
    if signB s[i] = true then { σ with p := i + 1, k := 3, a := i, t := ⟨#[s[i]]⟩ }
    else if s[i] = 34 then
      if (qat (bs s) i).2.2 = true then { σ with p := (qat (bs s) i).2.1, k := 2, a := i, t := ⟨(qat (bs s) i).1.toArray⟩ } else { σ with p := i, k := 4, a := i, t := ⟨#[]⟩ }
    else { σ with p := i + runN tokB ((bs s).drop i), k := 1, a := i, t := s.extract i (i + runN tokB ((bs s).drop i)) }
  else { σ with p := i, k := 0, a := i, t := ⟨#[]⟩ }
def advF (s : ByteArray) (σ : St) : St := tokF s σ (σ.p + runN blankB ((bs s).drop σ.p))
theorem idx_signs (c : UInt8) : decide (Lib.indexByte [40, 41, 61, 34] c < 0) = !(signB c || c == 34) := by
  unfold signB
  by_cases h1 : c = 40
  · subst h1; decide
  by_cases h2 : c = 41
  · subst h2; decide
  by_cases h3 : c = 61
  · subst h3; decide
  by_cases h4 : c = 34
  · subst h4; decide
  have e : ∀ n : UInt8, ¬ c = n → (n == c) = false ∧ (c == n) = false := fun n h => ⟨by rw [beq_eq_false_iff_ne]; exact fun e => h e.symm, by rw [beq_eq_false_iff_ne]; exact h⟩
  simp [Lib.indexByte, e _ h1, e _ h2, e _ h3, e _ h4]
theorem word_signs (c : UInt8) (V : Int) (hV : Lib.indexByte [40, 41, 61, 34] c = V) (w : World) :
    Calls Tryz.prog 185 #[.string ⟨#[40, 41, 61, 34]⟩, .int .u8 c.toNat] w fun e w' => e = .returned (.int .i64 V) ∧ w' = w :=
  (indexByte_any ⟨#[40, 41, 61, 34]⟩ c w).mono fun _ _ ⟨h, k⟩ => ⟨by rw [h, ← hV], k.symm⟩
def atOf (g : Nat) (w : World) : Nat := match w.cell? ⟨g, 1, none⟩ with | some v => (intOf v).toNat | none => 0
theorem atOf_rd {g : Nat} {w : World} {s : ByteArray} {σ : St} (h : Rd w g s σ) : atOf g w = σ.p := by
  unfold atOf
  rw [h.cell 1]
  simp [intOf]
theorem sign_cases {c : UInt8} (h : signB c = true) : c = 40 ∨ c = 41 ∨ c = 61 := by
  unfold signB at h
  simp only [Bool.or_eq_true, beq_iff_eq] at h
  rcases h with (h | h) | h
  · exact .inl h
  · exact .inr (.inl h)
  · exact .inr (.inr h)
theorem sign_no {c : UInt8} (h : ¬ signB c = true) : ¬ c = 40 ∧ ¬ c = 41 ∧ ¬ c = 61 := by
  refine ⟨?_, ?_, ?_⟩ <;> (rintro rfl; exact h (by decide))
theorem sign_enc {c : UInt8} (h : signB c = true) : Utf8.encode (c.toNat : Int) = ⟨#[c]⟩ := by
  rcases sign_cases h with rfl | rfl | rfl <;> decide +kernel
set_option maxRecDepth 100000 in
set_option maxHeartbeats 8000000 in
theorem advance_any (g : Nat) (s : ByteArray) (σ : St) (w : World) (h : Rd w g s σ) (hs : s.size ≤ 2097152) (hp : σ.p ≤ s.size) :
    Calls Tryz.prog 114 #[.pointer (some ⟨g, 0, none⟩)] w fun e w' => e = .returned (.tuple #[]) ∧ Rd w' g s (advF s σ) ∧ ExtX g w w' := by
  obtain ⟨p, sk, a0, st, wr0⟩ := σ
  dsimp only at hp
  unfold advF
  dsimp only
  generalize hE : p + runN blankB ((bs s).drop p) = E
  go_enter Tryz.func114, Tryz.ntmps114
  go_wp2
  go_loopw [] (fun wr => ∃ k : Nat, k ≤ s.size ∧ Rd wr g s ⟨k, sk, a0, st, wr0⟩ ∧ k + runN blankB ((bs s).drop k) = E ∧ ExtX g w wr) (fun wr => s.size - atOf g wr)
  case atStart => exact ⟨p, hp, h, hE, ExtX.refl g w⟩
  case round =>
    obtain ⟨k, hk, hrd, hrun, hxr⟩ := hrel
    have c := hrd.cell; have f := hrd.free
    by_cases hlt : k < s.size
    · cases hb : blankB s[k]
      · have hl2 : (k : Int) < s.size := by omega
        have hne : ((k : Int) == (s.size : Int)) = false := by rw [beq_eq_false_iff_ne]; omega
        obtain rfl : k = E := (runN_no blankB s hlt hb).symm.trans hrun
        have HRD := Lib.hid hrd
        have HXR := Lib.hid hxr
        have hkw : IntKind.i64.wrap ((k : Int) + 1) = (k : Int) + 1 := by rw [IntKind.wrap_i64]; omega
        clear hrun hrd hxr hE hp h
        by_cases hsg : signB s[k] = true
        · have htk : tokF s ⟨p, sk, a0, st, wr0⟩ k = ⟨k + 1, 3, k, ⟨#[s[k]]⟩, wr0⟩ := by rw [tokF, dif_pos hlt, if_pos hsg]
          have henc := sign_enc hsg
          have HTK := Lib.hid htk
          clear htk
          rcases sign_cases hsg with hc | hc | hc
          · have e1 : ((s[k].toNat : Int) == 40) = true := by rw [hc]; rfl
            clear hc hsg
            go_wp2
            go_quiet (first | (go_at_call 189; refine Calls.quiet_of_same ((isBlank_any _ _).mono fun _ _ ⟨he, hw⟩ => ⟨by rw [he, hb], hw.symm⟩)))
            go_wp2
            refine bodyPost_end (results_none rfl _ _ _) rfl ⟨rfl, ?_, ((((HXR.out.trans (ExtX.ofExt ((Ext.refl _).drewN _))).setG _ _).setG _ _).setG _ _).setG _ _⟩
            rw [HTK.out]
            exact Rd.setT (Rd.setP (HRD.out.ext ((Ext.refl _).drewN _)) (k + 1) (by omega)) 3 k _
          · have e0 : ((s[k].toNat : Int) == 40) = false := by rw [hc]; rfl
            have e1 : ((s[k].toNat : Int) == 41) = true := by rw [hc]; rfl
            clear hc hsg
            go_wp2
            go_quiet (first | (go_at_call 189; refine Calls.quiet_of_same ((isBlank_any _ _).mono fun _ _ ⟨he, hw⟩ => ⟨by rw [he, hb], hw.symm⟩)))
            go_wp2
            refine bodyPost_end (results_none rfl _ _ _) rfl ⟨rfl, ?_, ((((HXR.out.trans (ExtX.ofExt ((Ext.refl _).drewN _))).setG _ _).setG _ _).setG _ _).setG _ _⟩
            rw [HTK.out]
            exact Rd.setT (Rd.setP (HRD.out.ext ((Ext.refl _).drewN _)) (k + 1) (by omega)) 3 k _
          · have e0 : ((s[k].toNat : Int) == 40) = false := by rw [hc]; rfl
            have e2 : ((s[k].toNat : Int) == 41) = false := by rw [hc]; rfl
            have e1 : ((s[k].toNat : Int) == 61) = true := by rw [hc]; rfl
            clear hc hsg
            go_wp2
            go_quiet (first | (go_at_call 189; refine Calls.quiet_of_same ((isBlank_any _ _).mono fun _ _ ⟨he, hw⟩ => ⟨by rw [he, hb], hw.symm⟩)))
            go_wp2
            refine bodyPost_end (results_none rfl _ _ _) rfl ⟨rfl, ?_, ((((HXR.out.trans (ExtX.ofExt ((Ext.refl _).drewN _))).setG _ _).setG _ _).setG _ _).setG _ _⟩
            rw [HTK.out]
            exact Rd.setT (Rd.setP (HRD.out.ext ((Ext.refl _).drewN _)) (k + 1) (by omega)) 3 k _
        have hn := sign_no hsg
        have e40 := byte_no hn.1 40 rfl
        have e41 := byte_no hn.2.1 41 rfl
        have e61 := byte_no hn.2.2 61 rfl
        clear hn
        by_cases hq : s[k] = 34
        · have e34 : ((s[k].toNat : Int) == 34) = true := by rw [hq]; rfl
          have hqa := fun W => quotedAtV_any s k W hs (by omega)
          have htk : tokF s ⟨p, sk, a0, st, wr0⟩ k = (if (qat (bs s) k).2.2 = true then ⟨(qat (bs s) k).2.1, 2, k, ⟨(qat (bs s) k).1.toArray⟩, wr0⟩ else ⟨k, 4, k, ⟨#[]⟩, wr0⟩) := by rw [tokF, dif_pos hlt, if_neg hsg, if_pos hq]
          generalize qat (bs s) k = Q at *
          obtain ⟨qt, qe, qo⟩ := Q
          dsimp only at hqa htk
          have HTK := Lib.hid htk
          have HQA := Lib.hid hqa
          clear htk hqa hq hsg
          go_wp2
          go_quiet (first | (go_at_call 189; refine Calls.quiet_of_same ((isBlank_any _ _).mono fun _ _ ⟨he, hw⟩ => ⟨by rw [he, hb], hw.symm⟩)))
          go_wp2_with fail
          refine (HQA.out _).mono ?_
          rintro e w5 ⟨rfl, hx5⟩
          have hrd5 := (HRD.out.ext ((Ext.refl _).drewN _)).ext hx5
          have hX5 := (HXR.out.trans (ExtX.ofExt ((Ext.refl _).drewN _))).trans (ExtX.ofExt hx5)
          have c5 := hrd5.cell; have f5 := hrd5.free
          have HR5 := Lib.hid hrd5
          have HX5 := Lib.hid hX5
          clear hrd5 hX5 hx5
          cases qo
          · go_wp2
            refine bodyPost_ret (results_none rfl _ _ _) rfl ⟨rfl, ?_, ((HX5.out.setG _ _).setG _ _).setG _ _⟩
            rw [HTK.out]
            exact Rd.setT HR5.out 4 k _
          · go_wp2
            refine bodyPost_end (results_none rfl _ _ _) rfl ⟨rfl, ?_, (((HX5.out.setG _ _).setG _ _).setG _ _).setG _ _⟩
            rw [HTK.out]
            exact Rd.setT (Rd.setP HR5.out qe rfl) 2 k _
        · have e34 := byte_no hq 34 rfl
          have htk : tokF s ⟨p, sk, a0, st, wr0⟩ k = ⟨k + runN tokB ((bs s).drop k), 1, k, s.extract k (k + runN tokB ((bs s).drop k)), wr0⟩ := by rw [tokF, dif_pos hlt, if_neg hsg, if_neg hq]
          have HTK := Lib.hid htk
          clear htk hq hsg
          obtain ⟨F, hF⟩ : ∃ F, k + runN tokB ((bs s).drop k) = F := ⟨_, rfl⟩
          obtain ⟨wo, rfl⟩ : ∃ wo, wo = wr := ⟨_, rfl⟩
          go_wp2
          go_quiet (first | (go_at_call 189; refine Calls.quiet_of_same ((isBlank_any _ _).mono fun _ _ ⟨he, hw⟩ => ⟨by rw [he, hb], hw.symm⟩)))
          go_wp2
          go_loopw [] (fun wr => ∃ j : Nat, k ≤ j ∧ j ≤ s.size ∧ Rd wr g s ⟨j, sk, a0, st, wr0⟩ ∧ j + runN tokB ((bs s).drop j) = F ∧ ExtX g w wr) (fun wr => s.size - atOf g wr)
          case atStart => exact ⟨k, Nat.le_refl _, by omega, HRD.out.ext ((Ext.refl _).drewN _), hF, HXR.out.trans (ExtX.ofExt ((Ext.refl _).drewN _))⟩
          case round =>
            obtain ⟨j, hkj, hjs, hrdj, hrunj, hxj⟩ := hrel
            have cj := hrdj.cell; have fj := hrdj.free
            by_cases hlj : j < s.size
            · have hl3 : (j : Int) < s.size := by omega
              cases hb2 : blankB s[j]
              · have hix := idx_signs s[j]
                obtain ⟨V, hV⟩ : ∃ V, Lib.indexByte [40, 41, 61, 34] s[j] = V := ⟨_, rfl⟩
                rw [hV] at hix
                have HV := Lib.hid hV
                clear hV
                cases hsj : (signB s[j] || s[j] == 34)
                · rw [hsj] at hix
                  have hlx := of_decide_eq_true hix
                  have hwb : tokB s[j] = true := by
                    simp only [Bool.or_eq_false_iff] at hsj
                    unfold tokB
                    rw [hb2, hsj.1, hsj.2]; rfl
                  have hnx := (runN_yes tokB s hlj hwb).symm.trans hrunj
                  have HNX := Lib.hid hnx
                  have hz := atOf_rd hrdj
                  have HRJ := Lib.hid hrdj
                  have HXJ := Lib.hid hxj
                  clear hnx hrdj hxj hsj hwb hix hrunj
                  skip
                  go_wp2
                  go_quiet (first | (go_at_call 189; refine Calls.quiet_of_same ((isBlank_any _ _).mono fun _ _ ⟨he, hw⟩ => ⟨by rw [he, hb2], hw.symm⟩)) | (go_at_call 185; refine Calls.quiet_of_same (word_signs _ _ HV.out _)))
                  go_wp2
                  go_roundw
                  case rel => exact ⟨j + 1, by omega, by omega, Rd.setP (HRJ.out.ext ((Ext.refl _).drewN _)) (j + 1) (by omega), HNX.out, (HXJ.out.trans (ExtX.ofExt ((Ext.refl _).drewN _))).setG _ _⟩
                  case measure =>
                    rw [hz, atOf_rd (Rd.setP (HRJ.out.ext ((Ext.refl _).drewN _)) (j + 1) (by omega))]
                    dsimp only
                    omega
                · rw [hsj] at hix
                  have hlx := of_decide_eq_false hix
                  have hwb : tokB s[j] = false := by
                    simp only [Bool.or_eq_true] at hsj
                    unfold tokB
                    rcases hsj with h | h <;> rw [h] <;> simp
                  clear hix hsj
                  obtain rfl : j = F := (runN_no tokB s hlj hwb).symm.trans hrunj
                  have HRJ := Lib.hid hrdj
                  have HXJ := Lib.hid hxj
                  clear hrdj hxj hrunj
                  have hkj2 : (k : Int) ≤ j := by omega
                  have hjs2 : (j : Int) ≤ s.size := by omega
                  go_wp2
                  go_quiet (first | (go_at_call 189; refine Calls.quiet_of_same ((isBlank_any _ _).mono fun _ _ ⟨he, hw⟩ => ⟨by rw [he, hb2], hw.symm⟩)) | (go_at_call 185; refine Calls.quiet_of_same (word_signs _ _ HV.out _)))
                  go_wp2
                  go_region
                  all_goals
                    go_wp2
                    refine bodyPost_end (results_none rfl _ _ _) rfl ⟨rfl, ?_, (((HXJ.out.trans (ExtX.ofExt (by repeat (first | with_reducible exact Ext.refl _ | with_reducible assumption | with_reducible apply Ext.drewN | with_reducible apply Ext.drew | with_reducible apply Ext.alloc | exact Ext.refl _ | assumption | apply Ext.drewN | apply Ext.drew | apply Ext.alloc)))).setG _ _).setG _ _).setG _ _⟩
                    rw [HTK.out, hF]
                    exact Rd.setT (HRJ.out.ext (by repeat (first | with_reducible exact Ext.refl _ | with_reducible assumption | with_reducible apply Ext.drewN | with_reducible apply Ext.drew | with_reducible apply Ext.alloc | exact Ext.refl _ | assumption | apply Ext.drewN | apply Ext.drew | apply Ext.alloc))) 1 k _
              · have hwb : tokB s[j] = false := by unfold tokB; rw [hb2]; rfl
                obtain rfl : j = F := (runN_no tokB s hlj hwb).symm.trans hrunj
                have HRJ := Lib.hid hrdj
                have HXJ := Lib.hid hxj
                clear hrdj hxj hrunj
                have hkj2 : (k : Int) ≤ j := by omega
                have hjs2 : (j : Int) ≤ s.size := by omega
                go_wp2
                go_quiet (first | (go_at_call 189; refine Calls.quiet_of_same ((isBlank_any _ _).mono fun _ _ ⟨he, hw⟩ => ⟨by rw [he, hb2], hw.symm⟩)))
                go_wp2
                go_region
                all_goals
                  go_wp2
                  refine bodyPost_end (results_none rfl _ _ _) rfl ⟨rfl, ?_, (((HXJ.out.trans (ExtX.ofExt (by repeat (first | with_reducible exact Ext.refl _ | with_reducible assumption | with_reducible apply Ext.drewN | with_reducible apply Ext.drew | with_reducible apply Ext.alloc | exact Ext.refl _ | assumption | apply Ext.drewN | apply Ext.drew | apply Ext.alloc)))).setG _ _).setG _ _).setG _ _⟩
                  rw [HTK.out, hF]
                  exact Rd.setT (HRJ.out.ext (by repeat (first | with_reducible exact Ext.refl _ | with_reducible assumption | with_reducible apply Ext.drewN | with_reducible apply Ext.drew | with_reducible apply Ext.alloc | exact Ext.refl _ | assumption | apply Ext.drewN | apply Ext.drew | apply Ext.alloc))) 1 k _
            · skip
              obtain rfl : j = F := (runN_out tokB s (by omega)).symm.trans hrunj
              have HRJ := Lib.hid hrdj
              have HXJ := Lib.hid hxj
              clear hrdj hxj hrunj
              have hkj2 : (k : Int) ≤ j := by omega
              have hjs2 : (j : Int) ≤ s.size := by omega
              go_wp2
              go_quiet (fail)
              go_wp2
              go_region
              all_goals
                go_wp2
                refine bodyPost_end (results_none rfl _ _ _) rfl ⟨rfl, ?_, (((HXJ.out.trans (ExtX.ofExt (by repeat (first | with_reducible exact Ext.refl _ | with_reducible assumption | with_reducible apply Ext.drewN | with_reducible apply Ext.drew | with_reducible apply Ext.alloc | exact Ext.refl _ | assumption | apply Ext.drewN | apply Ext.drew | apply Ext.alloc)))).setG _ _).setG _ _).setG _ _⟩
                rw [HTK.out, hF]
                exact Rd.setT (HRJ.out.ext (by repeat (first | with_reducible exact Ext.refl _ | with_reducible assumption | with_reducible apply Ext.drewN | with_reducible apply Ext.drew | with_reducible apply Ext.alloc | exact Ext.refl _ | assumption | apply Ext.drewN | apply Ext.drew | apply Ext.alloc))) 1 k _
      · have hnx := (runN_yes blankB s hlt hb).symm.trans hrun
        have hl2 : (k : Int) < s.size := by omega
        have HNX := Lib.hid hnx
        have hz := atOf_rd hrd
        have hrd2 := fun n => Rd.setP (hrd.ext ((Ext.refl wr).drewN n)) (k + 1) (z := (k : Int) + 1) (by omega)
        have HRD := Lib.hid hrd2
        have HXR := Lib.hid hxr
        clear hrun hnx hrd hrd2 hxr
        go_wp2
        go_quiet (first | (go_at_call 189; refine Calls.quiet_of_same ((isBlank_any _ _).mono fun _ _ ⟨he, hw⟩ => ⟨by rw [he, hb], hw.symm⟩)))
        go_wp2
        go_roundw
        case rel => exact ⟨k + 1, by omega, HRD.out _, HNX.out, (HXR.out.trans (ExtX.ofExt ((Ext.refl _).drewN _))).setG _ _⟩
        case measure =>
          rw [hz, atOf_rd (HRD.out _)]
          dsimp only
          omega
    · have hne : ((k : Int) == (s.size : Int)) = true := by rw [beq_iff_eq]; omega
      obtain rfl : k = E := (runN_out blankB s (by omega)).symm.trans hrun
      have htk : tokF s ⟨p, sk, a0, st, wr0⟩ k = ⟨k, 0, k, ⟨#[]⟩, wr0⟩ := by rw [tokF, dif_neg hlt]
      go_wp2
      go_quiet (fail)
      go_wp2
      refine bodyPost_ret (results_none rfl _ _ _) rfl ⟨rfl, ?_, (((hxr.trans (ExtX.ofExt ((Ext.refl _).drewN _))).setG _ _).setG _ _).setG _ _⟩
      rw [htk]
      exact Rd.setT (hrd.ext ((Ext.refl _).drewN _)) 0 k _
end Go.Proofs.YtaobnifiengglaaGreatDoor

namespace Go.Proofs.YtaobnifiengglaaGreatDoor
open Go.RowKit

/-! ### What a state keeps to -/
structure OkS (s : ByteArray) (σ : St) : Prop where
  p : σ.p ≤ s.size
  a : σ.a ≤ s.size
  t : σ.t.size ≤ s.size
theorem unq_len {l t z : Str} (h : unq l = some (t, z)) : t.length ≤ l.length ∧ z.length ≤ l.length := by
  have e := unq_back l.length l t z (Nat.le_refl _) h
  have := esc_len t
  rw [e]
  simp only [List.length_append, List.length_cons]
  omega
theorem qat_le (s : ByteArray) (i : Nat) : (qat (bs s) i).2.1 ≤ s.size ∧ (qat (bs s) i).1.length ≤ s.size := by
  unfold qat
  cases h : unq ((bs s).drop (i + 1)) with
  | none => exact ⟨Nat.zero_le _, Nat.zero_le _⟩
  | some x =>
    obtain ⟨t, z⟩ := x
    have := unq_len h
    rw [List.length_drop, bs_length] at this
    rw [bs_length]
    exact ⟨Nat.sub_le _ _, by have := this.1; show t.length ≤ _; omega⟩
theorem tokF_ok {s : ByteArray} {σ : St} {i : Nat} (hi : i ≤ s.size) : OkS s (tokF s σ i) := by
  unfold tokF
  split
  · rename_i h
    split
    · exact ⟨by dsimp only; omega, hi, by show 1 ≤ s.size; omega⟩
    · split
      · have := qat_le s i
        split
        · exact ⟨this.1, hi, by show (qat (bs s) i).1.toArray.size ≤ _; simpa using this.2⟩
        · exact ⟨hi, hi, Nat.zero_le _⟩
      · have := run_le tokB s hi
        refine ⟨this, hi, ?_⟩
        dsimp only
        rw [ByteArray.size_extract]
        omega
  · exact ⟨hi, hi, Nat.zero_le _⟩
theorem advF_ok {s : ByteArray} {σ : St} (h : OkS s σ) : OkS s (advF s σ) := tokF_ok (run_le blankB s h.p)
theorem tokF_wr (s : ByteArray) (σ : St) (i : Nat) : (tokF s σ i).wr = σ.wr := by
  unfold tokF
  repeat' split
  all_goals rfl
def takeF (s : ByteArray) (σ : St) (k : Int) (t : Str) : ByteArray × St :=
  if ¬ σ.wr < 0 then (⟨#[]⟩, σ)
  else if σ.k ≠ k ∨ (t ≠ [] ∧ bs σ.t ≠ t) then (⟨#[]⟩, { σ with wr := σ.a })
  else (σ.t, advF s σ)
theorem takeF_ok {s : ByteArray} {σ : St} (h : OkS s σ) (k : Int) (t : Str) : OkS s (takeF s σ k t).2 ∧ (takeF s σ k t).1.size ≤ s.size := by
  unfold takeF
  split
  · exact ⟨h, Nat.zero_le _⟩
  · split
    · exact ⟨⟨h.p, h.a, h.t⟩, Nat.zero_le _⟩
    · exact ⟨advF_ok h, h.t⟩
set_option maxRecDepth 100000 in
set_option maxHeartbeats 4000000 in
theorem take_V (g : Nat) (s : ByteArray) (σ : St) (k : Int) (t : ByteArray) (w : World) (h : Rd w g s σ) (hs : s.size ≤ 2097152) (ho : OkS s σ) :
    Calls Tryz.prog 193 #[.pointer (some ⟨g, 0, none⟩), .int .i64 k, .string t] w fun e w' => e = .returned (.string (takeF s σ k (bs t)).1) ∧ Rd w' g s (takeF s σ k (bs t)).2 ∧ ExtX g w w' := by
  have hav := advance_any g s σ w h hs ho.p
  obtain ⟨p, sk, a, st, wr⟩ := σ
  have c := h.cell; have f := h.free
  unfold takeF
  dsimp only
  by_cases h1 : wr < 0
  rotate_left
  · rw [if_pos h1]
    have HF := Lib.hid h
    clear h hav
    go_enter Tryz.func193, Tryz.ntmps193
    go_wp2
    go_ret
    exact ⟨rfl, HF.out, ExtX.refl g w⟩
  rw [if_neg (Classical.not_not.2 h1)]
  have hbad : Rd (w.setCell ⟨g, 5, none⟩ (.int .i64 a)) g s ⟨p, sk, a, st, a⟩ := Rd.setW h a
  have HB := Lib.hid hbad
  have HAV := Lib.hid hav
  clear hbad hav h
  by_cases h2 : sk = k
  rotate_left
  · have e2 : (sk != k) = true := by rw [bne_iff_ne]; exact h2
    rw [if_pos (.inl h2)]
    clear h2
    go_enter Tryz.func193, Tryz.ntmps193
    go_wp2
    go_ret
    exact ⟨rfl, HB.out, (ExtX.refl g w).setG _ _⟩
  subst h2
  rcases Nat.eq_zero_or_pos t.size with ht | ht
  · have he := emp_bool ht
    have hn : bs t = [] := bs_nil ht
    rw [hn, if_neg (by simp)]
    go_enter Tryz.func193, Tryz.ntmps193
    go_wp2_with fail
    refine HAV.out.mono ?_
    rintro e w1 ⟨rfl, hr, hx⟩
    go_wp2
    go_ret
    exact ⟨rfl, hr, hx⟩
  have he := nemp_bool ht
  have hn : bs t ≠ [] := fun e => by rw [← bs_length, e] at ht; exact Nat.lt_irrefl _ ht
  by_cases h3 : bs st = bs t
  · have e3 : (st.toList == t.toList) = true := by rw [eqE, decide_eq_true h3]
    have e4 : (st.toList != t.toList) = false := by rw [bne, e3]; rfl
    rw [if_neg (by rintro (x | x); exact x rfl; exact x.2 h3)]
    clear h3 hn
    go_enter Tryz.func193, Tryz.ntmps193
    go_wp2_with fail
    refine HAV.out.mono ?_
    rintro e w1 ⟨rfl, hr, hx⟩
    go_wp2
    go_ret
    exact ⟨rfl, hr, hx⟩
  · have e3 : (st.toList == t.toList) = false := by rw [eqE, decide_eq_false h3]
    have e4 : (st.toList != t.toList) = true := by rw [bne, e3]; rfl
    rw [if_pos (.inr ⟨hn, h3⟩)]
    clear h3 hn
    go_enter Tryz.func193, Tryz.ntmps193
    go_wp2
    go_ret
    exact ⟨rfl, HB.out, (ExtX.refl g w).setG _ _⟩
end Go.Proofs.YtaobnifiengglaaGreatDoor

namespace Go.Proofs.YtaobnifiengglaaGreatDoor

/-- a condition -/
inductive Cd where
  | mk (kind : Int) (name value : ByteArray) (args : List Cd)
def zeroC : Cd := .mk 0 ⟨#[]⟩ ⟨#[]⟩ []
abbrev wAlways : Str := [97, 108, 119, 97, 121, 115]
abbrev wFact : Str := [102, 97, 99, 116]
abbrev wSetting : Str := [115, 101, 116, 116, 105, 110, 103]
abbrev wHas : Str := [104, 97, 115]
abbrev wVersion : Str := [118, 101, 114, 115, 105, 111, 110]
abbrev wNot : Str := [110, 111, 116]
abbrev wIn : Str := [105, 110]
abbrev wAnd : Str := [97, 110, 100]
abbrev wOr : Str := [111, 114]
section
variable (s : ByteArray) (f : Option (St → Cd × St))
def loopF (f : St → Cd × St) (word : Str) : Nat → St → List Cd → List Cd × St
  | 0, σ, l => (l, σ)
  | m + 1, σ, l => if isF σ 1 word = true then loopF f word m (f (advF s σ)).2 (l ++ [(f (advF s σ)).1]) else (l, σ)
/-- how much a loop can have -/
def left (σ : St) : Nat := if σ.wr < 0 then s.size + 1 - σ.p else 0
def headF (f : St → Cd × St) (word : ByteArray) (σ : St) : Cd × St :=
  if isF σ 3 [41] = true then (.mk (kindOfL (bs word)) ⟨#[]⟩ ⟨#[]⟩ [], (takeF s σ 3 [41]).2)
  else (.mk (kindOfL (bs word)) ⟨#[]⟩ ⟨#[]⟩ [(f σ).1], (takeF s (f σ).2 3 [41]).2)
/-- behind the first condition in brackets -/
def fixF (σ : St) : St := if σ.wr < 0 ∧ (σ.k ≠ 1 ∨ (bs σ.t ≠ wAnd ∧ bs σ.t ≠ wOr)) then failF σ σ.a else σ
def tailF (f : St → Cd × St) (c : Cd) (σ : St) : Cd × St :=
  (.mk (kindOfL (bs σ.t)) ⟨#[]⟩ ⟨#[]⟩ (loopF s f (bs σ.t) (left s (fixF σ)) (fixF σ) [c]).1, (takeF s (loopF s f (bs σ.t) (left s (fixF σ)) (fixF σ) [c]).2 3 [41]).2)
def listB (σ : St) : Cd × St :=
  match f with
  | none => (zeroC, failF σ σ.a)
  | some f =>
    if isF (takeF s σ 3 [40]).2 1 wAnd = true then headF s f ⟨#[97, 110, 100]⟩ (advF s (takeF s σ 3 [40]).2)
    else if isF (takeF s σ 3 [40]).2 1 wOr = true then headF s f ⟨#[111, 114]⟩ (advF s (takeF s σ 3 [40]).2)
    else tailF s f (f (takeF s σ 3 [40]).2).1 (f (takeF s σ 3 [40]).2).2
def pairF (σ : St) (kind mid : Int) (midT : Str) : Cd × St :=
  (.mk kind (takeF s σ 1 []).1 (takeF s (takeF s (takeF s σ 1 []).2 mid midT).2 2 []).1 [], (takeF s (takeF s (takeF s σ 1 []).2 mid midT).2 2 []).2)
def wordF (a : Int) (x : Str) (σ : St) : Cd × St :=
  if x = wAlways then (.mk 1 ⟨#[]⟩ ⟨#[]⟩ [], σ)
  else if x = wFact then pairF s σ 2 3 [61]
  else if x = wSetting then pairF s σ 3 3 [61]
  else if x = wHas then (.mk 4 (takeF s σ 1 []).1 ⟨#[]⟩ [], (takeF s σ 1 []).2)
  else if x = wVersion then pairF s σ 5 1 wIn
  else if x = wNot then (match f with
    | none => (zeroC, failF σ a)
    | some f => (.mk 6 ⟨#[]⟩ ⟨#[]⟩ [(f σ).1], (f σ).2))
  else (zeroC, failF σ a)
def condB (σ : St) : Cd × St :=
  if isF σ 3 [40] = true then listB s f σ else wordF s f σ.a (bs (takeF s σ 1 []).1) (takeF s σ 1 []).2
end
def condF (s : ByteArray) : Nat → St → Cd × St
  | 0 => condB s none
  | n + 1 => condB s (some (condF s n))

/-! ### Going on -/
/-- a state that comes of another one: all right still, no earlier, an error stays -/
structure On (s : ByteArray) (σ τ : St) : Prop where
  ok : OkS s σ → OkS s τ
  p : OkS s σ → σ.p ≤ τ.p
  wr : ¬ σ.wr < 0 → τ.wr = σ.wr
theorem On.refl (s : ByteArray) (σ : St) : On s σ σ := ⟨id, fun _ => Nat.le_refl _, fun _ => rfl⟩
theorem On.trans {s : ByteArray} {a b c : St} (h : On s a b) (k : On s b c) : On s a c :=
  ⟨fun x => k.ok (h.ok x), fun x => Nat.le_trans (h.p x) (k.p (h.ok x)), fun x => by rw [k.wr (by rw [h.wr x]; exact x), h.wr x]⟩
theorem qat_ge (s : ByteArray) (i : Nat) (h : (qat (bs s) i).2.2 = true) : i < (qat (bs s) i).2.1 := by
  unfold qat at h ⊢
  cases hu : unq ((bs s).drop (i + 1)) with
  | none => rw [hu] at h; cases h
  | some x =>
    obtain ⟨t, z⟩ := x
    have := (unq_len hu).2
    have hne : (bs s).drop (i + 1) ≠ [] := fun e => by rw [e, unq_nil] at hu; cases hu
    have hl : i + 1 < (bs s).length := by
      apply Classical.byContradiction
      intro hh
      exact hne (List.drop_of_length_le (by omega))
    rw [List.length_drop] at this
    show i < (bs s).length - z.length
    omega
theorem tokF_p {s : ByteArray} {σ : St} {i : Nat} : i ≤ (tokF s σ i).p := by
  unfold tokF
  split
  · split
    · show i ≤ i + 1; omega
    · split
      · split
        · rename_i h; exact Nat.le_of_lt (qat_ge s i h)
        · exact Nat.le_refl _
      · show i ≤ i + _; omega
  · exact Nat.le_refl _
/-- a token that is none of the end's and no broken one has a length -/
theorem tokF_lt {s : ByteArray} {σ : St} {i : Nat} (hb : ∀ h : i < s.size, blankB s[i] = false) (h0 : (tokF s σ i).k ≠ 0) (h4 : (tokF s σ i).k ≠ 4) : i < (tokF s σ i).p := by
  unfold tokF at h0 h4 ⊢
  split at h0
  · rename_i hi
    rw [dif_pos hi] at h4 ⊢
    by_cases hs : signB s[i] = true
    · rw [if_pos hs]; show i < i + 1; omega
    · rw [if_neg hs] at h4 ⊢
      by_cases hq : s[i] = 34
      · rw [if_pos hq] at h4 ⊢
        by_cases ho : (qat (bs s) i).2.2 = true
        · rw [if_pos ho]; exact qat_ge s i ho
        · rw [if_neg ho] at h4; exact absurd rfl h4
      · rw [if_neg hq]
        have hw : tokB s[i] = true := by
          unfold tokB
          rw [hb hi, (Bool.not_eq_true _).mp hs]
          simpa using hq
        have := runN_yes tokB s hi hw
        show i < i + runN tokB ((bs s).drop i)
        omega
  · exact absurd rfl h0
theorem run_stop (f : UInt8 → Bool) (s : ByteArray) : ∀ (m k : Nat), s.size - k = m → ∀ h : k + runN f ((bs s).drop k) < s.size, f s[k + runN f ((bs s).drop k)] = false
  | m, k, hm, h => by
    by_cases hk : k < s.size
    · cases hf : f s[k]
      · have e := runN_no f s hk hf
        simp only [e]; exact hf
      · have e := runN_yes f s hk hf
        simp only [e] at h ⊢
        exact run_stop f s (s.size - (k + 1)) (k + 1) rfl h
    · have e := runN_out f s (Nat.le_of_not_lt hk)
      omega
  termination_by m => m
  decreasing_by omega
theorem advF_on (s : ByteArray) (σ : St) : On s σ (advF s σ) :=
  ⟨fun h => advF_ok h, fun _ => Nat.le_trans (Nat.le_add_right _ _) tokF_p, fun _ => tokF_wr s σ _⟩
theorem advF_lt {s : ByteArray} {σ : St} (h0 : (advF s σ).k ≠ 0) (h4 : (advF s σ).k ≠ 4) : σ.p < (advF s σ).p :=
  Nat.lt_of_le_of_lt (Nat.le_add_right _ _) (tokF_lt (fun h => run_stop blankB s _ _ rfl h) h0 h4)
theorem takeF_on (s : ByteArray) (σ : St) (k : Int) (t : Str) : On s σ (takeF s σ k t).2 := by
  refine ⟨fun h => (takeF_ok h k t).1, fun h => ?_, fun h => ?_⟩
  · unfold takeF
    split
    · exact Nat.le_refl _
    · split
      · exact Nat.le_refl _
      · exact (advF_on s σ).p h
  · unfold takeF
    rw [if_pos h]
theorem failF_on (s : ByteArray) (σ : St) (a : Int) : On s σ (failF σ a) := by
  unfold failF
  refine ⟨fun h => ?_, fun _ => ?_, fun h => by rw [if_neg h]⟩
  · split
    · exact ⟨h.p, h.a, h.t⟩
    · exact h
  · split <;> exact Nat.le_refl _
end Go.Proofs.YtaobnifiengglaaGreatDoor
