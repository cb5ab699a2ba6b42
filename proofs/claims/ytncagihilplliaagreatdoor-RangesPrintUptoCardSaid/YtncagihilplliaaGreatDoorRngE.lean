/- Contracts of ver.isRow, wrong, spanText, PrintRange; ver.Parse, Next, text in the words of V4. -/
import Derived.Test.YtncagihilplliaaGreatDoorRngC
import Derived.Test.YtncagihilplliaaGreatDoorRngT
import Derived.Test.YtncagihilplliaaGreatDoorApp
import Derived.Test.YtncagihilplliaaGreatDoorRefF
namespace Go.Proofs.YtncagihilplliaaGreatDoor
open Go.RowKit

theorem isRow_any (s : ByteArray) (w : World) (hg : Good w) (hs : s.size ≤ 2097152) :
    Calls Tryz.prog 117 #[.string s] w fun e w' => e = .returned (.bool (rowL (bs s))) ∧ w = w' := by
  go_enter Tryz.func117, Tryz.ntmps117
  go_wp2_with (go_at_call 51; refine (contains_any 32 s _ hg hs).mono ?_; rintro e w' ⟨rfl, rfl⟩)
  go_ret
  exact ⟨ret_bool (by simp [rowL]), rfl⟩
theorem parseV_size' {l : Str} {r : (Int × Int × Int × Str) × Int} (hr : parseV l = r) : r.1.2.2.2.length ≤ l.length := by
  have hc := (cutC_size 45 l).2
  unfold parseV at hr
  split at hr
  · split at hr
    · subst hr; exact Nat.zero_le _
    · split at hr
      · subst hr; exact Nat.zero_le _
      · split at hr
        · subst hr; exact hc
        · subst hr; exact Nat.zero_le _
  · subst hr; exact Nat.zero_le _
theorem parse_val {s b : ByteArray} (hb : bs b = (parseV (bs s)).1.2.2.2) : (⟨(parseV (bs s)).1.2.2.2.toArray⟩ : ByteArray) = b := by rw [← hb, mk_bs]
/-- ver.Parse -/
theorem Parse_x (s : ByteArray) (w : World) (hg : GoodN w) (hs : s.size ≤ 2097152) :
    Calls Tryz.prog 32 #[.string s] w fun e w' => ∃ v r, pV (bs s) = (v, r) ∧ e = .returned (.tuple #[verV v, .int .i64 r]) ∧ v.a.size ≤ s.size ∧ Ext w w' :=
  (Parse_any s w hg hs).mono fun _ _ ⟨b, hp, hb, hz, hx⟩ => by
    rw [bs_length] at hz
    refine ⟨⟨(parseV (bs s)).1.1, (parseV (bs s)).1.2.1, (parseV (bs s)).1.2.2.1, b⟩, (parseV (bs s)).2, ?_, hp, hz, hx⟩
    unfold pV
    rw [parse_val hb]
/-- outref2.ReadVersion -/
theorem Read_x (s : ByteArray) (w : World) (hg : GoodN w) (hs : s.size ≤ 2097152) :
    Calls Tryz.prog 33 #[.string s] w fun e w' => ∃ v r, pV (bs s) = (v, r) ∧ e = .returned (.tuple #[verV v, .int .i64 r]) ∧ v.a.size ≤ s.size ∧ Ext w w' :=
  (ReadVersion_any s w hg hs).mono fun _ _ ⟨b, hp, hb, hz, hx⟩ => by
    rw [bs_length] at hz
    refine ⟨⟨(parseV (bs s)).1.1, (parseV (bs s)).1.2.1, (parseV (bs s)).1.2.2.1, b⟩, (parseV (bs s)).2, ?_, hp, hz, hx⟩
    unfold pV
    rw [parse_val hb]
/-- ver.Next, outref2.NextOf -/
theorem Next_x (v : V4) (part : Int) (w : World) (hg : Good w) (hs : v.a.size ≤ 2097152) :
    Calls Tryz.prog 20 #[verV v, .int .i64 part] w fun e w' => ∃ x y z r, nV v part = (⟨x, y, z, ⟨#[]⟩⟩, r) ∧ e = .returned (.tuple #[verV ⟨x, y, z, ⟨#[]⟩⟩, .int .i64 r]) ∧ Ext w w' :=
  (Next_any v.a1 v.a2 v.a3 part v.a w hg hs).mono fun _ _ ⟨h, hx⟩ => ⟨_, _, _, _, rfl, h, hx⟩
theorem NextOf_x (v : V4) (part : Int) (w : World) (hg : Good w) (hs : v.a.size ≤ 2097152) :
    Calls Tryz.prog 21 #[verV v, .int .i64 part] w fun e w' => ∃ x y z r, nV v part = (⟨x, y, z, ⟨#[]⟩⟩, r) ∧ e = .returned (.tuple #[verV ⟨x, y, z, ⟨#[]⟩⟩, .int .i64 r]) ∧ Ext w w' :=
  (NextOf_any v.a1 v.a2 v.a3 part v.a w hg hs).mono fun _ _ ⟨h, hx⟩ => ⟨_, _, _, _, rfl, h, hx⟩
set_option maxHeartbeats 1000000 in
theorem wrong_any (s : ByteArray) (w : World) (hg : GoodN w) (hs : s.size ≤ 2097152) :
    Calls Tryz.prog 81 #[.string s] w fun e w' => e = .returned (.bool (wrongL (bs s))) ∧ Ext w w' := by
  go_enter Tryz.func81, Tryz.ntmps81
  go_wp2_with fail
  refine (Parse_x s _ hg hs).mono ?_
  rintro e w1 ⟨⟨x, y, z, b⟩, r, hp, rfl, _, hx1⟩
  have HP := Lib.hid hp
  clear hp
  by_cases h8 : r = 8
  · subst h8
    go_wp2
    go_ret
    exact ⟨ret_bool (by unfold wrongL; rw [HP.out]; rfl), hx1.alloc _⟩
  · have H8 := Lib.hid h8
    have hb : (r == 8) = false := by rw [beq_eq_false_iff_ne]; exact h8
    go_wp2
    go_ret
    exact ⟨ret_bool (by unfold wrongL; rw [HP.out]; exact (decide_eq_false H8.out).symm), hx1.alloc _⟩

/-! ### Texts -/
theorem early_len {v : V4} (h : v.err = 0) : (bs v.a).length ≤ 40 := by
  obtain ⟨_, _, _, he⟩ := checkV_ok (show checkV v.a1 v.a2 v.a3 (bs v.a) = 0 from h)
  rcases he with he | he
  · rw [he]; simp
  · unfold earlyL at he
    simp only [Bool.and_eq_true, decide_eq_true_eq] at he
    exact he.2
theorem text_len {v : V4} (h : v.err = 0) : v.text.length ≤ 110 := by
  have h40 := early_len h
  rw [bs_length] at h40
  obtain ⟨⟨a1, a2⟩, ⟨b1, b2⟩, ⟨c1, c2⟩, _⟩ := checkV_ok (show checkV v.a1 v.a2 v.a3 (bs v.a) = 0 from h)
  have la := Lib.itoa_length_le v.a1 (by omega) (by omega)
  have li := Lib.itoa_length_le v.a2 (by omega) (by omega)
  have lp := Lib.itoa_length_le v.a3 (by omega) (by omega)
  unfold V4.text textL
  split <;> simp <;> omega
theorem spText_len {s : Sp} (h1 : s.f.err = 0) (h2 : s.t.err = 0) : (spText s).length ≤ 224 := by
  have l1 := text_len h1
  have l2 := text_len h2
  unfold spText
  split <;> split <;> simp <;> omega
theorem text_x (v : V4) (w : World) (hg : GoodN w) (hs : v.a.size ≤ 2097152) (h : v.err = 0) :
    Calls Tryz.prog 59 #[verV v] w fun e w' => e = .returned (S v.text) ∧ Ext w w' := by
  obtain ⟨⟨a1, a2⟩, ⟨b1, b2⟩, ⟨c1, c2⟩, _⟩ := checkV_ok (show checkV v.a1 v.a2 v.a3 (bs v.a) = 0 from h)
  exact text_any v.a1 v.a2 v.a3 v.a w hg hs a1 a2 b1 b2 c1 c2
theorem vtext_x (v : V4) (w : World) (hg : GoodN w) (hs : v.a.size ≤ 2097152) (h : v.err = 0) :
    Calls Tryz.prog 30 #[verV v] w fun e w' => e = .returned (S v.text) ∧ Ext w w' := by
  obtain ⟨⟨a1, a2⟩, ⟨b1, b2⟩, ⟨c1, c2⟩, _⟩ := checkV_ok (show checkV v.a1 v.a2 v.a3 (bs v.a) = 0 from h)
  exact VersionText_any v.a1 v.a2 v.a3 v.a w hg hs a1 a2 b1 b2 c1 c2
set_option maxHeartbeats 2000000 in
set_option maxRecDepth 100000 in
theorem spanText_any (s : Sp) (w : World) (hg : GoodN w) (hfs : s.f.a.size ≤ 2097152) (hts : s.t.a.size ≤ 2097152) (h1 : s.f.err = 0) (h2 : s.t.err = 0) :
    Calls Tryz.prog 78 #[spV s] w fun e w' => e = .returned (S (spText s)) ∧ Ext w w' := by
  obtain ⟨hf, ht, f, t⟩ := s
  dsimp only at hfs hts h1 h2
  have cF : ∀ W w', Ext w W → Ext W w' → Calls Tryz.prog 59 #[verV f] w' fun e w'' => e = .returned (S f.text) ∧ Ext W w'' := fun W w' hx hy => (text_x f w' (hg.ext (hx.trans hy)) hfs h1).mono fun _ _ h => ⟨h.1, hy.trans h.2⟩
  have cT : ∀ W w', Ext w W → Ext W w' → Calls Tryz.prog 59 #[verV t] w' fun e w'' => e = .returned (S t.text) ∧ Ext W w'' := fun W w' hx hy => (text_x t w' (hg.ext (hx.trans hy)) hts h2).mono fun _ _ h => ⟨h.1, hy.trans h.2⟩
  have lF := text_len h1
  have lT := text_len h2
  have hX : spText ⟨hf, ht, f, t⟩ = if hf = true then (if ht = true then [62, 61] ++ f.text ++ [32, 60] ++ t.text else [62, 61] ++ f.text) else if ht = true then [60] ++ t.text else [42] := rfl
  have HX := Lib.hid hX
  clear hX
  generalize spText ⟨hf, ht, f, t⟩ = X at *
  generalize f.text = F at *
  generalize t.text = T at *
  clear h1 h2
  obtain ⟨f1, f2, f3, fa⟩ := f
  obtain ⟨t1, t2, t3, ta⟩ := t
  dsimp only [verV] at cF cT
  dsimp only [spV]
  have CF := Lib.hid cF
  have CT := Lib.hid cT
  clear cF cT
  go_enter Tryz.func78, Tryz.ntmps78
  cases hf <;> cases ht
  · go_wp2
    go_ret
    exact ⟨ret_strS (by rw [HX.out]; rfl), (by repeat (first | with_reducible exact Ext.refl _ | with_reducible assumption | with_reducible apply Ext.drewN | with_reducible apply Ext.drew | with_reducible apply Ext.alloc | exact Ext.refl _ | assumption | apply Ext.drewN | apply Ext.drew | apply Ext.alloc))⟩
  · go_wp2_with fail
    refine (CT.out _ _ (by repeat (first | with_reducible exact Ext.refl _ | with_reducible assumption | with_reducible apply Ext.drewN | with_reducible apply Ext.drew | with_reducible apply Ext.alloc | exact Ext.refl _ | assumption | apply Ext.drewN | apply Ext.drew | apply Ext.alloc)) (Ext.refl _)).mono ?_
    rintro e w1 ⟨rfl, hx1⟩
    go_wp2
    go_ret
    exact ⟨ret_strS (by rw [HX.out]; simp [bs_append]), Ext.trans (by repeat (first | with_reducible exact Ext.refl _ | with_reducible assumption | with_reducible apply Ext.drewN | with_reducible apply Ext.drew | with_reducible apply Ext.alloc | exact Ext.refl _ | assumption | apply Ext.drewN | apply Ext.drew | apply Ext.alloc)) hx1⟩
  · go_wp2_with fail
    refine (CF.out _ _ (by repeat (first | with_reducible exact Ext.refl _ | with_reducible assumption | with_reducible apply Ext.drewN | with_reducible apply Ext.drew | with_reducible apply Ext.alloc | exact Ext.refl _ | assumption | apply Ext.drewN | apply Ext.drew | apply Ext.alloc)) (Ext.refl _)).mono ?_
    rintro e w1 ⟨rfl, hx1⟩
    go_wp2
    go_ret
    exact ⟨ret_strS (by rw [HX.out]; simp [bs_append]), Ext.trans (by repeat (first | with_reducible exact Ext.refl _ | with_reducible assumption | with_reducible apply Ext.drewN | with_reducible apply Ext.drew | with_reducible apply Ext.alloc | exact Ext.refl _ | assumption | apply Ext.drewN | apply Ext.drew | apply Ext.alloc)) hx1⟩
  · go_wp2_with fail
    refine wp_region_ext (by kernel_rfl) (by kernel_rfl) ?_
    repeat (first | go_big_quiet_skip | (refine wpQuiet_step (fun K hK => ?_); go_simp; first | (refine hK _ ?_; clear hK K) | (apply Exists.intro; refine ⟨fun wq hwq => ?_, hK _ ?_⟩; (obtain ⟨hqc, hqf⟩ := hwq.cells; have hqs := hwq.size; (try go_simp); first | rfl | ((first | rw [if_neg (by omega)] | rw [if_pos (by omega)]); (try go_simp); rfl) | ((first | (go_at_call 59; with_reducible exact CF.out _ _ (by repeat (first | with_reducible exact Ext.refl _ | with_reducible assumption | with_reducible apply Ext.drewN | with_reducible apply Ext.drew | with_reducible apply Ext.alloc | exact Ext.refl _ | assumption | apply Ext.drewN | apply Ext.drew | apply Ext.alloc)) hwq) | (go_at_call 59; with_reducible exact CT.out _ _ (by repeat (first | with_reducible exact Ext.refl _ | with_reducible assumption | with_reducible apply Ext.drewN | with_reducible apply Ext.drew | with_reducible apply Ext.alloc | exact Ext.refl _ | assumption | apply Ext.drewN | apply Ext.drew | apply Ext.alloc)) hwq)))); clear hK K)))
    refine wpQuiet_nil ?_
    intro wN hxN
    obtain ⟨hcN, hfN⟩ := hxN.cells
    have hsN := hxN.size
    go_wp2
    go_ret
    exact ⟨ret_strS (by rw [HX.out]; simp [bs_append]), Ext.trans (by repeat (first | with_reducible exact Ext.refl _ | with_reducible assumption | with_reducible apply Ext.drewN | with_reducible apply Ext.drew | with_reducible apply Ext.alloc | exact Ext.refl _ | assumption | apply Ext.drewN | apply Ext.drew | apply Ext.alloc)) hxN⟩
end Go.Proofs.YtncagihilplliaaGreatDoor
