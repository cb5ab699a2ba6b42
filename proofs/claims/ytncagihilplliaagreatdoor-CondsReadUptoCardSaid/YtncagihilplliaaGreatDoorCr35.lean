/- Plain law: the program's and the reference's reading of a condition answer alike, the whole. -/
import Derived.Test.YtncagihilplliaaGreatDoorCr34

namespace Go.Proofs.YtncagihilplliaaGreatDoor

section
variable {s : ByteArray}
theorem simC_bad {σ : St} {τ : Rs} (h : Sim s σ τ) (hw : ¬ σ.wr < 0) {r : Cd × St} {q : Cd × Rs} (hr : On s σ r.2) (hq : q.2 = τ) : SimC s r q := by
  have e := hr.wr hw
  refine ⟨.inr ⟨by rw [e]; exact hw, ?_⟩, fun x => absurd x (by rw [e]; exact hw)⟩
  rcases h with ⟨h1, _⟩ | ⟨_, h2⟩
  · exact absurd h1 hw
  · rw [hq, e]; exact h2
theorem Sim.ok {σ : St} {τ : Rs} (h : Sim s σ τ) (hw : σ.wr < 0) : OkS s σ := by
  rcases h with ⟨_, _, i, hi, ⟨ek, ea, et, ep⟩, _⟩ | ⟨h1, _⟩
  · have := advF_ok (s := s) (σ := at0 i) ⟨hi, Nat.zero_le _, Nat.zero_le _⟩
    exact ⟨by rw [ep]; exact this.p, by rw [ea]; exact this.a, by rw [et]; exact this.t⟩
  · exact absurd hw h1
theorem isF_no {σ : St} (h : ¬ σ.wr < 0) (k : Int) (t : Str) : isF σ k t = false := by
  cases hi : isF σ k t
  · rfl
  · exact absurd (isF_wr hi) h
theorem head_sim {n : Nat} (ih : ∀ σ τ, Sim s σ τ → SimC s (condF s n σ) (condRF n τ)) {σ : St} {τ : Rs} (h : Sim s σ τ) (word : ByteArray) (kind : Int) (hk : kindOfL (bs word) = kind) : SimC s (headF s (condF s n) word σ) (headR (condRF n) kind τ) := by
  unfold headF headR
  rw [← is_sim h (fit_sign (c := 41) rfl) (by simp)]
  split
  · obtain ⟨h1, _⟩ := take_sim h (fit_sign (c := 41) rfl)
    exact ⟨h1, fun _ => by rw [hk]⟩
  · obtain ⟨h1, e1⟩ := ih σ τ h
    obtain ⟨h2, _⟩ := take_sim h1 (fit_sign (c := 41) rfl)
    refine ⟨h2, fun hw => ?_⟩
    have w1 := on_neg (takeF_on s _ 3 [41]) hw
    rw [hk, e1 w1]
/-- the loops, once a part has been read behind a word -/
theorem loop_sim {n : Nat} (ih : ∀ σ τ, Sim s σ τ → SimC s (condF s n σ) (condRF n τ)) (word : Str) (hne : word ≠ []) : ∀ (N : Nat) (σ : St) (τ : Rs) (l l' : List Cd), left s σ ≤ N → Sim s σ τ → (σ.wr < 0 → l = l') →
    Sim s (takeF s (loopF s (condF s n) word (left s σ) σ l).2 3 [41]).2 (loopR (condRF n) word (leftR τ) true τ l').2 ∧
    ((takeF s (loopF s (condF s n) word (left s σ) σ l).2 3 [41]).2.wr < 0 → (loopF s (condF s n) word (left s σ) σ l).1 = (loopR (condRF n) word (leftR τ) true τ l').1) := by
  intro N
  induction N with
  | zero =>
    intro σ τ l l' hN h hl
    have hw : ¬ σ.wr < 0 := fun hw => by
      unfold left at hN
      rw [if_pos hw] at hN
      have := (h.ok hw).p
      omega
    rw [loopF_stop (isF_no hw _ _), loopR_bad (by rw [← h.neg]; exact hw)]
    have h1 := (takeF_on s σ 3 [41]).wr hw
    rcases h with ⟨x, _⟩ | ⟨_, h2⟩
    · exact absurd x hw
    exact ⟨.inr ⟨by rw [h1]; exact hw, by rw [h1]; exact h2⟩, fun x => absurd x (by rw [h1]; exact hw)⟩
  | succ N hN =>
    intro σ τ l l' hle h hl
    by_cases hw : σ.wr < 0
    rotate_left
    · rw [loopF_stop (isF_no hw _ _), loopR_bad (by rw [← h.neg]; exact hw)]
      have h1 := (takeF_on s σ 3 [41]).wr hw
      rcases h with ⟨x, _⟩ | ⟨_, h2⟩
      · exact absurd x hw
      exact ⟨.inr ⟨by rw [h1]; exact hw, by rw [h1]; exact h2⟩, fun x => absurd x (by rw [h1]; exact hw)⟩
    have hb := h.neg.1 hw
    have ho := h.ok hw
    have e41 := is_sim h (fit_sign (c := 41) rfl) (by simp)
    have ew := is_sim h (fit_word word) hne
    cases hi : isF σ 1 word
    · rw [loopF_stop hi]
      cases h41 : isR τ 41 []
      · -- an error on both sides
        rw [loopR_step hb (.inr h41)]
        have hbad : ¬ (nextR τ 119 word).2.bad < 0 ∧ (nextR τ 119 word).2.bad = σ.a := by
          rw [hi] at ew
          unfold isR at ew
          unfold nextR
          rw [if_neg (show ¬ ¬ τ.bad < 0 from fun x => x hb)]
          have hc : τ.hd.k ≠ 119 ∨ (word ≠ [] ∧ bs τ.hd.t ≠ word) := by
            rw [decide_eq_true hb] at ew
            by_cases e : τ.hd.k = 119
            · refine .inr ⟨hne, fun e2 => ?_⟩
              rw [decide_eq_true e, decide_eq_true e2] at ew
              simp at ew
            · exact .inl e
          rw [if_pos hc]
          have := hd_place h hw
          exact ⟨by show ¬ (τ.hd.a : Int) < 0; omega, by show (τ.hd.a : Int) = σ.a; omega⟩
        rw [condRF_bad hbad.1, loopR_bad hbad.1]
        rw [h41] at e41
        have ht : takeF s σ 3 [41] = (⟨#[]⟩, { σ with wr := σ.a }) := by
          unfold takeF
          rw [if_neg (show ¬ ¬ σ.wr < 0 from fun x => x hw)]
          unfold isF at e41
          rw [decide_eq_true hw] at e41
          have hc : σ.k ≠ 3 ∨ (([41] : Str) ≠ [] ∧ bs σ.t ≠ [41]) := by
            by_cases e : σ.k = 3
            · refine .inr ⟨by simp, fun e2 => ?_⟩
              rw [decide_eq_true e, decide_eq_true e2] at e41
              simp at e41
            · exact .inl e
          rw [if_pos hc]
        rw [ht]
        have hneg : ¬ (σ.a : Int) < 0 := by omega
        exact ⟨.inr ⟨hneg, hbad.2⟩, fun x => absurd x hneg⟩
      · rw [loopR_stop hb h41]
        obtain ⟨h1, _⟩ := take_sim h (fit_sign (c := 41) rfl)
        exact ⟨h1, fun _ => hl hw⟩
    · -- one more part
      have h41 : isR τ 41 [] = false := by
        rw [← e41]
        unfold isF at hi ⊢
        simp only [Bool.and_eq_true, decide_eq_true_eq] at hi
        rw [hi.1.2]
        simp
      rw [loopF_step ho hi, loopR_step hb (.inr h41)]
      have ha := adv_sim h hi
      obtain ⟨h1, e1⟩ := ih _ _ ha
      have hlt := left_lt (n := n) ho hi
      exact hN _ _ _ _ (by omega) h1 (fun hw2 => by rw [hl hw, e1 hw2])
theorem tail_sim {n : Nat} (ih : ∀ σ τ, Sim s σ τ → SimC s (condF s n σ) (condRF n τ)) {σ : St} {τ : Rs} {c c' : Cd} (h : Sim s σ τ) (hc : σ.wr < 0 → c = c') : SimC s (tailF s (condF s n) c σ) (tailR (condRF n) c' τ) := by
  by_cases hw : σ.wr < 0
  rotate_left
  · have hb : ¬ τ.bad < 0 := by rw [← h.neg]; exact hw
    refine simC_bad h hw (tailF_on (condF_on n) c σ) ?_
    unfold tailR
    rw [isR_no hb, if_neg (by decide), loopR_bad hb]
  have hb := h.neg.1 hw
  have ho := h.ok hw
  have eor := is_sim h (fit_word wOr) (by simp)
  have eand := is_sim h (fit_word wAnd) (by simp)
  -- both loops behind a word that is there
  have go : ∀ word : Str, word ≠ [] → isF σ 1 word = true →
      Sim s (takeF s (loopF s (condF s n) word (left s σ) σ [c]).2 3 [41]).2 (loopR (condRF n) word (leftR τ) false τ [c']).2 ∧
      ((takeF s (loopF s (condF s n) word (left s σ) σ [c]).2 3 [41]).2.wr < 0 → (loopF s (condF s n) word (left s σ) σ [c]).1 = (loopR (condRF n) word (leftR τ) false τ [c']).1) := by
    intro word hne hi
    rw [loopF_step ho hi, loopR_step hb (.inl rfl)]
    have ha := adv_sim h hi
    obtain ⟨h1, e1⟩ := ih _ _ ha
    exact loop_sim ih word hne _ _ _ _ _ (Nat.le_refl _) h1 (fun hw2 => by rw [hc hw, e1 hw2])
  unfold tailF tailR
  by_cases hor : isF σ 1 wOr = true
  · have hx := hor
    unfold isF at hx
    simp only [Bool.and_eq_true, decide_eq_true_eq] at hx
    have hfix : fixF σ = σ := by unfold fixF; rw [if_neg (by rintro ⟨_, x | x⟩; exact x hx.1.2; exact x.2 hx.2)]
    rw [← eor, if_pos hor, hfix, hx.2]
    obtain ⟨h1, e1⟩ := go wOr (by simp) hor
    exact ⟨h1, fun hw2 => by rw [e1 hw2]; rfl⟩
  · rw [← eor, if_neg hor]
    by_cases hand : isF σ 1 wAnd = true
    · have hx := hand
      unfold isF at hx
      simp only [Bool.and_eq_true, decide_eq_true_eq] at hx
      have hfix : fixF σ = σ := by unfold fixF; rw [if_neg (by rintro ⟨_, x | x⟩; exact x hx.1.2; exact x.1 hx.2)]
      rw [hfix, hx.2]
      obtain ⟨h1, e1⟩ := go wAnd (by simp) hand
      exact ⟨h1, fun hw2 => by rw [e1 hw2]; rfl⟩
    · have hfix : fixF σ = { σ with wr := σ.a } := by
        unfold fixF
        have hcond : σ.wr < 0 ∧ (σ.k ≠ 1 ∨ (bs σ.t ≠ wAnd ∧ bs σ.t ≠ wOr)) := by
          refine ⟨hw, ?_⟩
          by_cases e : σ.k = 1
          · refine .inr ⟨fun x => hand ?_, fun x => hor ?_⟩
            · unfold isF; rw [decide_eq_true hw, decide_eq_true e, decide_eq_true x]; rfl
            · unfold isF; rw [decide_eq_true hw, decide_eq_true e, decide_eq_true x]; rfl
          · exact .inl e
        rw [if_pos hcond]
        unfold failF
        rw [if_pos hw]
      have hneg : ¬ (σ.a : Int) < 0 := by omega
      have hi2 : ∀ x, isF { σ with wr := (σ.a : Int) } 1 x = false := fun x => by
        cases hq : isF { σ with wr := (σ.a : Int) } 1 x
        · rfl
        · exact absurd (isF_wr hq) hneg
      rw [hfix, loopF_stop (hi2 _)]
      have hbad : ¬ (nextR τ 119 wAnd).2.bad < 0 ∧ (nextR τ 119 wAnd).2.bad = σ.a := by
        have ew := eand
        rw [(Bool.not_eq_true _).mp hand] at ew
        unfold isR at ew
        unfold nextR
        rw [if_neg (show ¬ ¬ τ.bad < 0 from fun x => x hb)]
        have hc : τ.hd.k ≠ 119 ∨ (wAnd ≠ [] ∧ bs τ.hd.t ≠ wAnd) := by
          rw [decide_eq_true hb] at ew
          by_cases e : τ.hd.k = 119
          · refine .inr ⟨by simp, fun e2 => ?_⟩
            rw [decide_eq_true e, decide_eq_true e2] at ew
            simp at ew
          · exact .inl e
        rw [if_pos hc]
        have := hd_place h hw
        exact ⟨by show ¬ (τ.hd.a : Int) < 0; omega, by show (τ.hd.a : Int) = σ.a; omega⟩
      rw [loopR_step hb (.inl rfl), condRF_bad hbad.1, loopR_bad hbad.1]
      have h1 := (takeF_on s { σ with wr := (σ.a : Int) } 3 [41]).wr hneg
      dsimp only
      exact ⟨.inr ⟨by show ¬ (takeF s { σ with wr := (σ.a : Int) } 3 [41]).2.wr < 0; rw [h1]; exact hneg, by show _ = (takeF s { σ with wr := (σ.a : Int) } 3 [41]).2.wr; rw [h1]; exact hbad.2⟩, fun x => absurd x (by show ¬ (takeF s { σ with wr := (σ.a : Int) } 3 [41]).2.wr < 0; rw [h1]; exact hneg)⟩
theorem cond_bad_sim {σ : St} {τ : Rs} (h : Sim s σ τ) (hw : ¬ σ.wr < 0) (f : Option (St → Cd × St)) (hf : ∀ g, f = some g → ∀ σ, On s σ (g σ).2) (q : Option (Rs → Cd × Rs)) : SimC s (condB s f σ) (condR q τ) := by
  refine simC_bad h hw (condB_on hf σ) ?_
  rw [condR_bad (by rw [← h.neg]; exact hw)]
/-- a token that is no bracket -/
theorem rest_sim {σ : St} {τ : Rs} (h : Sim s σ τ) (hw : σ.wr < 0) (f : Option (St → Cd × St)) (q : Option (Rs → Cd × Rs))
    (hn : f = none → q = none) (hs : ∀ g, f = some g → ∃ r, q = some r ∧ ∀ σ τ, Sim s σ τ → SimC s (g σ) (r τ)) (h119 : q = none → isR τ 119 wNot = false) :
    SimC s (wordF s f σ.a (bs (takeF s σ 1 []).1) (takeF s σ 1 []).2) (condR.restR q τ) := by
  have hb := h.neg.1 hw
  have hr : ∀ w : Str, w ≠ [] → isR τ 119 w = decide (bs (takeF s σ 1 []).1 = w) := by
    intro w hne
    rw [← is_sim h (fit_word w) hne]
    unfold isF takeF
    rw [decide_eq_true hw, if_neg (show ¬ ¬ σ.wr < 0 from fun x => x hw)]
    by_cases e : σ.k = 1
    · rw [if_neg (by rintro (x | x); exact x e; exact x.1 rfl), decide_eq_true e]; rfl
    · rw [if_pos (.inl e), decide_eq_false e]
      symm
      exact decide_eq_false (fun x => hne x.symm)
  have hnx : ∀ w : Str, w ≠ [] → bs (takeF s σ 1 []).1 = w → Sim s (takeF s σ 1 []).2 (nextR τ 119 w).2 := by
    intro w hne e
    have hi : isF σ 1 w = true := by rw [is_sim h (fit_word w) hne, hr w hne]; exact decide_eq_true e
    have hx := hi
    unfold isF at hx
    simp only [Bool.and_eq_true, decide_eq_true_eq] at hx
    have := adv_sim h hi
    have ht : (takeF s σ 1 []).2 = advF s σ := by
      unfold takeF
      rw [if_neg (show ¬ ¬ σ.wr < 0 from fun x => x hw), if_neg (by rintro (x | x); exact x hx.1.2; exact x.1 rfl)]
    rw [ht]; exact this
  unfold wordF condR.restR
  rw [hr wAlways (by simp), hr wFact (by simp), hr wSetting (by simp), hr wHas (by simp), hr wVersion (by simp), hr wNot (by simp)]
  simp only [decide_eq_true_eq]
  split
  · rename_i e
    exact ⟨hnx _ (by simp) e, fun _ => rfl⟩
  split
  · rename_i e
    exact pair_sim (hnx _ (by simp) e) 2 (fit_sign (c := 61) rfl)
  split
  · rename_i e
    exact pair_sim (hnx _ (by simp) e) 3 (fit_sign (c := 61) rfl)
  split
  · rename_i e
    obtain ⟨h1, t1⟩ := take_sim (hnx _ (by simp) e) (fit_word [])
    refine ⟨h1, fun hw2 => ?_⟩
    show Cd.mk 4 _ _ [] = Cd.mk 4 _ _ []
    rw [(t1 hw2).1 rfl]
  split
  · rename_i e
    exact pair_sim (hnx _ (by simp) e) 5 (fit_word wIn)
  split
  · rename_i e
    cases f with
    | none =>
      have hq := hn rfl
      have := h119 hq
      rw [hr wNot (by simp)] at this
      exact absurd e (of_decide_eq_false this)
    | some g =>
      obtain ⟨r, rfl, hgr⟩ := hs g rfl
      obtain ⟨h1, e1⟩ := hgr _ _ (hnx _ (by simp) e)
      refine ⟨h1, fun hw2 => ?_⟩
      show Cd.mk 6 _ _ [_] = Cd.mk 6 _ _ [_]
      rw [e1 hw2]
  · -- no word that is known
    have key : Sim s (failF (takeF s σ 1 []).2 σ.a) ⟨τ.l, τ.hd.a⟩ ∧ ¬ (failF (takeF s σ 1 []).2 σ.a).wr < 0 := by
      have hneg : ¬ (σ.a : Int) < 0 := by omega
      have hp := hd_place h hw
      have : (failF (takeF s σ 1 []).2 σ.a).wr = σ.a := by
        unfold failF
        split
        · rfl
        · rename_i hx
          unfold takeF at hx ⊢
          rw [if_neg (show ¬ ¬ σ.wr < 0 from fun x => x hw)] at hx ⊢
          by_cases e : σ.k ≠ 1 ∨ (([] : Str) ≠ [] ∧ bs σ.t ≠ [])
          · rw [if_pos e]
          · rw [if_neg e] at hx
            exact absurd (show (advF s σ).wr < 0 by rw [show (advF s σ).wr = σ.wr from tokF_wr s σ _]; exact hw) hx
      refine ⟨.inr ⟨by rw [this]; exact hneg, by rw [this]; show (τ.hd.a : Int) = σ.a; omega⟩, by rw [this]; exact hneg⟩
    exact ⟨key.1, fun x => absurd x key.2⟩
theorem cond_sim : ∀ (n : Nat) (σ : St) (τ : Rs), Sim s σ τ → SimC s (condF s n σ) (condRF n τ)
  | 0, σ, τ, h => by
    by_cases hw : σ.wr < 0
    rotate_left
    · exact cond_bad_sim h hw none (fun _ e => by cases e) none
    have hb := h.neg.1 hw
    show SimC s (condB s none σ) (condR none τ)
    unfold condB condR
    rw [is_sim h (fit_sign (c := 40) rfl) (by simp)]
    dsimp only
    by_cases h40 : isR τ 40 [] = true
    · rw [if_pos h40, if_pos (.inl h40)]
      unfold listB
      exact ⟨fail_sim h hw hw τ.l, fun _ => rfl⟩
    · rw [if_neg h40]
      by_cases hnot : isR τ 119 wNot = true
      · rw [if_pos (.inr hnot)]
        have hi : isF σ 1 wNot = true := by rw [is_sim h (fit_word wNot) (by simp)]; exact hnot
        have hx := hi
        unfold isF at hx
        simp only [Bool.and_eq_true, decide_eq_true_eq] at hx
        have ht : takeF s σ 1 [] = (σ.t, advF s σ) := by
          unfold takeF
          rw [if_neg (show ¬ ¬ σ.wr < 0 from fun x => x hw), if_neg (by rintro (x | x); exact x hx.1.2; exact x.1 rfl)]
        rw [ht]
        have hwf : wordF s none σ.a (bs (σ.t, advF s σ).1) (σ.t, advF s σ).2 = (zeroC, failF (advF s σ) σ.a) := by
          show wordF s none σ.a (bs σ.t) (advF s σ) = _
          rw [hx.2]
          unfold wordF
          simp
        rw [hwf]
        have hu : (advF s σ).wr < 0 := by rw [show (advF s σ).wr = σ.wr from tokF_wr s σ _]; exact hw
        exact ⟨fail_sim h hw hu τ.l, fun _ => rfl⟩
      · rw [if_neg (by rintro (x | x); exact h40 x; exact hnot x)]
        exact rest_sim h hw none none (fun _ => rfl) (fun _ e => by cases e) (fun _ => (Bool.not_eq_true _).mp hnot)
  | n + 1, σ, τ, h => by
    have ih := cond_sim n
    by_cases hw : σ.wr < 0
    rotate_left
    · exact cond_bad_sim h hw (some (condF s n)) (fun g e => by cases e; exact condF_on n) (some (condRF n))
    have hb := h.neg.1 hw
    show SimC s (condB s (some (condF s n)) σ) (condR (some (condRF n)) τ)
    unfold condB condR
    rw [is_sim h (fit_sign (c := 40) rfl) (by simp)]
    dsimp only
    split
    · unfold listB groupR
      dsimp only
      obtain ⟨h1, _⟩ := take_sim h (fit_sign (c := 40) rfl)
      rw [← is_sim h1 (fit_word wAnd) (by simp), ← is_sim h1 (fit_word wOr) (by simp)]
      split
      · rename_i e
        exact head_sim ih (adv_sim h1 e) _ 7 rfl
      · split
        · rename_i e
          exact head_sim ih (adv_sim h1 e) _ 8 rfl
        · obtain ⟨h2, e2⟩ := ih _ _ h1
          exact tail_sim ih h2 e2
    · exact rest_sim h hw _ _ (fun e => by cases e) (fun g e => by cases e; exact ⟨_, rfl, ih⟩) (fun e => by cases e)
end
end Go.Proofs.YtncagihilplliaaGreatDoor
