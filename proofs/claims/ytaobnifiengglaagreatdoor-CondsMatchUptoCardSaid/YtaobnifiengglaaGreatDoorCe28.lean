/- Plain law: the program's and the reference's reading of a condition answer alike, the whole. The condition reader of the reference in memory: 'is', 'next'. Contract of the program's reading of conditions, all levels. Contract of the reference's reading of one condition, given what it calls. (Printed by gen/cndq.py.) The small map of outref2's group: made, asked. Contract of the reference's reading of conditions in brackets, given what it calls. (Printed by gen/cnds.py.) Contract of the reference's reading of conditions, all levels; plain: the parts of a condition, their errors. Contracts of ver.partFault and outref2.partError. -/
import Derived.Test.YtaobnifiengglaaGreatDoorCe27
import Derived.Test.YtaobnifiengglaaGreatDoorCe24
import Derived.Test.YtaobnifiengglaaGreatDoorCe26
import Derived.Test.YtaobnifiengglaaGreatDoorCe25
import Derived.Deep.DeepCutAuto
import Derived.MapKept
import Derived.Deep.AppendLies
import Derived.Deep.RegionLaw
import Derived.Test.YtaobnifiengglaaGreatDoorCe11
import Derived.Test.YtaobnifiengglaaGreatDoorCe16
import Derived.Test.YtaobnifiengglaaGreatDoorCe18

namespace Go.Proofs.YtaobnifiengglaaGreatDoor

section
variable {s : ByteArray}
theorem simC_bad {σ : St} {τ : Rs} (h : Sim s σ τ) (hw : ¬ σ.wr < 0) {r : Cd × St} {q : Cd × Rs} (hr : On s σ r.2) (hq : q.2 = τ) : SimC s r q := by
  have e := hr.wr hw
  refine ⟨.inr ⟨by rw [e]; exact hw, ?_⟩, fun x => absurd x (by rw [e]; exact hw)⟩
  rcases h with ⟨h1, _⟩ | ⟨_, h2⟩
  · exact absurd h1 hw
  · rw [hq, e]; exact h2
theorem Sim.ok {σ : St} {τ : Rs} (h : Sim s σ τ) (hw : σ.wr < 0) : OkS s σ := by
  rcases h with ⟨_, _, i, hi, ⟨ek, ea, et, ep⟩, _⟩ | ⟨h1, _⟩
  · have := advF_ok (s := s) (σ := at0 i) ⟨hi, Nat.zero_le _, Nat.zero_le _⟩
    exact ⟨by rw [ep]; exact this.p, by rw [ea]; exact this.a, by rw [et]; exact this.t⟩
  · exact absurd hw h1
theorem isF_no {σ : St} (h : ¬ σ.wr < 0) (k : Int) (t : Str) : isF σ k t = false := by
  cases hi : isF σ k t
  · rfl
  · exact absurd (isF_wr hi) h
theorem head_sim {n : Nat} (ih : ∀ σ τ, Sim s σ τ → SimC s (condF s n σ) (condRF n τ)) {σ : St} {τ : Rs} (h : Sim s σ τ) (word : ByteArray) (kind : Int) (hk : kindOfL (bs word) = kind) : SimC s (headF s (condF s n) word σ) (headR (condRF n) kind τ) := by
  unfold headF headR
  rw [← is_sim h (fit_sign (c := 41) rfl) (by simp)]
  split
  · obtain ⟨h1, _⟩ := take_sim h (fit_sign (c := 41) rfl)
    exact ⟨h1, fun _ => by rw [hk]⟩
  · obtain ⟨h1, e1⟩ := ih σ τ h
    obtain ⟨h2, _⟩ := take_sim h1 (fit_sign (c := 41) rfl)
    refine ⟨h2, fun hw => ?_⟩
    have w1 := on_neg (takeF_on s _ 3 [41]) hw
    rw [hk, e1 w1]
/-- the loops, once a part has been read behind a word -/
theorem loop_sim {n : Nat} (ih : ∀ σ τ, Sim s σ τ → SimC s (condF s n σ) (condRF n τ)) (word : Str) (hne : word ≠ []) : ∀ (N : Nat) (σ : St) (τ : Rs) (l l' : List Cd), left s σ ≤ N → Sim s σ τ → (σ.wr < 0 → l = l') →
    Sim s (takeF s (loopF s (condF s n) word (left s σ) σ l).2 3 [41]).2 (loopR (condRF n) word (leftR τ) true τ l').2 ∧
    ((takeF s (loopF s (condF s n) word (left s σ) σ l).2 3 [41]).2.wr < 0 → (loopF s (condF s n) word (left s σ) σ l).1 = (loopR (condRF n) word (leftR τ) true τ l').1) := by
  intro N
  induction N with
  | zero =>
    intro σ τ l l' hN h hl
    have hw : ¬ σ.wr < 0 := fun hw => by
      unfold left at hN
      rw [if_pos hw] at hN
      have := (h.ok hw).p
      omega
    rw [loopF_stop (isF_no hw _ _), loopR_bad (by rw [← h.neg]; exact hw)]
    have h1 := (takeF_on s σ 3 [41]).wr hw
    rcases h with ⟨x, _⟩ | ⟨_, h2⟩
    · exact absurd x hw
    exact ⟨.inr ⟨by rw [h1]; exact hw, by rw [h1]; exact h2⟩, fun x => absurd x (by rw [h1]; exact hw)⟩
  | succ N hN =>
    intro σ τ l l' hle h hl
    by_cases hw : σ.wr < 0
    rotate_left
    · rw [loopF_stop (isF_no hw _ _), loopR_bad (by rw [← h.neg]; exact hw)]
      have h1 := (takeF_on s σ 3 [41]).wr hw
      rcases h with ⟨x, _⟩ | ⟨_, h2⟩
      · exact absurd x hw
      exact ⟨.inr ⟨by rw [h1]; exact hw, by rw [h1]; exact h2⟩, fun x => absurd x (by rw [h1]; exact hw)⟩
    have hb := h.neg.1 hw
    have ho := h.ok hw
    have e41 := is_sim h (fit_sign (c := 41) rfl) (by simp)
    have ew := is_sim h (fit_word word) hne
    cases hi : isF σ 1 word
    · rw [loopF_stop hi]
      cases h41 : isR τ 41 []
      · -- an error on both sides
        rw [loopR_step hb (.inr h41)]
        have hbad : ¬ (nextR τ 119 word).2.bad < 0 ∧ (nextR τ 119 word).2.bad = σ.a := by
          rw [hi] at ew
          unfold isR at ew
          unfold nextR
          rw [if_neg (show ¬ ¬ τ.bad < 0 from fun x => x hb)]
          have hc : τ.hd.k ≠ 119 ∨ (word ≠ [] ∧ bs τ.hd.t ≠ word) := by
            rw [decide_eq_true hb] at ew
            by_cases e : τ.hd.k = 119
            · refine .inr ⟨hne, fun e2 => ?_⟩
              rw [decide_eq_true e, decide_eq_true e2] at ew
              simp at ew
            · exact .inl e
          rw [if_pos hc]
          have := hd_place h hw
          exact ⟨by show ¬ (τ.hd.a : Int) < 0; omega, by show (τ.hd.a : Int) = σ.a; omega⟩
        rw [condRF_bad hbad.1, loopR_bad hbad.1]
        rw [h41] at e41
        have ht : takeF s σ 3 [41] = (⟨#[]⟩, { σ with wr := σ.a }) := by
          unfold takeF
          rw [if_neg (show ¬ ¬ σ.wr < 0 from fun x => x hw)]
          unfold isF at e41
          rw [decide_eq_true hw] at e41
          have hc : σ.k ≠ 3 ∨ (([41] : Str) ≠ [] ∧ bs σ.t ≠ [41]) := by
            by_cases e : σ.k = 3
            · refine .inr ⟨by simp, fun e2 => ?_⟩
              rw [decide_eq_true e, decide_eq_true e2] at e41
              simp at e41
            · exact .inl e
          rw [if_pos hc]
        rw [ht]
        have hneg : ¬ (σ.a : Int) < 0 := by omega
        exact ⟨.inr ⟨hneg, hbad.2⟩, fun x => absurd x hneg⟩
      · rw [loopR_stop hb h41]
        obtain ⟨h1, _⟩ := take_sim h (fit_sign (c := 41) rfl)
        exact ⟨h1, fun _ => hl hw⟩
    · -- one more part
      have h41 : isR τ 41 [] = false := by
        rw [← e41]
        unfold isF at hi ⊢
        simp only [Bool.and_eq_true, decide_eq_true_eq] at hi
        rw [hi.1.2]
        simp
      rw [loopF_step ho hi, loopR_step hb (.inr h41)]
      have ha := adv_sim h hi
      obtain ⟨h1, e1⟩ := ih _ _ ha
      have hlt := left_lt (n := n) ho hi
      exact hN _ _ _ _ (by omega) h1 (fun hw2 => by rw [hl hw, e1 hw2])
theorem tail_sim {n : Nat} (ih : ∀ σ τ, Sim s σ τ → SimC s (condF s n σ) (condRF n τ)) {σ : St} {τ : Rs} {c c' : Cd} (h : Sim s σ τ) (hc : σ.wr < 0 → c = c') : SimC s (tailF s (condF s n) c σ) (tailR (condRF n) c' τ) := by
  by_cases hw : σ.wr < 0
  rotate_left
  · have hb : ¬ τ.bad < 0 := by rw [← h.neg]; exact hw
    refine simC_bad h hw (tailF_on (condF_on n) c σ) ?_
    unfold tailR
    rw [isR_no hb, if_neg (by decide), loopR_bad hb]
  have hb := h.neg.1 hw
  have ho := h.ok hw
  have eor := is_sim h (fit_word wOr) (by simp)
  have eand := is_sim h (fit_word wAnd) (by simp)
  -- both loops behind a word that is there
  have go : ∀ word : Str, word ≠ [] → isF σ 1 word = true →
      Sim s (takeF s (loopF s (condF s n) word (left s σ) σ [c]).2 3 [41]).2 (loopR (condRF n) word (leftR τ) false τ [c']).2 ∧
      ((takeF s (loopF s (condF s n) word (left s σ) σ [c]).2 3 [41]).2.wr < 0 → (loopF s (condF s n) word (left s σ) σ [c]).1 = (loopR (condRF n) word (leftR τ) false τ [c']).1) := by
    intro word hne hi
    rw [loopF_step ho hi, loopR_step hb (.inl rfl)]
    have ha := adv_sim h hi
    obtain ⟨h1, e1⟩ := ih _ _ ha
    exact loop_sim ih word hne _ _ _ _ _ (Nat.le_refl _) h1 (fun hw2 => by rw [hc hw, e1 hw2])
  unfold tailF tailR
  by_cases hor : isF σ 1 wOr = true
  · have hx := hor
    unfold isF at hx
    simp only [Bool.and_eq_true, decide_eq_true_eq] at hx
    have hfix : fixF σ = σ := by unfold fixF; rw [if_neg (by rintro ⟨_, x | x⟩; exact x hx.1.2; exact x.2 hx.2)]
    rw [← eor, if_pos hor, hfix, hx.2]
    obtain ⟨h1, e1⟩ := go wOr (by simp) hor
    exact ⟨h1, fun hw2 => by rw [e1 hw2]; rfl⟩
  · rw [← eor, if_neg hor]
    by_cases hand : isF σ 1 wAnd = true
    · have hx := hand
      unfold isF at hx
      simp only [Bool.and_eq_true, decide_eq_true_eq] at hx
      have hfix : fixF σ = σ := by unfold fixF; rw [if_neg (by rintro ⟨_, x | x⟩; exact x hx.1.2; exact x.1 hx.2)]
      rw [hfix, hx.2]
      obtain ⟨h1, e1⟩ := go wAnd (by simp) hand
      exact ⟨h1, fun hw2 => by rw [e1 hw2]; rfl⟩
    · have hfix : fixF σ = { σ with wr := σ.a } := by
        unfold fixF
        have hcond : σ.wr < 0 ∧ (σ.k ≠ 1 ∨ (bs σ.t ≠ wAnd ∧ bs σ.t ≠ wOr)) := by
          refine ⟨hw, ?_⟩
          by_cases e : σ.k = 1
          · refine .inr ⟨fun x => hand ?_, fun x => hor ?_⟩
            · unfold isF; rw [decide_eq_true hw, decide_eq_true e, decide_eq_true x]; rfl
            · unfold isF; rw [decide_eq_true hw, decide_eq_true e, decide_eq_true x]; rfl
          · exact .inl e
        rw [if_pos hcond]
        unfold failF
        rw [if_pos hw]
      have hneg : ¬ (σ.a : Int) < 0 := by omega
      have hi2 : ∀ x, isF { σ with wr := (σ.a : Int) } 1 x = false := fun x => by
        cases hq : isF { σ with wr := (σ.a : Int) } 1 x
        · rfl
        · exact absurd (isF_wr hq) hneg
      rw [hfix, loopF_stop (hi2 _)]
      have hbad : ¬ (nextR τ 119 wAnd).2.bad < 0 ∧ (nextR τ 119 wAnd).2.bad = σ.a := by
        have ew := eand
        rw [(Bool.not_eq_true _).mp hand] at ew
        unfold isR at ew
        unfold nextR
        rw [if_neg (show ¬ ¬ τ.bad < 0 from fun x => x hb)]
        have hc : τ.hd.k ≠ 119 ∨ (wAnd ≠ [] ∧ bs τ.hd.t ≠ wAnd) := by
          rw [decide_eq_true hb] at ew
          by_cases e : τ.hd.k = 119
          · refine .inr ⟨by simp, fun e2 => ?_⟩
            rw [decide_eq_true e, decide_eq_true e2] at ew
            simp at ew
          · exact .inl e
        rw [if_pos hc]
        have := hd_place h hw
        exact ⟨by show ¬ (τ.hd.a : Int) < 0; omega, by show (τ.hd.a : Int) = σ.a; omega⟩
      rw [loopR_step hb (.inl rfl), condRF_bad hbad.1, loopR_bad hbad.1]
      have h1 := (takeF_on s { σ with wr := (σ.a : Int) } 3 [41]).wr hneg
      dsimp only
      exact ⟨.inr ⟨by show ¬ (takeF s { σ with wr := (σ.a : Int) } 3 [41]).2.wr < 0; rw [h1]; exact hneg, by show _ = (takeF s { σ with wr := (σ.a : Int) } 3 [41]).2.wr; rw [h1]; exact hbad.2⟩, fun x => absurd x (by show ¬ (takeF s { σ with wr := (σ.a : Int) } 3 [41]).2.wr < 0; rw [h1]; exact hneg)⟩
theorem cond_bad_sim {σ : St} {τ : Rs} (h : Sim s σ τ) (hw : ¬ σ.wr < 0) (f : Option (St → Cd × St)) (hf : ∀ g, f = some g → ∀ σ, On s σ (g σ).2) (q : Option (Rs → Cd × Rs)) : SimC s (condB s f σ) (condR q τ) := by
  refine simC_bad h hw (condB_on hf σ) ?_
  rw [condR_bad (by rw [← h.neg]; exact hw)]
/-- a token that is no bracket -/
theorem rest_sim {σ : St} {τ : Rs} (h : Sim s σ τ) (hw : σ.wr < 0) (f : Option (St → Cd × St)) (q : Option (Rs → Cd × Rs))
    (hn : f = none → q = none) (hs : ∀ g, f = some g → ∃ r, q = some r ∧ ∀ σ τ, Sim s σ τ → SimC s (g σ) (r τ)) (h119 : q = none → isR τ 119 wNot = false) :
    SimC s (wordF s f σ.a (bs (takeF s σ 1 []).1) (takeF s σ 1 []).2) (condR.restR q τ) := by
  have hb := h.neg.1 hw
  have hr : ∀ w : Str, w ≠ [] → isR τ 119 w = decide (bs (takeF s σ 1 []).1 = w) := by
    intro w hne
    rw [← is_sim h (fit_word w) hne]
    unfold isF takeF
    rw [decide_eq_true hw, if_neg (show ¬ ¬ σ.wr < 0 from fun x => x hw)]
    by_cases e : σ.k = 1
    · rw [if_neg (by rintro (x | x); exact x e; exact x.1 rfl), decide_eq_true e]; rfl
    · rw [if_pos (.inl e), decide_eq_false e]
      symm
      exact decide_eq_false (fun x => hne x.symm)
  have hnx : ∀ w : Str, w ≠ [] → bs (takeF s σ 1 []).1 = w → Sim s (takeF s σ 1 []).2 (nextR τ 119 w).2 := by
    intro w hne e
    have hi : isF σ 1 w = true := by rw [is_sim h (fit_word w) hne, hr w hne]; exact decide_eq_true e
    have hx := hi
    unfold isF at hx
    simp only [Bool.and_eq_true, decide_eq_true_eq] at hx
    have := adv_sim h hi
    have ht : (takeF s σ 1 []).2 = advF s σ := by
      unfold takeF
      rw [if_neg (show ¬ ¬ σ.wr < 0 from fun x => x hw), if_neg (by rintro (x | x); exact x hx.1.2; exact x.1 rfl)]
    rw [ht]; exact this
  unfold wordF condR.restR
  rw [hr wAlways (by simp), hr wFact (by simp), hr wSetting (by simp), hr wHas (by simp), hr wVersion (by simp), hr wNot (by simp)]
  simp only [decide_eq_true_eq]
  split
  · rename_i e
    exact ⟨hnx _ (by simp) e, fun _ => rfl⟩
  split
  · rename_i e
    exact pair_sim (hnx _ (by simp) e) 2 (fit_sign (c := 61) rfl)
  split
  · rename_i e
    exact pair_sim (hnx _ (by simp) e) 3 (fit_sign (c := 61) rfl)
  split
  · rename_i e
    obtain ⟨h1, t1⟩ := take_sim (hnx _ (by simp) e) (fit_word [])
    refine ⟨h1, fun hw2 => ?_⟩
    show Cd.mk 4 _ _ [] = Cd.mk 4 _ _ []
    rw [(t1 hw2).1 rfl]
  split
  · rename_i e
    exact pair_sim (hnx _ (by simp) e) 5 (fit_word wIn)
  split
  · rename_i e
    cases f with
    | none =>
      have hq := hn rfl
      have := h119 hq
      rw [hr wNot (by simp)] at this
      exact absurd e (of_decide_eq_false this)
    | some g =>
      obtain ⟨r, rfl, hgr⟩ := hs g rfl
      obtain ⟨h1, e1⟩ := hgr _ _ (hnx _ (by simp) e)
      refine ⟨h1, fun hw2 => ?_⟩
      show Cd.mk 6 _ _ [_] = Cd.mk 6 _ _ [_]
      rw [e1 hw2]
  · -- no word that is known
    have key : Sim s (failF (takeF s σ 1 []).2 σ.a) ⟨τ.l, τ.hd.a⟩ ∧ ¬ (failF (takeF s σ 1 []).2 σ.a).wr < 0 := by
      have hneg : ¬ (σ.a : Int) < 0 := by omega
      have hp := hd_place h hw
      have : (failF (takeF s σ 1 []).2 σ.a).wr = σ.a := by
        unfold failF
        split
        · rfl
        · rename_i hx
          unfold takeF at hx ⊢
          rw [if_neg (show ¬ ¬ σ.wr < 0 from fun x => x hw)] at hx ⊢
          by_cases e : σ.k ≠ 1 ∨ (([] : Str) ≠ [] ∧ bs σ.t ≠ [])
          · rw [if_pos e]
          · rw [if_neg e] at hx
            exact absurd (show (advF s σ).wr < 0 by rw [show (advF s σ).wr = σ.wr from tokF_wr s σ _]; exact hw) hx
      refine ⟨.inr ⟨by rw [this]; exact hneg, by rw [this]; show (τ.hd.a : Int) = σ.a; omega⟩, by rw [this]; exact hneg⟩
    exact ⟨key.1, fun x => absurd x key.2⟩
theorem cond_sim : ∀ (n : Nat) (σ : St) (τ : Rs), Sim s σ τ → SimC s (condF s n σ) (condRF n τ)
  | 0, σ, τ, h => by
    by_cases hw : σ.wr < 0
    rotate_left
    · exact cond_bad_sim h hw none (fun _ e => by cases e) none
    have hb := h.neg.1 hw
    show SimC s (condB s none σ) (condR none τ)
    unfold condB condR
    rw [is_sim h (fit_sign (c := 40) rfl) (by simp)]
    dsimp only
    by_cases h40 : isR τ 40 [] = true
    · rw [if_pos h40, if_pos (.inl h40)]
      unfold listB
      exact ⟨fail_sim h hw hw τ.l, fun _ => rfl⟩
    · rw [if_neg h40]
      by_cases hnot : isR τ 119 wNot = true
      · rw [if_pos (.inr hnot)]
        have hi : isF σ 1 wNot = true := by rw [is_sim h (fit_word wNot) (by simp)]; exact hnot
        have hx := hi
        unfold isF at hx
        simp only [Bool.and_eq_true, decide_eq_true_eq] at hx
        have ht : takeF s σ 1 [] = (σ.t, advF s σ) := by
          unfold takeF
          rw [if_neg (show ¬ ¬ σ.wr < 0 from fun x => x hw), if_neg (by rintro (x | x); exact x hx.1.2; exact x.1 rfl)]
        rw [ht]
        have hwf : wordF s none σ.a (bs (σ.t, advF s σ).1) (σ.t, advF s σ).2 = (zeroC, failF (advF s σ) σ.a) := by
          show wordF s none σ.a (bs σ.t) (advF s σ) = _
          rw [hx.2]
          unfold wordF
          simp
        rw [hwf]
        have hu : (advF s σ).wr < 0 := by rw [show (advF s σ).wr = σ.wr from tokF_wr s σ _]; exact hw
        exact ⟨fail_sim h hw hu τ.l, fun _ => rfl⟩
      · rw [if_neg (by rintro (x | x); exact h40 x; exact hnot x)]
        exact rest_sim h hw none none (fun _ => rfl) (fun _ e => by cases e) (fun _ => (Bool.not_eq_true _).mp hnot)
  | n + 1, σ, τ, h => by
    have ih := cond_sim n
    by_cases hw : σ.wr < 0
    rotate_left
    · exact cond_bad_sim h hw (some (condF s n)) (fun g e => by cases e; exact condF_on n) (some (condRF n))
    have hb := h.neg.1 hw
    show SimC s (condB s (some (condF s n)) σ) (condR (some (condRF n)) τ)
    unfold condB condR
    rw [is_sim h (fit_sign (c := 40) rfl) (by simp)]
    dsimp only
    split
    · unfold listB groupR
      dsimp only
      obtain ⟨h1, _⟩ := take_sim h (fit_sign (c := 40) rfl)
      rw [← is_sim h1 (fit_word wAnd) (by simp), ← is_sim h1 (fit_word wOr) (by simp)]
      split
      · rename_i e
        exact head_sim ih (adv_sim h1 e) _ 7 rfl
      · split
        · rename_i e
          exact head_sim ih (adv_sim h1 e) _ 8 rfl
        · obtain ⟨h2, e2⟩ := ih _ _ h1
          exact tail_sim ih h2 e2
    · exact rest_sim h hw _ _ (fun e => by cases e) (fun g e => by cases e; exact ⟨_, rfl, ih⟩) (fun e => by cases e)
end
end Go.Proofs.YtaobnifiengglaaGreatDoor

namespace Go.Proofs.YtaobnifiengglaaGreatDoor
open Go.RowKit

/-- the words, from a block's head on -/
structure WdsAt (w : World) (b : Nat) (W : List Wd) : Prop where
  lt : b < w.heap.size
  c0 : ∀ j (h : j < W.length), w.cell? ⟨b, j * 4, none⟩ = some (.string W[j].t)
  c1 : ∀ j (h : j < W.length), w.cell? ⟨b, j * 4 + 1, none⟩ = some (.int .u8 W[j].k.toNat)
  c2 : ∀ j (h : j < W.length), w.cell? ⟨b, j * 4 + 2, none⟩ = some (.int .i64 W[j].a)
  c3 : ∀ j (h : j < W.length), w.cell? ⟨b, j * 4 + 3, none⟩ = some (.string W[j].v)
theorem WdsAt.ext {w w' : World} {b : Nat} {W : List Wd} (h : WdsAt w b W) (hx : Ext w w') : WdsAt w' b W :=
  ⟨Nat.lt_of_lt_of_le h.lt hx.size, fun j hj => hx.cell (h.c0 j hj), fun j hj => hx.cell (h.c1 j hj), fun j hj => hx.cell (h.c2 j hj), fun j hj => hx.cell (h.c3 j hj)⟩
theorem WdsAt.extX {g : Nat} {w w' : World} {b : Nat} {W : List Wd} (h : WdsAt w b W) (hx : ExtX g w w') (hb : b ≠ g) : WdsAt w' b W :=
  ⟨Nat.lt_of_lt_of_le h.lt hx.size, fun j hj => hx.cell hb (h.c0 j hj), fun j hj => hx.cell hb (h.c1 j hj), fun j hj => hx.cell hb (h.c2 j hj), fun j hj => hx.cell hb (h.c3 j hj)⟩
theorem WdsAt.far {w : World} {b : Nat} {W : List Wd} (h : WdsAt w b W) {p : Addr} (hp : b ≠ p.block) (u : Value) : WdsAt (w.setCell p u) b W :=
  ⟨by have := h.lt; simpa [World.setCell] using this, fun j hj => cell_set_far hp (h.c0 j hj), fun j hj => cell_set_far hp (h.c1 j hj), fun j hj => cell_set_far hp (h.c2 j hj), fun j hj => cell_set_far hp (h.c3 j hj)⟩
/-- the reader -/
structure RdR (w : World) (g b : Nat) (W : List Wd) (τ : Rs) : Prop where
  ne : b ≠ g
  wds : WdsAt w b W
  rd : ∃ j cp, j < W.length ∧ τ.l = W.drop j ∧ W.length - j ≤ cp ∧ Blk w g 171 #[.slice (some ⟨b, j * 4, none⟩) (W.length - j) cp, .int .i64 τ.bad]
namespace RdR
variable {w w' : World} {g b : Nat} {W : List Wd} {τ : Rs}
theorem suf (h : RdR w g b W τ) : SufR W τ := by
  obtain ⟨j, cp, hj, hl, _⟩ := h.rd
  exact ⟨j, hj, hl⟩
theorem lt (h : RdR w g b W τ) : g < w.heap.size := by
  obtain ⟨j, cp, hj, hl, _, hb⟩ := h.rd
  exact hb.lt
theorem ext (h : RdR w g b W τ) (hx : Ext w w') : RdR w' g b W τ := by
  obtain ⟨j, cp, hj, hl, hc, hb⟩ := h.rd
  exact ⟨h.ne, h.wds.ext hx, j, cp, hj, hl, hc, hb.ext hx⟩
theorem alloc (h : RdR w g b W τ) (o : Obj) : RdR (w.alloc o) g b W τ := h.ext ((Ext.refl w).alloc o)
theorem far (h : RdR w g b W τ) {p : Addr} (hp : g ≠ p.block) (hp2 : b ≠ p.block) (u : Value) : RdR (w.setCell p u) g b W τ := by
  obtain ⟨j, cp, hj, hl, hc, hb⟩ := h.rd
  exact ⟨h.ne, h.wds.far hp2 u, j, cp, hj, hl, hc, hb.far hp u⟩
/-- the reader's cells, and the next word's -/
theorem opened (h : RdR w g b W τ) : ∃ j cp m, j < W.length ∧ τ.l = W.drop j ∧ W.length - j = m ∧ 0 < m ∧ m ≤ cp ∧ Blk w g 171 #[.slice (some ⟨b, j * 4, none⟩) m cp, .int .i64 τ.bad] ∧
    w.cell? ⟨b, j * 4, none⟩ = some (.string τ.hd.t) ∧ w.cell? ⟨b, j * 4 + 1, none⟩ = some (.int .u8 τ.hd.k.toNat) ∧ w.cell? ⟨b, j * 4 + 2, none⟩ = some (.int .i64 τ.hd.a) ∧ w.cell? ⟨b, j * 4 + 3, none⟩ = some (.string τ.hd.v) := by
  obtain ⟨j, cp, hj, hl, hc, hb⟩ := h.rd
  have hh : τ.hd = W[j] := by
    unfold Rs.hd
    rw [hl, List.drop_eq_getElem_cons hj]
    rfl
  rw [hh]
  exact ⟨j, cp, _, hj, hl, rfl, by omega, hc, hb, h.wds.c0 j hj, h.wds.c1 j hj, h.wds.c2 j hj, h.wds.c3 j hj⟩
end RdR
end Go.Proofs.YtaobnifiengglaaGreatDoor

namespace Go.Proofs.YtaobnifiengglaaGreatDoor
open Go.RowKit

theorem cond_all (g : Nat) (s : ByteArray) (hs : s.size ≤ 2097152) : ∀ (n lev : Nat), lev + n = 100 → ∀ (σ : St) (w : World), Rd w g s σ → OkS s σ →
    Calls Tryz.prog 115 #[.pointer (some ⟨g, 0, none⟩), .int .i64 lev] w (CdPost g s w (condF s n σ))
  | 0, lev, hl, σ, w, h, ho => by
    obtain rfl : lev = 100 := by omega
    exact cond_step g s hs 100 none (Nat.le_refl _) (fun _ => rfl) (fun f e => by cases e) (fun τ W hr _ => list_none g s τ W hr) (fun f e => by cases e) σ w h ho
  | n + 1, lev, hl, σ, w, h, ho => by
    have ih := cond_all g s hs n (lev + 1) (by omega)
    exact cond_step g s hs lev (some (condF s n)) (by omega) (fun e => by cases e) (fun f _ => by omega)
      (fun τ W hr hok => list_some g s hs lev (by omega) n ih τ W hr hok) (fun f e => by cases e; exact ih) σ w h ho
end Go.Proofs.YtaobnifiengglaaGreatDoor

namespace Go.Proofs.YtaobnifiengglaaGreatDoor
open Go.RowKit

end Go.Proofs.YtaobnifiengglaaGreatDoor

namespace Go.Proofs.YtaobnifiengglaaGreatDoor
open Go.RowKit

abbrev eAnd : MapEntry := ⟨.string ⟨#[97, 110, 100]⟩, .int .i64 7, 0⟩
abbrev eOr : MapEntry := ⟨.string ⟨#[111, 114]⟩, .int .i64 8, 1⟩
/-- the map of the two kinds -/
def KindMap (w : World) (b : Nat) : Prop := w.heap[b]? = some (.map #[eAnd, eOr] 2)
theorem KindMap.lt {w : World} {b : Nat} (h : KindMap w b) : b < w.heap.size := (Array.getElem?_eq_some_iff.1 h).1
theorem KindMap.extX {g b : Nat} {w w' : World} (h : KindMap w b) (hx : ExtX g w w') (hb : b ≠ g) : KindMap w' b := (hx.block b h.lt hb).trans h
theorem KindMap.ext {b : Nat} {w w' : World} (h : KindMap w b) (hx : Ext w w') : KindMap w' b := (hx.block b h.lt).trans h
theorem KindMap.alloc {b : Nat} {w : World} (h : KindMap w b) (o : Obj) : KindMap (w.alloc o) b := h.ext ((Ext.refl w).alloc o)
theorem KindMap.far {b : Nat} {w : World} (h : KindMap w b) {p : Addr} (hp : b ≠ p.block) (u : Value) : KindMap (w.setCell p u) b := (Below.heap_setCell w p u b hp).trans h
theorem KindMap.grownR {b : Nat} {row : Option Nat} {w w' : World} (h : KindMap w b) (hg : w.grownBy w' row) (hne : some b ≠ row) : KindMap w' b := (hg.block b h.lt hne).trans h
end Go.Proofs.YtaobnifiengglaaGreatDoor

namespace Go.Proofs.YtaobnifiengglaaGreatDoor
open Go.RowKit

theorem RdR.grownR {g b r : Nat} {w w' : World} {W : List Wd} {τ : Rs} (h : RdR w g b W τ) (hg : w.grownBy w' (some r)) (h1 : g ≠ r) (h2 : b ≠ r) : RdR w' g b W τ := by
  obtain ⟨j, cp, hj, hl, hc, hb⟩ := h.rd
  have far : ∀ o v, w.cell? ⟨b, o, none⟩ = some v → w'.cell? ⟨b, o, none⟩ = some v := fun o v e => by
    rw [hg.cell_far ⟨b, o, none⟩ (lt_of_cell e) (by simpa using h2)]
    exact e
  exact ⟨h.ne, ⟨Nat.lt_of_lt_of_le h.wds.lt hg.size, fun j hj => far _ _ (h.wds.c0 j hj), fun j hj => far _ _ (h.wds.c1 j hj), fun j hj => far _ _ (h.wds.c2 j hj), fun j hj => far _ _ (h.wds.c3 j hj)⟩, j, cp, hj, hl, hc, hb.grownR hg (by simpa using h1)⟩
end Go.Proofs.YtaobnifiengglaaGreatDoor

namespace Go.Proofs.YtaobnifiengglaaGreatDoor
open Go.RowKit

/-! ### The parts of a condition -/
def Cd.kind : Cd → Int | .mk k _ _ _ => k
def Cd.name : Cd → ByteArray | .mk _ n _ _ => n
def Cd.value : Cd → ByteArray | .mk _ _ x _ => x
def Cd.args : Cd → List Cd | .mk _ _ _ l => l
mutual
/-- how many parts -/
def cnt : Cd → Nat | .mk _ _ _ l => 1 + cnts l
def cnts : List Cd → Nat | [] => 0 | c :: l => cnt c + cnts l
end
mutual
/-- the parts, the outer ones first, with their levels -/
def prt (lev : Nat) : Cd → List (Cd × Nat) | .mk k n x l => (.mk k n x l, lev) :: prts (lev + 1) l
def prts (lev : Nat) : List Cd → List (Cd × Nat) | [] => [] | c :: l => prt lev c ++ prts lev l
end
theorem cnt_pos (c : Cd) : 0 < cnt c := by cases c; unfold cnt; omega
mutual
theorem prt_len (lev : Nat) : ∀ c : Cd, (prt lev c).length = cnt c
  | .mk k n x l => by unfold prt cnt; rw [List.length_cons, prts_len (lev + 1) l]; omega
theorem prts_len (lev : Nat) : ∀ l : List Cd, (prts lev l).length = cnts l
  | [] => rfl
  | c :: l => by unfold prts cnts; rw [List.length_append, prt_len lev c, prts_len lev l]
end
theorem cnts_append (a b : List Cd) : cnts (a ++ b) = cnts a + cnts b := by
  induction a with
  | nil => simp [cnts]
  | cons x r ih => simp only [List.cons_append, cnts, ih]; omega
theorem prts_append (lev : Nat) (a b : List Cd) : prts lev (a ++ b) = prts lev a ++ prts lev b := by
  induction a with
  | nil => simp [prts]
  | cons x r ih => simp only [List.cons_append, prts, ih, List.append_assoc]
/-- what the walks need: texts of a bearable size, lists too -/
inductive SmallC : Cd → Prop where
  | mk (k : Int) (n x : ByteArray) (l : List Cd) (hn : n.size ≤ 2097152) (hx : x.size ≤ 2097152) (hl : l.length ≤ 100000000) (hr : ∀ c ∈ l, SmallC c) : SmallC (.mk k n x l)

/-! ### The error of a part -/
def namedK (k : Int) : Bool := decide (2 ≤ k) && decide (k ≤ 5)
def valuedK (k : Int) : Bool := namedK k && !decide (k = 4)
def formBad (k : Int) (n x : Str) (m : Nat) : Bool :=
  (!namedK k && !n.isEmpty) || (!valuedK k && !x.isEmpty) || (!decide (6 ≤ k) && decide (0 < m)) || (decide (k = 6) && !decide (m = 1))
def partErr (k : Int) (n x : Str) (m : Nat) : Int :=
  if k < 1 ∨ 8 < k then 1
  else if formBad k n x m = true then 2
  else if namedK k = false then 0
  else if (!(if k = 3 ∨ k = 4 then pathL n else nameL n)) = true then 5
  else if (!valueL x) = true then 2
  else if k = 5 then (parseR x).2 else 0
def partC (c : Cd) : Int := partErr c.kind (bs c.name) (bs c.value) c.args.length
/-- the error of a condition -/
def firstErr : List (Cd × Nat) → Int
  | [] => 0
  | p :: r => if partC p.1 = 0 then firstErr r else partC p.1
def checkC (c : Cd) : Int :=
  if 100 < cnt c then 4
  else if firstErr (prt 0 c) ≠ 0 then firstErr (prt 0 c)
  else if (prt 0 c).any (fun p => decide (20 < p.2)) = true then 4 else 0
end Go.Proofs.YtaobnifiengglaaGreatDoor

namespace Go.Proofs.YtaobnifiengglaaGreatDoor
open Go.RowKit

theorem data_nil (n : ByteArray) : (n.data = #[]) = (n.toList = []) := by rw [ByteArray.toList_eq, Array.toList_eq_nil_iff]
theorem kind8 {k : Int} (h1 : ¬ k < 1) (h2 : ¬ 8 < k) : k = 1 ∨ k = 2 ∨ k = 3 ∨ k = 4 ∨ k = 5 ∨ k = 6 ∨ k = 7 ∨ k = 8 := by omega
set_option maxRecDepth 100000 in
set_option maxHeartbeats 8000000 in
theorem partFault_any (k : Int) (n x : ByteArray) (A : Option Addr) (m cp : Nat) (w : World) (hg : GoodN w) (hn : n.size ≤ 2097152) (hx : x.size ≤ 2097152) (hm : m ≤ 100000000) :
    Calls Tryz.prog 156 #[.agg #[.int .i64 k, .string n, .string x, .slice A m cp]] w fun e w' => e = .returned (.int .i64 (partErr k (bs n) (bs x) m)) ∧ Ext w w' := by
  have hx0 : Ext w (w.alloc (.cells #[.int .i64 k, .string n, .string x, .slice A m cp] 61)) := (Ext.refl w).alloc _
  by_cases h1 : k < 1
  · have hp : partErr k (bs n) (bs x) m = 1 := by unfold partErr; rw [if_pos (.inl h1)]
    rw [hp]
    go_enter Tryz.func156, Tryz.ntmps156
    go_wp2
    go_ret
    exact ⟨rfl, hx0⟩
  by_cases h2 : 8 < k
  · have hp : partErr k (bs n) (bs x) m = 1 := by unfold partErr; rw [if_pos (.inr h2)]
    rw [hp]
    go_enter Tryz.func156, Tryz.ntmps156
    go_wp2
    go_ret
    exact ⟨rfl, hx0⟩
  have e6 : ((m : Int) != 1) = !decide (m = 1) := by
    by_cases h : m = 1
    · subst h; rfl
    · rw [decide_eq_false h, Bool.not_false, bne_iff_ne]; omega
  rcases kind8 h1 h2 with rfl | rfl | rfl | rfl | rfl | rfl | rfl | rfl
  all_goals clear h1 h2
  all_goals
    go_enter Tryz.func156, Tryz.ntmps156
    go_wp2_with (first
      | (go_at_call 28; refine (IsName_any _ _ hn).mono ?_; rintro e w' ⟨rfl, rfl⟩)
      | (go_at_call 30; refine (IsPath_any _ _ (hg.toGood.ext ((Ext.refl w).alloc _)) hn).mono ?_; rintro e w1 ⟨rfl, hx1⟩; (obtain ⟨hc1, hf1⟩ := hx1.cells); have hz1 := hx1.size)
      | (go_at_call 32; refine (IsValue_any _ _ hx).mono ?_; rintro e w' ⟨rfl, rfl⟩)
      | (go_at_call 41; refine (ParseRange_any _ _ (hg.ext ((Ext.refl w).alloc _)) hx).mono ?_; rintro e w1 ⟨B, c, rfl, _, _, hx1⟩))
  all_goals go_ret
  all_goals refine ⟨ret_int ?_, ?_⟩
  all_goals first | (simp [partErr, formBad, namedK, valuedK, data_nil, *]; done) | exact (Ext.refl w).alloc _ | exact Ext.trans ((Ext.refl w).alloc _) (by assumption) | exact (Ext.trans ((Ext.refl w).alloc _) (by assumption)).alloc _ | skip
theorem value_nil {x : ByteArray} (h : x.toList = []) : valueL (bs x) = true := by
  rw [ByteArray.toList_eq] at h
  rw [show bs x = [] from h]
  rfl
set_option maxRecDepth 100000 in
set_option maxHeartbeats 8000000 in
theorem partError_any (k : Int) (n x : ByteArray) (A : Option Addr) (m cp : Nat) (w : World) (hg : GoodN w) (hn : n.size ≤ 2097152) (hx : x.size ≤ 2097152) (hm : m ≤ 100000000) :
    Calls Tryz.prog 143 #[.agg #[.int .i64 k, .string n, .string x, .slice A m cp]] w fun e w' => e = .returned (.int .i64 (partErr k (bs n) (bs x) m)) ∧ Ext w w' := by
  have hr : ∀ W, Ext w W → Calls Tryz.prog 43 #[.string x] W (RangePost (parseR (bs x)) W) := fun W hW => by
    rw [← read_same]; exact ReadRange_any x W (hg.ext hW) hx
  have HR := Lib.hid hr
  clear hr
  by_cases h1 : k < 1 ∨ 8 < k
  · have hp : partErr k (bs n) (bs x) m = 1 := by unfold partErr; rw [if_pos h1]
    rw [hp]
    have e (z : Int) (h : k ≠ z) : (k == z) = false := beq_eq_false_iff_ne.2 h
    have e1 := e 1 (by omega); have e2 := e 2 (by omega); have e3 := e 3 (by omega); have e4 := e 4 (by omega); have e5 := e 5 (by omega); have e6 := e 6 (by omega); have e7 := e 7 (by omega); have e8 := e 8 (by omega)
    clear e h1 hp
    go_enter Tryz.func143, Tryz.ntmps143
    go_wp2
    go_ret
    exact ⟨rfl, (Ext.refl w).alloc _⟩
  have e6 : ((m : Int) != 1) = !decide (m = 1) := by
    by_cases h : m = 1
    · subst h; rfl
    · rw [decide_eq_false h, Bool.not_false, bne_iff_ne]; omega
  rcases kind8 (fun h => h1 (.inl h)) (fun h => h1 (.inr h)) with rfl | rfl | rfl | rfl | rfl | rfl | rfl | rfl
  all_goals clear h1
  all_goals
    go_enter Tryz.func143, Tryz.ntmps143
    go_wp2_with (first
      | (go_at_call 29; refine (NameOf_any _ _ hn).mono ?_; rintro e w1 ⟨rfl, hx1⟩; (obtain ⟨hc1, hf1⟩ := hx1.cells); have hz1 := hx1.size)
      | (go_at_call 31; refine (PathOf_any _ _ (hg.toGood.ext ((Ext.refl w).alloc _)) hn).mono ?_; rintro e w1 ⟨rfl, hx1⟩; (obtain ⟨hc1, hf1⟩ := hx1.cells); have hz1 := hx1.size)
      | (go_at_call 33; refine (ValueOf_any _ _ hx).mono ?_; rintro e w' ⟨rfl, rfl⟩)
      | (go_at_call 43; refine (HR.out _ (Ext.trans ((Ext.refl w).alloc _) (by assumption))).mono ?_; rintro e w2 ⟨B, c, rfl, _, _, hx2⟩))
  all_goals go_ret
  all_goals refine ⟨ret_int ?_, ?_⟩
  all_goals first | (simp [partErr, formBad, namedK, valuedK, data_nil, *]; done) | exact (Ext.refl w).alloc _ | exact Ext.trans ((Ext.refl w).alloc _) (by assumption) | exact (Ext.trans (Ext.trans ((Ext.refl w).alloc _) (by assumption)) (by assumption)).alloc _ | (exfalso; have hv := value_nil (by assumption); simp_all; done) | skip
end Go.Proofs.YtaobnifiengglaaGreatDoor
