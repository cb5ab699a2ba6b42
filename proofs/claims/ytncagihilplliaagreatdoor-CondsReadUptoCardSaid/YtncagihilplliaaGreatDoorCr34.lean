/- Plain law: the program's reading of a condition and the reference's go alike. -/
import Derived.Test.YtncagihilplliaaGreatDoorCr33

namespace Go.Proofs.YtncagihilplliaaGreatDoor

/-- two states that fit: the same error, or the same words ahead -/
def Sim (s : ByteArray) (σ : St) (τ : Rs) : Prop :=
  (σ.wr < 0 ∧ τ.bad < 0 ∧ ∃ i, i ≤ s.size ∧ (σ.k = (advF s (at0 i)).k ∧ σ.a = (advF s (at0 i)).a ∧ σ.t = (advF s (at0 i)).t ∧ σ.p = (advF s (at0 i)).p) ∧ τ.l = wordsT s i) ∨ (¬ σ.wr < 0 ∧ τ.bad = σ.wr)
def SimC (s : ByteArray) (r : Cd × St) (q : Cd × Rs) : Prop := Sim s r.2 q.2 ∧ (r.2.wr < 0 → r.1 = q.1)
/-- what the program asks of a token, and the reference of a word -/
def Fit (k : Int) (t : Str) (kind : UInt8) (t' : Str) : Prop := (k = 1 ∧ kind = 119 ∧ t = t') ∨ (k = 2 ∧ kind = 113 ∧ t = [] ∧ t' = []) ∨ (k = 3 ∧ t = [kind] ∧ t' = [] ∧ signB kind = true)
theorem fit_word (t : Str) : Fit 1 t 119 t := .inl ⟨rfl, rfl, rfl⟩
theorem fit_text : Fit 2 [] 113 [] := .inr (.inl ⟨rfl, rfl, rfl, rfl⟩)
theorem fit_sign {c : UInt8} (h : signB c = true) : Fit 3 [c] c [] := .inr (.inr ⟨rfl, rfl, rfl, h⟩)
section
variable {s : ByteArray}
/-- a token and its word -/
theorem tok_word {i : Nat} (hi : i ≤ s.size) : ∃ (d : Wd) (r : List Wd), wordsT s i = d :: r ∧ d.a = (advF s (at0 i)).a ∧
    (∀ k t kind t', Fit k t kind t' → (((advF s (at0 i)).k = k ∧ (t ≠ [] → bs (advF s (at0 i)).t = t)) ↔ (d.k = kind ∧ (t' ≠ [] → bs d.t = t')))) ∧
    (d.k = 119 → d.t = (advF s (at0 i)).t) ∧ (d.k = 113 → d.v = (advF s (at0 i)).t) ∧
    ((advF s (at0 i)).k ≠ 0 → (advF s (at0 i)).k ≠ 4 → d.k ≠ 101 ∧ r = wordsT s (advF s (at0 i)).p ∧ (advF s (at0 i)).p ≤ s.size) := by
  have hE : i + runN blankB ((bs s).drop i) ≤ s.size := run_le blankB s hi
  have hst : ∀ h : i + runN blankB ((bs s).drop i) < s.size, blankB s[i + runN blankB ((bs s).drop i)] = false := fun h => run_stop blankB s _ _ rfl h
  have hadv : advF s (at0 i) = tokF s (at0 i) (i + runN blankB ((bs s).drop i)) := rfl
  have hw : wordsT s i = wordsT s (i + runN blankB ((bs s).drop i)) := by
    have : ∀ m i, runN blankB ((bs s).drop i) = m → wordsT s i = wordsT s (i + m) := by
      intro m
      induction m with
      | zero => intro i _; rfl
      | succ m ih =>
        intro i hm
        by_cases hlt : i < s.size
        · cases hb : blankB s[i]
          · have := runN_no blankB s hlt hb; omega
          · have h1 := runN_yes blankB s hlt hb
            rw [words_blank hlt hb, ih (i + 1) (by omega)]
            congr 1; omega
        · have := runN_out blankB s (Nat.le_of_not_lt hlt); omega
    exact this _ i rfl
  rw [hw, hadv]
  generalize i + runN blankB ((bs s).drop i) = j at *
  by_cases hj : j < s.size
  · have hb := hst hj
    by_cases hs : signB s[j] = true
    · have e : tokF s (at0 i) j = ⟨j + 1, 3, j, ⟨#[s[j]]⟩, -1⟩ := by rw [tokF, dif_pos hj, if_pos hs]
      rw [words_sign hj hb hs, e]
      have hne : s[j] ≠ 119 ∧ s[j] ≠ 113 ∧ s[j] ≠ 101 := by
        refine ⟨?_, ?_, ?_⟩ <;> (intro e; rw [e] at hs; exact absurd hs (by first | decide | (dsimp only [badW, endW]; decide) | simp [badW, endW, signB]))
      refine ⟨_, _, rfl, rfl, ?_, fun h => absurd h hne.1, fun h => absurd h hne.2.1, fun _ _ => ⟨hne.2.2, rfl, hj⟩⟩
      rintro k t kind t' (⟨rfl, rfl, rfl⟩ | ⟨rfl, rfl, rfl, rfl⟩ | ⟨rfl, rfl, rfl, hk⟩)
      · constructor
        · rintro ⟨h, _⟩; exact absurd h (by first | decide | (dsimp only [badW, endW]; decide) | simp [badW, endW, signB])
        · rintro ⟨h, _⟩; exact absurd h hne.1
      · constructor
        · rintro ⟨h, _⟩; exact absurd h (by first | decide | (dsimp only [badW, endW]; decide) | simp [badW, endW, signB])
        · rintro ⟨h, _⟩; exact absurd h hne.2.1
      · constructor
        · rintro ⟨_, h⟩
          have h2 : [s[j]] = [kind] := h (by simp)
          exact ⟨(List.cons.inj h2).1, fun h => absurd rfl h⟩
        · rintro ⟨h, _⟩
          exact ⟨rfl, fun _ => by rw [← h]⟩
    · by_cases hq : s[j] = 34
      · by_cases ho : (qat (bs s) j).2.2 = true
        · have e : tokF s (at0 i) j = ⟨(qat (bs s) j).2.1, 2, j, ⟨(qat (bs s) j).1.toArray⟩, -1⟩ := by rw [tokF, dif_pos hj, if_neg hs, if_pos hq, if_pos ho]
          rw [words_quote hj hb hs hq ho, e]
          refine ⟨_, _, rfl, rfl, ?_, fun h => absurd h (by first | decide | (dsimp only [badW, endW]; decide) | simp [badW, endW, signB]), fun _ => rfl, fun _ _ => ⟨by first | decide | (dsimp only; decide) | simp, rfl, (qat_le s j).1⟩⟩
          rintro k t kind t' (⟨rfl, rfl, rfl⟩ | ⟨rfl, rfl, rfl, rfl⟩ | ⟨rfl, rfl, rfl, hk⟩)
          · constructor
            · rintro ⟨h, _⟩; exact absurd h (by first | decide | (dsimp only [badW, endW]; decide) | simp [badW, endW, signB])
            · rintro ⟨h, _⟩; exact absurd h (by first | decide | (dsimp only [badW, endW]; decide) | simp [badW, endW, signB])
          · exact ⟨fun _ => ⟨rfl, fun h => absurd rfl h⟩, fun _ => ⟨rfl, fun h => absurd rfl h⟩⟩
          · constructor
            · rintro ⟨h, _⟩; exact absurd h (by first | decide | (dsimp only [badW, endW]; decide) | simp [badW, endW, signB])
            · rintro ⟨h, _⟩; rw [← h] at hk; exact absurd hk (by first | decide | (dsimp only [badW, endW]; decide) | simp [badW, endW, signB])
        · have e : tokF s (at0 i) j = ⟨j, 4, j, ⟨#[]⟩, -1⟩ := by rw [tokF, dif_pos hj, if_neg hs, if_pos hq, if_neg ho]
          rw [words_broken hj hb hs hq ho, e]
          refine ⟨_, _, rfl, rfl, ?_, fun h => absurd h (by first | decide | (dsimp only [badW, endW]; decide) | simp [badW, endW, signB]), fun h => absurd h (by first | decide | (dsimp only [badW, endW]; decide) | simp [badW, endW, signB]), fun _ h => absurd rfl h⟩
          rintro k t kind t' (⟨rfl, rfl, rfl⟩ | ⟨rfl, rfl, rfl, rfl⟩ | ⟨rfl, rfl, rfl, hk⟩)
          · constructor
            · rintro ⟨h, _⟩; exact absurd h (by first | decide | (dsimp only [badW, endW]; decide) | simp [badW, endW, signB])
            · rintro ⟨h, _⟩; exact absurd h (by first | decide | (dsimp only [badW, endW]; decide) | simp [badW, endW, signB])
          · constructor
            · rintro ⟨h, _⟩; exact absurd h (by first | decide | (dsimp only [badW, endW]; decide) | simp [badW, endW, signB])
            · rintro ⟨h, _⟩; exact absurd h (by first | decide | (dsimp only [badW, endW]; decide) | simp [badW, endW, signB])
          · constructor
            · rintro ⟨h, _⟩; exact absurd h (by first | decide | (dsimp only [badW, endW]; decide) | simp [badW, endW, signB])
            · rintro ⟨h, _⟩; rw [← h] at hk; exact absurd hk (by first | decide | (dsimp only [badW, endW]; decide) | simp [badW, endW, signB])
      · have e : tokF s (at0 i) j = ⟨j + runN tokB ((bs s).drop j), 1, j, s.extract j (j + runN tokB ((bs s).drop j)), -1⟩ := by rw [tokF, dif_pos hj, if_neg hs, if_neg hq]
        rw [words_word hj hb hs hq, e]
        refine ⟨_, _, rfl, rfl, ?_, fun _ => rfl, fun h => absurd h (by first | decide | (dsimp only [badW, endW]; decide) | simp [badW, endW, signB]), fun _ _ => ⟨by first | decide | (dsimp only; decide) | simp, rfl, run_le tokB s (Nat.le_of_lt hj)⟩⟩
        rintro k t kind t' (⟨rfl, rfl, rfl⟩ | ⟨rfl, rfl, rfl, rfl⟩ | ⟨rfl, rfl, rfl, hk⟩)
        · exact ⟨fun h => ⟨rfl, h.2⟩, fun h => ⟨rfl, h.2⟩⟩
        · constructor
          · rintro ⟨h, _⟩; exact absurd h (by first | decide | (dsimp only [badW, endW]; decide) | simp [badW, endW, signB])
          · rintro ⟨h, _⟩; exact absurd h (by first | decide | (dsimp only [badW, endW]; decide) | simp [badW, endW, signB])
        · constructor
          · rintro ⟨h, _⟩; exact absurd h (by first | decide | (dsimp only [badW, endW]; decide) | simp [badW, endW, signB])
          · rintro ⟨h, _⟩; rw [← h] at hk; exact absurd hk (by first | decide | (dsimp only [badW, endW]; decide) | simp [badW, endW, signB])
  · have e : tokF s (at0 i) j = ⟨j, 0, j, ⟨#[]⟩, -1⟩ := by rw [tokF, dif_neg hj]
    rw [words_end (Nat.le_of_not_lt hj), e]
    refine ⟨_, _, rfl, by show s.size = j; omega, ?_, fun h => absurd h (by first | decide | (dsimp only [badW, endW]; decide) | simp [badW, endW, signB]), fun h => absurd h (by first | decide | (dsimp only [badW, endW]; decide) | simp [badW, endW, signB]), fun h _ => absurd rfl h⟩
    rintro k t kind t' (⟨rfl, rfl, rfl⟩ | ⟨rfl, rfl, rfl, rfl⟩ | ⟨rfl, rfl, rfl, hk⟩)
    · constructor
      · rintro ⟨h, _⟩; exact absurd h (by first | decide | (dsimp only [badW, endW]; decide) | simp [badW, endW, signB])
      · rintro ⟨h, _⟩; exact absurd h (by first | decide | (dsimp only [badW, endW]; decide) | simp [badW, endW, signB])
    · constructor
      · rintro ⟨h, _⟩; exact absurd h (by first | decide | (dsimp only [badW, endW]; decide) | simp [badW, endW, signB])
      · rintro ⟨h, _⟩; exact absurd h (by first | decide | (dsimp only [badW, endW]; decide) | simp [badW, endW, signB])
    · constructor
      · rintro ⟨h, _⟩; exact absurd h (by first | decide | (dsimp only [badW, endW]; decide) | simp [badW, endW, signB])
      · rintro ⟨h, _⟩; rw [← h] at hk; exact absurd hk (by first | decide | (dsimp only [badW, endW]; decide) | simp [badW, endW, signB])
theorem Sim.neg {σ : St} {τ : Rs} (h : Sim s σ τ) : σ.wr < 0 ↔ τ.bad < 0 := by
  rcases h with ⟨h1, h2, _⟩ | ⟨h1, h2⟩
  · exact ⟨fun _ => h2, fun _ => h1⟩
  · rw [h2]
theorem Sim.err {σ : St} {τ : Rs} (h : ¬ σ.wr < 0) (e : τ.bad = σ.wr) : Sim s σ τ := .inr ⟨h, e⟩
/-- 'is' -/
theorem is_sim {σ : St} {τ : Rs} (h : Sim s σ τ) {k : Int} {t : Str} {kind : UInt8} {t' : Str} (hf : Fit k t kind t') (ht : t ≠ []) : isF σ k t = isR τ kind t' := by
  rcases h with ⟨h1, h2, i, hi, ⟨ek, ea, et, ep⟩, hl⟩ | ⟨h1, h2⟩
  · obtain ⟨d, r, hw, _, hm, _⟩ := tok_word hi
    have hm := hm k t kind t' hf
    rw [← ek, ← et] at hm
    have hhd : τ.hd = d := by unfold Rs.hd; rw [hl, hw]; rfl
    unfold isF isR
    rw [hhd, decide_eq_true h1, decide_eq_true h2]
    rw [Bool.eq_iff_iff]
    simp only [Bool.true_and, Bool.and_eq_true, Bool.or_eq_true, decide_eq_true_eq]
    constructor
    · rintro ⟨a, b⟩
      obtain ⟨c, e⟩ := hm.1 ⟨a, fun _ => b⟩
      refine ⟨c, ?_⟩
      by_cases hz : t' = []
      · exact .inl hz
      · exact .inr (e hz)
    · rintro ⟨a, b⟩
      obtain ⟨c, e⟩ := hm.2 ⟨a, fun hz => b.elim (fun x => absurd x hz) id⟩
      exact ⟨c, e ht⟩
  · rw [isR_no (by rw [h2]; exact h1)]
    unfold isF
    rw [decide_eq_false h1]
    rfl
/-- 'take' and 'next' -/
theorem take_sim {σ : St} {τ : Rs} (h : Sim s σ τ) {k : Int} {t : Str} {kind : UInt8} {t' : Str} (hf : Fit k t kind t') :
    Sim s (takeF s σ k t).2 (nextR τ kind t').2 ∧ ((takeF s σ k t).2.wr < 0 → (k = 1 → (takeF s σ k t).1 = (nextR τ kind t').1.t) ∧ (k = 2 → (takeF s σ k t).1 = (nextR τ kind t').1.v)) := by
  rcases h with ⟨h1, h2, i, hi, ⟨ek, ea, et, ep⟩, hl⟩ | ⟨h1, h2⟩
  · obtain ⟨d, r, hw, hda, hm, hd1, hd2, hrest⟩ := tok_word hi
    have hm := hm k t kind t' hf
    rw [← ek, ← et] at hm
    rw [← ek, ← ep] at hrest
    rw [← et] at hd1 hd2
    have hhd : τ.hd = d := by unfold Rs.hd; rw [hl, hw]; rfl
    unfold takeF nextR
    have n1 : ¬ ¬ σ.wr < 0 := fun h => h h1
    have n2 : ¬ ¬ τ.bad < 0 := fun h => h h2
    rw [if_neg n1, if_neg n2, hhd]
    clear n1 n2
    by_cases hc : σ.k = k ∧ (t ≠ [] → bs σ.t = t)
    · have hc' := hm.1 hc
      rw [if_neg (by rintro (x | x); exact x hc.1; exact x.2 (hc.2 x.1)), if_neg (by rintro (x | x); exact x hc'.1; exact x.2 (hc'.2 x.1))]
      have hk04 : σ.k ≠ 0 ∧ σ.k ≠ 4 := by
        rw [hc.1]
        rcases hf with ⟨e, _⟩ | ⟨e, _⟩ | ⟨e, _⟩ <;> (rw [e]; decide)
      obtain ⟨g1, g2, g3⟩ := hrest hk04.1 hk04.2
      have g4 : (if d.k ≠ 101 then (⟨τ.l.tail, τ.bad⟩ : Rs) else τ) = ⟨r, τ.bad⟩ := by rw [if_pos g1, hl, hw]; rfl
      dsimp only
      rw [g4]
      refine ⟨.inl ⟨by rw [show (advF s σ).wr = σ.wr from tokF_wr s σ _]; exact h1, h2, σ.p, g3, ?_, g2⟩, fun _ => ⟨fun e => ?_, fun e => ?_⟩⟩
      · exact tokF_same s σ (at0 σ.p) _
      · subst e
        rcases hf with ⟨_, e, _⟩ | ⟨e, _⟩ | ⟨e, _⟩
        · exact (hd1 (hc'.1.trans e)).symm
        · exact absurd e (by decide)
        · exact absurd e (by decide)
      · subst e
        rcases hf with ⟨e, _⟩ | ⟨_, e, _⟩ | ⟨e, _⟩
        · exact absurd e (by decide)
        · exact (hd2 (hc'.1.trans e)).symm
        · exact absurd e (by decide)
    · have hc' := fun x => hc (hm.2 x)
      have n1 : σ.k ≠ k ∨ (t ≠ [] ∧ bs σ.t ≠ t) := by
        by_cases e : σ.k = k
        · refine .inr (Classical.byContradiction fun x => hc ⟨e, fun y => Classical.byContradiction fun z => x ⟨y, z⟩⟩)
        · exact .inl e
      have n2 : d.k ≠ kind ∨ (t' ≠ [] ∧ bs d.t ≠ t') := by
        by_cases e : d.k = kind
        · refine .inr (Classical.byContradiction fun x => hc' ⟨e, fun y => Classical.byContradiction fun z => x ⟨y, z⟩⟩)
        · exact .inl e
      rw [if_pos n1, if_pos n2]
      have hneg : ¬ (σ.a : Int) < 0 := by omega
      exact ⟨.inr ⟨hneg, by show (d.a : Int) = σ.a; rw [hda, ea]⟩, fun h => absurd h hneg⟩
  · have hb : ¬ τ.bad < 0 := by rw [h2]; exact h1
    unfold takeF nextR
    rw [if_pos h1, if_pos hb]
    exact ⟨.inr ⟨h1, h2⟩, fun h => absurd h h1⟩
/-- an advance behind a yes -/
theorem adv_sim {σ : St} {τ : Rs} (h : Sim s σ τ) {w : Str} (hi : isF σ 1 w = true) : Sim s (advF s σ) (nextR τ 119 w).2 := by
  have h1 := (take_sim h (fit_word w)).1
  unfold isF at hi
  simp only [Bool.and_eq_true, decide_eq_true_eq] at hi
  unfold takeF at h1
  rw [if_neg (show ¬ ¬ σ.wr < 0 from fun x => x hi.1.1), if_neg (by rintro (x | x); exact x hi.1.2; exact x.2 hi.2)] at h1
  exact h1
theorem hd_place {σ : St} {τ : Rs} (h : Sim s σ τ) (hw : σ.wr < 0) : τ.hd.a = σ.a := by
  rcases h with ⟨_, _, i, hi, ⟨_, ea, _, _⟩, hl⟩ | ⟨h1, _⟩
  · obtain ⟨d, r, hwd, hda, _⟩ := tok_word hi
    unfold Rs.hd
    rw [hl, hwd, ea, ← hda]
    rfl
  · exact absurd hw h1
theorem fail_sim {σ υ : St} {τ : Rs} (h : Sim s σ τ) (hw : σ.wr < 0) (hu : υ.wr < 0) (l : List Wd) : Sim s (failF υ σ.a) ⟨l, τ.hd.a⟩ := by
  unfold failF
  rw [if_pos hu]
  exact .inr ⟨by show ¬ (σ.a : Int) < 0; omega, by show (τ.hd.a : Int) = σ.a; rw [hd_place h hw]⟩
theorem on_neg {σ υ : St} (h : On s σ υ) (hu : υ.wr < 0) : σ.wr < 0 := Classical.byContradiction fun hn => by rw [h.wr hn] at hu; exact hn hu
theorem pair_sim {σ : St} {τ : Rs} (h : Sim s σ τ) (kind : Int) {mid : Int} {midT : Str} {midK : UInt8} {midR : Str} (hf : Fit mid midT midK midR) : SimC s (pairF s σ kind mid midT) (pairR τ kind midK midR) := by
  obtain ⟨h1, t1⟩ := take_sim h (fit_word [])
  obtain ⟨h2, _⟩ := take_sim h1 hf
  obtain ⟨h3, t3⟩ := take_sim h2 fit_text
  refine ⟨h3, fun hw => ?_⟩
  have w3 : (takeF s (takeF s (takeF s σ 1 []).2 mid midT).2 2 []).2.wr < 0 := hw
  have w2 := on_neg (takeF_on s _ 2 []) w3
  have w1 := on_neg (takeF_on s _ mid midT) w2
  show Cd.mk kind _ _ [] = Cd.mk kind _ _ []
  rw [(t1 w1).1 rfl, (t3 w3).2 rfl]
end
end Go.Proofs.YtncagihilplliaaGreatDoor
