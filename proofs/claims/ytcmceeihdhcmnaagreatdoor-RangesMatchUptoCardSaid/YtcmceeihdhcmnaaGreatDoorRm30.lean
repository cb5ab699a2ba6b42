/- Intervals of places, strictly apart: what two lists have in common, a scan that finds the intervals again. Plain words. -/
import Derived.Test.YtcmceeihdhcmnaaGreatDoorRm01

namespace Go.Proofs.YtcmceeihdhcmnaaGreatDoor

structure Iv where
  lo : Nat
  hi : Nat
deriving DecidableEq
def Iv.has (I : Iv) (k : Nat) : Bool := decide (I.lo ≤ k) && decide (k < I.hi)
theorem Iv.has_iff (I : Iv) (k : Nat) : I.has k = true ↔ I.lo ≤ k ∧ k < I.hi := by simp [Iv.has]
def inI (L : List Iv) (k : Nat) : Bool := L.any (·.has k)
theorem inI_iff (L : List Iv) (k : Nat) : inI L k = true ↔ ∃ I ∈ L, I.lo ≤ k ∧ k < I.hi := by
  unfold inI
  rw [List.any_eq_true]
  exact ⟨fun ⟨I, h, e⟩ => ⟨I, h, (Iv.has_iff I k).1 e⟩, fun ⟨I, h, e⟩ => ⟨I, h, (Iv.has_iff I k).2 e⟩⟩
theorem inI_false (L : List Iv) (k : Nat) (h : ∀ I ∈ L, k < I.lo ∨ I.hi ≤ k) : inI L k = false := by
  rw [← Bool.not_eq_true, inI_iff]
  rintro ⟨I, hI, h1, h2⟩
  rcases h I hI with h | h <;> omega
/-- strictly apart, none of them empty, within N places -/
structure Can (N : Nat) (L : List Iv) : Prop where
  apart : L.Pairwise fun I J => I.hi < J.lo
  full : ∀ I ∈ L, I.lo < I.hi ∧ I.hi ≤ N
theorem Can.tail {N : Nat} {I : Iv} {L : List Iv} (h : Can N (I :: L)) : Can N L := ⟨(List.pairwise_cons.1 h.apart).2, fun J hJ => h.full J (List.mem_cons_of_mem _ hJ)⟩
theorem Can.one {N : Nat} {L : List Iv} (h : Can N L) {I J : Iv} (hI : I ∈ L) (hJ : J ∈ L) : I = J ∨ I.hi < J.lo ∨ J.hi < I.lo := by
  have ha := h.apart
  clear h
  induction ha with
  | nil => cases hI
  | @cons K M h1 _ ih =>
    rcases List.mem_cons.1 hI with e1 | m1 <;> rcases List.mem_cons.1 hJ with e2 | m2
    · exact .inl (e1.trans e2.symm)
    · exact .inr (.inl (e1 ▸ h1 _ m2))
    · exact .inr (.inr (e2 ▸ h1 _ m1))
    · exact ih m1 m2
def meetI (a b : Iv) : Iv := ⟨max a.lo b.lo, min a.hi b.hi⟩
/-- what two lists have in common, pair by pair -/
def meetsI (A B : List Iv) : List Iv := A.flatMap fun a => (B.map (meetI a)).filter fun I => decide (I.lo < I.hi)
theorem mem_meets {A B : List Iv} {I : Iv} : I ∈ meetsI A B ↔ ∃ a ∈ A, ∃ b ∈ B, I = meetI a b ∧ I.lo < I.hi := by
  simp only [meetsI, List.mem_flatMap, List.mem_filter, List.mem_map, decide_eq_true_eq]
  constructor
  · rintro ⟨a, ha, ⟨b, hb, rfl⟩, h⟩
    exact ⟨a, ha, b, hb, rfl, h⟩
  · rintro ⟨a, ha, b, hb, rfl, h⟩
    exact ⟨a, ha, ⟨b, hb, rfl⟩, h⟩
theorem can_meets {N : Nat} {A B : List Iv} (hA : Can N A) (hB : Can N B) : Can N (meetsI A B) := by
  refine ⟨?_, ?_⟩
  · unfold meetsI
    rw [List.pairwise_flatMap]
    refine ⟨fun a ha => ?_, ?_⟩
    · refine List.Pairwise.filter _ ?_
      rw [List.pairwise_map]
      refine hB.apart.imp_of_mem fun {x y} hx hy h => ?_
      simp only [meetI]
      omega
    · refine hA.apart.imp fun {x y} h I hI J hJ => ?_
      simp only [List.mem_filter, List.mem_map] at hI hJ
      obtain ⟨⟨b, _, rfl⟩, _⟩ := hI
      obtain ⟨⟨c, _, rfl⟩, _⟩ := hJ
      simp only [meetI]
      omega
  · intro I hI
    obtain ⟨a, ha, b, hb, rfl, h⟩ := mem_meets.1 hI
    have := (hA.full a ha).2
    exact ⟨h, by simp only [meetI]; omega⟩
theorem in_meets (A B : List Iv) (k : Nat) : inI (meetsI A B) k = (inI A k && inI B k) := by
  rw [Bool.eq_iff_iff, Bool.and_eq_true, inI_iff, inI_iff, inI_iff]
  constructor
  · rintro ⟨I, hI, h1, h2⟩
    obtain ⟨a, ha, b, hb, rfl, _⟩ := mem_meets.1 hI
    simp only [meetI] at h1 h2
    exact ⟨⟨a, ha, by omega, by omega⟩, b, hb, by omega, by omega⟩
  · rintro ⟨⟨a, ha, h1, h2⟩, b, hb, h3, h4⟩
    refine ⟨meetI a b, mem_meets.2 ⟨a, ha, b, hb, rfl, ?_⟩, ?_, ?_⟩ <;> simp only [meetI] <;> omega

/-! ### The scan -/
/-- one place: opens what begins, closes what ends -/
def stepG {σ : Type} (op : Nat → σ) (cl : σ → Nat → σ) (f : Nat → Bool) (st : List σ × Bool) (k : Nat) : List σ × Bool :=
  (if (f k && !st.2) = true then st.1 ++ [op k] else if (!f k && st.2) = true then st.1.dropLast ++ [cl (st.1.getLast?.getD (op 0)) k] else st.1, f k)
def scanG {σ : Type} (op : Nat → σ) (cl : σ → Nat → σ) (f : Nat → Bool) (n : Nat) : List σ × Bool := (List.range n).foldl (stepG op cl f) ([], false)
section
variable {σ : Type} (op : Nat → σ) (cl : σ → Nat → σ) (f : Nat → Bool)
theorem scanG_zero : scanG op cl f 0 = ([], false) := rfl
theorem scanG_succ (n : Nat) : scanG op cl f (n + 1) = stepG op cl f (scanG op cl f n) n := by simp [scanG, List.range_succ]
theorem fold_flat (b : Bool) (acc : List σ) : ∀ (m s : Nat), (∀ k, s ≤ k → k < s + m → f k = b) → (List.range' s m).foldl (stepG op cl f) (acc, b) = (acc, b)
  | 0, s, _ => rfl
  | m + 1, s, h => by
    have e : stepG op cl f (acc, b) s = (acc, b) := by
      unfold stepG
      rw [h s (Nat.le_refl _) (by omega)]
      cases b <;> simp
    rw [List.range'_succ, List.foldl_cons, e]
    exact fold_flat b acc m (s + 1) fun k h1 h2 => h k (by omega) (by omega)
def shutG (N : Nat) (I : Iv) : σ := if I.hi < N then cl (op I.lo) I.hi else op I.lo
theorem fold_can (N : Nat) : ∀ (L : List Iv), Can N L → ∀ (s : Nat) (acc : List σ), s ≤ N → (∀ I ∈ L, s ≤ I.lo) → (∀ k, s ≤ k → k < N → f k = inI L k) →
    ((List.range' s (N - s)).foldl (stepG op cl f) (acc, false)).1 = acc ++ L.map (shutG op cl N) := by
  intro L
  induction L with
  | nil =>
    intro _ s acc hs _ hf
    rw [fold_flat op cl f false acc (N - s) s fun k h1 h2 => by rw [hf k h1 (by omega)]; rfl]
    simp
  | cons I L ih =>
    intro hL s acc hs hlo hf
    obtain ⟨h1, h2⟩ := hL.full I (by simp)
    have h0 := hlo I (by simp)
    have hap := (List.pairwise_cons.1 hL.apart).1
    have hlt : ∀ k, s ≤ k → k < I.lo → f k = false := fun k ha hb => by
      rw [hf k ha (by omega)]
      refine inI_false _ _ fun J hJ => .inl ?_
      rcases List.mem_cons.1 hJ with rfl | hJ
      · exact hb
      · have := hap J hJ; omega
    have hin : ∀ k, I.lo ≤ k → k < I.hi → f k = true := fun k ha hb => by
      rw [hf k (by omega) (by omega), inI_iff]
      exact ⟨I, by simp, ha, hb⟩
    have e : List.range' s (N - s) = List.range' s (I.lo - s) ++ (I.lo :: (List.range' (I.lo + 1) (I.hi - I.lo - 1) ++ List.range' I.hi (N - I.hi))) := by
      have e1 : List.range' (I.lo + 1) (I.hi - I.lo - 1) ++ List.range' I.hi (N - I.hi) = List.range' (I.lo + 1) (N - I.lo - 1) := by
        have := List.range'_append (s := I.lo + 1) (m := I.hi - I.lo - 1) (n := N - I.hi) (step := 1)
        rw [show I.lo + 1 + 1 * (I.hi - I.lo - 1) = I.hi by omega, show I.hi - I.lo - 1 + (N - I.hi) = N - I.lo - 1 by omega] at this
        exact this
      have e2 := List.range'_append (s := s) (m := I.lo - s) (n := N - I.lo) (step := 1)
      rw [show s + 1 * (I.lo - s) = I.lo by omega, show I.lo - s + (N - I.lo) = N - s by omega] at e2
      rw [e1, ← e2, show N - I.lo = N - I.lo - 1 + 1 by omega, List.range'_succ]
      rfl
    rw [e, List.foldl_append, fold_flat op cl f false acc _ _ fun k ha hb => hlt k ha (by omega), List.foldl_cons]
    have e3 : stepG op cl f (acc, false) I.lo = (acc ++ [op I.lo], true) := by
      unfold stepG
      rw [hin I.lo (Nat.le_refl _) h1]
      simp
    rw [e3, List.foldl_append, fold_flat op cl f true _ _ _ fun k ha hb => hin k (by omega) (by omega)]
    by_cases hN : I.hi < N
    · have hno : ∀ k, I.hi ≤ k → k < N → f k = inI L k := fun k ha hb => by
        rw [hf k (by omega) hb]
        unfold inI
        rw [List.any_cons, (by simp only [Iv.has]; simp; omega : I.has k = false), Bool.false_or]
      have hfh : f I.hi = false := by
        rw [hno I.hi (Nat.le_refl _) hN]
        exact inI_false _ _ fun J hJ => .inl (hap J hJ)
      have e4 : stepG op cl f (acc ++ [op I.lo], true) I.hi = (acc ++ [cl (op I.lo) I.hi], false) := by
        unfold stepG
        rw [hfh]
        simp
      rw [show N - I.hi = N - (I.hi + 1) + 1 by omega, List.range'_succ, List.foldl_cons, e4, ih hL.tail (I.hi + 1) _ (by omega) (fun J hJ => hap J hJ) (fun k ha hb => hno k (by omega) hb)]
      simp [shutG, hN]
    · have hLn : L = [] := by
        cases L with
        | nil => rfl
        | cons J L =>
          have := hap J (by simp)
          have := hL.full J (by simp)
          omega
      subst hLn
      rw [show N - I.hi = 0 by omega]
      simp [shutG, hN]
theorem scan_can (N : Nat) (L : List Iv) (h : Can N L) (hf : ∀ k, k < N → f k = inI L k) : (scanG op cl f N).1 = L.map (shutG op cl N) := by
  have := fold_can op cl f N L h 0 [] (Nat.zero_le _) (fun _ _ => Nat.zero_le _) (fun k _ hk => hf k hk)
  rw [Nat.sub_zero, ← List.range_eq_range'] at this
  exact this
end
/-- one list within another one: by intervals, and by places -/
theorem within_can {N : Nat} {A B : List Iv} (hA : Can N A) (hB : Can N B) : (∀ a ∈ A, ∃ b ∈ B, b.lo ≤ a.lo ∧ a.hi ≤ b.hi) ↔ ∀ k, k < N → ¬ (inI A k = true ∧ inI B k = false) := by
  constructor
  · rintro h k _ ⟨h1, h2⟩
    obtain ⟨a, ha, h3, h4⟩ := (inI_iff A k).1 h1
    obtain ⟨b, hb, h5, h6⟩ := h a ha
    have : inI B k = true := (inI_iff B k).2 ⟨b, hb, by omega, by omega⟩
    rw [h2] at this
    cases this
  · intro h a ha
    obtain ⟨h1, h2⟩ := hA.full a ha
    have hin : ∀ k, a.lo ≤ k → k < a.hi → ∃ b ∈ B, b.lo ≤ k ∧ k < b.hi := fun k h3 h4 => by
      rw [← inI_iff]
      cases hb : inI B k with
      | true => rfl
      | false => exact absurd ⟨(inI_iff A k).2 ⟨a, ha, h3, h4⟩, hb⟩ (h k (by omega))
    obtain ⟨b, hb, h3, h4⟩ := hin a.lo (Nat.le_refl _) h1
    refine ⟨b, hb, h3, ?_⟩
    rcases Nat.lt_or_ge b.hi a.hi with hlt | hge
    · obtain ⟨c, hc, h5, h6⟩ := hin b.hi (by omega) hlt
      rcases hB.one hb hc with rfl | h7 | h7 <;> omega
    · exact hge
end Go.Proofs.YtcmceeihdhcmnaaGreatDoor
