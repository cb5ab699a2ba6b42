/- Ranges as intervals of places: what two ranges have in common, span by span and by a scan over all ends. Plain words. -/
import Derived.Test.YtcmceeihdhcmnaaGreatDoorRm29
import Derived.Test.YtcmceeihdhcmnaaGreatDoorRm30

namespace Go.Proofs.YtcmceeihdhcmnaaGreatDoor

/-! ### Ends, strictly rising -/
def Rising (E : List V4) : Prop := E.Pairwise fun u v => u.ord v < 0
theorem rising_at {E : List V4} (h : Rising E) {i j : Nat} (hi : i < E.length) (hj : j < E.length) (hij : i < j) : E[i].ord E[j] < 0 := List.pairwise_iff_getElem.1 h i j hi hj hij
theorem idx_lt {E : List V4} {u : V4} (h : u ∈ E) : E.idxOf u < E.length := List.idxOf_lt_length_of_mem h
theorem idx_get {E : List V4} {u : V4} (h : u ∈ E) : E[E.idxOf u]'(idx_lt h) = u := List.getElem_idxOf (idx_lt h)
theorem idx_at {E : List V4} (hE : Rising E) {i : Nat} (hi : i < E.length) : E.idxOf E[i] = i := by
  have hm : E[i] ∈ E := List.getElem_mem hi
  have h1 := idx_lt hm
  have h2 := idx_get hm
  rcases Nat.lt_trichotomy (E.idxOf E[i]) i with h | h | h
  · have := rising_at hE h1 hi h
    rw [h2, pre_ord.self] at this
    omega
  · exact h
  · have := rising_at hE hi h1 h
    rw [h2, pre_ord.self] at this
    omega
theorem ord_idx {E : List V4} (hE : Rising E) {u v : V4} (hu : u ∈ E) (hv : v ∈ E) : u.ord v < 0 ↔ E.idxOf u < E.idxOf v := by
  have hu1 := idx_lt hu
  have hv1 := idx_lt hv
  rcases Nat.lt_trichotomy (E.idxOf u) (E.idxOf v) with h | h | h
  · have := rising_at hE hu1 hv1 h
    rw [idx_get hu, idx_get hv] at this
    exact ⟨fun _ => h, fun _ => this⟩
  · have e : u = v := by rw [← idx_get hu, ← idx_get hv]; simp only [h]
    subst e
    rw [pre_ord.self]
    omega
  · have h2 := rising_at hE hv1 hu1 h
    rw [idx_get hu, idx_get hv] at h2
    have := pre_ord.anti v u
    omega

/-! ### A span as an interval -/
def insideL (s : Sp) (v : V4) : Bool := !(s.hf && decide (v.ord s.f < 0)) && !(s.ht && decide (0 ≤ v.ord s.t))
section
variable (E : List V4)
def enc (s : Sp) : Iv := ⟨if s.hf = true then E.idxOf s.f + 1 else 0, if s.ht = true then E.idxOf s.t + 1 else E.length + 1⟩
def opS (k : Nat) : Sp := ⟨decide (0 < k), false, if 0 < k then E.getD (k - 1) zeroV else zeroV, zeroV⟩
def clS (s : Sp) (k : Nat) : Sp := ⟨s.hf, true, s.f, E.getD (k - 1) zeroV⟩
/-- a span whose ends are among the ends, and whose missing ones are zero -/
structure Fit (s : Sp) : Prop where
  f1 : s.hf = true → s.f ∈ E
  f0 : s.hf = false → s.f = zeroV
  t1 : s.ht = true → s.t ∈ E
  t0 : s.ht = false → s.t = zeroV
variable {E}
theorem getD_idx {u : V4} (h : u ∈ E) : E.getD (E.idxOf u) zeroV = u := by
  rw [List.getD, List.getElem?_eq_getElem (idx_lt h), Option.getD_some]
  exact idx_get h
theorem shut_enc {s : Sp} (h : Fit E s) : shutG (opS E) (clS E) (E.length + 1) (enc E s) = s := by
  obtain ⟨hf, ht, f, t⟩ := s
  obtain ⟨f1, f0, t1, t0⟩ := h
  dsimp only at f1 f0 t1 t0
  unfold shutG enc opS clS
  cases hf <;> cases ht
  · simp [f0 rfl, t0 rfl]
  · have := idx_lt (t1 rfl)
    simp [f0 rfl, this, getD_idx (t1 rfl), -List.getD_eq_getElem?_getD]
  · simp [t0 rfl, getD_idx (f1 rfl), -List.getD_eq_getElem?_getD]
  · have := idx_lt (t1 rfl)
    simp [this, getD_idx (t1 rfl), getD_idx (f1 rfl), -List.getD_eq_getElem?_getD]
/-- whether a span has a place -/
def hasAtL (E : List V4) (l : List Sp) (k : Nat) : Bool := l.any fun s => if k = 0 then !s.hf else insideL s (E.getD (k - 1) zeroV)
theorem has_enc (hE : Rising E) {s : Sp} (h : Fit E s) {k : Nat} (hk : k < E.length + 1) : (if k = 0 then !s.hf else insideL s (E.getD (k - 1) zeroV)) = (enc E s).has k := by
  obtain ⟨hf, ht, f, t⟩ := s
  obtain ⟨f1, f0, t1, t0⟩ := h
  dsimp only at f1 f0 t1 t0
  by_cases h0 : k = 0
  · subst h0
    cases hf <;> cases ht <;> simp [enc, Iv.has]
  · rw [if_neg h0]
    have hlt : k - 1 < E.length := by omega
    have e : E.getD (k - 1) zeroV = E[k - 1] := by rw [List.getD, List.getElem?_eq_getElem hlt, Option.getD_some]
    have hm : E[k - 1] ∈ E := List.getElem_mem hlt
    have hi := idx_at hE hlt
    rw [e, Bool.eq_iff_iff, Iv.has_iff]
    unfold insideL enc
    have hF := fun h => ord_idx hE hm (f1 h)
    have hT := fun h => ord_idx hE hm (t1 h)
    rw [hi] at hF hT
    cases hf <;> cases ht
    · simp; omega
    · have := hT rfl
      simp
      omega
    · have := hF rfl
      simp
      omega
    · have := hT rfl
      have := hF rfl
      simp
      omega
theorem hasAt_enc (hE : Rising E) {l : List Sp} (h : ∀ s ∈ l, Fit E s) {k : Nat} (hk : k < E.length + 1) : hasAtL E l k = inI (l.map (enc E)) k := by
  unfold hasAtL inI
  rw [List.any_map]
  induction l with
  | nil => rfl
  | cons s l ih =>
    rw [List.any_cons, List.any_cons, ih fun x hx => h x (List.mem_cons_of_mem _ hx)]
    rw [has_enc hE (h s (by simp)) hk]
    rfl
end

/-! ### A right range is a list of intervals strictly apart -/
theorem spErr_parts {s : Sp} (h : spErr s = 0) : (s.hf = false → s.f = zeroV) ∧ (s.ht = false → s.t = zeroV) ∧ s.f.err = 0 ∧ s.t.err = 0 ∧ (s.hf = true → s.ht = true → s.f.ord s.t < 0) := by
  unfold spErr at h
  by_cases h1 : (!s.hf && decide (s.f ≠ zeroV) || !s.ht && decide (s.t ≠ zeroV)) = true
  · rw [if_pos h1] at h; cases h
  rw [if_neg h1] at h
  by_cases h2 : s.f.err = 0
  · rw [if_neg (by simpa using h2)] at h
    by_cases h3 : s.t.err = 0
    · rw [if_neg (by simpa using h3)] at h
      by_cases h4 : (s.hf && s.ht && decide (0 ≤ s.f.ord s.t)) = true
      · rw [if_pos h4] at h; cases h
      · refine ⟨fun e => ?_, fun e => ?_, h2, h3, fun e1 e2 => ?_⟩
        · rw [e] at h1
          simp at h1
          exact h1.1
        · rw [e] at h1
          simp at h1
          exact h1.2
        · rw [e1, e2] at h4
          simpa using h4
    · rw [if_pos h3] at h; exact absurd h h3
  · rw [if_pos h2] at h; exact absurd h h2
theorem rng_each {l : List Sp} (h : rngErr l = 0) {k : Nat} (hk : k < l.length) : spErr l[k] = 0 := by
  have h1 := (rng_ok h).2 k hk
  unfold errAt at h1
  have e : l.getD k zeroS = l[k] := by simp [List.getD, List.getElem?_eq_getElem hk]
  rw [e] at h1
  by_cases h2 : spErr l[k] = 0
  · exact h2
  · rw [if_pos h2] at h1; exact absurd h1 h2
theorem rng_gap {l : List Sp} (h : rngErr l = 0) {k : Nat} (hk : k + 1 < l.length) : l[k].ht = true ∧ l[k + 1].hf = true ∧ l[k].t.ord l[k + 1].f < 0 := by
  have h1 := (rng_ok h).2 (k + 1) hk
  have h2 := rng_each h hk
  unfold errAt at h1
  have e : l.getD (k + 1) zeroS = l[k + 1] := by simp [List.getD, List.getElem?_eq_getElem hk]
  have e2 : l.getD k zeroS = l[k] := by simp [List.getD, List.getElem?_eq_getElem (by omega : k < l.length)]
  rw [Nat.add_sub_cancel, e, e2, if_neg (by simpa using h2), if_neg (by omega)] at h1
  unfold gapErr at h1
  by_cases h3 : (!l[k].ht || !l[k + 1].hf || decide (0 ≤ l[k].t.ord l[k + 1].f)) = true
  · rw [if_pos h3] at h1; cases h1
  · simp at h3
    exact ⟨h3.1.1, h3.1.2, h3.2⟩
theorem rng_mem {l : List Sp} (h : rngErr l = 0) {s : Sp} (hs : s ∈ l) : spErr s = 0 := by
  obtain ⟨k, hk, rfl⟩ := List.mem_iff_getElem.1 hs
  exact rng_each h hk
/-- the ends of spans that are there -/
def endsOf (l : List Sp) : List V4 := l.flatMap fun s => (if s.hf = true then [s.f] else []) ++ (if s.ht = true then [s.t] else [])
theorem ends_f {l : List Sp} {s : Sp} (hs : s ∈ l) (h : s.hf = true) : s.f ∈ endsOf l := List.mem_flatMap.2 ⟨s, hs, by simp [h]⟩
theorem ends_t {l : List Sp} {s : Sp} (hs : s ∈ l) (h : s.ht = true) : s.t ∈ endsOf l := List.mem_flatMap.2 ⟨s, hs, by simp [h]⟩
theorem fit_of {E : List V4} {l : List Sp} (h : rngErr l = 0) (hE : ∀ v ∈ endsOf l, v ∈ E) : ∀ s ∈ l, Fit E s := fun _s hs =>
  have h1 := spErr_parts (rng_mem h hs)
  ⟨fun e => hE _ (ends_f hs e), h1.1, fun e => hE _ (ends_t hs e), h1.2.1⟩
theorem can_of {E : List V4} (hE : Rising E) {l : List Sp} (h : rngErr l = 0) (hm : ∀ v ∈ endsOf l, v ∈ E) : Can (E.length + 1) (l.map (enc E)) := by
  have hfit := fit_of h hm
  have hfull : ∀ s ∈ l, (enc E s).lo < (enc E s).hi ∧ (enc E s).hi ≤ E.length + 1 := fun s hs => by
    have h1 := (spErr_parts (rng_mem h hs)).2.2.2.2
    have h2 := hfit s hs
    obtain ⟨hf, ht, f, t⟩ := s
    obtain ⟨f1, f0, t1, t0⟩ := h2
    dsimp only at f1 f0 t1 t0 h1
    unfold enc
    cases hf <;> cases ht
    · simp
    · have := idx_lt (t1 rfl)
      simp; omega
    · have := idx_lt (f1 rfl)
      simp; omega
    · have := (ord_idx hE (f1 rfl) (t1 rfl)).1 (h1 rfl rfl)
      have := idx_lt (t1 rfl)
      simp; omega
  refine ⟨?_, fun I hI => ?_⟩
  · have hadj : ∀ k (hk : k + 1 < l.length), (enc E l[k]).hi < (enc E l[k + 1]).lo := fun k hk => by
      obtain ⟨h1, h2, h3⟩ := rng_gap h hk
      have h4 := (hfit l[k] (List.getElem_mem _)).t1 h1
      have h5 := (hfit l[k + 1] (List.getElem_mem _)).f1 h2
      have := (ord_idx hE h4 h5).1 h3
      simp only [enc, h1, h2, if_true]
      omega
    rw [List.pairwise_map, List.pairwise_iff_getElem]
    intro i j hi hj hij
    obtain ⟨d, rfl⟩ : ∃ d, j = i + 1 + d := ⟨j - i - 1, by omega⟩
    induction d with
    | zero => exact hadj i hj
    | succ d ih =>
      have h1 := ih (by omega) (by omega)
      have h2 := hadj (i + 1 + d) (by omega)
      have h3 := (hfull l[i + 1 + d] (List.getElem_mem _)).1
      have e : i + 1 + (d + 1) = i + 1 + d + 1 := rfl
      simp only [e]
      omega
  · obtain ⟨s, hs, rfl⟩ := List.mem_map.1 hI
    exact hfull s hs

/-! ### What spans have in common -/
def meetS (a b : Sp) : Sp :=
  ⟨if (b.hf && (!a.hf || decide (0 < b.f.ord a.f))) = true then true else a.hf, if (b.ht && (!a.ht || decide (b.t.ord a.t < 0))) = true then true else a.ht,
    if (b.hf && (!a.hf || decide (0 < b.f.ord a.f))) = true then b.f else a.f, if (b.ht && (!a.ht || decide (b.t.ord a.t < 0))) = true then b.t else a.t⟩
def okS (s : Sp) : Bool := !s.hf || !s.ht || decide (s.f.ord s.t < 0)
theorem enc_meet {E : List V4} (hE : Rising E) {a b : Sp} (ha : Fit E a) (hb : Fit E b) : Fit E (meetS a b) ∧ enc E (meetS a b) = meetI (enc E a) (enc E b) := by
  obtain ⟨af, at', f, t⟩ := a
  obtain ⟨bf, bt, f', t'⟩ := b
  obtain ⟨a1, a0, a3, a2⟩ := ha
  obtain ⟨b1, b0, b3, b2⟩ := hb
  dsimp only at a1 a0 a3 a2 b1 b0 b3 b2
  have hF : af = true → bf = true → (0 < f'.ord f ↔ E.idxOf f < E.idxOf f') := fun h1 h2 => by
    rw [← pre_ord.anti]
    exact ord_idx hE (a1 h1) (b1 h2)
  have hT : at' = true → bt = true → (t'.ord t < 0 ↔ E.idxOf t' < E.idxOf t) := fun h1 h2 => ord_idx hE (b3 h2) (a3 h1)
  have lf := fun h => idx_lt (a1 h); have lf' := fun h => idx_lt (b1 h); have lt := fun h => idx_lt (a3 h); have lt' := fun h => idx_lt (b3 h)
  refine ⟨⟨?_, ?_, ?_, ?_⟩, ?_⟩
  · unfold meetS
    dsimp only
    intro h
    by_cases h1 : (bf && (!af || decide (0 < f'.ord f))) = true
    · rw [if_pos h1]
      exact b1 (by simp at h1; exact h1.1)
    · rw [if_neg h1] at h ⊢
      exact a1 h
  · unfold meetS
    dsimp only
    intro h
    by_cases h1 : (bf && (!af || decide (0 < f'.ord f))) = true
    · rw [if_pos h1] at h; cases h
    · rw [if_neg h1] at h ⊢
      exact a0 h
  · unfold meetS
    dsimp only
    intro h
    by_cases h1 : (bt && (!at' || decide (t'.ord t < 0))) = true
    · rw [if_pos h1]
      exact b3 (by simp at h1; exact h1.1)
    · rw [if_neg h1] at h ⊢
      exact a3 h
  · unfold meetS
    dsimp only
    intro h
    by_cases h1 : (bt && (!at' || decide (t'.ord t < 0))) = true
    · rw [if_pos h1] at h; cases h
    · rw [if_neg h1] at h ⊢
      exact a2 h
  · unfold meetS enc meetI
    dsimp only
    have e1 : (if (if (bf && (!af || decide (0 < f'.ord f))) = true then true else af) = true then E.idxOf (if (bf && (!af || decide (0 < f'.ord f))) = true then f' else f) + 1 else 0) = max (if af = true then E.idxOf f + 1 else 0) (if bf = true then E.idxOf f' + 1 else 0) := by
      cases haf : af <;> cases hbf : bf
      · simp
      · simp
      · simp
      · have := hF haf hbf
        by_cases h : 0 < f'.ord f
        · have := this.1 h
          simp [h]; omega
        · have : ¬ E.idxOf f < E.idxOf f' := fun x => h (this.2 x)
          simp [h]; omega
    have e2 : (if (if (bt && (!at' || decide (t'.ord t < 0))) = true then true else at') = true then E.idxOf (if (bt && (!at' || decide (t'.ord t < 0))) = true then t' else t) + 1 else E.length + 1) = min (if at' = true then E.idxOf t + 1 else E.length + 1) (if bt = true then E.idxOf t' + 1 else E.length + 1) := by
      cases hat : at' <;> cases hbt : bt
      · simp
      · have := lt' hbt
        simp; omega
      · have := lt hat
        simp; omega
      · have := hT hat hbt
        by_cases h : t'.ord t < 0
        · have := this.1 h
          simp [h]; omega
        · have : ¬ E.idxOf t' < E.idxOf t := fun x => h (this.2 x)
          simp [h]; omega
    rw [e1, e2]
theorem ok_enc {E : List V4} (hE : Rising E) {s : Sp} (h : Fit E s) : okS s = decide ((enc E s).lo < (enc E s).hi) := by
  obtain ⟨hf, ht, f, t⟩ := s
  obtain ⟨f1, f0, t1, t0⟩ := h
  dsimp only at f1 f0 t1 t0
  unfold okS enc
  cases hf <;> cases ht
  · simp
  · simp
  · have := idx_lt (f1 rfl)
    simp; omega
  · have := ord_idx hE (f1 rfl) (t1 rfl)
    simp [this]
/-- ver.Common's spans -/
def commonS (A B : List Sp) : List Sp := A.flatMap fun a => (B.map (meetS a)).filter okS
/-- the reference's scan -/
def bothAt (E : List V4) (A B : List Sp) (k : Nat) : Bool := hasAtL E A k && hasAtL E B k
theorem common_scan {E : List V4} (hE : Rising E) {A B : List Sp} (hA : rngErr A = 0) (hB : rngErr B = 0) (mA : ∀ v ∈ endsOf A, v ∈ E) (mB : ∀ v ∈ endsOf B, v ∈ E) :
    (scanG (opS E) (clS E) (bothAt E A B) (E.length + 1)).1 = commonS A B := by
  have cA := can_of hE hA mA
  have cB := can_of hE hB mB
  have fA := fit_of hA mA
  have fB := fit_of hB mB
  rw [scan_can _ _ _ (E.length + 1) _ (can_meets cA cB) fun k hk => by rw [bothAt, hasAt_enc hE fA hk, hasAt_enc hE fB hk, in_meets]]
  unfold meetsI commonS
  rw [List.flatMap_map, List.map_flatMap]
  refine congrArg List.flatten (List.map_congr_left fun a ha => ?_)
  rw [List.map_map]
  have key : ∀ l : List Sp, (∀ b ∈ l, Fit E b) → List.map (shutG (opS E) (clS E) (E.length + 1)) (List.filter (fun I => decide (I.lo < I.hi)) (List.map (meetI (enc E a) ∘ enc E) l)) = List.filter okS (List.map (meetS a) l) := by
    intro l hl
    induction l with
    | nil => rfl
    | cons b l ih =>
      have h1 := enc_meet hE (fA a ha) (hl b (by simp))
      have h2 := ok_enc hE h1.1
      rw [h1.2] at h2
      have ih := ih fun x hx => hl x (List.mem_cons_of_mem _ hx)
      rw [List.map_cons, List.map_cons, List.filter_cons, List.filter_cons]
      simp only [Function.comp_apply] at ih ⊢
      rw [← h2]
      cases hok : okS (meetS a b)
      · simpa using ih
      · simp only [if_true, List.map_cons]
        rw [ih, ← h1.2, shut_enc h1.1]
  exact key B fB
/-- ver.Within's answer -/
def withinS (A B : List Sp) : Bool := A.all fun a => B.any fun b => okS (meetS a b) && decide (meetS a b = a)
theorem within_scan {E : List V4} (hE : Rising E) {A B : List Sp} (hA : rngErr A = 0) (hB : rngErr B = 0) (mA : ∀ v ∈ endsOf A, v ∈ E) (mB : ∀ v ∈ endsOf B, v ∈ E) :
    withinS A B = !((List.range (E.length + 1)).any fun k => hasAtL E A k && !hasAtL E B k) := by
  have cA := can_of hE hA mA
  have cB := can_of hE hB mB
  have fA := fit_of hA mA
  have fB := fit_of hB mB
  have h1 : withinS A B = true ↔ ∀ a ∈ A.map (enc E), ∃ b ∈ B.map (enc E), b.lo ≤ a.lo ∧ a.hi ≤ b.hi := by
    unfold withinS
    rw [List.all_eq_true]
    constructor
    · intro h I hI
      obtain ⟨a, ha, rfl⟩ := List.mem_map.1 hI
      have h2 := h a ha
      rw [List.any_eq_true] at h2
      obtain ⟨b, hb, h3⟩ := h2
      simp only [Bool.and_eq_true, decide_eq_true_eq] at h3
      have h4 := (enc_meet hE (fA a ha) (fB b hb)).2
      rw [h3.2] at h4
      refine ⟨_, List.mem_map_of_mem hb, ?_, ?_⟩ <;> rw [h4] <;> simp only [meetI] <;> omega
    · intro h a ha
      obtain ⟨I, hI, h2, h3⟩ := h _ (List.mem_map_of_mem ha)
      obtain ⟨b, hb, rfl⟩ := List.mem_map.1 hI
      rw [List.any_eq_true]
      refine ⟨b, hb, ?_⟩
      have h4 := enc_meet hE (fA a ha) (fB b hb)
      have h5 : enc E (meetS a b) = enc E a := by
        rw [h4.2]
        cases he : enc E a
        rw [he] at h2 h3
        simp only [meetI, Iv.mk.injEq] at h2 h3 ⊢
        omega
      have h6 : meetS a b = a := by rw [← shut_enc h4.1, h5, shut_enc (fA a ha)]
      have h7 := cA.full _ (List.mem_map_of_mem ha)
      rw [h6, ok_enc hE (fA a ha)]
      simpa using h7.1
  rw [Bool.eq_iff_iff, h1, within_can cA cB, Bool.not_eq_true', List.any_eq_false]
  constructor
  · intro h k hk
    have hk := List.mem_range.1 hk
    rw [hasAt_enc hE fA hk, hasAt_enc hE fB hk]
    simpa using h k hk
  · intro h k hk
    have h2 := h k (List.mem_range.2 hk)
    rw [hasAt_enc hE fA hk, hasAt_enc hE fB hk] at h2
    simpa using h2
end Go.Proofs.YtcmceeihdhcmnaaGreatDoor
