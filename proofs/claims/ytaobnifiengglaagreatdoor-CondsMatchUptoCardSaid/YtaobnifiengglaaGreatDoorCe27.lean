/- Plain law: the reference's words of a condition's text, its reading as it runs, and the program's states that fit it. Plain law: the program's and the reference's reading of a condition answer alike. Plain law: the program's reading of a condition and the reference's go alike. -/
import Derived.Test.YtaobnifiengglaaGreatDoorCe24

namespace Go.Proofs.YtaobnifiengglaaGreatDoor

/-! ### Words -/
/-- a word: its text, kind, place and value -/
structure Wd where
  t : ByteArray
  k : UInt8
  a : Nat
  v : ByteArray
abbrev zeroW : Wd := ⟨⟨#[]⟩, 0, 0, ⟨#[]⟩⟩
def kindW (k : Int) (t : ByteArray) : UInt8 := if k = 3 then t.data.toList.headD 0 else if k = 2 then 113 else 119
/-- a token of the program as a word -/
def wdOf (k : Int) (a : Nat) (t : ByteArray) : Wd := if k = 2 then ⟨⟨#[]⟩, 113, a, t⟩ else ⟨t, kindW k t, a, ⟨#[]⟩⟩
def endW (s : ByteArray) : Wd := ⟨⟨#[]⟩, 101, s.size, ⟨#[]⟩⟩
def badW (a : Nat) : Wd := ⟨⟨#[]⟩, 33, a, ⟨#[]⟩⟩
abbrev at0 (i : Nat) : St := ⟨i, 0, 0, ⟨#[]⟩, -1⟩
/-- the words from a place on -/
def wordsT (s : ByteArray) (i : Nat) : List Wd :=
  if _h0 : (advF s (at0 i)).k = 0 then [endW s]
  else if _h4 : (advF s (at0 i)).k = 4 then [badW (advF s (at0 i)).a, endW s]
  else if _hp : (advF s (at0 i)).p ≤ s.size then wdOf (advF s (at0 i)).k (advF s (at0 i)).a (advF s (at0 i)).t :: wordsT s (advF s (at0 i)).p
  else []
  termination_by s.size - i
  decreasing_by
    have := advF_lt _h0 _h4
    dsimp only at this
    omega
theorem tokF_same (s : ByteArray) (σ τ : St) (i : Nat) : (tokF s σ i).k = (tokF s τ i).k ∧ (tokF s σ i).a = (tokF s τ i).a ∧ (tokF s σ i).t = (tokF s τ i).t ∧ (tokF s σ i).p = (tokF s τ i).p := by
  unfold tokF
  repeat' split
  all_goals exact ⟨rfl, rfl, rfl, rfl⟩
theorem wordsT_eq (s : ByteArray) (i : Nat) : wordsT s i = (fun T : St => if T.k = 0 then [endW s] else if T.k = 4 then [badW T.a, endW s] else if T.p ≤ s.size then wdOf T.k T.a T.t :: wordsT s T.p else []) (advF s (at0 i)) := by
  rw [wordsT]
  simp only [dite_eq_ite]
/-- the words from a place on, by the byte that stands there -/
theorem words_end {s : ByteArray} {i : Nat} (h : s.size ≤ i) : wordsT s i = [endW s] := by
  have e : (advF s (at0 i)).k = 0 := by
    unfold advF
    rw [show (at0 i).p = i from rfl, runN_out blankB s h, tokF, dif_neg (Nat.not_lt.2 h)]
  rw [wordsT_eq]
  exact if_pos e
theorem adv_blank {s : ByteArray} {i : Nat} (h : i < s.size) (hb : blankB s[i] = true) : advF s (at0 i) = advF s (at0 (i + 1)) := by
  unfold advF
  rw [show (at0 i).p = i from rfl, show (at0 (i + 1)).p = i + 1 from rfl, runN_yes blankB s h hb]
  unfold tokF
  rfl
theorem words_blank {s : ByteArray} {i : Nat} (h : i < s.size) (hb : blankB s[i] = true) : wordsT s i = wordsT s (i + 1) := by
  have e := adv_blank h hb
  rw [wordsT_eq, wordsT_eq s (i + 1), e]
theorem adv_here {s : ByteArray} {i : Nat} (h : i < s.size) (hb : blankB s[i] = false) : advF s (at0 i) = tokF s (at0 i) i := by
  unfold advF
  rw [show (at0 i).p = i from rfl, runN_no blankB s h hb]
theorem words_sign {s : ByteArray} {i : Nat} (h : i < s.size) (hb : blankB s[i] = false) (hs : signB s[i] = true) : wordsT s i = ⟨⟨#[s[i]]⟩, s[i], i, ⟨#[]⟩⟩ :: wordsT s (i + 1) := by
  have e : advF s (at0 i) = ⟨i + 1, 3, i, ⟨#[s[i]]⟩, -1⟩ := by rw [adv_here h hb, tokF, dif_pos h, if_pos hs]
  rw [wordsT_eq, e]
  dsimp only
  rw [if_neg (by decide), if_neg (by decide), if_pos (show i + 1 ≤ s.size from h)]
  rfl
theorem words_quote {s : ByteArray} {i : Nat} (h : i < s.size) (hb : blankB s[i] = false) (hs : ¬ signB s[i] = true) (hq : s[i] = 34) (ho : (qat (bs s) i).2.2 = true) :
    wordsT s i = ⟨⟨#[]⟩, 113, i, ⟨(qat (bs s) i).1.toArray⟩⟩ :: wordsT s (qat (bs s) i).2.1 := by
  have e : advF s (at0 i) = ⟨(qat (bs s) i).2.1, 2, i, ⟨(qat (bs s) i).1.toArray⟩, -1⟩ := by rw [adv_here h hb, tokF, dif_pos h, if_neg hs, if_pos hq, if_pos ho]
  rw [wordsT_eq, e]
  dsimp only
  rw [if_neg (by decide), if_neg (by decide), if_pos (show (qat (bs s) i).2.1 ≤ s.size from (qat_le s i).1)]
  rfl
theorem words_broken {s : ByteArray} {i : Nat} (h : i < s.size) (hb : blankB s[i] = false) (hs : ¬ signB s[i] = true) (hq : s[i] = 34) (ho : ¬ (qat (bs s) i).2.2 = true) : wordsT s i = [badW i, endW s] := by
  have e : advF s (at0 i) = ⟨i, 4, i, ⟨#[]⟩, -1⟩ := by rw [adv_here h hb, tokF, dif_pos h, if_neg hs, if_pos hq, if_neg ho]
  rw [wordsT_eq, e]
  dsimp only
  rw [if_neg (by decide), if_pos rfl]
theorem words_word {s : ByteArray} {i : Nat} (h : i < s.size) (hb : blankB s[i] = false) (hs : ¬ signB s[i] = true) (hq : ¬ s[i] = 34) :
    wordsT s i = ⟨s.extract i (i + runN tokB ((bs s).drop i)), 119, i, ⟨#[]⟩⟩ :: wordsT s (i + runN tokB ((bs s).drop i)) := by
  have e : advF s (at0 i) = ⟨i + runN tokB ((bs s).drop i), 1, i, s.extract i (i + runN tokB ((bs s).drop i)), -1⟩ := by rw [adv_here h hb, tokF, dif_pos h, if_neg hs, if_neg hq]
  rw [wordsT_eq, e]
  dsimp only
  rw [if_neg (by decide), if_neg (by decide), if_pos (show i + runN tokB ((bs s).drop i) ≤ s.size from run_le tokB s (Nat.le_of_lt h))]
  rfl
/-! ### The reference's reading, as it runs -/
structure Rs where
  l : List Wd
  bad : Int
def Rs.hd (τ : Rs) : Wd := τ.l.headD zeroW
def isR (τ : Rs) (k : UInt8) (t : Str) : Bool := decide (τ.bad < 0) && decide (τ.hd.k = k) && (decide (t = []) || decide (bs τ.hd.t = t))
def nextR (τ : Rs) (k : UInt8) (t : Str) : Wd × Rs :=
  if ¬ τ.bad < 0 then (zeroW, τ)
  else if τ.hd.k ≠ k ∨ (t ≠ [] ∧ bs τ.hd.t ≠ t) then (zeroW, ⟨τ.l, τ.hd.a⟩)
  else (τ.hd, if τ.hd.k ≠ 101 then ⟨τ.l.tail, τ.bad⟩ else τ)
section
variable (f : Rs → Cd × Rs)
def loopR (word : Str) : Nat → Bool → Rs → List Cd → List Cd × Rs
  | 0, _, τ, l => (l, τ)
  | m + 1, more, τ, l =>
    if ¬ τ.bad < 0 then (l, τ)
    else if more = true ∧ isR τ 41 [] = true then (l, (nextR τ 41 []).2)
    else loopR word m true (f (nextR τ 119 word).2).2 (l ++ [(f (nextR τ 119 word).2).1])
/-- how much a loop can have -/
def leftR (τ : Rs) : Nat := if τ.bad < 0 then τ.l.length + 1 else 0
def headR (kind : Int) (τ : Rs) : Cd × Rs :=
  if isR τ 41 [] = true then (.mk kind ⟨#[]⟩ ⟨#[]⟩ [], (nextR τ 41 []).2)
  else (.mk kind ⟨#[]⟩ ⟨#[]⟩ [(f τ).1], (nextR (f τ).2 41 []).2)
def tailR (c : Cd) (τ : Rs) : Cd × Rs :=
  if isR τ 119 wOr = true then (.mk 8 ⟨#[]⟩ ⟨#[]⟩ (loopR f wOr (leftR τ) false τ [c]).1, (loopR f wOr (leftR τ) false τ [c]).2)
  else (.mk 7 ⟨#[]⟩ ⟨#[]⟩ (loopR f wAnd (leftR τ) false τ [c]).1, (loopR f wAnd (leftR τ) false τ [c]).2)
def groupR (τ : Rs) : Cd × Rs :=
  if isR (nextR τ 40 []).2 119 wAnd = true then headR f 7 (nextR (nextR τ 40 []).2 119 wAnd).2
  else if isR (nextR τ 40 []).2 119 wOr = true then headR f 8 (nextR (nextR τ 40 []).2 119 wOr).2
  else tailR f (f (nextR τ 40 []).2).1 (f (nextR τ 40 []).2).2
end
def pairR (τ : Rs) (kind : Int) (mid : UInt8) (midT : Str) : Cd × Rs :=
  (.mk kind (nextR τ 119 []).1.t (nextR (nextR (nextR τ 119 []).2 mid midT).2 113 []).1.v [], (nextR (nextR (nextR τ 119 []).2 mid midT).2 113 []).2)
def condR (f : Option (Rs → Cd × Rs)) (τ : Rs) : Cd × Rs :=
  match f with
  | none =>
    if isR τ 40 [] = true ∨ isR τ 119 wNot = true then (zeroC, ⟨τ.l, τ.hd.a⟩) else restR none τ
  | some f => if isR τ 40 [] = true then groupR f τ else restR (some f) τ
where
  restR (f : Option (Rs → Cd × Rs)) (τ : Rs) : Cd × Rs :=
    if isR τ 119 wAlways = true then (.mk 1 ⟨#[]⟩ ⟨#[]⟩ [], (nextR τ 119 wAlways).2)
    else if isR τ 119 wFact = true then pairR (nextR τ 119 wFact).2 2 61 []
    else if isR τ 119 wSetting = true then pairR (nextR τ 119 wSetting).2 3 61 []
    else if isR τ 119 wHas = true then (.mk 4 (nextR (nextR τ 119 wHas).2 119 []).1.t ⟨#[]⟩ [], (nextR (nextR τ 119 wHas).2 119 []).2)
    else if isR τ 119 wVersion = true then pairR (nextR τ 119 wVersion).2 5 119 wIn
    else if isR τ 119 wNot = true then (match f with
      | none => (zeroC, τ)
      | some f => (.mk 6 ⟨#[]⟩ ⟨#[]⟩ [(f (nextR τ 119 wNot).2).1], (f (nextR τ 119 wNot).2).2))
    else (zeroC, if τ.bad < 0 then ⟨τ.l, τ.hd.a⟩ else τ)
def condRF : Nat → Rs → Cd × Rs
  | 0 => condR none
  | n + 1 => condR (some (condRF n))
end Go.Proofs.YtaobnifiengglaaGreatDoor

namespace Go.Proofs.YtaobnifiengglaaGreatDoor

/-! ### The reference's reading goes on -/
def LastE (W : List Wd) : Prop := ∃ P e, W = P ++ [e] ∧ e.k = 101
def SufR (W : List Wd) (τ : Rs) : Prop := ∃ j, j < W.length ∧ τ.l = W.drop j
structure OnR (W : List Wd) (τ υ : Rs) : Prop where
  suf : SufR W τ → SufR W υ
  len : υ.l.length ≤ τ.l.length
  bad : ¬ τ.bad < 0 → υ.bad = τ.bad
theorem OnR.refl (W : List Wd) (τ : Rs) : OnR W τ τ := ⟨id, Nat.le_refl _, fun _ => rfl⟩
theorem OnR.trans {W : List Wd} {a b c : Rs} (h : OnR W a b) (k : OnR W b c) : OnR W a c :=
  ⟨fun x => k.suf (h.suf x), Nat.le_trans k.len h.len, fun x => by rw [k.bad (by rw [h.bad x]; exact x), h.bad x]⟩
section
variable {W : List Wd} (hW : LastE W)
include hW
theorem suf_tail {τ : Rs} {b : Int} (h : SufR W τ) (hk : τ.hd.k ≠ 101) : SufR W ⟨τ.l.tail, b⟩ := by
  obtain ⟨P, e, rfl, he⟩ := hW
  obtain ⟨j, hj, hl⟩ := h
  refine ⟨j + 1, ?_, by rw [hl, List.tail_drop]⟩
  apply Classical.byContradiction
  intro hn
  have hjp : j = P.length := by simp at hj hn; omega
  subst hjp
  apply hk
  unfold Rs.hd
  rw [hl, List.drop_left]
  exact he
theorem nextR_on (τ : Rs) (k : UInt8) (t : Str) : OnR W τ (nextR τ k t).2 := by
  unfold nextR
  by_cases h1 : ¬ τ.bad < 0
  · rw [if_pos h1]; exact OnR.refl _ _
  rw [if_neg h1]
  have h1 := Classical.not_not.1 h1
  by_cases h2 : τ.hd.k ≠ k ∨ (t ≠ [] ∧ bs τ.hd.t ≠ t)
  · rw [if_pos h2]
    exact ⟨id, Nat.le_refl _, fun x => absurd h1 x⟩
  rw [if_neg h2]
  by_cases h3 : τ.hd.k ≠ 101
  · show OnR W τ (if τ.hd.k ≠ 101 then ⟨τ.l.tail, τ.bad⟩ else τ)
    rw [if_pos h3]
    exact ⟨fun h => suf_tail hW h h3, by simp, fun x => absurd h1 x⟩
  · show OnR W τ (if τ.hd.k ≠ 101 then ⟨τ.l.tail, τ.bad⟩ else τ)
    rw [if_neg h3]
    exact OnR.refl _ _
theorem loopR_on {f : Rs → Cd × Rs} (hf : ∀ τ, OnR W τ (f τ).2) (word : Str) : ∀ m b τ l, OnR W τ (loopR f word m b τ l).2
  | 0, _, τ, _ => OnR.refl W τ
  | m + 1, b, τ, l => by
    rw [loopR]
    split
    · exact OnR.refl W τ
    · split
      · exact nextR_on hW τ _ _
      · exact ((nextR_on hW τ _ _).trans (hf _)).trans (loopR_on hf word m _ _ _)
theorem headR_on {f : Rs → Cd × Rs} (hf : ∀ τ, OnR W τ (f τ).2) (kind : Int) (τ : Rs) : OnR W τ (headR f kind τ).2 := by
  unfold headR
  split
  · exact nextR_on hW τ _ _
  · exact (hf τ).trans (nextR_on hW _ _ _)
theorem tailR_on {f : Rs → Cd × Rs} (hf : ∀ τ, OnR W τ (f τ).2) (c : Cd) (τ : Rs) : OnR W τ (tailR f c τ).2 := by
  unfold tailR
  split
  · exact loopR_on hW hf _ _ _ _ _
  · exact loopR_on hW hf _ _ _ _ _
theorem groupR_on {f : Rs → Cd × Rs} (hf : ∀ τ, OnR W τ (f τ).2) (τ : Rs) : OnR W τ (groupR f τ).2 := by
  unfold groupR
  have h1 := nextR_on hW τ 40 []
  split
  · exact (h1.trans (nextR_on hW _ _ _)).trans (headR_on hW hf _ _)
  · split
    · exact (h1.trans (nextR_on hW _ _ _)).trans (headR_on hW hf _ _)
    · exact (h1.trans (hf _)).trans (tailR_on hW hf _ _)
theorem pairR_on (τ : Rs) (kind : Int) (mid : UInt8) (t : Str) : OnR W τ (pairR τ kind mid t).2 := ((nextR_on hW τ _ _).trans (nextR_on hW _ _ _)).trans (nextR_on hW _ _ _)
theorem restR_on {f : Option (Rs → Cd × Rs)} (hf : ∀ g, f = some g → ∀ τ, OnR W τ (g τ).2) (τ : Rs) : OnR W τ (condR.restR f τ).2 := by
  unfold condR.restR
  split
  · exact nextR_on hW τ _ _
  split
  · exact (nextR_on hW τ _ _).trans (pairR_on hW _ _ _ _)
  split
  · exact (nextR_on hW τ _ _).trans (pairR_on hW _ _ _ _)
  split
  · exact (nextR_on hW τ _ _).trans (nextR_on hW _ _ _)
  split
  · exact (nextR_on hW τ _ _).trans (pairR_on hW _ _ _ _)
  split
  · cases f with
    | none => exact OnR.refl W τ
    | some g => exact (nextR_on hW τ _ _).trans (hf g rfl _)
  · by_cases hb : τ.bad < 0
    · show OnR W τ (if τ.bad < 0 then ⟨τ.l, τ.hd.a⟩ else τ)
      rw [if_pos hb]
      exact ⟨id, Nat.le_refl _, fun x => absurd hb x⟩
    · show OnR W τ (if τ.bad < 0 then ⟨τ.l, τ.hd.a⟩ else τ)
      rw [if_neg hb]; exact OnR.refl W τ
omit hW in
theorem isR_bad {τ : Rs} {k : UInt8} {t : Str} (h : isR τ k t = true) : τ.bad < 0 := by
  unfold isR at h
  simp only [Bool.and_eq_true, decide_eq_true_eq] at h
  exact h.1.1
theorem condR_on {f : Option (Rs → Cd × Rs)} (hf : ∀ g, f = some g → ∀ τ, OnR W τ (g τ).2) (τ : Rs) : OnR W τ (condR f τ).2 := by
  unfold condR
  cases f with
  | none =>
    dsimp only
    split
    · rename_i h
      have hb : τ.bad < 0 := h.elim isR_bad isR_bad
      exact ⟨id, Nat.le_refl _, fun x => absurd hb x⟩
    · exact restR_on hW hf τ
  | some g =>
    dsimp only
    split
    · exact groupR_on hW (hf g rfl) τ
    · exact restR_on hW hf τ
theorem condRF_on : ∀ n (τ : Rs), OnR W τ (condRF n τ).2
  | 0, τ => condR_on hW (fun _ h => by cases h) τ
  | n + 1, τ => condR_on hW (fun g h => by cases h; exact condRF_on n) τ
end
theorem isR_no {τ : Rs} (h : ¬ τ.bad < 0) (k : UInt8) (t : Str) : isR τ k t = false := by
  cases hi : isR τ k t
  · rfl
  · exact absurd (isR_bad hi) h
theorem nextR_bad {τ : Rs} (h : ¬ τ.bad < 0) (k : UInt8) (t : Str) : nextR τ k t = (zeroW, τ) := by unfold nextR; rw [if_pos h]
theorem condR_bad {τ : Rs} (h : ¬ τ.bad < 0) (f : Option (Rs → Cd × Rs)) : condR f τ = (zeroC, τ) := by
  have hr : ∀ f, condR.restR f τ = (zeroC, τ) := fun f => by
    unfold condR.restR
    simp only [isR_no h, Bool.false_eq_true, if_false, if_neg h]
  unfold condR
  cases f with
  | none => simp only [isR_no h, Bool.false_eq_true, or_self, if_false, hr]
  | some g => simp only [isR_no h, Bool.false_eq_true, if_false, hr]
theorem condRF_bad {τ : Rs} (h : ¬ τ.bad < 0) (n : Nat) : condRF n τ = (zeroC, τ) := by
  cases n <;> exact condR_bad h _
/-- the loop's measure -/
theorem leftR_lt {n : Nat} {τ : Rs} {word : Str} (hb : τ.bad < 0) : leftR (condRF n (nextR τ 119 word).2).2 < leftR τ := by
  unfold leftR
  rw [if_pos hb]
  split
  · rename_i h2
    have hl : ∀ υ : Rs, (condRF n υ).2.l.length ≤ υ.l.length := fun υ => (condRF_on (W := [⟨⟨#[]⟩, 101, 0, ⟨#[]⟩⟩]) ⟨[], _, rfl, rfl⟩ n υ).len
    have h3 := hl (nextR τ 119 word).2
    have h4 : (nextR τ 119 word).2.bad < 0 := by
      apply Classical.byContradiction
      intro hn
      rw [condRF_bad hn] at h2
      exact hn h2
    have hm : ¬ (τ.hd.k ≠ 119 ∨ (word ≠ [] ∧ bs τ.hd.t ≠ word)) := by
      intro hm
      unfold nextR at h4
      rw [if_neg (fun h => h hb), if_pos hm] at h4
      exact absurd h4 (by show ¬ (τ.hd.a : Int) < 0; omega)
    have hk : τ.hd.k = 119 := Classical.byContradiction fun e => hm (.inl e)
    have hne : τ.l ≠ [] := by
      intro e
      unfold Rs.hd at hk
      rw [e] at hk
      exact absurd hk (by decide)
    have hnx : (nextR τ 119 word).2 = ⟨τ.l.tail, τ.bad⟩ := by
      unfold nextR
      rw [if_neg (fun h => h hb), if_neg hm]
      exact if_pos (by rw [hk]; decide)
    rw [hnx] at h3 ⊢
    have h5 : (⟨τ.l.tail, τ.bad⟩ : Rs).l.length = τ.l.length - 1 := by simp
    have := List.length_pos_iff.2 hne
    omega
  · omega
theorem loopR_succ (f : Rs → Cd × Rs) (word : Str) (m : Nat) (more : Bool) (τ : Rs) (l : List Cd) : loopR f word (m + 1) more τ l = if ¬ τ.bad < 0 then (l, τ)
    else if more = true ∧ isR τ 41 [] = true then (l, (nextR τ 41 []).2)
    else loopR f word m true (f (nextR τ 119 word).2).2 (l ++ [(f (nextR τ 119 word).2).1]) := rfl
theorem loopR_more {n : Nat} {word : Str} : ∀ m b τ l, leftR τ ≤ m → loopR (condRF n) word m b τ l = loopR (condRF n) word (leftR τ) b τ l
  | 0, _, τ, _, h => by rw [show leftR τ = 0 by omega]
  | m + 1, b, τ, l, h => by
    by_cases hb : τ.bad < 0
    · have h1 := leftR_lt (n := n) (word := word) hb
      obtain ⟨k, hk⟩ : ∃ k, leftR τ = k + 1 := ⟨leftR τ - 1, by omega⟩
      have hn : ¬ ¬ τ.bad < 0 := fun h => h hb
      rw [hk, loopR_succ, loopR_succ _ _ k, if_neg hn, if_neg hn]
      split
      · rfl
      · rw [loopR_more m true _ _ (by omega)]
        by_cases hkm : k = m
        · subst hkm; rw [loopR_more k true _ _ (by omega)]
        · rw [loopR_more k true _ _ (by omega)]
    · have hz : leftR τ = 0 := by unfold leftR; rw [if_neg hb]
      rw [hz, loopR, loopR, if_pos hb]
theorem loopR_bad {n : Nat} {word : Str} {τ : Rs} {b : Bool} {l : List Cd} (hb : ¬ τ.bad < 0) : loopR (condRF n) word (leftR τ) b τ l = (l, τ) := by
  have hz : leftR τ = 0 := by unfold leftR; rw [if_neg hb]
  rw [hz, loopR]
theorem loopR_stop {n : Nat} {word : Str} {τ : Rs} {l : List Cd} (hb : τ.bad < 0) (hi : isR τ 41 [] = true) : loopR (condRF n) word (leftR τ) true τ l = (l, (nextR τ 41 []).2) := by
  obtain ⟨k, hk⟩ : ∃ k, leftR τ = k + 1 := ⟨τ.l.length, by unfold leftR; rw [if_pos hb]⟩
  rw [hk, loopR, if_neg (fun h => h hb), if_pos ⟨rfl, hi⟩]
theorem loopR_step {n : Nat} {word : Str} {τ : Rs} {b : Bool} {l : List Cd} (hb : τ.bad < 0) (hi : b = false ∨ isR τ 41 [] = false) :
    loopR (condRF n) word (leftR τ) b τ l = loopR (condRF n) word (leftR (condRF n (nextR τ 119 word).2).2) true (condRF n (nextR τ 119 word).2).2 (l ++ [(condRF n (nextR τ 119 word).2).1]) := by
  have h1 := leftR_lt (n := n) (word := word) hb
  obtain ⟨k, hk⟩ : ∃ k, leftR τ = k + 1 := ⟨leftR τ - 1, by omega⟩
  rw [hk, loopR, if_neg (fun h => h hb), if_neg (by rintro ⟨rfl, h⟩; rcases hi with hi | hi; exact absurd hi (by decide); rw [hi] at h; exact absurd h (by decide)), loopR_more k true _ _ (by omega)]
end Go.Proofs.YtaobnifiengglaaGreatDoor

namespace Go.Proofs.YtaobnifiengglaaGreatDoor

/-- two states that fit: the same error, or the same words ahead -/
def Sim (s : ByteArray) (σ : St) (τ : Rs) : Prop :=
  (σ.wr < 0 ∧ τ.bad < 0 ∧ ∃ i, i ≤ s.size ∧ (σ.k = (advF s (at0 i)).k ∧ σ.a = (advF s (at0 i)).a ∧ σ.t = (advF s (at0 i)).t ∧ σ.p = (advF s (at0 i)).p) ∧ τ.l = wordsT s i) ∨ (¬ σ.wr < 0 ∧ τ.bad = σ.wr)
def SimC (s : ByteArray) (r : Cd × St) (q : Cd × Rs) : Prop := Sim s r.2 q.2 ∧ (r.2.wr < 0 → r.1 = q.1)
/-- what the program asks of a token, and the reference of a word -/
def Fit (k : Int) (t : Str) (kind : UInt8) (t' : Str) : Prop := (k = 1 ∧ kind = 119 ∧ t = t') ∨ (k = 2 ∧ kind = 113 ∧ t = [] ∧ t' = []) ∨ (k = 3 ∧ t = [kind] ∧ t' = [] ∧ signB kind = true)
theorem fit_word (t : Str) : Fit 1 t 119 t := .inl ⟨rfl, rfl, rfl⟩
theorem fit_text : Fit 2 [] 113 [] := .inr (.inl ⟨rfl, rfl, rfl, rfl⟩)
theorem fit_sign {c : UInt8} (h : signB c = true) : Fit 3 [c] c [] := .inr (.inr ⟨rfl, rfl, rfl, h⟩)
section
variable {s : ByteArray}
/-- a token and its word -/
theorem tok_word {i : Nat} (hi : i ≤ s.size) : ∃ (d : Wd) (r : List Wd), wordsT s i = d :: r ∧ d.a = (advF s (at0 i)).a ∧
    (∀ k t kind t', Fit k t kind t' → (((advF s (at0 i)).k = k ∧ (t ≠ [] → bs (advF s (at0 i)).t = t)) ↔ (d.k = kind ∧ (t' ≠ [] → bs d.t = t')))) ∧
    (d.k = 119 → d.t = (advF s (at0 i)).t) ∧ (d.k = 113 → d.v = (advF s (at0 i)).t) ∧
    ((advF s (at0 i)).k ≠ 0 → (advF s (at0 i)).k ≠ 4 → d.k ≠ 101 ∧ r = wordsT s (advF s (at0 i)).p ∧ (advF s (at0 i)).p ≤ s.size) := by
  have hE : i + runN blankB ((bs s).drop i) ≤ s.size := run_le blankB s hi
  have hst : ∀ h : i + runN blankB ((bs s).drop i) < s.size, blankB s[i + runN blankB ((bs s).drop i)] = false := fun h => run_stop blankB s _ _ rfl h
  have hadv : advF s (at0 i) = tokF s (at0 i) (i + runN blankB ((bs s).drop i)) := rfl
  have hw : wordsT s i = wordsT s (i + runN blankB ((bs s).drop i)) := by
    have : ∀ m i, runN blankB ((bs s).drop i) = m → wordsT s i = wordsT s (i + m) := by
      intro m
      induction m with
      | zero => intro i _; rfl
      | succ m ih =>
        intro i hm
        by_cases hlt : i < s.size
        · cases hb : blankB s[i]
          · have := runN_no blankB s hlt hb; omega
          · have h1 := runN_yes blankB s hlt hb
            rw [words_blank hlt hb, ih (i + 1) (by omega)]
            congr 1; omega
        · have := runN_out blankB s (Nat.le_of_not_lt hlt); omega
    exact this _ i rfl
  rw [hw, hadv]
  generalize i + runN blankB ((bs s).drop i) = j at *
  by_cases hj : j < s.size
  · have hb := hst hj
    by_cases hs : signB s[j] = true
    · have e : tokF s (at0 i) j = ⟨j + 1, 3, j, ⟨#[s[j]]⟩, -1⟩ := by rw [tokF, dif_pos hj, if_pos hs]
      rw [words_sign hj hb hs, e]
      have hne : s[j] ≠ 119 ∧ s[j] ≠ 113 ∧ s[j] ≠ 101 := by
        refine ⟨?_, ?_, ?_⟩ <;> (intro e; rw [e] at hs; exact absurd hs (by first | decide | (dsimp only [badW, endW]; decide) | simp [badW, endW, signB]))
      refine ⟨_, _, rfl, rfl, ?_, fun h => absurd h hne.1, fun h => absurd h hne.2.1, fun _ _ => ⟨hne.2.2, rfl, hj⟩⟩
      rintro k t kind t' (⟨rfl, rfl, rfl⟩ | ⟨rfl, rfl, rfl, rfl⟩ | ⟨rfl, rfl, rfl, hk⟩)
      · constructor
        · rintro ⟨h, _⟩; exact absurd h (by first | decide | (dsimp only [badW, endW]; decide) | simp [badW, endW, signB])
        · rintro ⟨h, _⟩; exact absurd h hne.1
      · constructor
        · rintro ⟨h, _⟩; exact absurd h (by first | decide | (dsimp only [badW, endW]; decide) | simp [badW, endW, signB])
        · rintro ⟨h, _⟩; exact absurd h hne.2.1
      · constructor
        · rintro ⟨_, h⟩
          have h2 : [s[j]] = [kind] := h (by simp)
          exact ⟨(List.cons.inj h2).1, fun h => absurd rfl h⟩
        · rintro ⟨h, _⟩
          exact ⟨rfl, fun _ => by rw [← h]⟩
    · by_cases hq : s[j] = 34
      · by_cases ho : (qat (bs s) j).2.2 = true
        · have e : tokF s (at0 i) j = ⟨(qat (bs s) j).2.1, 2, j, ⟨(qat (bs s) j).1.toArray⟩, -1⟩ := by rw [tokF, dif_pos hj, if_neg hs, if_pos hq, if_pos ho]
          rw [words_quote hj hb hs hq ho, e]
          refine ⟨_, _, rfl, rfl, ?_, fun h => absurd h (by first | decide | (dsimp only [badW, endW]; decide) | simp [badW, endW, signB]), fun _ => rfl, fun _ _ => ⟨by first | decide | (dsimp only; decide) | simp, rfl, (qat_le s j).1⟩⟩
          rintro k t kind t' (⟨rfl, rfl, rfl⟩ | ⟨rfl, rfl, rfl, rfl⟩ | ⟨rfl, rfl, rfl, hk⟩)
          · constructor
            · rintro ⟨h, _⟩; exact absurd h (by first | decide | (dsimp only [badW, endW]; decide) | simp [badW, endW, signB])
            · rintro ⟨h, _⟩; exact absurd h (by first | decide | (dsimp only [badW, endW]; decide) | simp [badW, endW, signB])
          · exact ⟨fun _ => ⟨rfl, fun h => absurd rfl h⟩, fun _ => ⟨rfl, fun h => absurd rfl h⟩⟩
          · constructor
            · rintro ⟨h, _⟩; exact absurd h (by first | decide | (dsimp only [badW, endW]; decide) | simp [badW, endW, signB])
            · rintro ⟨h, _⟩; rw [← h] at hk; exact absurd hk (by first | decide | (dsimp only [badW, endW]; decide) | simp [badW, endW, signB])
        · have e : tokF s (at0 i) j = ⟨j, 4, j, ⟨#[]⟩, -1⟩ := by rw [tokF, dif_pos hj, if_neg hs, if_pos hq, if_neg ho]
          rw [words_broken hj hb hs hq ho, e]
          refine ⟨_, _, rfl, rfl, ?_, fun h => absurd h (by first | decide | (dsimp only [badW, endW]; decide) | simp [badW, endW, signB]), fun h => absurd h (by first | decide | (dsimp only [badW, endW]; decide) | simp [badW, endW, signB]), fun _ h => absurd rfl h⟩
          rintro k t kind t' (⟨rfl, rfl, rfl⟩ | ⟨rfl, rfl, rfl, rfl⟩ | ⟨rfl, rfl, rfl, hk⟩)
          · constructor
            · rintro ⟨h, _⟩; exact absurd h (by first | decide | (dsimp only [badW, endW]; decide) | simp [badW, endW, signB])
            · rintro ⟨h, _⟩; exact absurd h (by first | decide | (dsimp only [badW, endW]; decide) | simp [badW, endW, signB])
          · constructor
            · rintro ⟨h, _⟩; exact absurd h (by first | decide | (dsimp only [badW, endW]; decide) | simp [badW, endW, signB])
            · rintro ⟨h, _⟩; exact absurd h (by first | decide | (dsimp only [badW, endW]; decide) | simp [badW, endW, signB])
          · constructor
            · rintro ⟨h, _⟩; exact absurd h (by first | decide | (dsimp only [badW, endW]; decide) | simp [badW, endW, signB])
            · rintro ⟨h, _⟩; rw [← h] at hk; exact absurd hk (by first | decide | (dsimp only [badW, endW]; decide) | simp [badW, endW, signB])
      · have e : tokF s (at0 i) j = ⟨j + runN tokB ((bs s).drop j), 1, j, s.extract j (j + runN tokB ((bs s).drop j)), -1⟩ := by rw [tokF, dif_pos hj, if_neg hs, if_neg hq]
        rw [words_word hj hb hs hq, e]
        refine ⟨_, _, rfl, rfl, ?_, fun _ => rfl, fun h => absurd h (by first | decide | (dsimp only [badW, endW]; decide) | simp [badW, endW, signB]), fun _ _ => ⟨by first | decide | (dsimp only; decide) | simp, rfl, run_le tokB s (Nat.le_of_lt hj)⟩⟩
        rintro k t kind t' (⟨rfl, rfl, rfl⟩ | ⟨rfl, rfl, rfl, rfl⟩ | ⟨rfl, rfl, rfl, hk⟩)
        · exact ⟨fun h => ⟨rfl, h.2⟩, fun h => ⟨rfl, h.2⟩⟩
        · constructor
          · rintro ⟨h, _⟩; exact absurd h (by first | decide | (dsimp only [badW, endW]; decide) | simp [badW, endW, signB])
          · rintro ⟨h, _⟩; exact absurd h (by first | decide | (dsimp only [badW, endW]; decide) | simp [badW, endW, signB])
        · constructor
          · rintro ⟨h, _⟩; exact absurd h (by first | decide | (dsimp only [badW, endW]; decide) | simp [badW, endW, signB])
          · rintro ⟨h, _⟩; rw [← h] at hk; exact absurd hk (by first | decide | (dsimp only [badW, endW]; decide) | simp [badW, endW, signB])
  · have e : tokF s (at0 i) j = ⟨j, 0, j, ⟨#[]⟩, -1⟩ := by rw [tokF, dif_neg hj]
    rw [words_end (Nat.le_of_not_lt hj), e]
    refine ⟨_, _, rfl, by show s.size = j; omega, ?_, fun h => absurd h (by first | decide | (dsimp only [badW, endW]; decide) | simp [badW, endW, signB]), fun h => absurd h (by first | decide | (dsimp only [badW, endW]; decide) | simp [badW, endW, signB]), fun h _ => absurd rfl h⟩
    rintro k t kind t' (⟨rfl, rfl, rfl⟩ | ⟨rfl, rfl, rfl, rfl⟩ | ⟨rfl, rfl, rfl, hk⟩)
    · constructor
      · rintro ⟨h, _⟩; exact absurd h (by first | decide | (dsimp only [badW, endW]; decide) | simp [badW, endW, signB])
      · rintro ⟨h, _⟩; exact absurd h (by first | decide | (dsimp only [badW, endW]; decide) | simp [badW, endW, signB])
    · constructor
      · rintro ⟨h, _⟩; exact absurd h (by first | decide | (dsimp only [badW, endW]; decide) | simp [badW, endW, signB])
      · rintro ⟨h, _⟩; exact absurd h (by first | decide | (dsimp only [badW, endW]; decide) | simp [badW, endW, signB])
    · constructor
      · rintro ⟨h, _⟩; exact absurd h (by first | decide | (dsimp only [badW, endW]; decide) | simp [badW, endW, signB])
      · rintro ⟨h, _⟩; rw [← h] at hk; exact absurd hk (by first | decide | (dsimp only [badW, endW]; decide) | simp [badW, endW, signB])
theorem Sim.neg {σ : St} {τ : Rs} (h : Sim s σ τ) : σ.wr < 0 ↔ τ.bad < 0 := by
  rcases h with ⟨h1, h2, _⟩ | ⟨h1, h2⟩
  · exact ⟨fun _ => h2, fun _ => h1⟩
  · rw [h2]
theorem Sim.err {σ : St} {τ : Rs} (h : ¬ σ.wr < 0) (e : τ.bad = σ.wr) : Sim s σ τ := .inr ⟨h, e⟩
/-- 'is' -/
theorem is_sim {σ : St} {τ : Rs} (h : Sim s σ τ) {k : Int} {t : Str} {kind : UInt8} {t' : Str} (hf : Fit k t kind t') (ht : t ≠ []) : isF σ k t = isR τ kind t' := by
  rcases h with ⟨h1, h2, i, hi, ⟨ek, ea, et, ep⟩, hl⟩ | ⟨h1, h2⟩
  · obtain ⟨d, r, hw, _, hm, _⟩ := tok_word hi
    have hm := hm k t kind t' hf
    rw [← ek, ← et] at hm
    have hhd : τ.hd = d := by unfold Rs.hd; rw [hl, hw]; rfl
    unfold isF isR
    rw [hhd, decide_eq_true h1, decide_eq_true h2]
    rw [Bool.eq_iff_iff]
    simp only [Bool.true_and, Bool.and_eq_true, Bool.or_eq_true, decide_eq_true_eq]
    constructor
    · rintro ⟨a, b⟩
      obtain ⟨c, e⟩ := hm.1 ⟨a, fun _ => b⟩
      refine ⟨c, ?_⟩
      by_cases hz : t' = []
      · exact .inl hz
      · exact .inr (e hz)
    · rintro ⟨a, b⟩
      obtain ⟨c, e⟩ := hm.2 ⟨a, fun hz => b.elim (fun x => absurd x hz) id⟩
      exact ⟨c, e ht⟩
  · rw [isR_no (by rw [h2]; exact h1)]
    unfold isF
    rw [decide_eq_false h1]
    rfl
/-- 'take' and 'next' -/
theorem take_sim {σ : St} {τ : Rs} (h : Sim s σ τ) {k : Int} {t : Str} {kind : UInt8} {t' : Str} (hf : Fit k t kind t') :
    Sim s (takeF s σ k t).2 (nextR τ kind t').2 ∧ ((takeF s σ k t).2.wr < 0 → (k = 1 → (takeF s σ k t).1 = (nextR τ kind t').1.t) ∧ (k = 2 → (takeF s σ k t).1 = (nextR τ kind t').1.v)) := by
  rcases h with ⟨h1, h2, i, hi, ⟨ek, ea, et, ep⟩, hl⟩ | ⟨h1, h2⟩
  · obtain ⟨d, r, hw, hda, hm, hd1, hd2, hrest⟩ := tok_word hi
    have hm := hm k t kind t' hf
    rw [← ek, ← et] at hm
    rw [← ek, ← ep] at hrest
    rw [← et] at hd1 hd2
    have hhd : τ.hd = d := by unfold Rs.hd; rw [hl, hw]; rfl
    unfold takeF nextR
    have n1 : ¬ ¬ σ.wr < 0 := fun h => h h1
    have n2 : ¬ ¬ τ.bad < 0 := fun h => h h2
    rw [if_neg n1, if_neg n2, hhd]
    clear n1 n2
    by_cases hc : σ.k = k ∧ (t ≠ [] → bs σ.t = t)
    · have hc' := hm.1 hc
      rw [if_neg (by rintro (x | x); exact x hc.1; exact x.2 (hc.2 x.1)), if_neg (by rintro (x | x); exact x hc'.1; exact x.2 (hc'.2 x.1))]
      have hk04 : σ.k ≠ 0 ∧ σ.k ≠ 4 := by
        rw [hc.1]
        rcases hf with ⟨e, _⟩ | ⟨e, _⟩ | ⟨e, _⟩ <;> (rw [e]; decide)
      obtain ⟨g1, g2, g3⟩ := hrest hk04.1 hk04.2
      have g4 : (if d.k ≠ 101 then (⟨τ.l.tail, τ.bad⟩ : Rs) else τ) = ⟨r, τ.bad⟩ := by rw [if_pos g1, hl, hw]; rfl
      dsimp only
      rw [g4]
      refine ⟨.inl ⟨by rw [show (advF s σ).wr = σ.wr from tokF_wr s σ _]; exact h1, h2, σ.p, g3, ?_, g2⟩, fun _ => ⟨fun e => ?_, fun e => ?_⟩⟩
      · exact tokF_same s σ (at0 σ.p) _
      · subst e
        rcases hf with ⟨_, e, _⟩ | ⟨e, _⟩ | ⟨e, _⟩
        · exact (hd1 (hc'.1.trans e)).symm
        · exact absurd e (by decide)
        · exact absurd e (by decide)
      · subst e
        rcases hf with ⟨e, _⟩ | ⟨_, e, _⟩ | ⟨e, _⟩
        · exact absurd e (by decide)
        · exact (hd2 (hc'.1.trans e)).symm
        · exact absurd e (by decide)
    · have hc' := fun x => hc (hm.2 x)
      have n1 : σ.k ≠ k ∨ (t ≠ [] ∧ bs σ.t ≠ t) := by
        by_cases e : σ.k = k
        · refine .inr (Classical.byContradiction fun x => hc ⟨e, fun y => Classical.byContradiction fun z => x ⟨y, z⟩⟩)
        · exact .inl e
      have n2 : d.k ≠ kind ∨ (t' ≠ [] ∧ bs d.t ≠ t') := by
        by_cases e : d.k = kind
        · refine .inr (Classical.byContradiction fun x => hc' ⟨e, fun y => Classical.byContradiction fun z => x ⟨y, z⟩⟩)
        · exact .inl e
      rw [if_pos n1, if_pos n2]
      have hneg : ¬ (σ.a : Int) < 0 := by omega
      exact ⟨.inr ⟨hneg, by show (d.a : Int) = σ.a; rw [hda, ea]⟩, fun h => absurd h hneg⟩
  · have hb : ¬ τ.bad < 0 := by rw [h2]; exact h1
    unfold takeF nextR
    rw [if_pos h1, if_pos hb]
    exact ⟨.inr ⟨h1, h2⟩, fun h => absurd h h1⟩
/-- an advance behind a yes -/
theorem adv_sim {σ : St} {τ : Rs} (h : Sim s σ τ) {w : Str} (hi : isF σ 1 w = true) : Sim s (advF s σ) (nextR τ 119 w).2 := by
  have h1 := (take_sim h (fit_word w)).1
  unfold isF at hi
  simp only [Bool.and_eq_true, decide_eq_true_eq] at hi
  unfold takeF at h1
  rw [if_neg (show ¬ ¬ σ.wr < 0 from fun x => x hi.1.1), if_neg (by rintro (x | x); exact x hi.1.2; exact x.2 hi.2)] at h1
  exact h1
theorem hd_place {σ : St} {τ : Rs} (h : Sim s σ τ) (hw : σ.wr < 0) : τ.hd.a = σ.a := by
  rcases h with ⟨_, _, i, hi, ⟨_, ea, _, _⟩, hl⟩ | ⟨h1, _⟩
  · obtain ⟨d, r, hwd, hda, _⟩ := tok_word hi
    unfold Rs.hd
    rw [hl, hwd, ea, ← hda]
    rfl
  · exact absurd hw h1
theorem fail_sim {σ υ : St} {τ : Rs} (h : Sim s σ τ) (hw : σ.wr < 0) (hu : υ.wr < 0) (l : List Wd) : Sim s (failF υ σ.a) ⟨l, τ.hd.a⟩ := by
  unfold failF
  rw [if_pos hu]
  exact .inr ⟨by show ¬ (σ.a : Int) < 0; omega, by show (τ.hd.a : Int) = σ.a; rw [hd_place h hw]⟩
theorem on_neg {σ υ : St} (h : On s σ υ) (hu : υ.wr < 0) : σ.wr < 0 := Classical.byContradiction fun hn => by rw [h.wr hn] at hu; exact hn hu
theorem pair_sim {σ : St} {τ : Rs} (h : Sim s σ τ) (kind : Int) {mid : Int} {midT : Str} {midK : UInt8} {midR : Str} (hf : Fit mid midT midK midR) : SimC s (pairF s σ kind mid midT) (pairR τ kind midK midR) := by
  obtain ⟨h1, t1⟩ := take_sim h (fit_word [])
  obtain ⟨h2, _⟩ := take_sim h1 hf
  obtain ⟨h3, t3⟩ := take_sim h2 fit_text
  refine ⟨h3, fun hw => ?_⟩
  have w3 : (takeF s (takeF s (takeF s σ 1 []).2 mid midT).2 2 []).2.wr < 0 := hw
  have w2 := on_neg (takeF_on s _ 2 []) w3
  have w1 := on_neg (takeF_on s _ mid midT) w2
  show Cd.mk kind _ _ [] = Cd.mk kind _ _ []
  rw [(t1 w1).1 rfl, (t3 w3).2 rfl]
end
end Go.Proofs.YtaobnifiengglaaGreatDoor
