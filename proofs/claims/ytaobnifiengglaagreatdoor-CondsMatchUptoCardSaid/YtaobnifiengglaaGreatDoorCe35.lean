/- Plain law: the text of a condition, its words. Plain law: a printed condition is read back. Plain law: the words of a right condition are read as that condition. Plain law: a printed condition is read back, whole. Plain law: what is printed of a right condition, is read as that condition. -/
import Derived.Test.YtaobnifiengglaaGreatDoorCe34
import Derived.Test.YtaobnifiengglaaGreatDoorCe28
import Derived.Test.YtaobnifiengglaaGreatDoorCe19
import Derived.Test.YtaobnifiengglaaGreatDoorCe31

namespace Go.Proofs.YtaobnifiengglaaGreatDoor

/-! ### What a name's bytes are -/
theorem wordy {c : UInt8} (h : 48 ≤ c.toNat ∧ c.toNat ≠ 61 ∨ c.toNat = 45 ∨ c.toNat = 46 ∨ c.toNat = 47) : tokB c = true := by
  have e : ∀ n : UInt8, (c == n) = false ↔ c.toNat ≠ n.toNat := fun n => by
    rw [beq_eq_false_iff_ne, ne_eq, ne_eq, UInt8.toNat_inj]
  unfold tokB blankB signB
  rw [(e 32).2 (by show c.toNat ≠ 32; omega), (e 9).2 (by show c.toNat ≠ 9; omega), (e 40).2 (by show c.toNat ≠ 40; omega), (e 41).2 (by show c.toNat ≠ 41; omega), (e 61).2 (by show c.toNat ≠ 61; omega), (e 34).2 (by show c.toNat ≠ 34; omega)]
  rfl
theorem nameB_tok {c : UInt8} (h : nameB c = true) : tokB c = true := by
  unfold nameB smallB digitB at h
  simp only [Bool.or_eq_true, Bool.and_eq_true, decide_eq_true_eq] at h
  exact wordy (by omega)
theorem partB_tok {c : UInt8} (h : partB c = true) : tokB c = true := by
  unfold partB smallB digitB greatB at h
  simp only [Bool.or_eq_true, Bool.and_eq_true, decide_eq_true_eq] at h
  exact wordy (by omega)
theorem name_tok {n : Str} (h : nameL n = true) : n ≠ [] ∧ ∀ c ∈ n, tokB c = true := by
  unfold nameL eachL at h
  simp only [Bool.and_eq_true, decide_eq_true_eq, List.all_eq_true] at h
  exact ⟨fun e => by subst e; simp at h, fun c hc => nameB_tok (h.1.1.1 c hc)⟩
theorem path_tok {n : Str} (h : pathL n = true) : n ≠ [] ∧ ∀ c ∈ n, tokB c = true := by
  unfold pathL at h
  simp only [Bool.and_eq_true, decide_eq_true_eq, List.all_eq_true] at h
  refine ⟨fun e => ?_, fun c hc => ?_⟩
  · subst e
    have := h.1 [] (by decide)
    exact absurd this (by decide)
  · rcases splitC_mem 47 n c hc with rfl | ⟨p, hp, hcp⟩
    · decide
    · have := h.1 p hp
      unfold partL eachL at this
      simp only [Bool.and_eq_true, decide_eq_true_eq, List.all_eq_true] at this
      exact partB_tok (this.1.1.1.1 c hcp)

/-! ### A condition's text and words -/
/-- texts with a word between -/
def joinT (w : Str) : List Str → Str
  | [] => []
  | [a] => a
  | a :: b :: l => a ++ (32 :: (w ++ 32 :: joinT w (b :: l)))
def groupT (w : Str) : List Str → Str
  | [] => 40 :: (w ++ [41])
  | [a] => 40 :: (w ++ (32 :: (a ++ [41])))
  | a :: b :: l => 40 :: (joinT w (a :: b :: l) ++ [41])
mutual
def ctL : Cd → Str
  | .mk k n x l =>
    if k = 1 then wAlways
    else if k = 2 then wFact ++ (32 :: (bs n ++ (32 :: 61 :: 32 :: quoteL (bs x))))
    else if k = 3 then wSetting ++ (32 :: (bs n ++ (32 :: 61 :: 32 :: quoteL (bs x))))
    else if k = 4 then wHas ++ (32 :: bs n)
    else if k = 5 then wVersion ++ (32 :: (bs n ++ (32 :: (wIn ++ (32 :: quoteL (bs x))))))
    else if k = 6 then wNot ++ (32 :: (ctsL l).headD [])
    else groupT (if k = 8 then wOr else wAnd) (ctsL l)
def ctsL : List Cd → List Str | [] => [] | c :: l => ctL c :: ctsL l
end
abbrev aw (t : Str) : Aw := ⟨119, t, []⟩
abbrev sg (c : UInt8) : Aw := ⟨c, [c], []⟩
abbrev qt (x : Str) : Aw := ⟨113, [], x⟩
def joinW (w : Str) : List (List Aw) → List Aw
  | [] => []
  | [a] => a
  | a :: b :: l => a ++ (aw w :: joinW w (b :: l))
def groupW (w : Str) : List (List Aw) → List Aw
  | [] => [sg 40, aw w, sg 41]
  | [a] => sg 40 :: aw w :: (a ++ [sg 41])
  | a :: b :: l => sg 40 :: (joinW w (a :: b :: l) ++ [sg 41])
mutual
def cwL : Cd → List Aw
  | .mk k n x l =>
    if k = 1 then [aw wAlways]
    else if k = 2 then [aw wFact, aw (bs n), sg 61, qt (bs x)]
    else if k = 3 then [aw wSetting, aw (bs n), sg 61, qt (bs x)]
    else if k = 4 then [aw wHas, aw (bs n)]
    else if k = 5 then [aw wVersion, aw (bs n), aw wIn, qt (bs x)]
    else if k = 6 then aw wNot :: (cwsL l).headD []
    else groupW (if k = 8 then wOr else wAnd) (cwsL l)
def cwsL : List Cd → List (List Aw) | [] => [] | c :: l => cwL c :: cwsL l
end

/-! ### The words of the text -/
theorem tok_lit {t : Str} (h : t ≠ []) (ha : t.all tokB = true) : TokOf t [aw t] := tkOf_word h fun c hc => List.all_eq_true.1 ha c hc
theorem tokOf_close {L : Str} {A : List Aw} (h : TokOf L A) : TokOf (L ++ [41]) (A ++ [sg 41]) := tok_app h (tokS_sign (by decide) (by decide)).of (by simp) (by show tokB 41 = false; decide)
theorem tok_sp {L1 L2 : Str} {A1 A2 : List Aw} (h1 : TokOf L1 A1) (h2 : TokOf L2 A2) : TokOf (L1 ++ (32 :: L2)) (A1 ++ A2) := tok_app h1 (tok_blank h2) (by simp) (by show tokB 32 = false; decide)
theorem tok_open {L : Str} {A : List Aw} (h : TokOf L A) : TokOf (40 :: L) (sg 40 :: A) := tokS_app (L1 := [40]) (A1 := [sg 40]) (tokS_sign (by decide) (by decide)) h
theorem tok_eq {L : Str} {A : List Aw} (h : TokOf L A) : TokOf (61 :: L) (sg 61 :: A) := tokS_app (L1 := [61]) (A1 := [sg 61]) (tokS_sign (by decide) (by decide)) h
theorem tok_join {w : Str} (hw : TokOf w [aw w]) : ∀ {T : List Str} {A : List (List Aw)}, T.length = A.length → (∀ k (h : k < T.length) (h2 : k < A.length), TokOf T[k] A[k]) → T ≠ [] → TokOf (joinT w T) (joinW w A)
  | [], _, _, _, h => absurd rfl h
  | [a], [], hl, _, _ => by cases hl
  | [a], [x], _, h, _ => h 0 (by simp) (by simp)
  | [a], x :: y :: z, hl, _, _ => by simp at hl
  | a :: b :: l, [], hl, _, _ => by cases hl
  | a :: b :: l, [x], hl, _, _ => by simp at hl
  | a :: b :: l, x :: y :: z, hl, h, _ => by
    have ih := tok_join hw (T := b :: l) (A := y :: z) (by simpa using hl) (fun k h1 h2 => by have := h (k + 1) (by simp at h1 ⊢; omega) (by simp at h2 ⊢; omega); simpa using this) (by simp)
    have h0 := h 0 (by simp) (by simp)
    exact tok_sp h0 (tok_sp hw ih)
theorem tok_group {w : Str} (hw : TokOf w [aw w]) {T : List Str} {A : List (List Aw)} (hl : T.length = A.length) (h : ∀ k (h : k < T.length) (h2 : k < A.length), TokOf T[k] A[k]) : TokOf (groupT w T) (groupW w A) := by
  match T, A, hl with
  | [], [], _ => exact tok_open (tokOf_close hw)
  | [a], [x], _ => 
    have h0 := h 0 (by simp) (by simp)
    have := tok_open (tok_sp hw (tokOf_close h0))
    exact this
  | a :: b :: l, x :: y :: z, hl => exact tok_open (tokOf_close (tok_join hw hl h (by simp)))
theorem cts_len : ∀ l : List Cd, (ctsL l).length = l.length
  | [] => by simp [ctsL]
  | c :: l => by simp [ctsL, cts_len l]
theorem cws_len : ∀ l : List Cd, (cwsL l).length = l.length
  | [] => by simp [cwsL]
  | c :: l => by simp [cwsL, cws_len l]
theorem cts_at : ∀ (l : List Cd) (k : Nat) (h : k < l.length) (h2 : k < (ctsL l).length), (ctsL l)[k] = ctL l[k]
  | c :: l, 0, _, _ => by simp [ctsL]
  | c :: l, k + 1, h, h2 => by simp only [ctsL, List.getElem_cons_succ]; exact cts_at l k (by simpa using h) _
theorem cws_at : ∀ (l : List Cd) (k : Nat) (h : k < l.length) (h2 : k < (cwsL l).length), (cwsL l)[k] = cwL l[k]
  | c :: l, 0, _, _ => by simp [cwsL]
  | c :: l, k + 1, h, h2 => by simp only [cwsL, List.getElem_cons_succ]; exact cws_at l k (by simpa using h) _
end Go.Proofs.YtaobnifiengglaaGreatDoor

namespace Go.Proofs.YtaobnifiengglaaGreatDoor

/-- a right condition, of no more than so many levels within it -/
def OkD : Nat → Cd → Prop
  | 0, .mk k n x l => partErr k (bs n) (bs x) l.length = 0 ∧ k < 6
  | m + 1, .mk k n x l => partErr k (bs n) (bs x) l.length = 0 ∧ ∀ c ∈ l, OkD m c
theorem OkD.part {m : Nat} {k : Int} {n x : ByteArray} {l : List Cd} (h : OkD m (.mk k n x l)) : partErr k (bs n) (bs x) l.length = 0 := by
  cases m with
  | zero => exact h.1
  | succ m => exact h.1
theorem part_kind {k : Int} {n x : Str} {m : Nat} (h : partErr k n x m = 0) : 1 ≤ k ∧ k ≤ 8 := by
  unfold partErr at h
  split at h
  · cases h
  · omega
theorem part_form {k : Int} {n x : Str} {m : Nat} (h : partErr k n x m = 0) : formBad k n x m = false := by
  have hk := part_kind h
  unfold partErr at h
  rw [if_neg (by omega)] at h
  split at h
  · cases h
  · rename_i hf; exact (Bool.not_eq_true _).mp hf
theorem part_name {k : Int} {n x : Str} {m : Nat} (h : partErr k n x m = 0) (hn : namedK k = true) : n ≠ [] ∧ ∀ c ∈ n, tokB c = true := by
  have hk := part_kind h
  have hf := part_form h
  unfold partErr at h
  rw [if_neg (by omega), if_neg (by rw [hf]; decide), if_neg (by rw [hn]; decide)] at h
  by_cases hx : (!(if k = 3 ∨ k = 4 then pathL n else nameL n)) = true
  · rw [if_pos hx] at h; cases h
  · by_cases h34 : k = 3 ∨ k = 4
    · rw [if_pos h34] at hx; exact path_tok (by simpa using hx)
    · rw [if_neg h34] at hx; exact name_tok (by simpa using hx)
/-- what the form says of what a part does not use -/
theorem form_leaf {k : Int} {n x : Str} {m : Nat} (h : formBad k n x m = false) : (namedK k = false → n = []) ∧ (valuedK k = false → x = []) ∧ (k < 6 → m = 0) ∧ (k = 6 → m = 1) := by
  unfold formBad at h
  simp only [Bool.or_eq_false_iff, Bool.and_eq_false_iff, Bool.not_eq_false', decide_eq_false_iff_not, List.isEmpty_iff, decide_eq_true_eq] at h
  obtain ⟨⟨⟨h1, h2⟩, h3⟩, h4⟩ := h
  refine ⟨fun e => ?_, fun e => ?_, fun e => ?_, fun e => ?_⟩
  · rcases h1 with h | h
    · rw [e] at h; cases h
    · exact h
  · rcases h2 with h | h
    · rw [e] at h; cases h
    · exact h
  · rcases h3 with h | h <;> omega
  · rcases h4 with h | h
    · exact absurd e h
    · exact h

/-! ### The words of a condition's text -/
theorem ct_tok : ∀ (m : Nat) (c : Cd), OkD m c → TokOf (ctL c) (cwL c) := by
  have leaf : ∀ (k : Int) (n x : ByteArray) (l : List Cd), partErr k (bs n) (bs x) l.length = 0 → k < 6 → TokOf (ctL (.mk k n x l)) (cwL (.mk k n x l)) := fun k n x l h hk => by
    have h1 := (part_kind h).1
    unfold ctL cwL
    by_cases e1 : k = 1
    · rw [if_pos e1, if_pos e1]; exact tok_lit (by decide) (by decide)
    rw [if_neg e1, if_neg e1]
    obtain ⟨hn, hn2⟩ := part_name h (by unfold namedK; rw [decide_eq_true (by omega), decide_eq_true (by omega)]; rfl)
    have hq := (tokS_quote (bs x)).of
    have hw := tkOf_word hn hn2
    by_cases e2 : k = 2
    · rw [if_pos e2, if_pos e2]
      exact tok_sp (tok_lit (t := wFact) (by decide) (by decide)) (tok_sp hw (tok_eq (tok_blank hq)))
    rw [if_neg e2, if_neg e2]
    by_cases e3 : k = 3
    · rw [if_pos e3, if_pos e3]
      exact tok_sp (tok_lit (t := wSetting) (by decide) (by decide)) (tok_sp hw (tok_eq (tok_blank hq)))
    rw [if_neg e3, if_neg e3]
    by_cases e4 : k = 4
    · rw [if_pos e4, if_pos e4]
      exact tok_sp (tok_lit (t := wHas) (by decide) (by decide)) hw
    rw [if_neg e4, if_neg e4]
    rw [if_pos (by omega), if_pos (by omega)]
    exact tok_sp (tok_lit (t := wVersion) (by decide) (by decide)) (tok_sp hw (tok_sp (tok_lit (t := wIn) (by decide) (by decide)) hq))
  intro m
  induction m with
  | zero => intro c h; obtain ⟨k, n, x, l⟩ := c; exact leaf k n x l h.1 h.2
  | succ m ih =>
    intro c h
    obtain ⟨k, n, x, l⟩ := c
    by_cases hk : k < 6
    · exact leaf k n x l h.1 hk
    have hall : ∀ j (h1 : j < (ctsL l).length) (h2 : j < (cwsL l).length), TokOf (ctsL l)[j] (cwsL l)[j] := fun j h1 h2 => by
      have hj : j < l.length := by rw [← cts_len l]; exact h1
      rw [cts_at l j hj, cws_at l j hj]
      exact ih _ (h.2 _ (List.getElem_mem hj))
    have hlen : (ctsL l).length = (cwsL l).length := by rw [cts_len, cws_len]
    unfold ctL cwL
    rw [if_neg (show ¬ k = 1 by omega), if_neg (show ¬ k = 1 by omega), if_neg (show ¬ k = 2 by omega), if_neg (show ¬ k = 2 by omega), if_neg (show ¬ k = 3 by omega), if_neg (show ¬ k = 3 by omega), if_neg (show ¬ k = 4 by omega), if_neg (show ¬ k = 4 by omega), if_neg (show ¬ k = 5 by omega), if_neg (show ¬ k = 5 by omega)]
    by_cases e6 : k = 6
    · rw [if_pos e6, if_pos e6]
      have h1 := (form_leaf (part_form h.1)).2.2.2 e6
      match l, h1, hall with
      | [c], _, hall =>
        have h0 := hall 0 (by rw [cts_len]; simp) (by rw [cws_len]; simp)
        simp only [ctsL, cwsL, List.headD_cons, List.getElem_cons_zero] at h0 ⊢
        exact tok_sp (A1 := [aw wNot]) (tok_lit (by decide) (by decide)) h0
    · rw [if_neg e6, if_neg e6]
      refine tok_group ?_ hlen hall
      split
      · exact tok_lit (by decide) (by decide)
      · exact tok_lit (by decide) (by decide)
end Go.Proofs.YtaobnifiengglaaGreatDoor

namespace Go.Proofs.YtaobnifiengglaaGreatDoor

theorem isR_cons (d : Wd) (L : List Wd) (k : UInt8) (t : Str) : isR ⟨d :: L, -1⟩ k t = (decide (d.k = k) && (decide (t = []) || decide (bs d.t = t))) := by
  unfold isR
  rw [show (Rs.mk (d :: L) (-1)).hd = d from rfl, show decide ((Rs.mk (d :: L) (-1)).bad < 0) = true from rfl, Bool.true_and]
theorem isR_word {d : Wd} {L : List Wd} {u : Str} (h : d.ab = aw u) (k : UInt8) (t : Str) : isR ⟨d :: L, -1⟩ k t = (decide ((119 : UInt8) = k) && (decide (t = []) || decide (u = t))) := by
  have hk : d.k = 119 := congrArg Aw.k h
  have ht : bs d.t = u := congrArg Aw.t h
  rw [isR_cons, hk, ht]
theorem isR_sign {d : Wd} {L : List Wd} {c : UInt8} (h : d.ab = sg c) (k : UInt8) (t : Str) : isR ⟨d :: L, -1⟩ k t = (decide (c = k) && (decide (t = []) || decide ([c] = t))) := by
  have hk : d.k = c := congrArg Aw.k h
  have ht : bs d.t = [c] := congrArg Aw.t h
  rw [isR_cons, hk, ht]
theorem nextR_ok {d : Wd} {L : List Wd} {k : UInt8} {t : Str} (hk : d.k = k) (ht : t = [] ∨ bs d.t = t) (h1 : k ≠ 101) : nextR ⟨d :: L, -1⟩ k t = (d, ⟨L, -1⟩) := by
  unfold nextR
  rw [if_neg (by show ¬ ¬ (-1 : Int) < 0; decide), show (Rs.mk (d :: L) (-1)).hd = d from rfl, if_neg (by rw [hk]; rcases ht with h | h <;> simp [h]), if_pos (by rw [hk]; exact h1)]
  rfl
theorem w119 : (119 : UInt8) ≠ 101 := by decide
theorem w113 : (113 : UInt8) ≠ 101 := by decide
theorem bs_none {a : ByteArray} (h : bs a = []) : a = ⟨#[]⟩ := bs_inj h
/-- what words begin with -/
theorem cw_head : ∀ (m : Nat) (c : Cd), OkD m c → ∃ a r, cwL c = a :: r ∧ (a = sg 40 ∨ ∃ u, a = aw u ∧ u ≠ wAnd ∧ u ≠ wOr) := fun m c h => by
  obtain ⟨k, n, x, l⟩ := c
  unfold cwL
  by_cases e1 : k = 1
  · rw [if_pos e1]; exact ⟨_, _, rfl, .inr ⟨_, rfl, by decide, by decide⟩⟩
  rw [if_neg e1]
  by_cases e2 : k = 2
  · rw [if_pos e2]; exact ⟨_, _, rfl, .inr ⟨_, rfl, by decide, by decide⟩⟩
  rw [if_neg e2]
  by_cases e3 : k = 3
  · rw [if_pos e3]; exact ⟨_, _, rfl, .inr ⟨_, rfl, by decide, by decide⟩⟩
  rw [if_neg e3]
  by_cases e4 : k = 4
  · rw [if_pos e4]; exact ⟨_, _, rfl, .inr ⟨_, rfl, by decide, by decide⟩⟩
  rw [if_neg e4]
  by_cases e5 : k = 5
  · rw [if_pos e5]; exact ⟨_, _, rfl, .inr ⟨_, rfl, by decide, by decide⟩⟩
  rw [if_neg e5]
  by_cases e6 : k = 6
  · rw [if_pos e6]; exact ⟨_, _, rfl, .inr ⟨_, rfl, by decide, by decide⟩⟩
  rw [if_neg e6]
  generalize cwsL l = A
  match A with
  | [] => exact ⟨_, _, rfl, .inl rfl⟩
  | [a] => exact ⟨_, _, rfl, .inl rfl⟩
  | a :: b :: r => exact ⟨_, _, rfl, .inl rfl⟩
/-- what reads a condition's words -/
def Reads (f : Rs → Cd × Rs) (c : Cd) : Prop := ∀ (W R : List Wd), W.map Wd.ab = cwL c → f ⟨W ++ R, -1⟩ = (c, ⟨R, -1⟩)
theorem map_cons {W : List Wd} {a : Aw} {r : List Aw} (h : W.map Wd.ab = a :: r) : ∃ d V, W = d :: V ∧ d.ab = a ∧ V.map Wd.ab = r := by
  obtain ⟨d, V, rfl, h1, h2⟩ := List.map_eq_cons_iff.1 h
  exact ⟨d, V, rfl, h1, h2⟩
theorem map_app {W : List Wd} {a b : List Aw} (h : W.map Wd.ab = a ++ b) : ∃ U V, W = U ++ V ∧ U.map Wd.ab = a ∧ V.map Wd.ab = b := by
  obtain ⟨U, V, rfl, h1, h2⟩ := List.map_eq_append_iff.1 h
  exact ⟨U, V, rfl, h1, h2⟩
theorem map_none {W : List Wd} (h : W.map Wd.ab = []) : W = [] := List.map_eq_nil_iff.1 h
theorem pair_back {t0 t1 t2 t3 : Wd} {R : List Wd} {n x : ByteArray} {k : Int} {mid : UInt8} {midT : Str} {u : Str} (h1 : t1.ab = aw (bs n)) (h2 : t2.k = mid) (h2t : midT = [] ∨ bs t2.t = midT) (hm : mid ≠ 101) (h3 : t3.ab = qt (bs x)) (h0 : t0.ab = aw u) :
    pairR (nextR ⟨t0 :: t1 :: t2 :: t3 :: R, -1⟩ 119 u).2 k mid midT = (.mk k n x [], ⟨R, -1⟩) := by
  have e1 : t1.t = n := bs_inj (congrArg Aw.t h1)
  have e3 : t3.v = x := bs_inj (congrArg Aw.v h3)
  rw [nextR_ok (congrArg Aw.k h0) (.inr (congrArg Aw.t h0)) w119]
  unfold pairR
  dsimp only
  rw [nextR_ok (congrArg Aw.k h1) (.inl rfl) w119]
  dsimp only
  rw [nextR_ok h2 h2t hm]
  dsimp only
  rw [nextR_ok (congrArg Aw.k h3) (.inl rfl) w113]
  dsimp only
  rw [e1, e3]
theorem leaf_back (f : Option (Rs → Cd × Rs)) {k : Int} {n x : ByteArray} {l : List Cd} (h : partErr k (bs n) (bs x) l.length = 0) (hk : k < 6) : Reads (condR f) (.mk k n x l) := fun W R hW => by
  have h1 := (part_kind h).1
  obtain ⟨f1, f2, f3, _⟩ := form_leaf (part_form h)
  obtain rfl : l = [] := List.eq_nil_of_length_eq_zero (f3 hk)
  have hrest : ∀ (d : Wd) (L : List Wd) (u : Str), d.ab = aw u → u ≠ wNot → condR f ⟨d :: L, -1⟩ = condR.restR f ⟨d :: L, -1⟩ := fun d L u hd hu => by
    have a1 : isR ⟨d :: L, -1⟩ 40 [] = false := by rw [isR_word hd]; rfl
    have a2 : isR ⟨d :: L, -1⟩ 119 wNot = false := by rw [isR_word hd, decide_eq_false hu]; rfl
    unfold condR
    cases f with
    | none => dsimp only; rw [if_neg (by rw [a1, a2]; simp)]
    | some f => dsimp only; rw [if_neg (by rw [a1]; decide)]
  unfold cwL at hW
  by_cases e1 : k = 1
  · rw [if_pos e1] at hW
    obtain ⟨d, V, rfl, hd, hV⟩ := map_cons hW
    obtain rfl := map_none hV
    rw [List.cons_append, hrest d _ _ hd (by decide)]
    unfold condR.restR
    rw [if_pos (by rw [isR_word hd]; decide), nextR_ok (congrArg Aw.k hd) (.inr (congrArg Aw.t hd)) (by decide), bs_none (f1 (by subst e1; rfl)), bs_none (f2 (by subst e1; rfl)), e1]
    rfl
  rw [if_neg e1] at hW
  by_cases e2 : k = 2
  · rw [if_pos e2] at hW
    obtain ⟨d, V, rfl, hd, hV⟩ := map_cons hW
    obtain ⟨d1, V, rfl, hd1, hV⟩ := map_cons hV
    obtain ⟨d2, V, rfl, hd2, hV⟩ := map_cons hV
    obtain ⟨d3, V, rfl, hd3, hV⟩ := map_cons hV
    obtain rfl := map_none hV
    simp only [List.cons_append, List.nil_append]
    rw [hrest d _ _ hd (by decide)]
    unfold condR.restR
    rw [if_neg (by rw [isR_word hd]; decide), if_pos (by rw [isR_word hd]; decide), pair_back hd1 (congrArg Aw.k hd2) (.inl rfl) (by decide) hd3 hd, e2]
  rw [if_neg e2] at hW
  by_cases e3 : k = 3
  · rw [if_pos e3] at hW
    obtain ⟨d, V, rfl, hd, hV⟩ := map_cons hW
    obtain ⟨d1, V, rfl, hd1, hV⟩ := map_cons hV
    obtain ⟨d2, V, rfl, hd2, hV⟩ := map_cons hV
    obtain ⟨d3, V, rfl, hd3, hV⟩ := map_cons hV
    obtain rfl := map_none hV
    simp only [List.cons_append, List.nil_append]
    rw [hrest d _ _ hd (by decide)]
    unfold condR.restR
    rw [if_neg (by rw [isR_word hd]; decide), if_neg (by rw [isR_word hd]; decide), if_pos (by rw [isR_word hd]; decide), pair_back hd1 (congrArg Aw.k hd2) (.inl rfl) (by decide) hd3 hd, e3]
  rw [if_neg e3] at hW
  by_cases e4 : k = 4
  · rw [if_pos e4] at hW
    obtain ⟨d, V, rfl, hd, hV⟩ := map_cons hW
    obtain ⟨d1, V, rfl, hd1, hV⟩ := map_cons hV
    obtain rfl := map_none hV
    simp only [List.cons_append, List.nil_append]
    rw [hrest d _ _ hd (by decide)]
    unfold condR.restR
    rw [if_neg (by rw [isR_word hd]; decide), if_neg (by rw [isR_word hd]; decide), if_neg (by rw [isR_word hd]; decide), if_pos (by rw [isR_word hd]; decide), nextR_ok (congrArg Aw.k hd) (.inr (congrArg Aw.t hd)) (by decide)]
    dsimp only
    rw [nextR_ok (congrArg Aw.k hd1) (.inl rfl) w119, bs_none (f2 (by subst e4; rfl)), e4]
    dsimp only
    rw [show d1.t = n from bs_inj (congrArg Aw.t hd1)]
  rw [if_neg e4, if_pos (show k = 5 by omega)] at hW
  obtain ⟨d, V, rfl, hd, hV⟩ := map_cons hW
  obtain ⟨d1, V, rfl, hd1, hV⟩ := map_cons hV
  obtain ⟨d2, V, rfl, hd2, hV⟩ := map_cons hV
  obtain ⟨d3, V, rfl, hd3, hV⟩ := map_cons hV
  obtain rfl := map_none hV
  simp only [List.cons_append, List.nil_append]
  rw [hrest d _ _ hd (by decide)]
  unfold condR.restR
  rw [if_neg (by rw [isR_word hd]; decide), if_neg (by rw [isR_word hd]; decide), if_neg (by rw [isR_word hd]; decide), if_neg (by rw [isR_word hd]; decide), if_pos (by rw [isR_word hd]; decide), pair_back hd1 (congrArg Aw.k hd2) (.inr (congrArg Aw.t hd2)) (by decide) hd3 hd, show k = 5 by omega]
end Go.Proofs.YtaobnifiengglaaGreatDoor

namespace Go.Proofs.YtaobnifiengglaaGreatDoor

/-- words of the parts behind the first one -/
def moreW (w : Str) (l : List (List Aw)) : List Aw := l.flatMap fun a => aw w :: a
theorem joinW_more (w : Str) : ∀ (a : List Aw) (l : List (List Aw)), joinW w (a :: l) = a ++ moreW w l
  | a, [] => by simp [joinW, moreW]
  | a, b :: l => by
    rw [joinW, joinW_more w b l]
    simp [moreW]
theorem not_word {m : Nat} {c : Cd} (h : OkD m c) {W R : List Wd} (hW : W.map Wd.ab = cwL c) : isR ⟨W ++ R, -1⟩ 41 [] = false ∧ isR ⟨W ++ R, -1⟩ 119 wAnd = false ∧ isR ⟨W ++ R, -1⟩ 119 wOr = false := by
  obtain ⟨a, r, hc, ha⟩ := cw_head m c h
  rw [hc] at hW
  obtain ⟨d, V, rfl, hd, _⟩ := map_cons hW
  rw [List.cons_append]
  rcases ha with rfl | ⟨u, rfl, h1, h2⟩
  · rw [isR_sign hd, isR_sign hd, isR_sign hd]; exact ⟨rfl, rfl, rfl⟩
  · rw [isR_word hd, isR_word hd, isR_word hd, decide_eq_false h1, decide_eq_false h2]; exact ⟨rfl, rfl, rfl⟩
theorem loop_back {f : Rs → Cd × Rs} {w : Str} {d : Wd} {R : List Wd} (hd : d.ab = sg 41) : ∀ (cs : List Cd), (∀ c ∈ cs, Reads f c) → ∀ (W : List Wd), W.map Wd.ab = moreW w (cwsL cs) → ∀ (m : Nat) (more : Bool) (l : List Cd), cs.length < m → (cs = [] → more = true) →
    loopR f w m more ⟨W ++ d :: R, -1⟩ l = (l ++ cs, ⟨R, -1⟩)
  | [], _, W, hW, m + 1, more, l, _, hm => by
    obtain rfl := map_none (show W.map Wd.ab = [] from hW)
    rw [loopR, if_neg (by show ¬ ¬ (-1 : Int) < 0; decide), List.nil_append, if_pos ⟨hm rfl, by rw [isR_sign hd]; rfl⟩, nextR_ok (congrArg Aw.k hd) (.inl rfl) (show (41 : UInt8) ≠ 101 by decide), List.append_nil]
  | c :: cs, hf, W, hW, m + 1, more, l, hl, _ => by
    obtain ⟨t, V, rfl, ht, hV⟩ := map_cons (show W.map Wd.ab = aw w :: (cwL c ++ moreW w (cwsL cs)) by rw [hW]; simp [moreW, cwsL])
    obtain ⟨A, B, rfl, hA, hB⟩ := map_app hV
    rw [loopR, if_neg (by show ¬ ¬ (-1 : Int) < 0; decide), List.cons_append, if_neg (by rw [isR_word ht]; rintro ⟨_, h⟩; cases h), nextR_ok (congrArg Aw.k ht) (.inr (congrArg Aw.t ht)) w119]
    dsimp only
    rw [List.append_assoc, hf c (by simp) A _ hA]
    dsimp only
    rw [loop_back hd cs (fun x hx => hf x (by simp [hx])) B hB m true _ (by simpa using hl) (fun _ => rfl), List.append_assoc]
    rfl
theorem rd_back : ∀ (m : Nat) (c : Cd), OkD m c → Reads (condRF m) c := by
  intro m
  induction m with
  | zero => intro c h; obtain ⟨k, n, x, l⟩ := c; exact leaf_back none h.1 h.2
  | succ m ih =>
    intro c h
    obtain ⟨k, n, x, l⟩ := c
    by_cases hk : k < 6
    · exact leaf_back (some (condRF m)) h.1 hk
    obtain ⟨f1, f2, _, f4⟩ := form_leaf (part_form h.1)
    have hk8 := (part_kind h.1).2
    have hnn : n = ⟨#[]⟩ := bs_none (f1 (by unfold namedK; rw [decide_eq_false (show ¬ k ≤ 5 by omega), Bool.and_false]))
    have hxx : x = ⟨#[]⟩ := bs_none (f2 (by unfold valuedK namedK; rw [decide_eq_false (show ¬ k ≤ 5 by omega), Bool.and_false, Bool.false_and]))
    subst hnn hxx
    have hall : ∀ c ∈ l, Reads (condRF m) c := fun c hc => ih c (h.2 c hc)
    have hok := h.2
    intro W R hW
    show condR (some (condRF m)) _ = _
    unfold cwL at hW
    rw [if_neg (show ¬ k = 1 by omega), if_neg (show ¬ k = 2 by omega), if_neg (show ¬ k = 3 by omega), if_neg (show ¬ k = 4 by omega), if_neg (show ¬ k = 5 by omega)] at hW
    by_cases e6 : k = 6
    · rw [if_pos e6] at hW
      match l, f4 e6, hall, hW with
      | [c], _, hall, hW =>
        obtain ⟨d, V, rfl, hd, hV⟩ := map_cons hW
        have hV : V.map Wd.ab = cwL c := by rw [hV]; simp [cwsL]
        rw [List.cons_append]
        unfold condR
        dsimp only
        rw [if_neg (by rw [isR_word hd]; decide)]
        unfold condR.restR
        rw [if_neg (by rw [isR_word hd]; decide), if_neg (by rw [isR_word hd]; decide), if_neg (by rw [isR_word hd]; decide), if_neg (by rw [isR_word hd]; decide), if_neg (by rw [isR_word hd]; decide), if_pos (by rw [isR_word hd]; decide), nextR_ok (congrArg Aw.k hd) (.inr (congrArg Aw.t hd)) w119]
        dsimp only
        rw [hall c (by simp) V R hV, e6]
    rw [if_neg e6] at hW
    have hkind : (k = 7 ∧ (if k = 8 then wOr else wAnd) = wAnd) ∨ (k = 8 ∧ (if k = 8 then wOr else wAnd) = wOr) := by
      rcases (show k = 7 ∨ k = 8 by omega) with e | e
      · exact .inl ⟨e, if_neg (by omega)⟩
      · exact .inr ⟨e, if_pos e⟩
    have h41 : (41 : UInt8) ≠ 101 := by decide
    have h40 : (40 : UInt8) ≠ 101 := by decide
    -- the group's first word is a bracket
    have hopen : ∀ (d : Wd) (V : List Wd), d.ab = sg 40 → condR (some (condRF m)) ⟨d :: V, -1⟩ = groupR (condRF m) ⟨d :: V, -1⟩ ∧ nextR ⟨d :: V, -1⟩ 40 [] = (d, ⟨V, -1⟩) := fun d V hd =>
      ⟨by unfold condR; dsimp only; rw [if_pos (by rw [isR_sign hd]; decide)], nextR_ok (congrArg Aw.k hd) (.inl rfl) h40⟩
    match l, hall, hok, hW with
    | [], _, _, hW =>
      obtain ⟨d, V, rfl, hd, hV⟩ := map_cons (show W.map Wd.ab = sg 40 :: [aw (if k = 8 then wOr else wAnd), sg 41] by rw [hW]; simp [cwsL, groupW])
      obtain ⟨t, V, rfl, ht, hV⟩ := map_cons hV
      obtain ⟨e, V, rfl, he, hV⟩ := map_cons hV
      obtain rfl := map_none hV
      simp only [List.cons_append, List.nil_append]
      rw [(hopen d _ hd).1]
      unfold groupR
      rw [(hopen d _ hd).2]
      dsimp only
      rcases hkind with ⟨e7, hw⟩ | ⟨e8, hw⟩
      · rw [hw] at ht
        rw [if_pos (by rw [isR_word ht]; decide), nextR_ok (congrArg Aw.k ht) (.inr (congrArg Aw.t ht)) w119]
        unfold headR
        dsimp only
        rw [if_pos (by rw [isR_sign he]; decide), nextR_ok (congrArg Aw.k he) (.inl rfl) h41, e7]
      · rw [hw] at ht
        rw [if_neg (by rw [isR_word ht]; decide), if_pos (by rw [isR_word ht]; decide), nextR_ok (congrArg Aw.k ht) (.inr (congrArg Aw.t ht)) w119]
        unfold headR
        dsimp only
        rw [if_pos (by rw [isR_sign he]; decide), nextR_ok (congrArg Aw.k he) (.inl rfl) h41, e8]
    | [c], hall, hok, hW =>
      obtain ⟨d, V, rfl, hd, hV⟩ := map_cons (show W.map Wd.ab = sg 40 :: (aw (if k = 8 then wOr else wAnd) :: (cwL c ++ [sg 41])) by rw [hW]; simp [cwsL, groupW])
      obtain ⟨t, V, rfl, ht, hV⟩ := map_cons hV
      obtain ⟨A, V, rfl, hA, hV⟩ := map_app hV
      obtain ⟨e, V, rfl, he, hV⟩ := map_cons hV
      obtain rfl := map_none hV
      have hno := (not_word (hok c (by simp)) (R := e :: R) hA).1
      simp only [List.cons_append, List.nil_append, List.append_assoc]
      rw [(hopen d _ hd).1]
      unfold groupR
      rw [(hopen d _ hd).2]
      dsimp only
      rcases hkind with ⟨e7, hw⟩ | ⟨e8, hw⟩
      · rw [hw] at ht
        rw [if_pos (by rw [isR_word ht]; decide), nextR_ok (congrArg Aw.k ht) (.inr (congrArg Aw.t ht)) w119]
        unfold headR
        dsimp only
        rw [if_neg (by rw [hno]; decide), hall c (by simp) A _ hA]
        dsimp only
        rw [nextR_ok (congrArg Aw.k he) (.inl rfl) h41, e7]
      · rw [hw] at ht
        rw [if_neg (by rw [isR_word ht]; decide), if_pos (by rw [isR_word ht]; decide), nextR_ok (congrArg Aw.k ht) (.inr (congrArg Aw.t ht)) w119]
        unfold headR
        dsimp only
        rw [if_neg (by rw [hno]; decide), hall c (by simp) A _ hA]
        dsimp only
        rw [nextR_ok (congrArg Aw.k he) (.inl rfl) h41, e8]
    | c :: b :: r, hall, hok, hW =>
      obtain ⟨d, V, rfl, hd, hV⟩ := map_cons (show W.map Wd.ab = sg 40 :: (cwL c ++ (moreW (if k = 8 then wOr else wAnd) (cwsL (b :: r)) ++ [sg 41])) by rw [hW, cwsL, cwsL, groupW, joinW_more, List.append_assoc])
      obtain ⟨A, V, rfl, hA, hV⟩ := map_app hV
      obtain ⟨B, V, rfl, hB, hV⟩ := map_app hV
      obtain ⟨e, V, rfl, he, hV⟩ := map_cons hV
      obtain rfl := map_none hV
      have hno := (not_word (hok c (by simp)) (R := B ++ e :: R) hA).2
      have hB0 : ∃ t B', B = t :: B' ∧ t.ab = aw (if k = 8 then wOr else wAnd) := by
        obtain ⟨t, V, e1, e2, _⟩ := map_cons (show B.map Wd.ab = aw (if k = 8 then wOr else wAnd) :: (cwL b ++ moreW (if k = 8 then wOr else wAnd) (cwsL r)) by rw [hB]; simp [moreW, cwsL])
        exact ⟨t, V, e1, e2⟩
      have hlen : (b :: r).length < leftR ⟨B ++ e :: R, -1⟩ := by
        have h1 := congrArg List.length hB
        have h2 : ∀ (w : Str) (l : List (List Aw)), l.length ≤ (moreW w l).length := fun w l => by
          induction l with
          | nil => exact Nat.zero_le _
          | cons a l ih => simp only [moreW, List.flatMap_cons, List.length_append, List.length_cons] at ih ⊢; omega
        have h3 := h2 (if k = 8 then wOr else wAnd) (cwsL (b :: r))
        rw [cws_len] at h3
        rw [List.length_map] at h1
        unfold leftR
        rw [if_pos (by show (-1 : Int) < 0; decide)]
        simp only [List.length_append, List.length_cons] at h1 h3 ⊢
        omega
      have hloop := fun w (hw : B.map Wd.ab = moreW w (cwsL (b :: r))) => loop_back (f := condRF m) (R := R) he (b :: r) (fun x hx => hall x (by simp at hx ⊢; rcases hx with h | h <;> simp [h])) B hw (leftR ⟨B ++ e :: R, -1⟩) false [c] hlen (fun h => by cases h)
      simp only [List.cons_append, List.nil_append, List.append_assoc]
      rw [(hopen d _ hd).1]
      unfold groupR
      rw [(hopen d _ hd).2]
      dsimp only
      rw [if_neg (by rw [hno.1]; decide), if_neg (by rw [hno.2]; decide), hall c (by simp) A _ hA]
      dsimp only
      obtain ⟨t, B', rfl, ht⟩ := hB0
      unfold tailR
      rcases hkind with ⟨e7, hw⟩ | ⟨e8, hw⟩
      · rw [hw] at ht hB
        rw [if_neg (by rw [List.cons_append, isR_word ht]; decide), hloop wAnd hB, e7]
        rfl
      · rw [hw] at ht hB
        rw [if_pos (by rw [List.cons_append, isR_word ht]; decide), hloop wOr hB, e8]
        rfl
end Go.Proofs.YtaobnifiengglaaGreatDoor

namespace Go.Proofs.YtaobnifiengglaaGreatDoor

theorem firstE_zero : ∀ {l : List (Cd × Nat)}, firstErr l = 0 → ∀ p ∈ l, partC p.1 = 0
  | q :: r, h, p, hp => by
    rw [firstErr] at h
    by_cases hq : partC q.1 = 0
    · rw [if_pos hq] at h
      rcases List.mem_cons.1 hp with rfl | hp
      · exact hq
      · exact firstE_zero h p hp
    · rw [if_neg hq] at h; exact absurd h hq
theorem prts_mem (lev : Nat) : ∀ {l : List Cd} {c : Cd}, c ∈ l → ∀ p ∈ prt lev c, p ∈ prts lev l
  | d :: l, c, h, p, hp => by
    rw [prts, List.mem_append]
    rcases List.mem_cons.1 h with rfl | h
    · exact .inl hp
    · exact .inr (prts_mem lev h p hp)
theorem ok_levels : ∀ (m lev : Nat) (c : Cd), lev + m = 100 → (∀ p ∈ prt lev c, partC p.1 = 0 ∧ p.2 ≤ 20) → OkD m c := by
  intro m
  induction m with
  | zero =>
    intro lev c hl h
    obtain ⟨k, n, x, l⟩ := c
    have := (h (.mk k n x l, lev) (by rw [prt]; simp)).2
    dsimp only at this
    omega
  | succ m ih =>
    intro lev c hl h
    obtain ⟨k, n, x, l⟩ := c
    refine ⟨(h (.mk k n x l, lev) (by rw [prt]; simp)).1, fun c hc => ih (lev + 1) c (by omega) fun p hp => h p ?_⟩
    rw [prt, List.mem_cons]
    exact .inr (prts_mem (lev + 1) hc p hp)
theorem ok_of_check {c : Cd} (h : checkC c = 0) : OkD 100 c := by
  unfold checkC at h
  by_cases h1 : 100 < cnt c
  · rw [if_pos h1] at h; cases h
  rw [if_neg h1] at h
  by_cases h2 : firstErr (prt 0 c) = 0
  · rw [if_neg (by simpa using h2)] at h
    by_cases h3 : (prt 0 c).any (fun p => decide (20 < p.2)) = true
    · rw [if_pos h3] at h; cases h
    · refine ok_levels 100 0 c rfl fun p hp => ⟨firstE_zero h2 p hp, ?_⟩
      refine Nat.le_of_not_lt fun hlt => h3 (List.any_eq_true.2 ⟨p, hp, decide_eq_true hlt⟩)
  · rw [if_pos h2] at h; exact absurd h h2
theorem parse_print {c : Cd} {s : ByteArray} (h : checkC c = 0) (hs : bs s = ctL c) (hl : s.size ≤ 4000) : parseC s = (c, 0, 0) := by
  have hok := ok_of_check h
  obtain ⟨W, e, hW⟩ := ct_tok 100 c hok s 0 [] (by rw [List.drop_zero, hs, List.append_nil]) trivial
  rw [words_end (i := 0 + (ctL c).length) (by rw [← hs, bs_length]; omega)] at e
  rw [← read_parse]
  unfold readC
  rw [if_neg (by omega), e, rd_back 100 c hok W _ hW]
  dsimp only
  have hn : nextR ⟨[endW s], -1⟩ 101 [] = (endW s, ⟨[endW s], -1⟩) := by
    unfold nextR
    rw [if_neg (by show ¬ ¬ (-1 : Int) < 0; decide), show (Rs.mk [endW s] (-1)).hd = endW s from rfl, if_neg (by show ¬ ((101 : UInt8) ≠ 101 ∨ _); simp), if_neg (by show ¬ (101 : UInt8) ≠ 101; decide)]
  rw [hn]
  dsimp only
  rw [if_neg (by decide), if_neg (by simpa using h)]
end Go.Proofs.YtaobnifiengglaaGreatDoor
