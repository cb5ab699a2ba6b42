/- Plain law: rules, their errors, their texts, and what reads them; the reference's reading is the program's. -/
import Derived.Test.YtncagihilplliaaGreatDoorVerC
namespace Go.Proofs.YtncagihilplliaaGreatDoor

/-! ### Texts in quotes -/
def esc : Str → Str
  | [] => []
  | c :: r => if c = 34 ∨ c = 92 then 92 :: c :: esc r else c :: esc r
def quoteL (s : Str) : Str := 34 :: (esc s ++ [34])
/-- what stands behind a first quote: the text up to the next one, and the rest -/
def unq (s : Str) : Option (Str × Str) :=
  match s with
  | [] => none
  | c :: r => if c = 34 then some ([], r) else if c = 92 then
      (match r with
      | [] => none
      | d :: q => if d = 34 ∨ d = 92 then (unq q).map fun x => (d :: x.1, x.2) else none)
    else (unq r).map fun x => (c :: x.1, x.2)
termination_by s.length
theorem unq_nil : unq [] = none := by unfold unq; rfl
theorem unq_end (r : Str) : unq (34 :: r) = some ([], r) := by unfold unq; simp
theorem unq_back0 : unq [92] = none := by unfold unq; simp
theorem unq_two {d : UInt8} (h : d = 34 ∨ d = 92) (q : Str) : unq (92 :: d :: q) = (unq q).map fun x => (d :: x.1, x.2) := by
  rw [unq]
  simp only [show ¬ (92 : UInt8) = 34 by decide, if_false, if_true, if_pos h]
theorem unq_bad {d : UInt8} (h : ¬ (d = 34 ∨ d = 92)) (q : Str) : unq (92 :: d :: q) = none := by
  rw [unq]
  simp only [show ¬ (92 : UInt8) = 34 by decide, if_false, if_true, if_neg h]
theorem unq_one {c : UInt8} (h1 : ¬ c = 34) (h2 : ¬ c = 92) (r : Str) : unq (c :: r) = (unq r).map fun x => (c :: x.1, x.2) := by
  rw [unq.eq_def]
  simp only [if_neg h1, if_neg h2]
theorem unq_esc (t z : Str) : unq (esc t ++ 34 :: z) = some (t, z) := by
  induction t with
  | nil => exact unq_end z
  | cons c r ih =>
    unfold esc
    by_cases h : c = 34 ∨ c = 92
    · rw [if_pos h]
      simp only [List.cons_append]
      rw [unq_two h, ih]; rfl
    · rw [if_neg h]
      simp only [List.cons_append]
      rw [unq_one (fun e => h (.inl e)) (fun e => h (.inr e)), ih]; rfl
theorem unq_back : ∀ (n : Nat) (s t z : Str), s.length ≤ n → unq s = some (t, z) → s = esc t ++ 34 :: z := by
  intro n
  induction n with
  | zero =>
    intro s t z hl h
    have : s = [] := List.eq_nil_of_length_eq_zero (by omega)
    subst this
    rw [unq_nil] at h; cases h
  | succ n ih =>
    intro s t z hl h
    match s with
    | [] => rw [unq_nil] at h; cases h
    | c :: r =>
      by_cases h1 : c = 34
      · subst h1
        rw [unq_end] at h
        cases h; rfl
      by_cases h2 : c = 92
      · subst h2
        match r with
        | [] => rw [unq_back0] at h; cases h
        | d :: q =>
          by_cases h3 : d = 34 ∨ d = 92
          · rw [unq_two h3] at h
            cases hu : unq q with
            | none => rw [hu] at h; cases h
            | some x =>
              rw [hu] at h
              cases h
              have := ih q x.1 x.2 (by simp at hl; omega) hu
              rw [esc, if_pos h3]
              simp only [List.cons_append]
              rw [← this]
          · rw [unq_bad h3] at h; cases h
      · rw [unq_one h1 h2] at h
        cases hu : unq r with
        | none => rw [hu] at h; cases h
        | some x =>
          rw [hu] at h
          cases h
          have := ih r x.1 x.2 (by simp at hl; omega) hu
          rw [esc, if_neg (fun e => e.elim h1 h2)]
          simp only [List.cons_append]
          rw [← this]
def quotedL : Str → Option (Str × Str)
  | 34 :: r => unq r
  | _ => none
theorem quoted_quote (t z : Str) : quotedL (quoteL t ++ z) = some (t, z) := by
  unfold quoteL quotedL
  simp only [List.cons_append, List.append_assoc, List.nil_append]
  exact unq_esc t z
theorem quoted_back {s t z : Str} (h : quotedL s = some (t, z)) : s = quoteL t ++ z := by
  unfold quotedL at h
  split at h
  · rename_i r
    have := unq_back r.length r t z (Nat.le_refl _) h
    rw [this, quoteL]; simp
  · cases h

/-! ### Rules -/
structure Ru where
  kind : Int
  key : Str
  tt : Str
  old : Str
  new : Str
deriving instance DecidableEq for Ru
def zeroR : Ru := ⟨0, [], [], [], []⟩
def useTo (k : Int) : Bool := k == 1 || k == 2 || k == 3
def useOld (k : Int) : Bool := k == 7 || k == 8
def useNew (k : Int) : Bool := k == 4 || k == 5 || k == 7 || k == 8
def ruWord (k : Int) : Str :=
  if k = 1 then [114, 101, 110, 97, 109, 101] else if k = 2 then [112, 114, 101, 102, 105, 120] else if k = 3 then [99, 111, 112, 121] else if k = 4 then [115, 101, 116]
  else if k = 5 then [100, 101, 102, 97, 117, 108, 116] else if k = 6 then [100, 114, 111, 112] else if k = 7 then [109, 97, 112] else if k = 8 then [115, 119, 97, 112] else []
def belowL (key head : Str) : Bool := (head ++ [47]).isPrefixOf key
def ruErr (r : Ru) : Int :=
  if r.kind < 1 ∨ 8 < r.kind then 1
  else if (!pathL r.key || useTo r.kind && !pathL r.tt) = true then 5
  else if (!useTo r.kind && !r.tt.isEmpty || !useOld r.kind && !r.old.isEmpty || !useNew r.kind && !r.new.isEmpty || !valueL r.old || !valueL r.new) = true then 2
  else if (useTo r.kind && decide (r.key = r.tt)) = true then 11
  else if (decide (r.kind = 2) && (belowL r.key r.tt || belowL r.tt r.key)) = true then 13
  else if (useOld r.kind && decide (r.old = r.new)) = true then 11 else 0
def ruText (r : Ru) : Str :=
  ruWord r.kind ++ 32 :: r.key ++ (if useTo r.kind = true then 32 :: r.tt else []) ++ (if useOld r.kind = true then 32 :: quoteL r.old else []) ++ (if useNew r.kind = true then 32 :: quoteL r.new else [])
/-- the kind that a word names; -1: none -/
def ruKind (w : Str) : Int :=
  if w = [] then 0 else if w = ruWord 1 then 1 else if w = ruWord 2 then 2 else if w = ruWord 3 then 3 else if w = ruWord 4 then 4 else if w = ruWord 5 then 5 else if w = ruWord 6 then 6 else if w = ruWord 7 then 7 else if w = ruWord 8 then 8 else -1
/-- what the program's reading takes, ahead of its check -/
def candP (s : Str) : Option Ru :=
  if (!(cutC 32 s).2.2 || decide (ruKind (cutC 32 s).1 < 1)) = true then none
  else if ((cutC 32 (cutC 32 s).2.1).1.isEmpty || ((cutC 32 (cutC 32 s).2.1).2.2 != (useTo (ruKind (cutC 32 s).1) || useOld (ruKind (cutC 32 s).1) || useNew (ruKind (cutC 32 s).1)))) = true then none
  else if useTo (ruKind (cutC 32 s).1) = true then
    (if ((cutC 32 (cutC 32 s).2.1).2.1.isEmpty || (cutC 32 (cutC 32 s).2.1).2.1.contains 32) = true then none
    else some ⟨ruKind (cutC 32 s).1, (cutC 32 (cutC 32 s).2.1).1, (cutC 32 (cutC 32 s).2.1).2.1, [], []⟩)
  else if useOld (ruKind (cutC 32 s).1) = true then
    (match quotedL (cutC 32 (cutC 32 s).2.1).2.1 with
    | some (o, 32 :: r) => (match quotedL r with
      | some (n, []) => some ⟨ruKind (cutC 32 s).1, (cutC 32 (cutC 32 s).2.1).1, [], o, n⟩
      | _ => none)
    | _ => none)
  else if useNew (ruKind (cutC 32 s).1) = true then
    (match quotedL (cutC 32 (cutC 32 s).2.1).2.1 with
    | some (n, []) => some ⟨ruKind (cutC 32 s).1, (cutC 32 (cutC 32 s).2.1).1, [], [], n⟩
    | _ => none)
  else if (cutC 32 (cutC 32 s).2.1).2.1.isEmpty = true then some ⟨ruKind (cutC 32 s).1, (cutC 32 (cutC 32 s).2.1).1, [], [], []⟩ else none
def parseRu (s : Str) : Ru × Int :=
  if 4000 < s.length then (zeroR, 4) else match candP s with
  | none => (zeroR, 8)
  | some r => if ruErr r ≠ 0 then (zeroR, ruErr r) else (r, 0)
/-- a rule that its text shows whole -/
structure Shape (r : Ru) : Prop where
  lo : 1 ≤ r.kind
  hi : r.kind ≤ 8
  key : r.key ≠ []
  key32 : (32 : UInt8) ∉ r.key
  to1 : useTo r.kind = true → r.tt ≠ [] ∧ (32 : UInt8) ∉ r.tt
  to0 : useTo r.kind = false → r.tt = []
  old0 : useOld r.kind = false → r.old = []
  new0 : useNew r.kind = false → r.new = []
theorem kind_cases {k : Int} (h1 : 1 ≤ k) (h2 : k ≤ 8) : k = 1 ∨ k = 2 ∨ k = 3 ∨ k = 4 ∨ k = 5 ∨ k = 6 ∨ k = 7 ∨ k = 8 := by omega
theorem ruKind_word {k : Int} (h1 : 1 ≤ k) (h2 : k ≤ 8) : ruKind (ruWord k) = k ∧ (32 : UInt8) ∉ ruWord k := by
  rcases kind_cases h1 h2 with rfl | rfl | rfl | rfl | rfl | rfl | rfl | rfl <;> decide
theorem ruKind_back {w : Str} (h : ¬ ruKind w < 1) : 1 ≤ ruKind w ∧ ruKind w ≤ 8 ∧ w = ruWord (ruKind w) := by
  unfold ruKind at h ⊢
  repeat' split
  all_goals first
    | (rename_i e; exact ⟨by decide, by decide, e⟩)
    | (exfalso; revert h; simp_all)
theorem cand_text {r : Ru} (h : Shape r) : candP (ruText r) = some r := by
  obtain ⟨kind, key, tt, old, new⟩ := r
  obtain ⟨h1, h2, h3, h4, h5, h6, h7, h8⟩ := h
  dsimp only at *
  obtain ⟨k1, k2⟩ := ruKind_word h1 h2
  have kk := kind_cases h1 h2
  have hk0 : ¬ kind < 1 := by omega
  unfold ruText candP
  dsimp only
  generalize ruWord kind = wd at *
  have e0 : wd ++ 32 :: key ++ (if useTo kind = true then 32 :: tt else []) ++ (if useOld kind = true then 32 :: quoteL old else []) ++ (if useNew kind = true then 32 :: quoteL new else []) =
      wd ++ 32 :: (key ++ ((if useTo kind = true then 32 :: tt else []) ++ (if useOld kind = true then 32 :: quoteL old else []) ++ (if useNew kind = true then 32 :: quoteL new else []))) := by simp
  rw [e0, cutC_app 32 wd _ k2]
  dsimp only
  rw [k1]
  have hke : key.isEmpty = false := by cases key with | nil => exact absurd rfl h3 | cons _ _ => rfl
  have hkd : decide (kind < 1) = false := decide_eq_false hk0
  rcases kk with rfl | rfl | rfl | rfl | rfl | rfl | rfl | rfl
  case inl | inr.inl | inr.inr.inl =>
    obtain ⟨t1, t2⟩ := h5 rfl
    obtain rfl := h7 rfl
    obtain rfl := h8 rfl
    have ht : tt.isEmpty = false := by cases tt with | nil => exact absurd rfl t1 | cons _ _ => rfl
    have ht2 : tt.contains 32 = false := by simpa using t2
    have e1 : ∀ a b : Str, (if (true = true) then 32 :: tt else a) ++ (if (false = true) then a else b) = 32 :: tt ++ b := fun a b => by simp
    simp only [useTo, useOld, useNew] at *
    simp [cutC_app 32 key tt h4, hke, ht, t2]
  case inr.inr.inr.inl | inr.inr.inr.inr.inl =>
    obtain rfl := h6 rfl
    obtain rfl := h7 rfl
    simp only [useTo, useOld, useNew] at *
    have hq := quoted_quote new []
    rw [List.append_nil] at hq
    simp [cutC_app 32 key (quoteL new) h4, hke, hq]
  case inr.inr.inr.inr.inr.inl =>
    obtain rfl := h6 rfl
    obtain rfl := h7 rfl
    obtain rfl := h8 rfl
    simp only [useTo, useOld, useNew] at *
    simp [cutC_none 32 key h4, hke]
  all_goals
    obtain rfl := h6 rfl
    simp only [useTo, useOld, useNew] at *
    have hq := quoted_quote new []
    rw [List.append_nil] at hq
    have hq2 := quoted_quote old (32 :: quoteL new)
    simp [cutC_app 32 key (quoteL old ++ 32 :: quoteL new) h4, hke, hq2, hq]
end Go.Proofs.YtncagihilplliaaGreatDoor
