/- Versions, spans and ranges among the arguments. Plain law: rules, their errors, their texts, and what reads them; the reference's reading is the program's. Plain law: the reference's errors, inverses and readings of rules are the program's. Plain law: a text in quotes, by two replacements of one byte each; its length; what a loop over it has written. -/
import Derived.Test.YtghhjlcbcojcnaaGreatDoorMt12
import Derived.Test.YtghhjlcbcojcnaaGreatDoorMt08
import Derived.Test.YtghhjlcbcojcnaaGreatDoorMt02
import Derived.Lib.Replace
import Derived.Lib.SplitLaws

namespace Go.Proofs.YtghhjlcbcojcnaaGreatDoor
open Go.ChangeShapes Go.WideShapes Go.ChangeAt Go.RowKit Go.WideElems Go.Joins

set_option maxRecDepth 100000 in
theorem opens_ver : Opens 35 (fun _ (v : V4) cs => cs = [.int .i64 v.a1, .int .i64 v.a2, .int .i64 v.a3, .string v.a]) (fun v => v.a.size + 4) := fun H enc W fuel cs x h => by
  obtain ⟨y0, y1, y2, y3, n, rfl, hl, h0, h1, h2, h3⟩ := trod_struct4 Tryz.underlying35 h
  have hc : Tryz.prog.cellsOf 35 = 4 := by kernel_rfl
  have ci : Tryz.prog.cellsOf 3 = 1 := by kernel_rfl
  have cst : Tryz.prog.cellsOf 9 = 1 := by kernel_rfl
  rw [hc] at hl
  match cs, hl with
  | [c0, c1, c2, c3], _ =>
    dsimp only at h0 h1 h2 h3
    rw [ci] at h0 h1 h2
    rw [cst] at h3
    obtain ⟨a1, e1, b1⟩ := opens_int Tryz.underlying3 H enc W n _ _ h0
    obtain ⟨a2, e2, b2⟩ := opens_int Tryz.underlying3 H enc W n _ _ h1
    obtain ⟨a3, e3, b3⟩ := opens_int Tryz.underlying3 H enc W n _ _ h2
    obtain ⟨a, e4, b4⟩ := opens_string Tryz.underlying9 H enc W n _ _ h3
    simp at e1 e2 e3 e4
    subst e1 e2 e3 e4
    exact ⟨⟨a1, a2, a3, a⟩, rfl, by dsimp only at b1 b2 b3 b4 ⊢; simp only [Rows.uptoBulk, Rows.uptoBulkAll]; omega⟩
set_option maxRecDepth 100000 in
theorem opens_span : Opens 145 (fun _ (s : Sp) cs => cs = [.bool s.hf, .bool s.ht, .int .i64 s.f.a1, .int .i64 s.f.a2, .int .i64 s.f.a3, .string s.f.a, .int .i64 s.t.a1, .int .i64 s.t.a2, .int .i64 s.t.a3, .string s.t.a]) (fun s => s.f.a.size + s.t.a.size + 10) := fun H enc W fuel cs x h => by
  obtain ⟨y0, y1, y2, y3, n, rfl, hl, h0, h1, h2, h3⟩ := trod_struct4 Tryz.underlying145 h
  have hc : Tryz.prog.cellsOf 145 = 10 := by kernel_rfl
  have cb : Tryz.prog.cellsOf 4 = 1 := by kernel_rfl
  have cv : Tryz.prog.cellsOf 35 = 4 := by kernel_rfl
  rw [hc] at hl
  match cs, hl with
  | [c0, c1, c2, c3, c4, c5, c6, c7, c8, c9], _ =>
    dsimp only at h0 h1 h2 h3
    rw [cb] at h0 h1
    rw [cv] at h2 h3
    obtain ⟨hf, e1, b1⟩ := opens_bool Tryz.underlying4 H enc W n _ _ h0
    obtain ⟨ht, e2, b2⟩ := opens_bool Tryz.underlying4 H enc W n _ _ h1
    obtain ⟨f, e3, b3⟩ := opens_ver H enc W n _ _ h2
    obtain ⟨t, e4, b4⟩ := opens_ver H enc W n _ _ h3
    simp at e1 e2 e3 e4
    obtain ⟨rfl, rfl, rfl, rfl⟩ := e3
    obtain ⟨rfl, rfl, rfl, rfl⟩ := e4
    subst e1 e2
    exact ⟨⟨hf, ht, f, t⟩, rfl, by dsimp only at b1 b2 b3 b4 ⊢; simp only [Rows.uptoBulk, Rows.uptoBulkAll]; omega⟩
instance : Inhabited V4 := ⟨⟨0, 0, 0, ⟨#[]⟩⟩⟩
instance : Inhabited Sp := ⟨⟨false, false, default, default⟩⟩
theorem rowOf_spans {W : World} {A : Option Addr} {l : List Sp} (h : RowOf (fun _ (s : Sp) cs => cs = [.bool s.hf, .bool s.ht, .int .i64 s.f.a1, .int .i64 s.f.a2, .int .i64 s.f.a3, .string s.f.a, .int .i64 s.t.a1, .int .i64 s.t.a2, .int .i64 s.t.a3, .string s.t.a]) 10 W A l) : RdS W A l := fun hne => by
  obtain ⟨b, o, rfl, hc⟩ := h hne
  refine ⟨b, o, rfl, ?_, ?_, ?_, ?_, ?_, ?_, ?_, ?_, ?_, ?_⟩ <;> intro k hk <;> obtain ⟨ecs, rfl, _, hj⟩ := hc k hk
  · exact hj 0 (by omega)
  · exact hj 1 (by omega)
  · exact hj 2 (by omega)
  · exact hj 3 (by omega)
  · exact hj 4 (by omega)
  · exact hj 5 (by omega)
  · exact hj 6 (by omega)
  · exact hj 7 (by omega)
  · exact hj 8 (by omega)
  · exact hj 9 (by omega)
set_option maxRecDepth 100000 in
/-- a range -/
theorem opens_range : Opens 51 (fun W (l : List Sp) cs => ∃ A c, cs = [.slice A l.length c] ∧ RdS W A l) (fun l => (l.map fun s => s.f.a.size + s.t.a.size + 10).sum + 1) := fun H enc W fuel cs x h => by
  obtain ⟨l, ⟨A, c, e, hr⟩, hb⟩ := opens_struct1 Tryz.underlying51 rfl (by kernel_rfl) (opens_slice (sz := 10) Tryz.underlying49 (by kernel_rfl) (by decide) opens_span) H enc W fuel cs x h
  exact ⟨l, ⟨A, c, e, rowOf_spans hr⟩, hb⟩
end Go.Proofs.YtghhjlcbcojcnaaGreatDoor

namespace Go.Proofs.YtghhjlcbcojcnaaGreatDoor

/-! ### Texts in quotes -/
def esc : Str → Str
  | [] => []
  | c :: r => if c = 34 ∨ c = 92 then 92 :: c :: esc r else c :: esc r
def quoteL (s : Str) : Str := 34 :: (esc s ++ [34])
/-- what stands behind a first quote: the text up to the next one, and the rest -/
def unq (s : Str) : Option (Str × Str) :=
  match s with
  | [] => none
  | c :: r => if c = 34 then some ([], r) else if c = 92 then
      (match r with
      | [] => none
      | d :: q => if d = 34 ∨ d = 92 then (unq q).map fun x => (d :: x.1, x.2) else none)
    else (unq r).map fun x => (c :: x.1, x.2)
termination_by s.length
theorem unq_nil : unq [] = none := by unfold unq; rfl
theorem unq_end (r : Str) : unq (34 :: r) = some ([], r) := by unfold unq; simp
theorem unq_back0 : unq [92] = none := by unfold unq; simp
theorem unq_two {d : UInt8} (h : d = 34 ∨ d = 92) (q : Str) : unq (92 :: d :: q) = (unq q).map fun x => (d :: x.1, x.2) := by
  rw [unq]
  simp only [show ¬ (92 : UInt8) = 34 by decide, if_false, if_true, if_pos h]
theorem unq_bad {d : UInt8} (h : ¬ (d = 34 ∨ d = 92)) (q : Str) : unq (92 :: d :: q) = none := by
  rw [unq]
  simp only [show ¬ (92 : UInt8) = 34 by decide, if_false, if_true, if_neg h]
theorem unq_one {c : UInt8} (h1 : ¬ c = 34) (h2 : ¬ c = 92) (r : Str) : unq (c :: r) = (unq r).map fun x => (c :: x.1, x.2) := by
  rw [unq.eq_def]
  simp only [if_neg h1, if_neg h2]
theorem unq_esc (t z : Str) : unq (esc t ++ 34 :: z) = some (t, z) := by
  induction t with
  | nil => exact unq_end z
  | cons c r ih =>
    unfold esc
    by_cases h : c = 34 ∨ c = 92
    · rw [if_pos h]
      simp only [List.cons_append]
      rw [unq_two h, ih]; rfl
    · rw [if_neg h]
      simp only [List.cons_append]
      rw [unq_one (fun e => h (.inl e)) (fun e => h (.inr e)), ih]; rfl
theorem unq_back : ∀ (n : Nat) (s t z : Str), s.length ≤ n → unq s = some (t, z) → s = esc t ++ 34 :: z := by
  intro n
  induction n with
  | zero =>
    intro s t z hl h
    have : s = [] := List.eq_nil_of_length_eq_zero (by omega)
    subst this
    rw [unq_nil] at h; cases h
  | succ n ih =>
    intro s t z hl h
    match s with
    | [] => rw [unq_nil] at h; cases h
    | c :: r =>
      by_cases h1 : c = 34
      · subst h1
        rw [unq_end] at h
        cases h; rfl
      by_cases h2 : c = 92
      · subst h2
        match r with
        | [] => rw [unq_back0] at h; cases h
        | d :: q =>
          by_cases h3 : d = 34 ∨ d = 92
          · rw [unq_two h3] at h
            cases hu : unq q with
            | none => rw [hu] at h; cases h
            | some x =>
              rw [hu] at h
              cases h
              have := ih q x.1 x.2 (by simp at hl; omega) hu
              rw [esc, if_pos h3]
              simp only [List.cons_append]
              rw [← this]
          · rw [unq_bad h3] at h; cases h
      · rw [unq_one h1 h2] at h
        cases hu : unq r with
        | none => rw [hu] at h; cases h
        | some x =>
          rw [hu] at h
          cases h
          have := ih r x.1 x.2 (by simp at hl; omega) hu
          rw [esc, if_neg (fun e => e.elim h1 h2)]
          simp only [List.cons_append]
          rw [← this]
def quotedL : Str → Option (Str × Str)
  | 34 :: r => unq r
  | _ => none
theorem quoted_quote (t z : Str) : quotedL (quoteL t ++ z) = some (t, z) := by
  unfold quoteL quotedL
  simp only [List.cons_append, List.append_assoc, List.nil_append]
  exact unq_esc t z
theorem quoted_back {s t z : Str} (h : quotedL s = some (t, z)) : s = quoteL t ++ z := by
  unfold quotedL at h
  split at h
  · rename_i r
    have := unq_back r.length r t z (Nat.le_refl _) h
    rw [this, quoteL]; simp
  · cases h

/-! ### Rules -/
structure Ru where
  kind : Int
  key : Str
  tt : Str
  old : Str
  new : Str
deriving instance DecidableEq for Ru
def zeroR : Ru := ⟨0, [], [], [], []⟩
def useTo (k : Int) : Bool := k == 1 || k == 2 || k == 3
def useOld (k : Int) : Bool := k == 7 || k == 8
def useNew (k : Int) : Bool := k == 4 || k == 5 || k == 7 || k == 8
def ruWord (k : Int) : Str :=
  if k = 1 then [114, 101, 110, 97, 109, 101] else if k = 2 then [112, 114, 101, 102, 105, 120] else if k = 3 then [99, 111, 112, 121] else if k = 4 then [115, 101, 116]
  else if k = 5 then [100, 101, 102, 97, 117, 108, 116] else if k = 6 then [100, 114, 111, 112] else if k = 7 then [109, 97, 112] else if k = 8 then [115, 119, 97, 112] else []
def belowL (key head : Str) : Bool := (head ++ [47]).isPrefixOf key
def ruErr (r : Ru) : Int :=
  if r.kind < 1 ∨ 8 < r.kind then 1
  else if (!pathL r.key || useTo r.kind && !pathL r.tt) = true then 5
  else if (!useTo r.kind && !r.tt.isEmpty || !useOld r.kind && !r.old.isEmpty || !useNew r.kind && !r.new.isEmpty || !valueL r.old || !valueL r.new) = true then 2
  else if (useTo r.kind && decide (r.key = r.tt)) = true then 11
  else if (decide (r.kind = 2) && (belowL r.key r.tt || belowL r.tt r.key)) = true then 13
  else if (useOld r.kind && decide (r.old = r.new)) = true then 11 else 0
def ruText (r : Ru) : Str :=
  ruWord r.kind ++ 32 :: r.key ++ (if useTo r.kind = true then 32 :: r.tt else []) ++ (if useOld r.kind = true then 32 :: quoteL r.old else []) ++ (if useNew r.kind = true then 32 :: quoteL r.new else [])
/-- the kind that a word names; -1: none -/
def ruKind (w : Str) : Int :=
  if w = [] then 0 else if w = ruWord 1 then 1 else if w = ruWord 2 then 2 else if w = ruWord 3 then 3 else if w = ruWord 4 then 4 else if w = ruWord 5 then 5 else if w = ruWord 6 then 6 else if w = ruWord 7 then 7 else if w = ruWord 8 then 8 else -1
/-- what the program's reading takes, ahead of its check -/
def candP (s : Str) : Option Ru :=
  if (!(cutC 32 s).2.2 || decide (ruKind (cutC 32 s).1 < 1)) = true then none
  else if ((cutC 32 (cutC 32 s).2.1).1.isEmpty || ((cutC 32 (cutC 32 s).2.1).2.2 != (useTo (ruKind (cutC 32 s).1) || useOld (ruKind (cutC 32 s).1) || useNew (ruKind (cutC 32 s).1)))) = true then none
  else if useTo (ruKind (cutC 32 s).1) = true then
    (if ((cutC 32 (cutC 32 s).2.1).2.1.isEmpty || (cutC 32 (cutC 32 s).2.1).2.1.contains 32) = true then none
    else some ⟨ruKind (cutC 32 s).1, (cutC 32 (cutC 32 s).2.1).1, (cutC 32 (cutC 32 s).2.1).2.1, [], []⟩)
  else if useOld (ruKind (cutC 32 s).1) = true then
    (match quotedL (cutC 32 (cutC 32 s).2.1).2.1 with
    | some (o, 32 :: r) => (match quotedL r with
      | some (n, []) => some ⟨ruKind (cutC 32 s).1, (cutC 32 (cutC 32 s).2.1).1, [], o, n⟩
      | _ => none)
    | _ => none)
  else if useNew (ruKind (cutC 32 s).1) = true then
    (match quotedL (cutC 32 (cutC 32 s).2.1).2.1 with
    | some (n, []) => some ⟨ruKind (cutC 32 s).1, (cutC 32 (cutC 32 s).2.1).1, [], [], n⟩
    | _ => none)
  else if (cutC 32 (cutC 32 s).2.1).2.1.isEmpty = true then some ⟨ruKind (cutC 32 s).1, (cutC 32 (cutC 32 s).2.1).1, [], [], []⟩ else none
def parseRu (s : Str) : Ru × Int :=
  if 4000 < s.length then (zeroR, 4) else match candP s with
  | none => (zeroR, 8)
  | some r => if ruErr r ≠ 0 then (zeroR, ruErr r) else (r, 0)
/-- a rule that its text shows whole -/
structure Shape (r : Ru) : Prop where
  lo : 1 ≤ r.kind
  hi : r.kind ≤ 8
  key : r.key ≠ []
  key32 : (32 : UInt8) ∉ r.key
  to1 : useTo r.kind = true → r.tt ≠ [] ∧ (32 : UInt8) ∉ r.tt
  to0 : useTo r.kind = false → r.tt = []
  old0 : useOld r.kind = false → r.old = []
  new0 : useNew r.kind = false → r.new = []
theorem kind_cases {k : Int} (h1 : 1 ≤ k) (h2 : k ≤ 8) : k = 1 ∨ k = 2 ∨ k = 3 ∨ k = 4 ∨ k = 5 ∨ k = 6 ∨ k = 7 ∨ k = 8 := by omega
theorem ruKind_word {k : Int} (h1 : 1 ≤ k) (h2 : k ≤ 8) : ruKind (ruWord k) = k ∧ (32 : UInt8) ∉ ruWord k := by
  rcases kind_cases h1 h2 with rfl | rfl | rfl | rfl | rfl | rfl | rfl | rfl <;> decide
theorem ruKind_back {w : Str} (h : ¬ ruKind w < 1) : 1 ≤ ruKind w ∧ ruKind w ≤ 8 ∧ w = ruWord (ruKind w) := by
  unfold ruKind at h ⊢
  repeat' split
  all_goals first
    | (rename_i e; exact ⟨by decide, by decide, e⟩)
    | (exfalso; revert h; simp_all)
theorem cand_text {r : Ru} (h : Shape r) : candP (ruText r) = some r := by
  obtain ⟨kind, key, tt, old, new⟩ := r
  obtain ⟨h1, h2, h3, h4, h5, h6, h7, h8⟩ := h
  dsimp only at *
  obtain ⟨k1, k2⟩ := ruKind_word h1 h2
  have kk := kind_cases h1 h2
  have hk0 : ¬ kind < 1 := by omega
  unfold ruText candP
  dsimp only
  generalize ruWord kind = wd at *
  have e0 : wd ++ 32 :: key ++ (if useTo kind = true then 32 :: tt else []) ++ (if useOld kind = true then 32 :: quoteL old else []) ++ (if useNew kind = true then 32 :: quoteL new else []) =
      wd ++ 32 :: (key ++ ((if useTo kind = true then 32 :: tt else []) ++ (if useOld kind = true then 32 :: quoteL old else []) ++ (if useNew kind = true then 32 :: quoteL new else []))) := by simp
  rw [e0, cutC_app 32 wd _ k2]
  dsimp only
  rw [k1]
  have hke : key.isEmpty = false := by cases key with | nil => exact absurd rfl h3 | cons _ _ => rfl
  have hkd : decide (kind < 1) = false := decide_eq_false hk0
  rcases kk with rfl | rfl | rfl | rfl | rfl | rfl | rfl | rfl
  case inl | inr.inl | inr.inr.inl =>
    obtain ⟨t1, t2⟩ := h5 rfl
    obtain rfl := h7 rfl
    obtain rfl := h8 rfl
    have ht : tt.isEmpty = false := by cases tt with | nil => exact absurd rfl t1 | cons _ _ => rfl
    have ht2 : tt.contains 32 = false := by simpa using t2
    have e1 : ∀ a b : Str, (if (true = true) then 32 :: tt else a) ++ (if (false = true) then a else b) = 32 :: tt ++ b := fun a b => by simp
    simp only [useTo, useOld, useNew] at *
    simp [cutC_app 32 key tt h4, hke, ht, t2]
  case inr.inr.inr.inl | inr.inr.inr.inr.inl =>
    obtain rfl := h6 rfl
    obtain rfl := h7 rfl
    simp only [useTo, useOld, useNew] at *
    have hq := quoted_quote new []
    rw [List.append_nil] at hq
    simp [cutC_app 32 key (quoteL new) h4, hke, hq]
  case inr.inr.inr.inr.inr.inl =>
    obtain rfl := h6 rfl
    obtain rfl := h7 rfl
    obtain rfl := h8 rfl
    simp only [useTo, useOld, useNew] at *
    simp [cutC_none 32 key h4, hke]
  all_goals
    obtain rfl := h6 rfl
    simp only [useTo, useOld, useNew] at *
    have hq := quoted_quote new []
    rw [List.append_nil] at hq
    have hq2 := quoted_quote old (32 :: quoteL new)
    simp [cutC_app 32 key (quoteL old ++ 32 :: quoteL new) h4, hke, hq2, hq]
end Go.Proofs.YtghhjlcbcojcnaaGreatDoor

namespace Go.Proofs.YtghhjlcbcojcnaaGreatDoor

/-! ### What a right rule is -/
theorem tf {P : Prop} (e : true = false) : P := nomatch e
theorem ft {P : Prop} (e : false = true) : P := nomatch e
theorem part_pos {l : Str} (h : partL l = true) : 0 < l.length ∧ ∀ c ∈ l, partB c = true := by
  unfold partL eachL at h
  simp only [Bool.and_eq_true, decide_eq_true_eq] at h
  exact ⟨h.1.1.1.2, fun c hc => List.all_eq_true.1 h.1.1.1.1 c hc⟩
theorem splitC_mem (c : UInt8) : ∀ (l : Str) (x : UInt8), x ∈ l → x = c ∨ ∃ p ∈ splitC c l, x ∈ p
  | [], _, h => by cases h
  | y :: r, x, h => by
    by_cases hy : y = c
    · rcases List.mem_cons.1 h with rfl | h
      · exact .inl hy
      · rcases splitC_mem c r x h with h | ⟨p, hp, hx⟩
        · exact .inl h
        · exact .inr ⟨p, by rw [splitC, if_pos hy]; exact List.mem_cons_of_mem _ hp, hx⟩
    · cases hs : splitC c r with
      | nil => exact absurd hs (splitC_ne c r)
      | cons q t =>
        have e : splitC c (y :: r) = (y :: q) :: t := by rw [splitC, if_neg hy, hs]
        rcases List.mem_cons.1 h with rfl | h
        · exact .inr ⟨x :: q, by rw [e]; simp, by simp⟩
        · rcases splitC_mem c r x h with h | ⟨p, hp, hx⟩
          · exact .inl h
          · rw [hs] at hp
            rcases List.mem_cons.1 hp with rfl | hp
            · exact .inr ⟨y :: p, by rw [e]; simp, by simp [hx]⟩
            · exact .inr ⟨p, by rw [e]; simp [hp], hx⟩
theorem path_shape {l : Str} (h : pathL l = true) : l ≠ [] ∧ (32 : UInt8) ∉ l := by
  unfold pathL at h
  simp only [Bool.and_eq_true, decide_eq_true_eq] at h
  have h1 := List.all_eq_true.1 h.1
  refine ⟨?_, fun hc => ?_⟩
  · rintro rfl
    have := (part_pos (h1 [] (by simp [splitC]))).1
    simp at this
  · rcases splitC_mem 47 l 32 hc with e | ⟨p, hp, hx⟩
    · exact absurd e (by decide)
    · have := (part_pos (h1 p hp)).2 32 hx
      exact absurd this (by decide)
theorem emp_iff {l : Str} : l.isEmpty = true ↔ l = [] := List.isEmpty_iff
/-- the parts of a right rule -/
structure RightR (r : Ru) : Prop where
  lo : 1 ≤ r.kind
  hi : r.kind ≤ 8
  key : pathL r.key = true
  to1 : useTo r.kind = true → pathL r.tt = true
  to0 : useTo r.kind = false → r.tt = []
  old0 : useOld r.kind = false → r.old = []
  new0 : useNew r.kind = false → r.new = []
theorem right_of {r : Ru} (h : ruErr r = 0) : RightR r := by
  unfold ruErr at h
  by_cases h1 : r.kind < 1 ∨ 8 < r.kind
  · rw [if_pos h1] at h; omega
  rw [if_neg h1] at h
  by_cases h2 : (!pathL r.key || useTo r.kind && !pathL r.tt) = true
  · rw [if_pos h2] at h; omega
  rw [if_neg h2] at h
  by_cases h3 : (!useTo r.kind && !r.tt.isEmpty || !useOld r.kind && !r.old.isEmpty || !useNew r.kind && !r.new.isEmpty || !valueL r.old || !valueL r.new) = true
  · rw [if_pos h3] at h; omega
  simp only [Bool.or_eq_true, Bool.and_eq_true, Bool.not_eq_true', not_or, not_and, Bool.not_eq_false] at h2 h3
  obtain ⟨⟨⟨⟨a1, a2⟩, a3⟩, _⟩, _⟩ := h3
  exact ⟨by omega, by omega, h2.1, h2.2, fun e => emp_iff.1 (a1 e), fun e => emp_iff.1 (a2 e), fun e => emp_iff.1 (a3 e)⟩
theorem shape_of {r : Ru} (h : ruErr r = 0) : Shape r := by
  obtain ⟨a, b, c, d, e, f, g⟩ := right_of h
  exact ⟨a, b, (path_shape c).1, (path_shape c).2, fun x => path_shape (d x), e, f, g⟩

/-! ### The reference's error -/
def refErrR (r : Ru) : Int :=
  if (ruWord r.kind).isEmpty = true then 1
  else if (!pathL r.key || useTo r.kind && !pathL r.tt) = true then 5
  else if (!useTo r.kind && !r.tt.isEmpty || !useOld r.kind && !r.old.isEmpty || !useNew r.kind && !r.new.isEmpty || !valueL r.old || !valueL r.new) = true then 2
  else if r.key = r.tt then 11
  else if (decide (r.kind = 2) && (belowL r.key r.tt || belowL r.tt r.key)) = true then 13
  else if (useOld r.kind && decide (r.old = r.new)) = true then 11 else 0
theorem word_empty (k : Int) : (ruWord k).isEmpty = true ↔ (k < 1 ∨ 8 < k) := by
  constructor
  · intro h
    rcases Classical.em (k < 1 ∨ 8 < k) with h1 | h1
    · exact h1
    · exfalso
      rcases kind_cases (k := k) (by omega) (by omega) with rfl | rfl | rfl | rfl | rfl | rfl | rfl | rfl <;> exact absurd h (by decide)
  · intro h
    unfold ruWord
    rw [if_neg (by omega), if_neg (by omega), if_neg (by omega), if_neg (by omega), if_neg (by omega), if_neg (by omega), if_neg (by omega), if_neg (by omega)]
    rfl
theorem refErrR_eq (r : Ru) : refErrR r = ruErr r := by
  unfold refErrR ruErr
  by_cases h1 : r.kind < 1 ∨ 8 < r.kind
  · rw [if_pos h1, if_pos ((word_empty _).2 h1)]
  rw [if_neg h1, if_neg (fun e => h1 ((word_empty _).1 e))]
  by_cases h2 : (!pathL r.key || useTo r.kind && !pathL r.tt) = true
  · rw [if_pos h2, if_pos h2]
  rw [if_neg h2, if_neg h2]
  by_cases h3 : (!useTo r.kind && !r.tt.isEmpty || !useOld r.kind && !r.old.isEmpty || !useNew r.kind && !r.new.isEmpty || !valueL r.old || !valueL r.new) = true
  · rw [if_pos h3, if_pos h3]
  rw [if_neg h3, if_neg h3]
  simp only [Bool.or_eq_true, Bool.and_eq_true, Bool.not_eq_true', not_or, not_and, Bool.not_eq_false] at h2 h3
  obtain ⟨⟨⟨⟨a1, _⟩, _⟩, _⟩, _⟩ := h3
  by_cases h4 : useTo r.kind = true
  · by_cases h5 : r.key = r.tt
    · rw [if_pos h5, if_pos (by rw [h4, decide_eq_true h5]; rfl)]
    · rw [if_neg h5, if_neg (show ¬ (useTo r.kind && decide (r.key = r.tt)) = true by rw [h4, decide_eq_false h5]; decide)]
  · have h4 : useTo r.kind = false := by simpa using h4
    have h5 : ¬ r.key = r.tt := fun e => (path_shape h2.1).1 (e.trans (emp_iff.1 (a1 h4)))
    rw [if_neg h5, if_neg (show ¬ (useTo r.kind && decide (r.key = r.tt)) = true by rw [h4]; simp)]

/-! ### Inverses -/
def invL (r : Ru) : Ru × Int :=
  if ruErr r ≠ 0 then (zeroR, ruErr r)
  else if r.kind = 1 ∨ r.kind = 2 then (⟨r.kind, r.tt, r.key, r.old, r.new⟩, 0)
  else if r.kind = 7 then (⟨r.kind, r.key, r.tt, r.new, r.old⟩, 0)
  else if r.kind = 8 then (r, 0) else (zeroR, 12)
/-! ### The program's reading, back -/
theorem cutC_back {c : UInt8} {s a b : Str} (h : cutC c s = (a, b, true)) : s = a ++ c :: b ∧ c ∉ a := by
  rcases first_cut c s with h1 | ⟨x, y, hx, rfl⟩
  · rw [cutC_none c s h1] at h; cases h
  · rw [cutC_app c x y hx] at h; cases h; exact ⟨rfl, hx⟩
theorem cutC_back0 {c : UInt8} {s a b : Str} (h : cutC c s = (a, b, false)) : s = a ∧ b = [] ∧ c ∉ a := by
  rcases first_cut c s with h1 | ⟨x, y, hx, rfl⟩
  · rw [cutC_none c s h1] at h; cases h; exact ⟨rfl, rfl, h1⟩
  · rw [cutC_app c x y hx] at h; cases h
theorem cand_back {s : Str} {r : Ru} (h : candP s = some r) : Shape r ∧ s = ruText r := by
  unfold candP at h
  generalize h0 : cutC 32 s = q0 at h
  obtain ⟨w, rest, ok⟩ := q0
  dsimp only at h
  by_cases g1 : (!ok || decide (ruKind w < 1)) = true
  · rw [if_pos g1] at h; cases h
  rw [if_neg g1] at h
  simp only [Bool.or_eq_true, Bool.not_eq_true', decide_eq_true_eq, not_or, Bool.not_eq_false] at g1
  obtain ⟨rfl, gk⟩ := g1
  obtain ⟨rfl, hw⟩ := cutC_back h0
  obtain ⟨k1, k8, kw⟩ := ruKind_back gk
  generalize ruKind w = k at *
  generalize h1 : cutC 32 rest = q1 at h
  obtain ⟨key, rest1, more⟩ := q1
  dsimp only at h
  by_cases g2 : (key.isEmpty || (more != (useTo k || useOld k || useNew k))) = true
  · rw [if_pos g2] at h; cases h
  rw [if_neg g2] at h
  simp only [Bool.or_eq_true, not_or, bne_iff_ne, ne_eq, Classical.not_not] at g2
  obtain ⟨gke, gm⟩ := g2
  have hke : key ≠ [] := fun e => gke (by rw [e]; rfl)
  rcases kind_cases k1 k8 with rfl | rfl | rfl | rfl | rfl | rfl | rfl | rfl
  case inl | inr.inl | inr.inr.inl =>
    simp only [useTo, useOld, useNew] at gm
    obtain rfl : more = true := by simpa using gm
    obtain ⟨rfl, hk32⟩ := cutC_back h1
    rw [if_pos (show useTo _ = true from rfl)] at h
    by_cases g3 : (rest1.isEmpty || rest1.contains 32) = true
    · rw [if_pos g3] at h; cases h
    rw [if_neg g3] at h
    cases h
    simp only [Bool.or_eq_true, not_or] at g3
    refine ⟨⟨k1, k8, hke, hk32, fun _ => ⟨fun e => g3.1 (by rw [show rest1 = [] from e]; rfl), by simpa using g3.2⟩, fun e => tf e, fun _ => rfl, fun _ => rfl⟩, ?_⟩
    rw [kw]
    simp [ruText, useTo, useOld, useNew]
  case inr.inr.inr.inl | inr.inr.inr.inr.inl =>
    simp only [useTo, useOld, useNew] at gm
    obtain rfl : more = true := by simpa using gm
    obtain ⟨rfl, hk32⟩ := cutC_back h1
    rw [if_neg (show ¬ useTo _ = true by decide), if_neg (show ¬ useOld _ = true by decide), if_pos (show useNew _ = true from rfl)] at h
    split at h
    · rename_i n hq
      cases h
      have := quoted_back hq
      rw [List.append_nil] at this
      refine ⟨⟨k1, k8, hke, hk32, fun e => ft e, fun _ => rfl, fun _ => rfl, fun e => tf e⟩, ?_⟩
      rw [kw, this]
      simp [ruText, useTo, useOld, useNew]
    · cases h
  case inr.inr.inr.inr.inr.inl =>
    simp only [useTo, useOld, useNew] at gm
    obtain rfl : more = false := by simpa using gm
    obtain ⟨rfl, rfl, hk32⟩ := cutC_back0 h1
    rw [if_neg (show ¬ useTo _ = true by decide), if_neg (show ¬ useOld _ = true by decide), if_neg (show ¬ useNew _ = true by decide), if_pos (show ([] : Str).isEmpty = true from rfl)] at h
    cases h
    refine ⟨⟨k1, k8, hke, hk32, fun e => ft e, fun _ => rfl, fun _ => rfl, fun _ => rfl⟩, ?_⟩
    rw [kw]
    simp [ruText, useTo, useOld, useNew]
  all_goals
    simp only [useTo, useOld, useNew] at gm
    obtain rfl : more = true := by simpa using gm
    obtain ⟨rfl, hk32⟩ := cutC_back h1
    rw [if_neg (show ¬ useTo _ = true by decide), if_pos (show useOld _ = true from rfl)] at h
    split at h
    · rename_i o r1 hq
      split at h
      · rename_i n hq2
        cases h
        have e1 := quoted_back hq
        have e2 := quoted_back hq2
        rw [List.append_nil] at e2
        refine ⟨⟨k1, k8, hke, hk32, fun e => ft e, fun _ => rfl, fun e => tf e, fun e => tf e⟩, ?_⟩
        rw [kw, e1, e2]
        simp [ruText, useTo, useOld, useNew]
      · cases h
    · cases h

/-! ### The reference's reading -/
/-- a text in quotes and, where it is not the last, a blank behind it: what is read, and the rest -/
def takeQ (last : Bool) (s : Str) : Option (Str × Str) :=
  match quotedL s with
  | none => none
  | some (v, z) => if last = true then some (v, z) else match z with | 32 :: y => some (v, y) | _ => none
def candR (s : Str) : Option Ru :=
  let k := ruKind (cutC 32 s).1
  let key := (cutC 32 (cutC 32 s).2.1).1
  let r1 := (cutC 32 (cutC 32 s).2.1).2.1
  let tt := if useTo k = true then (cutC 32 r1).1 else []
  let r2 := if useTo k = true then (cutC 32 r1).2.1 else r1
  match (if useOld k = true then takeQ false r2 else some ([], r2)) with
  | none => none
  | some (o, r3) => match (if useNew k = true then takeQ true r3 else some ([], r3)) with
    | none => none
    | some (n, r4) => if (!r4.isEmpty || key.isEmpty || (useTo k && tt.isEmpty) || decide (ruText ⟨k, key, tt, o, n⟩ ≠ s)) = true then none else some ⟨k, key, tt, o, n⟩
def readRu (s : Str) : Ru × Int :=
  if 4000 < s.length then (zeroR, 4) else if ruKind (cutC 32 s).1 < 1 then (zeroR, 8) else match candR s with
  | none => (zeroR, 8)
  | some r => if ruErr r ≠ 0 then (zeroR, ruErr r) else (r, 0)
theorem cutC_pair (c : UInt8) (s : Str) : c ∉ (cutC c s).1 := by
  rcases first_cut c s with h1 | ⟨x, y, hx, rfl⟩
  · rw [cutC_none c s h1]; exact h1
  · rw [cutC_app c x y hx]; exact hx
theorem candR_shape {s : Str} {r : Ru} (hk : ¬ ruKind (cutC 32 s).1 < 1) (h : candR s = some r) : Shape r ∧ s = ruText r := by
  obtain ⟨k1, k8, _⟩ := ruKind_back hk
  unfold candR at h
  dsimp only at h
  have hkey := cutC_pair 32 (cutC 32 s).2.1
  have hto := cutC_pair 32 (cutC 32 (cutC 32 s).2.1).2.1
  generalize ruKind (cutC 32 s).1 = k at *
  generalize (cutC 32 (cutC 32 s).2.1).1 = key at *
  generalize (cutC 32 (cutC 32 s).2.1).2.1 = r1 at *
  generalize cutC 32 r1 = qt at *
  obtain ⟨t, r2, tb⟩ := qt
  dsimp only at h hto
  have key : ∀ (o n r4 : Str), (useOld k = false → o = []) → (useNew k = false → n = []) →
      (if (!r4.isEmpty || key.isEmpty || (useTo k && (if useTo k = true then t else []).isEmpty) || decide (ruText ⟨k, key, if useTo k = true then t else [], o, n⟩ ≠ s)) = true then none else some (⟨k, key, if useTo k = true then t else [], o, n⟩ : Ru)) = some r →
      Shape r ∧ s = ruText r := fun o n r4 ho hn e => by
    by_cases g : (!r4.isEmpty || key.isEmpty || (useTo k && (if useTo k = true then t else []).isEmpty) || decide (ruText ⟨k, key, if useTo k = true then t else [], o, n⟩ ≠ s)) = true
    · rw [if_pos g] at e; cases e
    rw [if_neg g] at e
    cases e
    simp only [Bool.or_eq_true, Bool.and_eq_true, Bool.not_eq_true', decide_eq_true_eq, not_or, not_and, Bool.not_eq_false, ne_eq, Classical.not_not] at g
    obtain ⟨⟨⟨_, g2⟩, g3⟩, g4⟩ := g
    refine ⟨⟨k1, k8, fun e => g2 (by rw [show key = [] from e]; rfl), hkey, fun e => ?_, fun e => ?_, ho, hn⟩, g4.symm⟩
    · dsimp only at e ⊢
      rw [if_pos e]
      have := g3 e
      rw [if_pos e] at this
      exact ⟨fun x => this (by rw [x]; rfl), hto⟩
    · dsimp only at e ⊢
      rw [e]; rfl
  split at h
  · cases h
  · rename_i o r3 ho
    split at h
    · cases h
    · rename_i n r4 hn
      refine key o n r4 (fun e => ?_) (fun e => ?_) h
      · rw [if_neg (by rw [e]; decide)] at ho; cases ho; rfl
      · rw [if_neg (by rw [e]; decide)] at hn; cases hn; rfl
theorem takeQ_quote0 (t z : Str) : takeQ false (quoteL t ++ 32 :: z) = some (t, z) := by
  unfold takeQ; rw [quoted_quote]; rfl
theorem takeQ_quote1 (t : Str) : takeQ true (quoteL t) = some (t, []) := by
  unfold takeQ
  have := quoted_quote t []
  rw [List.append_nil] at this
  rw [this]; rfl
theorem ruKind_text {r : Ru} (h : Shape r) : ∃ y, cutC 32 (ruText r) = (ruWord r.kind, y, true) ∧ y = r.key ++ ((if useTo r.kind = true then 32 :: r.tt else []) ++ ((if useOld r.kind = true then 32 :: quoteL r.old else []) ++ (if useNew r.kind = true then 32 :: quoteL r.new else []))) := by
  refine ⟨_, ?_, rfl⟩
  have e0 : ruText r = ruWord r.kind ++ 32 :: (r.key ++ ((if useTo r.kind = true then 32 :: r.tt else []) ++ ((if useOld r.kind = true then 32 :: quoteL r.old else []) ++ (if useNew r.kind = true then 32 :: quoteL r.new else [])))) := by simp [ruText]
  rw [e0, cutC_app 32 _ _ (ruKind_word h.lo h.hi).2]
theorem candR_text {r : Ru} (h : Shape r) : candR (ruText r) = some r := by
  obtain ⟨y, hy, he⟩ := ruKind_text h
  obtain ⟨h1, h2, h3, h4, h5, h6, h7, h8⟩ := h
  have hk := (ruKind_word h1 h2).1
  unfold candR
  dsimp only
  rw [hy]
  dsimp only
  rw [hk]
  generalize hT : ruText r = T
  obtain ⟨kind, key, tt, old, new⟩ := r
  dsimp only at *
  subst he
  have hke : key.isEmpty = false := by cases key with | nil => exact absurd rfl h3 | cons _ _ => rfl
  have fin : ∀ a b c d, (!([] : Str).isEmpty || key.isEmpty || (a && b) || decide (c ≠ d)) = ((a && b) || decide ((c : Str) ≠ d)) := fun a b c d => by rw [hke]; simp
  rcases kind_cases h1 h2 with rfl | rfl | rfl | rfl | rfl | rfl | rfl | rfl
  case inl | inr.inl | inr.inr.inl =>
    obtain ⟨t1, t2⟩ := h5 rfl
    obtain rfl := h7 rfl
    obtain rfl := h8 rfl
    have ht : tt.isEmpty = false := by cases tt with | nil => exact absurd rfl t1 | cons _ _ => rfl
    simp only [useTo, useOld, useNew]
    simp only [show ((1 : Int) == 1 || (1 : Int) == 2 || (1 : Int) == 3) = true by decide, show ((2 : Int) == 1 || (2 : Int) == 2 || (2 : Int) == 3) = true by decide, show ((3 : Int) == 1 || (3 : Int) == 2 || (3 : Int) == 3) = true by decide, show ((1 : Int) == 7 || (1 : Int) == 8) = false by decide, show ((2 : Int) == 7 || (2 : Int) == 8) = false by decide, show ((3 : Int) == 7 || (3 : Int) == 8) = false by decide, show ((1 : Int) == 4 || (1 : Int) == 5 || (1 : Int) == 7 || (1 : Int) == 8) = false by decide, show ((2 : Int) == 4 || (2 : Int) == 5 || (2 : Int) == 7 || (2 : Int) == 8) = false by decide, show ((3 : Int) == 4 || (3 : Int) == 5 || (3 : Int) == 7 || (3 : Int) == 8) = false by decide, if_true, Bool.false_eq_true, if_false, List.append_nil]
    rw [cutC_app 32 key tt h4]
    dsimp only
    rw [cutC_none 32 tt t2]
    simp [hke, ht, hT]
  case inr.inr.inr.inl | inr.inr.inr.inr.inl =>
    obtain rfl := h6 rfl
    obtain rfl := h7 rfl
    simp [useTo, useOld, useNew, cutC_app 32 key (quoteL new) h4, takeQ_quote1, hke, hT]
  case inr.inr.inr.inr.inr.inl =>
    obtain rfl := h6 rfl
    obtain rfl := h7 rfl
    obtain rfl := h8 rfl
    simp [useTo, useOld, useNew, cutC_none 32 key h4, hke, hT]
  all_goals
    obtain rfl := h6 rfl
    simp [useTo, useOld, useNew, cutC_app 32 key (quoteL old ++ 32 :: quoteL new) h4, takeQ_quote0, takeQ_quote1, hke, hT]
theorem readRu_eq (s : Str) : readRu s = parseRu s := by
  unfold readRu parseRu
  by_cases h0 : 4000 < s.length
  · rw [if_pos h0, if_pos h0]
  rw [if_neg h0, if_neg h0]
  by_cases hk : ruKind (cutC 32 s).1 < 1
  · rw [if_pos hk]
    have : candP s = none := by
      unfold candP
      rw [if_pos (by rw [decide_eq_true hk]; simp)]
    rw [this]
  rw [if_neg hk]
  have : candR s = candP s := by
    cases h1 : candP s with
    | some r =>
      obtain ⟨hs, rfl⟩ := cand_back h1
      exact candR_text hs
    | none =>
      cases h2 : candR s with
      | none => rfl
      | some r =>
        obtain ⟨hs, rfl⟩ := candR_shape hk h2
        rw [cand_text hs] at h1
        cases h1
  rw [this]
  first | done | (cases candP s <;> rfl)
end Go.Proofs.YtghhjlcbcojcnaaGreatDoor

namespace Go.Proofs.YtghhjlcbcojcnaaGreatDoor

def subst1 (c : UInt8) (new : Str) (l : Str) : Str := l.flatMap fun x => if x = c then new else [x]
theorem subst1_none (c : UInt8) (new : Str) : ∀ l : Str, c ∉ l → subst1 c new l = l
  | [], _ => rfl
  | x :: l, h => by
    have h1 : ¬ x = c := fun e => h (by simp [e])
    have := subst1_none c new l (fun e => h (by simp [e]))
    unfold subst1 at this ⊢
    rw [List.flatMap_cons, if_neg h1, this]; rfl
theorem subst1_app (c : UInt8) (new a r : Str) (h : c ∉ a) : subst1 c new (a ++ c :: r) = a ++ new ++ subst1 c new r := by
  have h1 := subst1_none c new a h
  unfold subst1 at h1 ⊢
  rw [List.flatMap_append, h1, List.flatMap_cons, if_pos rfl, List.append_assoc]
theorem replaceK_one (c : UInt8) (new : Str) : ∀ (n : Nat) (l : Str), l.length ≤ n → Lib.replaceK [c] new (Lib.count l [c]) l = subst1 c new l := by
  intro n
  induction n with
  | zero =>
    intro l hl
    have : l = [] := List.eq_nil_of_length_eq_zero (by omega)
    subst this
    rw [count_one_none c [] (by simp)]
    rfl
  | succ n ih =>
    intro l hl
    rcases first_cut c l with h | ⟨a, r, ha, rfl⟩
    · rw [count_one_none c l h, subst1_none c new l h]
      rfl
    · rw [count_one_app c a r ha, subst1_app c new a r ha, Nat.add_comm 1, Lib.replaceK_hit [c] new _ _ a.length (index_app c a r ha), ← ih r (by simp at hl; omega)]
      congr 1
      · simp
      · rw [← List.drop_drop]; simp
theorem replaceAll_one (c : UInt8) (new l : Str) (h : ¬ [c] = new) : Lib.replaceAll l [c] new = subst1 c new l := by
  unfold Lib.replaceAll Lib.replace Lib.replaceNum
  rw [if_neg (by simpa using h), if_pos (.inl (by decide))]
  exact replaceK_one c new _ l (Nat.le_refl _)
theorem esc_two (l : Str) : subst1 34 [92, 34] (subst1 92 [92, 92] l) = esc l := by
  induction l with
  | nil => rfl
  | cons c r ih =>
    unfold subst1 at ih ⊢
    rw [List.flatMap_cons, List.flatMap_append, ih, esc]
    by_cases h1 : c = 92
    · rw [if_pos h1, if_pos (.inr h1), h1]; rfl
    · rw [if_neg h1]
      by_cases h2 : c = 34
      · rw [if_pos (.inl h2), h2]; rfl
      · rw [if_neg (fun e => e.elim h2 h1), List.flatMap_cons, if_neg h2]; rfl
theorem subst1_len (c : UInt8) (new : Str) (l : Str) (h : new.length ≤ 2) : (subst1 c new l).length ≤ 2 * l.length := by
  induction l with
  | nil => exact Nat.zero_le _
  | cons x l ih =>
    unfold subst1 at ih ⊢
    rw [List.flatMap_cons, List.length_append, List.length_cons]
    by_cases hx : x = c
    · rw [if_pos hx]; omega
    · rw [if_neg hx]; simp only [List.length_cons, List.length_nil]; omega
theorem esc_len (l : Str) : (esc l).length = l.length + (l.count 34 + l.count 92) := by
  induction l with
  | nil => rfl
  | cons c r ih =>
    rw [esc]
    by_cases h1 : c = 34
    · subst h1; simp [ih]; omega
    · by_cases h2 : c = 92
      · subst h2; simp [ih]; omega
      · rw [if_neg (fun e => e.elim h1 h2), List.length_cons, ih, List.length_cons, List.count_cons_of_ne h1, List.count_cons_of_ne h2]; omega
theorem esc_le (l : Str) : (esc l).length ≤ 2 * l.length := by
  induction l with
  | nil => exact Nat.le_refl _
  | cons c r ih =>
    rw [esc]
    split <;> simp <;> omega
theorem quote_len (l : Str) : (quoteL l).length ≤ 2 * l.length + 2 := by
  have := esc_le l
  simp only [quoteL, List.length_cons, List.length_append, List.length_nil]
  omega
end Go.Proofs.YtghhjlcbcojcnaaGreatDoor
