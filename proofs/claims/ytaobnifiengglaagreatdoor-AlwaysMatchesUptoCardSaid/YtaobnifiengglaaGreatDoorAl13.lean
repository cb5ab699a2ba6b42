/- Plain law: ranges, their errors, their texts, and what reads them; the reference's reading is the program's. Plain law: what ver.PrintRange writes, ver.ParseRange reads back. -/
import Derived.Test.YtaobnifiengglaaGreatDoorAl08
import Derived.Test.YtaobnifiengglaaGreatDoorAl12
import Derived.Test.YtaobnifiengglaaGreatDoorAl05
import Derived.Lib.Join

namespace Go.Proofs.YtaobnifiengglaaGreatDoor

/-! ### The order turned round -/
theorem compareInt_neg (a b : Int) : Lib.compareInt b a = - Lib.compareInt a b := by
  unfold Lib.compareInt
  (repeat' split) <;> omega
theorem compareBytes_neg : ∀ a b : Str, Lib.compareBytes b a = - Lib.compareBytes a b
  | [], [] => rfl
  | [], _ :: _ => rfl
  | _ :: _, [] => rfl
  | x :: a, y :: b => by
    unfold Lib.compareBytes
    rcases Nat.lt_trichotomy x.toNat y.toNat with h | h | h
    · have h1 : x < y := UInt8.lt_iff_toNat_lt.2 h
      have h2 : ¬ y < x := fun e => by have := UInt8.lt_iff_toNat_lt.1 e; omega
      rw [if_pos h1, if_neg h2, if_pos h1]; rfl
    · have h1 : ¬ x < y := fun e => by have := UInt8.lt_iff_toNat_lt.1 e; omega
      have h2 : ¬ y < x := fun e => by have := UInt8.lt_iff_toNat_lt.1 e; omega
      rw [if_neg h1, if_neg h2, if_neg h2, if_neg h1]
      exact compareBytes_neg a b
    · have h1 : y < x := UInt8.lt_iff_toNat_lt.2 h
      have h2 : ¬ x < y := fun e => by have := UInt8.lt_iff_toNat_lt.1 e; omega
      rw [if_pos h1, if_neg h2, if_pos h1]
      try rfl
theorem cmpWord_neg (a b : Str) : cmpWordL b a = - cmpWordL a b := by
  unfold cmpWordL
  cases numeralL a <;> cases numeralL b
  · exact compareBytes_neg a b
  · rfl
  · rfl
  · simp only [Bool.and_self, if_true]
    by_cases h : a.length = b.length
    · rw [if_pos h, if_pos h.symm, compareBytes_neg]
    · rw [if_neg h, if_neg (Ne.symm h), compareInt_neg]
theorem cmpWords_neg {f : Str → Str → Int} (hf : ∀ a b, f b a = - f a b) : ∀ xs ys : List Str, cmpWordsL f ys xs = - cmpWordsL f xs ys
  | [], [] => compareInt_neg _ _
  | [], _ :: _ => compareInt_neg _ _
  | _ :: _, [] => compareInt_neg _ _
  | x :: xs, y :: ys => by
    unfold cmpWordsL
    rw [hf x y]
    by_cases h : f x y = 0
    · rw [if_pos h, if_pos (by omega), cmpWords_neg hf xs ys]
    · rw [if_neg h, if_neg (by omega)]
theorem cmpEarly_neg (a b : Str) : cmpEarlyL b a = - cmpEarlyL a b := by
  unfold cmpEarlyL
  by_cases h : a = b
  · rw [if_pos h, if_pos h.symm]; rfl
  · rw [if_neg h, if_neg (Ne.symm h)]
    by_cases ha : a = []
    · by_cases hb : b = []
      · exact absurd (ha.trans hb.symm) h
      · rw [if_neg hb, if_pos ha, if_pos ha]
    · by_cases hb : b = []
      · rw [if_pos hb, if_neg ha, if_pos hb]; rfl
      · rw [if_neg hb, if_neg ha, if_neg ha, if_neg hb]
        exact cmpWords_neg cmpWord_neg _ _
theorem first4_neg (a b c d : Int) : firstI [-a, -b, -c, -d] = - firstI [a, b, c, d] := by
  simp only [firstI]
  by_cases h1 : a = 0
  · rw [if_pos h1, if_pos (by omega)]
    by_cases h2 : b = 0
    · rw [if_pos h2, if_pos (by omega)]
      by_cases h3 : c = 0
      · rw [if_pos h3, if_pos (by omega)]
        by_cases h4 : d = 0
        · rw [if_pos h4, if_pos (by omega)]; rfl
        · rw [if_neg h4, if_neg (by omega)]
      · rw [if_neg h3, if_neg (by omega)]
    · rw [if_neg h2, if_neg (by omega)]
  · rw [if_neg h1, if_neg (by omega)]
theorem order_neg (a1 a2 a3 : Int) (a : Str) (b1 b2 b3 : Int) (b : Str) : orderL b1 b2 b3 b a1 a2 a3 a = - orderL a1 a2 a3 a b1 b2 b3 b := by
  unfold orderL
  rw [compareInt_neg a1, compareInt_neg a2, compareInt_neg a3, cmpEarly_neg a, first4_neg]

/-! ### Versions -/
deriving instance DecidableEq for V4
def zeroV : V4 := ⟨0, 0, 0, ⟨#[]⟩⟩
def V4.ord (u v : V4) : Int := orderL u.a1 u.a2 u.a3 (bs u.a) v.a1 v.a2 v.a3 (bs v.a)
def V4.text (v : V4) : Str := textL v.a1 v.a2 v.a3 (bs v.a)
theorem zero_err : zeroV.err = 0 := by decide
/-- ver.Parse: the version, the error -/
def pV (l : Str) : V4 × Int := (⟨(parseV l).1.1, (parseV l).1.2.1, (parseV l).1.2.2.1, ⟨(parseV l).1.2.2.2.toArray⟩⟩, (parseV l).2)
/-- ver.Next -/
def nV (v : V4) (part : Int) : V4 × Int := (⟨(nextV v.a1 v.a2 v.a3 (bs v.a) part).1.1, (nextV v.a1 v.a2 v.a3 (bs v.a) part).1.2.1, (nextV v.a1 v.a2 v.a3 (bs v.a) part).1.2.2, ⟨#[]⟩⟩, (nextV v.a1 v.a2 v.a3 (bs v.a) part).2)

/-! ### Spans and ranges -/
structure Sp where
  hf : Bool
  ht : Bool
  f : V4
  t : V4
deriving instance DecidableEq for Sp
def zeroS : Sp := ⟨false, false, zeroV, zeroV⟩
def spErr (s : Sp) : Int :=
  if (!s.hf && decide (s.f ≠ zeroV) || !s.ht && decide (s.t ≠ zeroV)) = true then 2
  else if s.f.err ≠ 0 then s.f.err else if s.t.err ≠ 0 then s.t.err
  else if (s.hf && s.ht && decide (0 ≤ s.f.ord s.t)) = true then 7 else 0
def gapErr (p s : Sp) : Int := if (!p.ht || !s.hf || decide (0 ≤ p.t.ord s.f)) = true then 7 else 0
def errAt (l : List Sp) (k : Nat) : Int :=
  if spErr (l.getD k zeroS) ≠ 0 then spErr (l.getD k zeroS) else if k = 0 then 0 else gapErr (l.getD (k - 1) zeroS) (l.getD k zeroS)
def errsOf (l : List Sp) : List Int := (List.range l.length).map (errAt l)
/-- the error of a range: 4 ErrLarge, 2 ErrForm, 7 ErrOrder, those of its versions -/
def rngErr (l : List Sp) : Int := if 10 < l.length then 4 else firstI (errsOf l)
theorem errs_length (l : List Sp) : (errsOf l).length = l.length := by simp [errsOf]
theorem errs_get (l : List Sp) (k : Nat) (h : k < (errsOf l).length) : (errsOf l)[k] = errAt l k := by simp [errsOf]
theorem firstI_ne {l : List Int} (h : firstI l = 0) : ∀ x ∈ l, x = 0 := by
  induction l with
  | nil => intro x hx; cases hx
  | cons e r ih =>
    unfold firstI at h
    by_cases he : e = 0
    · rw [if_pos he] at h
      intro x hx
      rcases List.mem_cons.1 hx with rfl | hx
      · exact he
      · exact ih h x hx
    · rw [if_neg he] at h
      exact absurd h he
theorem rng_ok {l : List Sp} (h : rngErr l = 0) : l.length ≤ 10 ∧ ∀ k, k < l.length → errAt l k = 0 := by
  unfold rngErr at h
  by_cases h1 : 10 < l.length
  · rw [if_pos h1] at h; cases h
  · rw [if_neg h1] at h
    exact ⟨by omega, fun k hk => firstI_ne h _ (List.mem_map.2 ⟨k, List.mem_range.2 hk, rfl⟩)⟩
theorem err_sp {l : List Sp} {k : Nat} (hk : k < l.length) (h : errAt l k = 0) : spErr l[k] = 0 := by
  unfold errAt at h
  have e : l.getD k zeroS = l[k] := by simp [List.getD, List.getElem?_eq_getElem hk]
  rw [e] at h
  by_cases h1 : spErr l[k] ≠ 0
  · rw [if_pos h1] at h; exact absurd h h1
  · exact Classical.not_not.1 h1

/-! ### Texts -/
/-! ### The program's reading -/
def rowL (l : Str) : Bool := !l.contains 32
structure It where
  sign : UInt8
  first : Str
  last : Str
def itemL (s : Str) : It × Bool :=
  if s = [42] then (⟨42, [], []⟩, true)
  else if Lib.hasPrefix s [62, 61] = true then
    (if (cutC 32 (s.drop 2)).2.2 = true then
      (⟨98, (cutC 32 (s.drop 2)).1, Lib.trimPrefix (cutC 32 (s.drop 2)).2.1 [60]⟩, Lib.hasPrefix (cutC 32 (s.drop 2)).2.1 [60] && rowL (cutC 32 (s.drop 2)).1 && rowL (Lib.trimPrefix (cutC 32 (s.drop 2)).2.1 [60]))
    else (⟨62, s.drop 2, []⟩, rowL (s.drop 2)))
  else if (!s.isEmpty && [60, 61, 94, 126].contains (s.headD 0)) = true then (⟨s.headD 0, s.drop 1, []⟩, rowL (s.drop 1))
  else (⟨94, s, []⟩, rowL s)
def early0 (v : V4) (x : Str) : V4 := { v with a := ⟨x.toArray⟩ }
def behindL (v : V4) (sign : UInt8) : V4 × Int :=
  if sign = 61 then (if bs v.a ≠ [] then (early0 v (bs v.a ++ [46, 48]), (early0 v (bs v.a ++ [46, 48])).err) else (early0 (nV v 2).1 [48], (nV v 2).2))
  else if sign = 94 ∧ v.a1 ≠ 0 then nV v 0 else nV v 1
def spanL (it : It) : Sp × Int :=
  if it.sign = 42 then (zeroS, 0)
  else if (pV it.first).2 ≠ 0 then (zeroS, (pV it.first).2)
  else if it.sign = 62 then (⟨true, false, (pV it.first).1, zeroV⟩, 0)
  else if it.sign = 60 then (⟨false, true, zeroV, (pV it.first).1⟩, 0)
  else if it.sign = 98 then (⟨true, true, (pV it.first).1, (pV it.last).1⟩, (pV it.last).2)
  else (⟨true, true, (pV it.first).1, (behindL (pV it.first).1 it.sign).1⟩, (behindL (pV it.first).1 it.sign).2)
def wrongL (l : Str) : Bool := decide ((pV l).2 = 8)
def synL (s : Str) : Bool := !(itemL s).2 || ((itemL s).1.sign != 42 && wrongL (itemL s).1.first) || ((itemL s).1.sign == 98 && wrongL (itemL s).1.last)
def spansOf (q : List (Sp × Int)) : List Sp × Int :=
  if firstI (q.map (·.2)) ≠ 0 then ([], firstI (q.map (·.2))) else if rngErr (q.map (·.1)) ≠ 0 then ([], rngErr (q.map (·.1))) else (q.map (·.1), 0)
def parseR (s : Str) : List Sp × Int :=
  if 1000 < s.length then ([], 4) else if s = [110, 111, 110, 101] then ([], 0)
  else if (Lib.split s [44, 32]).any synL = true then ([], 8) else spansOf ((Lib.split s [44, 32]).map fun p => spanL (itemL p).1)

/-! ### The reference's reading -/
def shortK (w : Str) : UInt8 × Str := if (!w.isEmpty && [61, 94, 126].contains (w.headD 0)) = true then (w.headD 0, w.drop 1) else (94, w)
def shortL (w : Str) : Sp × Int :=
  if w = [42] then (zeroS, 0)
  else if (pV (shortK w).2).2 ≠ 0 then (zeroS, (pV (shortK w).2).2)
  else (⟨true, true, (pV (shortK w).2).1, (behindL (pV (shortK w).2).1 (shortK w).1).1⟩, (behindL (pV (shortK w).2).1 (shortK w).1).2)
def refItem (t : Str) : Sp × Int :=
  match splitC 32 t with
  | [x] =>
    if Lib.hasPrefix x [62, 61] = true then (⟨true, false, (pV (x.drop 2)).1, zeroV⟩, (pV (x.drop 2)).2)
    else if Lib.hasPrefix x [60] = true then (⟨false, true, zeroV, (pV (x.drop 1)).1⟩, (pV (x.drop 1)).2)
    else shortL x
  | [x, y] =>
    if (Lib.hasPrefix x [62, 61] && Lib.hasPrefix y [60]) = true then
      (⟨true, true, (pV (x.drop 2)).1, (pV (y.drop 1)).1⟩, if (pV (x.drop 2)).2 = 8 ∨ (pV (y.drop 1)).2 = 8 then 8 else firstI [(pV (x.drop 2)).2, (pV (y.drop 1)).2])
    else (zeroS, 8)
  | _ => (zeroS, 8)
def readR (s : Str) : List Sp × Int :=
  if 1000 < s.length then ([], 4) else if s = [110, 111, 110, 101] then ([], 0)
  else if (Lib.split s [44, 32]).any (fun p => decide ((refItem p).2 = 8)) = true then ([], 8) else spansOf ((Lib.split s [44, 32]).map refItem)

/-! ### They are the same -/
theorem next_err_ne8 (v : V4) (part : Int) (h : v.err = 0) : (nV v part).2 ≠ 8 := by
  have h' : checkV v.a1 v.a2 v.a3 (bs v.a) = 0 := h
  unfold nV nextV
  rw [if_pos h']
  dsimp only
  split
  · decide
  · split
    · show (0 : Int) ≠ 8
      decide
    · decide
theorem check_ne8 (a b c : Int) (e : Str) : checkV a b c e ≠ 8 := by
  unfold checkV
  split
  · decide
  · split <;> decide
theorem parseV_ok' {l : Str} {r : (Int × Int × Int × Str) × Int} (hr : parseV l = r) (h : r.2 = 0) : checkV r.1.1 r.1.2.1 r.1.2.2.1 r.1.2.2.2 = 0 := by
  unfold parseV at hr
  split at hr
  · split at hr
    · subst hr; exact absurd h (by decide)
    · split at hr
      · subst hr; exact absurd h (by decide)
      · split at hr
        · rename_i h3
          subst hr
          exact h3
        · rename_i h3
          subst hr
          exact absurd h h3
  · subst hr; exact absurd h (by decide)
theorem parseV_ok {l : Str} (h : (parseV l).2 = 0) : checkV (parseV l).1.1 (parseV l).1.2.1 (parseV l).1.2.2.1 (parseV l).1.2.2.2 = 0 := parseV_ok' rfl h
theorem pV_err {l : Str} (h : (pV l).2 = 0) : (pV l).1.err = 0 := by
  have := parseV_ok h
  unfold V4.err pV
  dsimp only
  rw [bs_mk]
  exact this
theorem behind_ne8 (v : V4) (s : UInt8) (h : v.err = 0) : (behindL v s).2 ≠ 8 := by
  unfold behindL
  split
  · split
    · exact check_ne8 _ _ _ _
    · exact next_err_ne8 v 2 h
  · split
    · exact next_err_ne8 v 0 h
    · exact next_err_ne8 v 1 h
theorem pV_nil : (pV []).2 = 8 := by decide
/-- where the reading of a piece agrees -/
def Same (p : Str) : Prop := (synL p = true → (refItem p).2 = 8) ∧ (synL p = false → (refItem p).2 ≠ 8 ∧ (refItem p).2 = (spanL (itemL p).1).2 ∧ ((refItem p).2 = 0 → (refItem p).1 = (spanL (itemL p).1).1))
theorem prefix2_app {p r : Str} (h : Lib.hasPrefix p [62, 61] = true) : Lib.hasPrefix (p ++ r) [62, 61] = true := by
  match p, h with
  | [], h => cases h
  | [_], h => simp [Lib.hasPrefix, List.isPrefixOf] at h
  | a :: b :: t, h => simpa [Lib.hasPrefix, List.isPrefixOf] using h
theorem prefix2_cons {p r : Str} (h : Lib.hasPrefix p [62, 61] = false) : Lib.hasPrefix (p ++ 32 :: r) [62, 61] = false := by
  match p, h with
  | [], _ => rfl
  | [a], _ => simp [Lib.hasPrefix, List.isPrefixOf]
  | a :: b :: t, h => simpa [Lib.hasPrefix, List.isPrefixOf] using h
theorem prefix_drop {p : Str} (h : Lib.hasPrefix p [62, 61] = true) : ∃ t, p = 62 :: 61 :: t := by
  match p, h with
  | [], h => cases h
  | [_], h => simp [Lib.hasPrefix, List.isPrefixOf] at h
  | a :: b :: t, h =>
    have h1 : 62 = a ∧ 61 = b := by simpa [Lib.hasPrefix, List.isPrefixOf] using h
    exact ⟨t, by rw [← h1.1, ← h1.2]⟩
theorem prefix1 {p : Str} (h : Lib.hasPrefix p [60] = true) : ∃ t, p = 60 :: t := by
  match p, h with
  | [], h => cases h
  | a :: t, h =>
    have h1 : 60 = a := by simpa [Lib.hasPrefix, List.isPrefixOf] using h
    exact ⟨t, by rw [← h1]⟩
theorem rowL_none {l : Str} (h : (32 : UInt8) ∉ l) : rowL l = true := by simp [rowL, h]
theorem rowL_app (a r : Str) : rowL (a ++ 32 :: r) = false := by simp [rowL]
theorem row_drop {l : Str} (n : Nat) (h : (32 : UInt8) ∉ l) : (32 : UInt8) ∉ l.drop n := fun e => h (List.mem_of_mem_drop e)

/-- a piece without a blank -/
theorem same_one (p : Str) (hp : (32 : UInt8) ∉ p) : Same p := by
  have hs : splitC 32 p = [p] := splitC_none 32 p hp
  unfold Same synL refItem
  rw [hs]
  dsimp only
  by_cases h0 : p = [42]
  · subst h0
    have : itemL [42] = (⟨42, [], []⟩, true) := by rw [itemL, if_pos rfl]
    rw [this]
    refine ⟨fun h => by simp at h, fun _ => ?_⟩
    have h1 : shortL [42] = (zeroS, 0) := by rw [shortL, if_pos rfl]
    rw [if_neg (by decide), if_neg (by decide), h1]
    exact ⟨by decide, by rw [spanL, if_pos rfl], fun _ => by rw [spanL, if_pos rfl]⟩
  by_cases h1 : Lib.hasPrefix p [62, 61] = true
  · have hc := cutC_none 32 (p.drop 2) (row_drop 2 hp)
    have hi : itemL p = (⟨62, p.drop 2, []⟩, true) := by
      rw [itemL, if_neg h0, if_pos h1, hc, if_neg (by simp), rowL_none (row_drop 2 hp)]
    rw [hi, if_pos h1]
    have e1 : ((62 : UInt8) == 98) = false := by decide
    have e2 : ((62 : UInt8) != 42) = true := by decide
    dsimp only
    rw [e1, e2]
    simp only [Bool.not_true, Bool.false_or, Bool.true_and, Bool.false_and, Bool.or_false, wrongL, decide_eq_true_eq, decide_eq_false_iff_not]
    refine ⟨fun h => h, fun h => ⟨h, ?_, ?_⟩⟩
    · unfold spanL
      dsimp only
      rw [if_neg (by decide)]
      by_cases h2 : (pV (p.drop 2)).2 = 0
      · rw [if_neg (by simpa using h2), if_pos rfl, h2]
      · rw [if_pos h2]
    · intro h2
      unfold spanL
      dsimp only
      rw [if_neg (by decide), if_neg (by simpa using h2), if_pos rfl]
  have h1f : Lib.hasPrefix p [62, 61] = false := by simpa using h1
  rw [if_neg h1]
  by_cases h2 : Lib.hasPrefix p [60] = true
  · obtain ⟨t, rfl⟩ := prefix1 h2
    have hi : itemL (60 :: t) = (⟨60, t, []⟩, true) := by
      rw [itemL, if_neg h0, if_neg h1, if_pos (by simp)]
      rw [show (60 :: t : Str).drop 1 = t from rfl, rowL_none (fun e => hp (by simp [e]))]
      rfl
    rw [hi, if_pos h2]
    have e1 : ((60 : UInt8) == 98) = false := by decide
    have e2 : ((60 : UInt8) != 42) = true := by decide
    dsimp only
    rw [e1, e2]
    simp only [Bool.not_true, Bool.false_or, Bool.true_and, Bool.false_and, Bool.or_false, wrongL, decide_eq_true_eq, decide_eq_false_iff_not, List.drop_succ_cons, List.drop_zero]
    refine ⟨fun h => h, fun h => ⟨h, ?_, ?_⟩⟩
    · unfold spanL
      dsimp only
      rw [if_neg (by decide)]
      by_cases h3 : (pV t).2 = 0
      · rw [if_neg (by simpa using h3), if_neg (by decide), if_pos rfl, h3]
      · rw [if_pos h3]
    · intro h3
      unfold spanL
      dsimp only
      rw [if_neg (by decide), if_neg (by simpa using h3), if_neg (by decide), if_pos rfl]
  rw [if_neg h2]
  -- a span that is one word
  have hk : itemL p = (⟨(shortK p).1, (shortK p).2, []⟩, true) ∧ (shortK p).1 ≠ 42 ∧ (shortK p).1 ≠ 62 ∧ (shortK p).1 ≠ 60 ∧ (shortK p).1 ≠ 98 := by
    rw [itemL, if_neg h0, if_neg h1]
    cases p with
    | nil => exact ⟨rfl, by decide, by decide, by decide, by decide⟩
    | cons c t =>
      have hc : c ≠ 60 := fun e => h2 (by rw [e]; rfl)
      have hr : rowL t = true := rowL_none (fun e => hp (by simp [e]))
      have hr2 : rowL (c :: t) = true := rowL_none hp
      unfold shortK
      simp only [List.isEmpty_cons, Bool.not_false, Bool.true_and, List.headD_cons, List.drop_succ_cons, List.drop_zero]
      by_cases h3 : ([61, 94, 126] : Str).contains c = true
      · have h4 : ([60, 61, 94, 126] : Str).contains c = true := by
          simp only [List.contains_cons, List.contains_nil, Bool.or_false, Bool.or_eq_true] at h3 ⊢
          exact .inr h3
        rw [if_pos h4, if_pos h3, hr]
        have h5 : c = 61 ∨ c = 94 ∨ c = 126 := by simpa using h3
        refine ⟨rfl, ?_⟩
        rcases h5 with rfl | rfl | rfl <;> (dsimp only; decide)
      · have h4 : ¬ ([60, 61, 94, 126] : Str).contains c = true := by
          simp only [List.contains_cons, List.contains_nil, Bool.or_false, Bool.or_eq_true, beq_iff_eq] at h3 ⊢
          exact fun e => e.elim hc h3
        rw [if_neg h4, if_neg h3, hr2]
        dsimp only
        exact ⟨rfl, by decide, by decide, by decide, by decide⟩
  obtain ⟨hi, k1, k2, k3, k4⟩ := hk
  rw [hi, shortL, if_neg h0]
  generalize (shortK p).1 = kc at *
  generalize (shortK p).2 = kw at *
  have e1 : (kc == 98) = false := by simpa using k4
  have e2 : (kc != 42) = true := by simpa using k1
  dsimp only
  rw [e1, e2]
  simp only [Bool.not_true, Bool.false_or, Bool.true_and, Bool.false_and, Bool.or_false, wrongL, decide_eq_true_eq, decide_eq_false_iff_not]
  unfold spanL
  dsimp only
  rw [if_neg k1]
  by_cases h3 : (pV kw).2 = 0
  · rw [if_neg (by simpa using h3), if_neg (by simpa using h3), if_neg k2, if_neg k3, if_neg k4]
    exact ⟨(fun h => by (rw [h3] at h; exact absurd h (by decide))), fun _ => ⟨behind_ne8 _ _ (pV_err h3), rfl, fun _ => rfl⟩⟩
  · rw [if_pos h3, if_pos h3]
    exact ⟨fun h => h, fun h => ⟨h, rfl, fun _ => rfl⟩⟩
/-- a piece with a blank -/
theorem same_more (a r : Str) (ha : (32 : UInt8) ∉ a) : Same (a ++ 32 :: r) := by
  have hs : splitC 32 (a ++ 32 :: r) = a :: splitC 32 r := splitC_app 32 r a ha
  have hn : ¬ a ++ 32 :: r = [42] := by
    intro e
    cases a with
    | nil => simp at e
    | cons x t => simp at e
  unfold Same synL refItem
  rw [hs]
  by_cases h1 : Lib.hasPrefix a [62, 61] = true
  · obtain ⟨f, rfl⟩ := prefix_drop h1
    have hf : (32 : UInt8) ∉ f := fun e => ha (by simp [e])
    have hcut : cutC 32 ((62 :: 61 :: f ++ 32 :: r : Str).drop 2) = (f, r, true) := cutC_app 32 f r hf
    have hi : itemL (62 :: 61 :: f ++ 32 :: r) = (⟨98, f, Lib.trimPrefix r [60]⟩, Lib.hasPrefix r [60] && rowL (Lib.trimPrefix r [60])) := by
      rw [itemL, if_neg hn, if_pos (prefix2_app h1), hcut]
      dsimp only
      rw [if_pos rfl, rowL_none hf, Bool.and_true]
    rw [hi]
    dsimp only
    have e1 : ((98 : UInt8) == 98) = true := rfl
    have e2 : ((98 : UInt8) != 42) = true := by decide
    rw [e1, e2]
    simp only [Bool.true_and]
    by_cases h2 : Lib.hasPrefix r [60] = true
    · obtain ⟨t, rfl⟩ := prefix1 h2
      have htr : Lib.trimPrefix (60 :: t) [60] = t := by rw [Lib.trimPrefix, if_pos h2]; rfl
      rw [htr, h2]
      rcases first_cut 32 t with ht | ⟨u, v, hu, rfl⟩
      · have hsr : splitC 32 (60 :: t) = [60 :: t] := splitC_none 32 _ (by simpa using ht)
        rw [hsr, rowL_none ht]
        dsimp only
        rw [if_pos (by rw [h1]; rfl)]
        simp only [List.drop_succ_cons, List.drop_zero, Bool.and_true, Bool.not_true, Bool.false_or, wrongL]
        unfold spanL
        dsimp only
        rw [if_neg (show ¬ (98 : UInt8) = 42 by decide)]
        refine ⟨fun h => ?_, fun h => ?_⟩
        · simp only [Bool.or_eq_true, decide_eq_true_eq] at h
          rw [if_pos h]
        · simp only [Bool.or_eq_false_iff, decide_eq_false_iff_not] at h
          rw [if_neg (by rintro (e | e); exact h.1 e; exact h.2 e)]
          by_cases h3 : (pV f).2 = 0
          · have hfi : firstI [(pV f).2, (pV t).2] = (pV t).2 := by
              rw [firstI, if_pos h3, firstI]
              by_cases h4 : (pV t).2 = 0
              · rw [if_pos h4, h4]; rfl
              · rw [if_neg h4]
            rw [hfi, if_neg (by simpa using h3), if_neg (show ¬ (98 : UInt8) = 62 by decide), if_neg (show ¬ (98 : UInt8) = 60 by decide), if_pos rfl]
            exact ⟨h.2, rfl, fun _ => rfl⟩
          · have hfi : firstI [(pV f).2, (pV t).2] = (pV f).2 := by rw [firstI, if_neg h3]
            rw [hfi, if_pos h3]
            exact ⟨h.1, rfl, fun e => absurd e h3⟩
      · have hsr : splitC 32 (60 :: (u ++ 32 :: v)) = (60 :: u) :: splitC 32 v := splitC_app 32 v (60 :: u) (by simpa using hu)
        rw [hsr, rowL_app]
        refine ⟨fun _ => ?_, fun h => by simp at h⟩
        cases hv : splitC 32 v with
        | nil => exact absurd hv (splitC_ne 32 v)
        | cons q qs => rfl
    · have h2f : Lib.hasPrefix r [60] = false := by simpa using h2
      rw [h2f]
      refine ⟨fun _ => ?_, fun h => by simp at h⟩
      cases hr : splitC 32 r with
      | nil => exact absurd hr (splitC_ne 32 r)
      | cons q qs =>
        cases qs with
        | nil =>
          dsimp only
          have hq : q = r := by
            rcases first_cut 32 r with h | ⟨u, v, hu, rfl⟩
            · rw [splitC_none 32 r h] at hr; injection hr with e; exact e.symm
            · rw [splitC_app 32 v u hu] at hr
              injection hr with _ e
              exact absurd e (splitC_ne 32 v)
          rw [hq, h2f, Bool.and_false, if_neg (by decide)]
        | cons _ _ => rfl
  · have h1f : Lib.hasPrefix a [62, 61] = false := by simpa using h1
    have hbad : (itemL (a ++ 32 :: r)).2 = false := by
      rw [itemL, if_neg hn, if_neg (by rw [prefix2_cons h1f]; decide)]
      cases a with
      | nil => rw [if_neg (by simp)]; exact rowL_app [] r
      | cons c t =>
        split
        · exact rowL_app t r
        · exact rowL_app (c :: t) r
    rw [hbad]
    refine ⟨fun _ => ?_, fun h => by simp at h⟩
    cases hr : splitC 32 r with
    | nil => exact absurd hr (splitC_ne 32 r)
    | cons q qs =>
      cases qs with
      | nil =>
        dsimp only
        rw [h1f, Bool.false_and, if_neg (by decide)]
      | cons _ _ => rfl
theorem same_any (p : Str) : Same p := by
  rcases first_cut 32 p with h | ⟨a, r, ha, rfl⟩
  · exact same_one p h
  · exact same_more a r ha
theorem syn_iff (p : Str) : synL p = decide ((refItem p).2 = 8) := by
  obtain ⟨h1, h2⟩ := same_any p
  cases h : synL p
  · rw [decide_eq_false (h2 h).1]
  · rw [decide_eq_true (h1 h)]
theorem spansOf_congr {ps : List Str} (f g : Str → Sp × Int) (h2 : ∀ p ∈ ps, (f p).2 = (g p).2) (h1 : ∀ p ∈ ps, (f p).2 = 0 → (f p).1 = (g p).1) : spansOf (ps.map f) = spansOf (ps.map g) := by
  have e2 : (ps.map f).map (·.2) = (ps.map g).map (·.2) := by
    rw [List.map_map, List.map_map]
    exact List.map_congr_left h2
  unfold spansOf
  rw [e2]
  by_cases h0 : firstI ((ps.map g).map (·.2)) ≠ 0
  · rw [if_pos h0, if_pos h0]
  · have h0' := Classical.not_not.1 h0
    have e1 : (ps.map f).map (·.1) = (ps.map g).map (·.1) := by
      rw [List.map_map, List.map_map]
      refine List.map_congr_left fun p hp => h1 p hp ?_
      rw [h2 p hp]
      exact firstI_ne h0' _ (by rw [List.map_map]; exact List.mem_map.2 ⟨p, hp, rfl⟩)
    rw [if_neg h0, if_neg h0, e1]
theorem read_same (s : Str) : readR s = parseR s := by
  unfold readR parseR
  have hany : (Lib.split s [44, 32]).any (fun p => decide ((refItem p).2 = 8)) = (Lib.split s [44, 32]).any synL := by
    congr 1
    funext p
    exact (syn_iff p).symm
  rw [hany]
  by_cases h0 : 1000 < s.length
  · rw [if_pos h0, if_pos h0]
  rw [if_neg h0, if_neg h0]
  by_cases h1 : s = [110, 111, 110, 101]
  · rw [if_pos h1, if_pos h1]
  rw [if_neg h1, if_neg h1]
  by_cases h2 : (Lib.split s [44, 32]).any synL = true
  · rw [if_pos h2, if_pos h2]
  rw [if_neg h2, if_neg h2]
  have h3 : ∀ p ∈ Lib.split s [44, 32], synL p = false := fun p hp => by
    cases h : synL p
    · rfl
    · exact absurd (List.any_eq_true.2 ⟨p, hp, h⟩) h2
  exact spansOf_congr _ _ (fun p hp => ((same_any p).2 (h3 p hp)).2.1) (fun p hp => ((same_any p).2 (h3 p hp)).2.2)
end Go.Proofs.YtaobnifiengglaaGreatDoor

namespace Go.Proofs.YtaobnifiengglaaGreatDoor

/-! ### Cutting a joined text -/
/-! ### The signs of a version's text -/
/-! ### A span -/
end Go.Proofs.YtaobnifiengglaaGreatDoor
