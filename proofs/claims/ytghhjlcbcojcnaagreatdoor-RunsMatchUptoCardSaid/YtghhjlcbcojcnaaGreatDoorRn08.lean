/- Plain law: ranges, their errors, their texts, and what reads them; the reference's reading is the program's. Plain law: what ver.PrintRange writes, ver.ParseRange reads back. Spans and ranges in memory; the struct equalities that the walks meet; slices.Equal over spans. Contracts of ver.spanFault, CheckRange. -/
import Derived.Test.YtghhjlcbcojcnaaGreatDoorRn07
import Derived.Test.YtghhjlcbcojcnaaGreatDoorRn05
import Derived.Lib.Join
import Derived.Test.YtghhjlcbcojcnaaGreatDoorRn03
import Derived.Laws.StructEq
import Derived.Deep.QuietTactic
import Derived.Test.YtghhjlcbcojcnaaGreatDoorRn06

namespace Go.Proofs.YtghhjlcbcojcnaaGreatDoor

/-! ### The order turned round -/
theorem compareInt_neg (a b : Int) : Lib.compareInt b a = - Lib.compareInt a b := by
  unfold Lib.compareInt
  (repeat' split) <;> omega
theorem compareBytes_neg : ∀ a b : Str, Lib.compareBytes b a = - Lib.compareBytes a b
  | [], [] => rfl
  | [], _ :: _ => rfl
  | _ :: _, [] => rfl
  | x :: a, y :: b => by
    unfold Lib.compareBytes
    rcases Nat.lt_trichotomy x.toNat y.toNat with h | h | h
    · have h1 : x < y := UInt8.lt_iff_toNat_lt.2 h
      have h2 : ¬ y < x := fun e => by have := UInt8.lt_iff_toNat_lt.1 e; omega
      rw [if_pos h1, if_neg h2, if_pos h1]; rfl
    · have h1 : ¬ x < y := fun e => by have := UInt8.lt_iff_toNat_lt.1 e; omega
      have h2 : ¬ y < x := fun e => by have := UInt8.lt_iff_toNat_lt.1 e; omega
      rw [if_neg h1, if_neg h2, if_neg h2, if_neg h1]
      exact compareBytes_neg a b
    · have h1 : y < x := UInt8.lt_iff_toNat_lt.2 h
      have h2 : ¬ x < y := fun e => by have := UInt8.lt_iff_toNat_lt.1 e; omega
      rw [if_pos h1, if_neg h2, if_pos h1]
      try rfl
theorem cmpWord_neg (a b : Str) : cmpWordL b a = - cmpWordL a b := by
  unfold cmpWordL
  cases numeralL a <;> cases numeralL b
  · exact compareBytes_neg a b
  · rfl
  · rfl
  · simp only [Bool.and_self, if_true]
    by_cases h : a.length = b.length
    · rw [if_pos h, if_pos h.symm, compareBytes_neg]
    · rw [if_neg h, if_neg (Ne.symm h), compareInt_neg]
theorem cmpWords_neg {f : Str → Str → Int} (hf : ∀ a b, f b a = - f a b) : ∀ xs ys : List Str, cmpWordsL f ys xs = - cmpWordsL f xs ys
  | [], [] => compareInt_neg _ _
  | [], _ :: _ => compareInt_neg _ _
  | _ :: _, [] => compareInt_neg _ _
  | x :: xs, y :: ys => by
    unfold cmpWordsL
    rw [hf x y]
    by_cases h : f x y = 0
    · rw [if_pos h, if_pos (by omega), cmpWords_neg hf xs ys]
    · rw [if_neg h, if_neg (by omega)]
theorem cmpEarly_neg (a b : Str) : cmpEarlyL b a = - cmpEarlyL a b := by
  unfold cmpEarlyL
  by_cases h : a = b
  · rw [if_pos h, if_pos h.symm]; rfl
  · rw [if_neg h, if_neg (Ne.symm h)]
    by_cases ha : a = []
    · by_cases hb : b = []
      · exact absurd (ha.trans hb.symm) h
      · rw [if_neg hb, if_pos ha, if_pos ha]
    · by_cases hb : b = []
      · rw [if_pos hb, if_neg ha, if_pos hb]; rfl
      · rw [if_neg hb, if_neg ha, if_neg ha, if_neg hb]
        exact cmpWords_neg cmpWord_neg _ _
theorem first4_neg (a b c d : Int) : firstI [-a, -b, -c, -d] = - firstI [a, b, c, d] := by
  simp only [firstI]
  by_cases h1 : a = 0
  · rw [if_pos h1, if_pos (by omega)]
    by_cases h2 : b = 0
    · rw [if_pos h2, if_pos (by omega)]
      by_cases h3 : c = 0
      · rw [if_pos h3, if_pos (by omega)]
        by_cases h4 : d = 0
        · rw [if_pos h4, if_pos (by omega)]; rfl
        · rw [if_neg h4, if_neg (by omega)]
      · rw [if_neg h3, if_neg (by omega)]
    · rw [if_neg h2, if_neg (by omega)]
  · rw [if_neg h1, if_neg (by omega)]
theorem order_neg (a1 a2 a3 : Int) (a : Str) (b1 b2 b3 : Int) (b : Str) : orderL b1 b2 b3 b a1 a2 a3 a = - orderL a1 a2 a3 a b1 b2 b3 b := by
  unfold orderL
  rw [compareInt_neg a1, compareInt_neg a2, compareInt_neg a3, cmpEarly_neg a, first4_neg]

/-! ### Versions -/
deriving instance DecidableEq for V4
def zeroV : V4 := ⟨0, 0, 0, ⟨#[]⟩⟩
def V4.ord (u v : V4) : Int := orderL u.a1 u.a2 u.a3 (bs u.a) v.a1 v.a2 v.a3 (bs v.a)
def V4.text (v : V4) : Str := textL v.a1 v.a2 v.a3 (bs v.a)
theorem zero_err : zeroV.err = 0 := by decide
/-- ver.Parse: the version, the error -/
def pV (l : Str) : V4 × Int := (⟨(parseV l).1.1, (parseV l).1.2.1, (parseV l).1.2.2.1, ⟨(parseV l).1.2.2.2.toArray⟩⟩, (parseV l).2)
/-- ver.Next -/
def nV (v : V4) (part : Int) : V4 × Int := (⟨(nextV v.a1 v.a2 v.a3 (bs v.a) part).1.1, (nextV v.a1 v.a2 v.a3 (bs v.a) part).1.2.1, (nextV v.a1 v.a2 v.a3 (bs v.a) part).1.2.2, ⟨#[]⟩⟩, (nextV v.a1 v.a2 v.a3 (bs v.a) part).2)

/-! ### Spans and ranges -/
structure Sp where
  hf : Bool
  ht : Bool
  f : V4
  t : V4
deriving instance DecidableEq for Sp
def zeroS : Sp := ⟨false, false, zeroV, zeroV⟩
def spErr (s : Sp) : Int :=
  if (!s.hf && decide (s.f ≠ zeroV) || !s.ht && decide (s.t ≠ zeroV)) = true then 2
  else if s.f.err ≠ 0 then s.f.err else if s.t.err ≠ 0 then s.t.err
  else if (s.hf && s.ht && decide (0 ≤ s.f.ord s.t)) = true then 7 else 0
def gapErr (p s : Sp) : Int := if (!p.ht || !s.hf || decide (0 ≤ p.t.ord s.f)) = true then 7 else 0
def errAt (l : List Sp) (k : Nat) : Int :=
  if spErr (l.getD k zeroS) ≠ 0 then spErr (l.getD k zeroS) else if k = 0 then 0 else gapErr (l.getD (k - 1) zeroS) (l.getD k zeroS)
def errsOf (l : List Sp) : List Int := (List.range l.length).map (errAt l)
/-- the error of a range: 4 ErrLarge, 2 ErrForm, 7 ErrOrder, those of its versions -/
def rngErr (l : List Sp) : Int := if 10 < l.length then 4 else firstI (errsOf l)
theorem errs_length (l : List Sp) : (errsOf l).length = l.length := by simp [errsOf]
theorem errs_get (l : List Sp) (k : Nat) (h : k < (errsOf l).length) : (errsOf l)[k] = errAt l k := by simp [errsOf]
/-! ### Texts -/
/-! ### The program's reading -/
def rowL (l : Str) : Bool := !l.contains 32
structure It where
  sign : UInt8
  first : Str
  last : Str
def itemL (s : Str) : It × Bool :=
  if s = [42] then (⟨42, [], []⟩, true)
  else if Lib.hasPrefix s [62, 61] = true then
    (if (cutC 32 (s.drop 2)).2.2 = true then
      (⟨98, (cutC 32 (s.drop 2)).1, Lib.trimPrefix (cutC 32 (s.drop 2)).2.1 [60]⟩, Lib.hasPrefix (cutC 32 (s.drop 2)).2.1 [60] && rowL (cutC 32 (s.drop 2)).1 && rowL (Lib.trimPrefix (cutC 32 (s.drop 2)).2.1 [60]))
    else (⟨62, s.drop 2, []⟩, rowL (s.drop 2)))
  else if (!s.isEmpty && [60, 61, 94, 126].contains (s.headD 0)) = true then (⟨s.headD 0, s.drop 1, []⟩, rowL (s.drop 1))
  else (⟨94, s, []⟩, rowL s)
def early0 (v : V4) (x : Str) : V4 := { v with a := ⟨x.toArray⟩ }
def behindL (v : V4) (sign : UInt8) : V4 × Int :=
  if sign = 61 then (if bs v.a ≠ [] then (early0 v (bs v.a ++ [46, 48]), (early0 v (bs v.a ++ [46, 48])).err) else (early0 (nV v 2).1 [48], (nV v 2).2))
  else if sign = 94 ∧ v.a1 ≠ 0 then nV v 0 else nV v 1
def spanL (it : It) : Sp × Int :=
  if it.sign = 42 then (zeroS, 0)
  else if (pV it.first).2 ≠ 0 then (zeroS, (pV it.first).2)
  else if it.sign = 62 then (⟨true, false, (pV it.first).1, zeroV⟩, 0)
  else if it.sign = 60 then (⟨false, true, zeroV, (pV it.first).1⟩, 0)
  else if it.sign = 98 then (⟨true, true, (pV it.first).1, (pV it.last).1⟩, (pV it.last).2)
  else (⟨true, true, (pV it.first).1, (behindL (pV it.first).1 it.sign).1⟩, (behindL (pV it.first).1 it.sign).2)
def wrongL (l : Str) : Bool := decide ((pV l).2 = 8)
def synL (s : Str) : Bool := !(itemL s).2 || ((itemL s).1.sign != 42 && wrongL (itemL s).1.first) || ((itemL s).1.sign == 98 && wrongL (itemL s).1.last)
def spansOf (q : List (Sp × Int)) : List Sp × Int :=
  if firstI (q.map (·.2)) ≠ 0 then ([], firstI (q.map (·.2))) else if rngErr (q.map (·.1)) ≠ 0 then ([], rngErr (q.map (·.1))) else (q.map (·.1), 0)
def parseR (s : Str) : List Sp × Int :=
  if 1000 < s.length then ([], 4) else if s = [110, 111, 110, 101] then ([], 0)
  else if (Lib.split s [44, 32]).any synL = true then ([], 8) else spansOf ((Lib.split s [44, 32]).map fun p => spanL (itemL p).1)

/-! ### The reference's reading -/
/-! ### They are the same -/
end Go.Proofs.YtghhjlcbcojcnaaGreatDoor

namespace Go.Proofs.YtghhjlcbcojcnaaGreatDoor

/-! ### Cutting a joined text -/
/-! ### The signs of a version's text -/
/-! ### A span -/
end Go.Proofs.YtghhjlcbcojcnaaGreatDoor

namespace Go.Proofs.YtghhjlcbcojcnaaGreatDoor
open Go.RowKit

abbrev verV (v : V4) : Value := .agg #[.int .i64 v.a1, .int .i64 v.a2, .int .i64 v.a3, .string v.a]
abbrev spV (s : Sp) : Value := .agg #[.bool s.hf, .bool s.ht, .int .i64 s.f.a1, .int .i64 s.f.a2, .int .i64 s.f.a3, .string s.f.a, .int .i64 s.t.a1, .int .i64 s.t.a2, .int .i64 s.t.a3, .string s.t.a]
theorem str_eq (a b : ByteArray) : (a.toList = b.toList) = (a = b) := by
  rw [ByteArray.toList_eq, ByteArray.toList_eq]
  exact propext ⟨fun h => bs_inj h, fun h => by rw [h]⟩
theorem run_eqv (d : Nat) (u v : V4) (w : World) : (Op.equalIn (d + 2) 35 (verV u) (verV v)).run Tryz.prog w = .ok (decide (u = v)) w := by
  obtain ⟨u1, u2, u3, u⟩ := u
  obtain ⟨v1, v2, v3, v⟩ := v
  dsimp only [verV]
  rw [run_equalIn_agg w (d + 1) 35 _ _ (by kernel_rfl) (by kernel_rfl)]
  go_simp
  simp only [str_eq]
  by_cases h1 : u1 = v1 <;> by_cases h2 : u2 = v2 <;> by_cases h3 : u3 = v3 <;> by_cases h4 : u = v <;> simp [h1, h2, h3, h4]
theorem run_neqv (u v : V4) (w : World) : (binOp .neq 35 (verV u) (verV v)).run Tryz.prog w = .ok (.bool (!decide (u = v))) w := by
  rw [run_neq_struct, run_eqv 9998]
  rfl
/-! ### Spans in memory -/
/-- spans at an address: cell by cell -/
structure SpS (w : World) (b o : Nat) (l : List Sp) : Prop where
  c0 : ∀ k (h : k < l.length), w.cell? ⟨b, o + k * 10, none⟩ = some (.bool l[k].hf)
  c1 : ∀ k (h : k < l.length), w.cell? ⟨b, o + k * 10 + 1, none⟩ = some (.bool l[k].ht)
  c2 : ∀ k (h : k < l.length), w.cell? ⟨b, o + k * 10 + 2, none⟩ = some (.int .i64 l[k].f.a1)
  c3 : ∀ k (h : k < l.length), w.cell? ⟨b, o + k * 10 + 3, none⟩ = some (.int .i64 l[k].f.a2)
  c4 : ∀ k (h : k < l.length), w.cell? ⟨b, o + k * 10 + 4, none⟩ = some (.int .i64 l[k].f.a3)
  c5 : ∀ k (h : k < l.length), w.cell? ⟨b, o + k * 10 + 5, none⟩ = some (.string l[k].f.a)
  c6 : ∀ k (h : k < l.length), w.cell? ⟨b, o + k * 10 + 6, none⟩ = some (.int .i64 l[k].t.a1)
  c7 : ∀ k (h : k < l.length), w.cell? ⟨b, o + k * 10 + 7, none⟩ = some (.int .i64 l[k].t.a2)
  c8 : ∀ k (h : k < l.length), w.cell? ⟨b, o + k * 10 + 8, none⟩ = some (.int .i64 l[k].t.a3)
  c9 : ∀ k (h : k < l.length), w.cell? ⟨b, o + k * 10 + 9, none⟩ = some (.string l[k].t.a)
theorem SpS.ext {w w' : World} {b o : Nat} {l : List Sp} (h : SpS w b o l) (hx : Ext w w') : SpS w' b o l :=
  ⟨fun k hk => hx.cell (h.c0 k hk), fun k hk => hx.cell (h.c1 k hk), fun k hk => hx.cell (h.c2 k hk), fun k hk => hx.cell (h.c3 k hk), fun k hk => hx.cell (h.c4 k hk),
    fun k hk => hx.cell (h.c5 k hk), fun k hk => hx.cell (h.c6 k hk), fun k hk => hx.cell (h.c7 k hk), fun k hk => hx.cell (h.c8 k hk), fun k hk => hx.cell (h.c9 k hk)⟩
/-- a slice of spans: its address where it has any -/
def RdS (w : World) (A : Option Addr) (l : List Sp) : Prop := l ≠ [] → ∃ b o, A = some ⟨b, o, none⟩ ∧ SpS w b o l
theorem RdS.ext {w w' : World} {A : Option Addr} {l : List Sp} (h : RdS w A l) (hx : Ext w w') : RdS w' A l := fun hn => by
  obtain ⟨b, o, e, k⟩ := h hn
  exact ⟨b, o, e, k.ext hx⟩
end Go.Proofs.YtghhjlcbcojcnaaGreatDoor

namespace Go.Proofs.YtghhjlcbcojcnaaGreatDoor
open Go.RowKit

theorem spErr_bad {s : Sp} (h : (!s.hf && !decide (s.f = zeroV) || !s.ht && !decide (s.t = zeroV)) = true) : spErr s = 2 := by
  unfold spErr
  rw [if_pos]
  simpa using h
theorem spErr_rest {s : Sp} (h : ((s.hf || decide (s.f = zeroV)) && (s.ht || decide (s.t = zeroV))) = true) :
    spErr s = if s.f.err ≠ 0 then s.f.err else if s.t.err ≠ 0 then s.t.err else if (s.hf && s.ht && decide (0 ≤ s.f.ord s.t)) = true then 7 else 0 := by
  unfold spErr
  rw [if_neg]
  simp only [Bool.and_eq_true, Bool.or_eq_true, decide_eq_true_eq, Bool.not_eq_true', decide_eq_true_eq, not_or, not_and] at h ⊢
  exact ⟨fun h1 => by rcases h.1 with e | e; rw [e] at h1; cases h1; simpa using e, fun h1 => by rcases h.2 with e | e; rw [e] at h1; cases h1; simpa using e⟩
theorem spErr_f {s : Sp} (h : ((s.hf || decide (s.f = zeroV)) && (s.ht || decide (s.t = zeroV))) = true) (h1 : ¬ s.f.err = 0) : spErr s = s.f.err := by rw [spErr_rest h, if_pos h1]
theorem spErr_t {s : Sp} (h : ((s.hf || decide (s.f = zeroV)) && (s.ht || decide (s.t = zeroV))) = true) (h1 : s.f.err = 0) (h2 : ¬ s.t.err = 0) : spErr s = s.t.err := by rw [spErr_rest h, if_neg (by simpa using h1), if_pos h2]
theorem spErr_7 {s : Sp} (h : ((s.hf || decide (s.f = zeroV)) && (s.ht || decide (s.t = zeroV))) = true) (h1 : s.f.err = 0) (h2 : s.t.err = 0) (h3 : s.hf = true) (h4 : s.ht = true) (h5 : 0 ≤ s.f.ord s.t) : spErr s = 7 := by
  rw [spErr_rest h, if_neg (by simpa using h1), if_neg (by simpa using h2), h3, h4, if_pos (by simpa using h5)]
theorem spErr_0 {s : Sp} (h : ((s.hf || decide (s.f = zeroV)) && (s.ht || decide (s.t = zeroV))) = true) (h1 : s.f.err = 0) (h2 : s.t.err = 0) (h3 : s.hf = false ∨ s.ht = false ∨ ¬ 0 ≤ s.f.ord s.t) : spErr s = 0 := by
  rw [spErr_rest h, if_neg (by simpa using h1), if_neg (by simpa using h2), if_neg]
  rcases h3 with e | e | e
  · rw [e]; simp
  · rw [e]; simp
  · rw [decide_eq_false e]; simp
set_option maxHeartbeats 4000000 in
theorem spanFault_bad (hf ht : Bool) (f t : V4) (w : World) (hb : (!hf && !decide (f = zeroV) || !ht && !decide (t = zeroV)) = true) :
    Calls Tryz.prog 131 #[spV ⟨hf, ht, f, t⟩] w fun e w' => e = .returned (.int .i64 2) ∧ Ext w w' := by
  have q1 := run_neqv f zeroV
  have q2 := run_neqv t zeroV
  generalize decide (f = zeroV) = p at *
  generalize decide (t = zeroV) = q at *
  obtain ⟨f1, f2, f3, fa⟩ := f
  obtain ⟨t1, t2, t3, ta⟩ := t
  dsimp only [verV, zeroV] at q1 q2
  dsimp only [spV]
  go_enter Tryz.func131, Tryz.ntmps131
  cases hf <;> cases ht <;> cases p <;> cases q <;> first
    | (exact absurd hb (by decide))
    | (clear hb; simp only [Bool.not_true, Bool.not_false] at q1 q2; go_wp2; go_ret; exact ⟨rfl, (by repeat (first | with_reducible exact Ext.refl _ | with_reducible assumption | with_reducible apply Ext.drewN | with_reducible apply Ext.drew | with_reducible apply Ext.alloc | exact Ext.refl _ | assumption | apply Ext.drewN | apply Ext.drew | apply Ext.alloc))⟩)
set_option maxHeartbeats 8000000 in
theorem spanFault_rest (hf ht : Bool) (f t : V4) (w : World) (hg : Good w) (hfs : f.a.size ≤ 2097152) (hts : t.a.size ≤ 2097152) (hb : ((hf || decide (f = zeroV)) && (ht || decide (t = zeroV))) = true) :
    Calls Tryz.prog 131 #[spV ⟨hf, ht, f, t⟩] w fun e w' => e = .returned (.int .i64 (spErr ⟨hf, ht, f, t⟩)) ∧ Ext w w' := by
  have q1 := run_neqv f zeroV
  have q2 := run_neqv t zeroV
  have sF := spErr_f (s := ⟨hf, ht, f, t⟩) hb
  have sT := spErr_t (s := ⟨hf, ht, f, t⟩) hb
  have s7 := spErr_7 (s := ⟨hf, ht, f, t⟩) hb
  have s0 := spErr_0 (s := ⟨hf, ht, f, t⟩) hb
  have hF : decide (f = zeroV) = true → f.err = 0 := fun e => by rw [of_decide_eq_true e]; exact zero_err
  have hT : decide (t = zeroV) = true → t.err = 0 := fun e => by rw [of_decide_eq_true e]; exact zero_err
  dsimp only at sF sT s7 s0
  generalize spErr ⟨hf, ht, f, t⟩ = r at *
  generalize decide (f = zeroV) = p at *
  generalize decide (t = zeroV) = q at *
  obtain ⟨f1, f2, f3, fa⟩ := f
  obtain ⟨t1, t2, t3, ta⟩ := t
  dsimp only [verV, zeroV] at q1 q2
  dsimp only [V4.err, V4.ord] at sF sT s7 s0 hF hT
  dsimp only at hfs hts
  dsimp only [spV]
  have HF := Lib.hid hF
  have HT := Lib.hid hT
  have SF := Lib.hid sF
  have ST := Lib.hid sT
  have S7 := Lib.hid s7
  have S0 := Lib.hid s0
  clear hF hT sF sT s7 s0
  go_enter Tryz.func131, Tryz.ntmps131
  cases hf <;> cases ht <;> cases p <;> cases q <;> first
    | (exact absurd hb (by decide))
    | (clear hb; simp only [Bool.not_true, Bool.not_false] at q1 q2
       go_wp2_with fail
       refine (Check_any f1 f2 f3 fa _ (hg.ext (by repeat (first | with_reducible exact Ext.refl _ | with_reducible assumption | with_reducible apply Ext.drewN | with_reducible apply Ext.drew | with_reducible apply Ext.alloc | exact Ext.refl _ | assumption | apply Ext.drewN | apply Ext.drew | apply Ext.alloc))) hfs).mono ?_
       rintro e w1 ⟨rfl, hx1⟩
       obtain ⟨hc1, hf1⟩ := hx1.cells
       have hz1 := hx1.size
       have hx1' := Ext.trans (a := w) (by repeat (first | with_reducible exact Ext.refl _ | with_reducible assumption | with_reducible apply Ext.drewN | with_reducible apply Ext.drew | with_reducible apply Ext.alloc | exact Ext.refl _ | assumption | apply Ext.drewN | apply Ext.drew | apply Ext.alloc)) hx1
       by_cases e1 : checkV f1 f2 f3 (bs fa) = 0
       · have E1 := Lib.hid e1
         rw [e1]
         clear e1
         go_wp2_with fail
         refine (Check_any t1 t2 t3 ta _ (hg.ext hx1') hts).mono ?_
         rintro e w2 ⟨rfl, hx2⟩
         obtain ⟨hc2, hf2⟩ := hx2.cells
         have hz2 := hx2.size
         have hx2' := hx1'.trans hx2
         have hz3 : w.heap.size < w1.heap.size := by simp at hz1; omega
         by_cases e2 : checkV t1 t2 t3 (bs ta) = 0
         · have E2 := Lib.hid e2
           rw [e2]
           clear e2
           first
             | (go_wp2; go_ret; exact ⟨ret_int (S0.out E1.out E2.out (by simp)).symm, hx2'⟩)
             | (go_wp2_with fail
                refine (Order_any f1 f2 f3 t1 t2 t3 fa ta _ (hg.ext hx2') hfs hts).mono ?_
                rintro e w3 ⟨rfl, hx3⟩
                by_cases ho : 0 ≤ orderL f1 f2 f3 (bs fa) t1 t2 t3 (bs ta)
                · have HO := Lib.hid ho
                  go_wp2
                  go_ret
                  exact ⟨ret_int (S7.out E1.out E2.out (by trivial) (by trivial) HO.out).symm, hx2'.trans hx3⟩
                · have HO := Lib.hid ho
                  go_wp2
                  go_ret
                  exact ⟨ret_int (S0.out E1.out E2.out (.inr (.inr (by have := HO.out; omega)))).symm, hx2'.trans hx3⟩)
         · first
             | exact absurd (HT.out rfl) e2
             | exact absurd (HT.out trivial) e2
             | (go_wp2; go_ret; exact ⟨ret_int (ST.out E1.out e2).symm, hx2'⟩)
       · first
           | exact absurd (HF.out rfl) e1
           | exact absurd (HF.out trivial) e1
           | (go_wp2; go_ret; exact ⟨ret_int (SF.out e1).symm, hx1'⟩))
theorem spanFault_any (s : Sp) (w : World) (hg : Good w) (hfs : s.f.a.size ≤ 2097152) (hts : s.t.a.size ≤ 2097152) :
    Calls Tryz.prog 131 #[spV s] w fun e w' => e = .returned (.int .i64 (spErr s)) ∧ Ext w w' := by
  by_cases h : (!s.hf && !decide (s.f = zeroV) || !s.ht && !decide (s.t = zeroV)) = true
  · rw [spErr_bad h]
    exact spanFault_bad s.hf s.ht s.f s.t w h
  · refine spanFault_rest s.hf s.ht s.f s.t w hg hfs hts ?_
    revert h
    cases s.hf <;> cases s.ht <;> cases decide (s.f = zeroV) <;> cases decide (s.t = zeroV) <;> decide
end Go.Proofs.YtghhjlcbcojcnaaGreatDoor
