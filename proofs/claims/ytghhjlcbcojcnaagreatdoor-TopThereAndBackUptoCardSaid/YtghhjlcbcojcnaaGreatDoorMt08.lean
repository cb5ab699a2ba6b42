/- Plain law: ranges, their errors, their texts, and what reads them; the reference's reading is the program's. Plain law: what ver.PrintRange writes, ver.ParseRange reads back. Spans and ranges in memory; the struct equalities that the walks meet; slices.Equal over spans. Contracts of ver.spanFault, CheckRange. Contracts of ver.CheckRange. -/
import Derived.Test.YtghhjlcbcojcnaaGreatDoorMt06
import Derived.Test.YtghhjlcbcojcnaaGreatDoorMt07
import Derived.Test.YtghhjlcbcojcnaaGreatDoorMt04
import Derived.Lib.Join
import Derived.Test.YtghhjlcbcojcnaaGreatDoorMt02
import Derived.Laws.StructEq
import Derived.Deep.QuietTactic
import Derived.Test.YtghhjlcbcojcnaaGreatDoorMt05

namespace Go.Proofs.YtghhjlcbcojcnaaGreatDoor

/-! ### The order turned round -/
theorem compareInt_neg (a b : Int) : Lib.compareInt b a = - Lib.compareInt a b := by
  unfold Lib.compareInt
  (repeat' split) <;> omega
theorem compareBytes_neg : ∀ a b : Str, Lib.compareBytes b a = - Lib.compareBytes a b
  | [], [] => rfl
  | [], _ :: _ => rfl
  | _ :: _, [] => rfl
  | x :: a, y :: b => by
    unfold Lib.compareBytes
    rcases Nat.lt_trichotomy x.toNat y.toNat with h | h | h
    · have h1 : x < y := UInt8.lt_iff_toNat_lt.2 h
      have h2 : ¬ y < x := fun e => by have := UInt8.lt_iff_toNat_lt.1 e; omega
      rw [if_pos h1, if_neg h2, if_pos h1]; rfl
    · have h1 : ¬ x < y := fun e => by have := UInt8.lt_iff_toNat_lt.1 e; omega
      have h2 : ¬ y < x := fun e => by have := UInt8.lt_iff_toNat_lt.1 e; omega
      rw [if_neg h1, if_neg h2, if_neg h2, if_neg h1]
      exact compareBytes_neg a b
    · have h1 : y < x := UInt8.lt_iff_toNat_lt.2 h
      have h2 : ¬ x < y := fun e => by have := UInt8.lt_iff_toNat_lt.1 e; omega
      rw [if_pos h1, if_neg h2, if_pos h1]
      try rfl
theorem cmpWord_neg (a b : Str) : cmpWordL b a = - cmpWordL a b := by
  unfold cmpWordL
  cases numeralL a <;> cases numeralL b
  · exact compareBytes_neg a b
  · rfl
  · rfl
  · simp only [Bool.and_self, if_true]
    by_cases h : a.length = b.length
    · rw [if_pos h, if_pos h.symm, compareBytes_neg]
    · rw [if_neg h, if_neg (Ne.symm h), compareInt_neg]
theorem cmpWords_neg {f : Str → Str → Int} (hf : ∀ a b, f b a = - f a b) : ∀ xs ys : List Str, cmpWordsL f ys xs = - cmpWordsL f xs ys
  | [], [] => compareInt_neg _ _
  | [], _ :: _ => compareInt_neg _ _
  | _ :: _, [] => compareInt_neg _ _
  | x :: xs, y :: ys => by
    unfold cmpWordsL
    rw [hf x y]
    by_cases h : f x y = 0
    · rw [if_pos h, if_pos (by omega), cmpWords_neg hf xs ys]
    · rw [if_neg h, if_neg (by omega)]
theorem cmpEarly_neg (a b : Str) : cmpEarlyL b a = - cmpEarlyL a b := by
  unfold cmpEarlyL
  by_cases h : a = b
  · rw [if_pos h, if_pos h.symm]; rfl
  · rw [if_neg h, if_neg (Ne.symm h)]
    by_cases ha : a = []
    · by_cases hb : b = []
      · exact absurd (ha.trans hb.symm) h
      · rw [if_neg hb, if_pos ha, if_pos ha]
    · by_cases hb : b = []
      · rw [if_pos hb, if_neg ha, if_pos hb]; rfl
      · rw [if_neg hb, if_neg ha, if_neg ha, if_neg hb]
        exact cmpWords_neg cmpWord_neg _ _
theorem first4_neg (a b c d : Int) : firstI [-a, -b, -c, -d] = - firstI [a, b, c, d] := by
  simp only [firstI]
  by_cases h1 : a = 0
  · rw [if_pos h1, if_pos (by omega)]
    by_cases h2 : b = 0
    · rw [if_pos h2, if_pos (by omega)]
      by_cases h3 : c = 0
      · rw [if_pos h3, if_pos (by omega)]
        by_cases h4 : d = 0
        · rw [if_pos h4, if_pos (by omega)]; rfl
        · rw [if_neg h4, if_neg (by omega)]
      · rw [if_neg h3, if_neg (by omega)]
    · rw [if_neg h2, if_neg (by omega)]
  · rw [if_neg h1, if_neg (by omega)]
theorem order_neg (a1 a2 a3 : Int) (a : Str) (b1 b2 b3 : Int) (b : Str) : orderL b1 b2 b3 b a1 a2 a3 a = - orderL a1 a2 a3 a b1 b2 b3 b := by
  unfold orderL
  rw [compareInt_neg a1, compareInt_neg a2, compareInt_neg a3, cmpEarly_neg a, first4_neg]

/-! ### Versions -/
deriving instance DecidableEq for V4
def zeroV : V4 := ⟨0, 0, 0, ⟨#[]⟩⟩
def V4.ord (u v : V4) : Int := orderL u.a1 u.a2 u.a3 (bs u.a) v.a1 v.a2 v.a3 (bs v.a)
def V4.text (v : V4) : Str := textL v.a1 v.a2 v.a3 (bs v.a)
theorem V4.ord_neg (u v : V4) : v.ord u = - u.ord v := order_neg _ _ _ _ _ _ _ _
theorem zero_err : zeroV.err = 0 := by decide
/-- ver.Parse: the version, the error -/
def pV (l : Str) : V4 × Int := (⟨(parseV l).1.1, (parseV l).1.2.1, (parseV l).1.2.2.1, ⟨(parseV l).1.2.2.2.toArray⟩⟩, (parseV l).2)
/-- ver.Next -/
def nV (v : V4) (part : Int) : V4 × Int := (⟨(nextV v.a1 v.a2 v.a3 (bs v.a) part).1.1, (nextV v.a1 v.a2 v.a3 (bs v.a) part).1.2.1, (nextV v.a1 v.a2 v.a3 (bs v.a) part).1.2.2, ⟨#[]⟩⟩, (nextV v.a1 v.a2 v.a3 (bs v.a) part).2)

/-! ### Spans and ranges -/
structure Sp where
  hf : Bool
  ht : Bool
  f : V4
  t : V4
deriving instance DecidableEq for Sp
def zeroS : Sp := ⟨false, false, zeroV, zeroV⟩
def spErr (s : Sp) : Int :=
  if (!s.hf && decide (s.f ≠ zeroV) || !s.ht && decide (s.t ≠ zeroV)) = true then 2
  else if s.f.err ≠ 0 then s.f.err else if s.t.err ≠ 0 then s.t.err
  else if (s.hf && s.ht && decide (0 ≤ s.f.ord s.t)) = true then 7 else 0
def gapErr (p s : Sp) : Int := if (!p.ht || !s.hf || decide (0 ≤ p.t.ord s.f)) = true then 7 else 0
def errAt (l : List Sp) (k : Nat) : Int :=
  if spErr (l.getD k zeroS) ≠ 0 then spErr (l.getD k zeroS) else if k = 0 then 0 else gapErr (l.getD (k - 1) zeroS) (l.getD k zeroS)
def errsOf (l : List Sp) : List Int := (List.range l.length).map (errAt l)
/-- the error of a range: 4 ErrLarge, 2 ErrForm, 7 ErrOrder, those of its versions -/
def rngErr (l : List Sp) : Int := if 10 < l.length then 4 else firstI (errsOf l)
theorem errs_length (l : List Sp) : (errsOf l).length = l.length := by simp [errsOf]
theorem errs_get (l : List Sp) (k : Nat) (h : k < (errsOf l).length) : (errsOf l)[k] = errAt l k := by simp [errsOf]
theorem firstI_ne {l : List Int} (h : firstI l = 0) : ∀ x ∈ l, x = 0 := by
  induction l with
  | nil => intro x hx; cases hx
  | cons e r ih =>
    unfold firstI at h
    by_cases he : e = 0
    · rw [if_pos he] at h
      intro x hx
      rcases List.mem_cons.1 hx with rfl | hx
      · exact he
      · exact ih h x hx
    · rw [if_neg he] at h
      exact absurd h he
theorem rng_ok {l : List Sp} (h : rngErr l = 0) : l.length ≤ 10 ∧ ∀ k, k < l.length → errAt l k = 0 := by
  unfold rngErr at h
  by_cases h1 : 10 < l.length
  · rw [if_pos h1] at h; cases h
  · rw [if_neg h1] at h
    exact ⟨by omega, fun k hk => firstI_ne h _ (List.mem_map.2 ⟨k, List.mem_range.2 hk, rfl⟩)⟩
theorem err_sp {l : List Sp} {k : Nat} (hk : k < l.length) (h : errAt l k = 0) : spErr l[k] = 0 := by
  unfold errAt at h
  have e : l.getD k zeroS = l[k] := by simp [List.getD, List.getElem?_eq_getElem hk]
  rw [e] at h
  by_cases h1 : spErr l[k] ≠ 0
  · rw [if_pos h1] at h; exact absurd h h1
  · exact Classical.not_not.1 h1

/-! ### Texts -/
/-! ### The program's reading -/
def rowL (l : Str) : Bool := !l.contains 32
structure It where
  sign : UInt8
  first : Str
  last : Str
def itemL (s : Str) : It × Bool :=
  if s = [42] then (⟨42, [], []⟩, true)
  else if Lib.hasPrefix s [62, 61] = true then
    (if (cutC 32 (s.drop 2)).2.2 = true then
      (⟨98, (cutC 32 (s.drop 2)).1, Lib.trimPrefix (cutC 32 (s.drop 2)).2.1 [60]⟩, Lib.hasPrefix (cutC 32 (s.drop 2)).2.1 [60] && rowL (cutC 32 (s.drop 2)).1 && rowL (Lib.trimPrefix (cutC 32 (s.drop 2)).2.1 [60]))
    else (⟨62, s.drop 2, []⟩, rowL (s.drop 2)))
  else if (!s.isEmpty && [60, 61, 94, 126].contains (s.headD 0)) = true then (⟨s.headD 0, s.drop 1, []⟩, rowL (s.drop 1))
  else (⟨94, s, []⟩, rowL s)
def early0 (v : V4) (x : Str) : V4 := { v with a := ⟨x.toArray⟩ }
def behindL (v : V4) (sign : UInt8) : V4 × Int :=
  if sign = 61 then (if bs v.a ≠ [] then (early0 v (bs v.a ++ [46, 48]), (early0 v (bs v.a ++ [46, 48])).err) else (early0 (nV v 2).1 [48], (nV v 2).2))
  else if sign = 94 ∧ v.a1 ≠ 0 then nV v 0 else nV v 1
def spanL (it : It) : Sp × Int :=
  if it.sign = 42 then (zeroS, 0)
  else if (pV it.first).2 ≠ 0 then (zeroS, (pV it.first).2)
  else if it.sign = 62 then (⟨true, false, (pV it.first).1, zeroV⟩, 0)
  else if it.sign = 60 then (⟨false, true, zeroV, (pV it.first).1⟩, 0)
  else if it.sign = 98 then (⟨true, true, (pV it.first).1, (pV it.last).1⟩, (pV it.last).2)
  else (⟨true, true, (pV it.first).1, (behindL (pV it.first).1 it.sign).1⟩, (behindL (pV it.first).1 it.sign).2)
def wrongL (l : Str) : Bool := decide ((pV l).2 = 8)
def synL (s : Str) : Bool := !(itemL s).2 || ((itemL s).1.sign != 42 && wrongL (itemL s).1.first) || ((itemL s).1.sign == 98 && wrongL (itemL s).1.last)
def spansOf (q : List (Sp × Int)) : List Sp × Int :=
  if firstI (q.map (·.2)) ≠ 0 then ([], firstI (q.map (·.2))) else if rngErr (q.map (·.1)) ≠ 0 then ([], rngErr (q.map (·.1))) else (q.map (·.1), 0)
def parseR (s : Str) : List Sp × Int :=
  if 1000 < s.length then ([], 4) else if s = [110, 111, 110, 101] then ([], 0)
  else if (Lib.split s [44, 32]).any synL = true then ([], 8) else spansOf ((Lib.split s [44, 32]).map fun p => spanL (itemL p).1)

/-! ### The reference's reading -/
/-! ### They are the same -/
end Go.Proofs.YtghhjlcbcojcnaaGreatDoor

namespace Go.Proofs.YtghhjlcbcojcnaaGreatDoor

/-! ### Cutting a joined text -/
/-! ### The signs of a version's text -/
/-! ### A span -/
end Go.Proofs.YtghhjlcbcojcnaaGreatDoor

namespace Go.Proofs.YtghhjlcbcojcnaaGreatDoor
open Go.RowKit

abbrev verV (v : V4) : Value := .agg #[.int .i64 v.a1, .int .i64 v.a2, .int .i64 v.a3, .string v.a]
abbrev spV (s : Sp) : Value := .agg #[.bool s.hf, .bool s.ht, .int .i64 s.f.a1, .int .i64 s.f.a2, .int .i64 s.f.a3, .string s.f.a, .int .i64 s.t.a1, .int .i64 s.t.a2, .int .i64 s.t.a3, .string s.t.a]
theorem str_eq (a b : ByteArray) : (a.toList = b.toList) = (a = b) := by
  rw [ByteArray.toList_eq, ByteArray.toList_eq]
  exact propext ⟨fun h => bs_inj h, fun h => by rw [h]⟩
theorem run_eqv (d : Nat) (u v : V4) (w : World) : (Op.equalIn (d + 2) 35 (verV u) (verV v)).run Tryz.prog w = .ok (decide (u = v)) w := by
  obtain ⟨u1, u2, u3, u⟩ := u
  obtain ⟨v1, v2, v3, v⟩ := v
  dsimp only [verV]
  rw [run_equalIn_agg w (d + 1) 35 _ _ (by kernel_rfl) (by kernel_rfl)]
  go_simp
  simp only [str_eq]
  by_cases h1 : u1 = v1 <;> by_cases h2 : u2 = v2 <;> by_cases h3 : u3 = v3 <;> by_cases h4 : u = v <;> simp [h1, h2, h3, h4]
theorem run_neqv (u v : V4) (w : World) : (binOp .neq 35 (verV u) (verV v)).run Tryz.prog w = .ok (.bool (!decide (u = v))) w := by
  rw [run_neq_struct, run_eqv 9998]
  rfl
/-! ### Spans in memory -/
/-- spans at an address: cell by cell -/
structure SpS (w : World) (b o : Nat) (l : List Sp) : Prop where
  c0 : ∀ k (h : k < l.length), w.cell? ⟨b, o + k * 10, none⟩ = some (.bool l[k].hf)
  c1 : ∀ k (h : k < l.length), w.cell? ⟨b, o + k * 10 + 1, none⟩ = some (.bool l[k].ht)
  c2 : ∀ k (h : k < l.length), w.cell? ⟨b, o + k * 10 + 2, none⟩ = some (.int .i64 l[k].f.a1)
  c3 : ∀ k (h : k < l.length), w.cell? ⟨b, o + k * 10 + 3, none⟩ = some (.int .i64 l[k].f.a2)
  c4 : ∀ k (h : k < l.length), w.cell? ⟨b, o + k * 10 + 4, none⟩ = some (.int .i64 l[k].f.a3)
  c5 : ∀ k (h : k < l.length), w.cell? ⟨b, o + k * 10 + 5, none⟩ = some (.string l[k].f.a)
  c6 : ∀ k (h : k < l.length), w.cell? ⟨b, o + k * 10 + 6, none⟩ = some (.int .i64 l[k].t.a1)
  c7 : ∀ k (h : k < l.length), w.cell? ⟨b, o + k * 10 + 7, none⟩ = some (.int .i64 l[k].t.a2)
  c8 : ∀ k (h : k < l.length), w.cell? ⟨b, o + k * 10 + 8, none⟩ = some (.int .i64 l[k].t.a3)
  c9 : ∀ k (h : k < l.length), w.cell? ⟨b, o + k * 10 + 9, none⟩ = some (.string l[k].t.a)
theorem SpS.ext {w w' : World} {b o : Nat} {l : List Sp} (h : SpS w b o l) (hx : Ext w w') : SpS w' b o l :=
  ⟨fun k hk => hx.cell (h.c0 k hk), fun k hk => hx.cell (h.c1 k hk), fun k hk => hx.cell (h.c2 k hk), fun k hk => hx.cell (h.c3 k hk), fun k hk => hx.cell (h.c4 k hk),
    fun k hk => hx.cell (h.c5 k hk), fun k hk => hx.cell (h.c6 k hk), fun k hk => hx.cell (h.c7 k hk), fun k hk => hx.cell (h.c8 k hk), fun k hk => hx.cell (h.c9 k hk)⟩
/-- a slice of spans: its address where it has any -/
def RdS (w : World) (A : Option Addr) (l : List Sp) : Prop := l ≠ [] → ∃ b o, A = some ⟨b, o, none⟩ ∧ SpS w b o l
theorem RdS.ext {w w' : World} {A : Option Addr} {l : List Sp} (h : RdS w A l) (hx : Ext w w') : RdS w' A l := fun hn => by
  obtain ⟨b, o, e, k⟩ := h hn
  exact ⟨b, o, e, k.ext hx⟩
end Go.Proofs.YtghhjlcbcojcnaaGreatDoor

namespace Go.Proofs.YtghhjlcbcojcnaaGreatDoor
open Go.RowKit

theorem spErr_bad {s : Sp} (h : (!s.hf && !decide (s.f = zeroV) || !s.ht && !decide (s.t = zeroV)) = true) : spErr s = 2 := by
  unfold spErr
  rw [if_pos]
  simpa using h
theorem spErr_rest {s : Sp} (h : ((s.hf || decide (s.f = zeroV)) && (s.ht || decide (s.t = zeroV))) = true) :
    spErr s = if s.f.err ≠ 0 then s.f.err else if s.t.err ≠ 0 then s.t.err else if (s.hf && s.ht && decide (0 ≤ s.f.ord s.t)) = true then 7 else 0 := by
  unfold spErr
  rw [if_neg]
  simp only [Bool.and_eq_true, Bool.or_eq_true, decide_eq_true_eq, Bool.not_eq_true', decide_eq_true_eq, not_or, not_and] at h ⊢
  exact ⟨fun h1 => by rcases h.1 with e | e; rw [e] at h1; cases h1; simpa using e, fun h1 => by rcases h.2 with e | e; rw [e] at h1; cases h1; simpa using e⟩
theorem spErr_f {s : Sp} (h : ((s.hf || decide (s.f = zeroV)) && (s.ht || decide (s.t = zeroV))) = true) (h1 : ¬ s.f.err = 0) : spErr s = s.f.err := by rw [spErr_rest h, if_pos h1]
theorem spErr_t {s : Sp} (h : ((s.hf || decide (s.f = zeroV)) && (s.ht || decide (s.t = zeroV))) = true) (h1 : s.f.err = 0) (h2 : ¬ s.t.err = 0) : spErr s = s.t.err := by rw [spErr_rest h, if_neg (by simpa using h1), if_pos h2]
theorem spErr_7 {s : Sp} (h : ((s.hf || decide (s.f = zeroV)) && (s.ht || decide (s.t = zeroV))) = true) (h1 : s.f.err = 0) (h2 : s.t.err = 0) (h3 : s.hf = true) (h4 : s.ht = true) (h5 : 0 ≤ s.f.ord s.t) : spErr s = 7 := by
  rw [spErr_rest h, if_neg (by simpa using h1), if_neg (by simpa using h2), h3, h4, if_pos (by simpa using h5)]
theorem spErr_0 {s : Sp} (h : ((s.hf || decide (s.f = zeroV)) && (s.ht || decide (s.t = zeroV))) = true) (h1 : s.f.err = 0) (h2 : s.t.err = 0) (h3 : s.hf = false ∨ s.ht = false ∨ ¬ 0 ≤ s.f.ord s.t) : spErr s = 0 := by
  rw [spErr_rest h, if_neg (by simpa using h1), if_neg (by simpa using h2), if_neg]
  rcases h3 with e | e | e
  · rw [e]; simp
  · rw [e]; simp
  · rw [decide_eq_false e]; simp
set_option maxHeartbeats 4000000 in
theorem spanFault_bad (hf ht : Bool) (f t : V4) (w : World) (hb : (!hf && !decide (f = zeroV) || !ht && !decide (t = zeroV)) = true) :
    Calls Tryz.prog 131 #[spV ⟨hf, ht, f, t⟩] w fun e w' => e = .returned (.int .i64 2) ∧ Ext w w' := by
  have q1 := run_neqv f zeroV
  have q2 := run_neqv t zeroV
  generalize decide (f = zeroV) = p at *
  generalize decide (t = zeroV) = q at *
  obtain ⟨f1, f2, f3, fa⟩ := f
  obtain ⟨t1, t2, t3, ta⟩ := t
  dsimp only [verV, zeroV] at q1 q2
  dsimp only [spV]
  go_enter Tryz.func131, Tryz.ntmps131
  cases hf <;> cases ht <;> cases p <;> cases q <;> first
    | (exact absurd hb (by decide))
    | (clear hb; simp only [Bool.not_true, Bool.not_false] at q1 q2; go_wp2; go_ret; exact ⟨rfl, (by repeat (first | with_reducible exact Ext.refl _ | with_reducible assumption | with_reducible apply Ext.drewN | with_reducible apply Ext.drew | with_reducible apply Ext.alloc | exact Ext.refl _ | assumption | apply Ext.drewN | apply Ext.drew | apply Ext.alloc))⟩)
set_option maxHeartbeats 8000000 in
theorem spanFault_rest (hf ht : Bool) (f t : V4) (w : World) (hg : Good w) (hfs : f.a.size ≤ 2097152) (hts : t.a.size ≤ 2097152) (hb : ((hf || decide (f = zeroV)) && (ht || decide (t = zeroV))) = true) :
    Calls Tryz.prog 131 #[spV ⟨hf, ht, f, t⟩] w fun e w' => e = .returned (.int .i64 (spErr ⟨hf, ht, f, t⟩)) ∧ Ext w w' := by
  have q1 := run_neqv f zeroV
  have q2 := run_neqv t zeroV
  have sF := spErr_f (s := ⟨hf, ht, f, t⟩) hb
  have sT := spErr_t (s := ⟨hf, ht, f, t⟩) hb
  have s7 := spErr_7 (s := ⟨hf, ht, f, t⟩) hb
  have s0 := spErr_0 (s := ⟨hf, ht, f, t⟩) hb
  have hF : decide (f = zeroV) = true → f.err = 0 := fun e => by rw [of_decide_eq_true e]; exact zero_err
  have hT : decide (t = zeroV) = true → t.err = 0 := fun e => by rw [of_decide_eq_true e]; exact zero_err
  dsimp only at sF sT s7 s0
  generalize spErr ⟨hf, ht, f, t⟩ = r at *
  generalize decide (f = zeroV) = p at *
  generalize decide (t = zeroV) = q at *
  obtain ⟨f1, f2, f3, fa⟩ := f
  obtain ⟨t1, t2, t3, ta⟩ := t
  dsimp only [verV, zeroV] at q1 q2
  dsimp only [V4.err, V4.ord] at sF sT s7 s0 hF hT
  dsimp only at hfs hts
  dsimp only [spV]
  have HF := Lib.hid hF
  have HT := Lib.hid hT
  have SF := Lib.hid sF
  have ST := Lib.hid sT
  have S7 := Lib.hid s7
  have S0 := Lib.hid s0
  clear hF hT sF sT s7 s0
  go_enter Tryz.func131, Tryz.ntmps131
  cases hf <;> cases ht <;> cases p <;> cases q <;> first
    | (exact absurd hb (by decide))
    | (clear hb; simp only [Bool.not_true, Bool.not_false] at q1 q2
       go_wp2_with fail
       refine (Check_any f1 f2 f3 fa _ (hg.ext (by repeat (first | with_reducible exact Ext.refl _ | with_reducible assumption | with_reducible apply Ext.drewN | with_reducible apply Ext.drew | with_reducible apply Ext.alloc | exact Ext.refl _ | assumption | apply Ext.drewN | apply Ext.drew | apply Ext.alloc))) hfs).mono ?_
       rintro e w1 ⟨rfl, hx1⟩
       obtain ⟨hc1, hf1⟩ := hx1.cells
       have hz1 := hx1.size
       have hx1' := Ext.trans (a := w) (by repeat (first | with_reducible exact Ext.refl _ | with_reducible assumption | with_reducible apply Ext.drewN | with_reducible apply Ext.drew | with_reducible apply Ext.alloc | exact Ext.refl _ | assumption | apply Ext.drewN | apply Ext.drew | apply Ext.alloc)) hx1
       by_cases e1 : checkV f1 f2 f3 (bs fa) = 0
       · have E1 := Lib.hid e1
         rw [e1]
         clear e1
         go_wp2_with fail
         refine (Check_any t1 t2 t3 ta _ (hg.ext hx1') hts).mono ?_
         rintro e w2 ⟨rfl, hx2⟩
         obtain ⟨hc2, hf2⟩ := hx2.cells
         have hz2 := hx2.size
         have hx2' := hx1'.trans hx2
         have hz3 : w.heap.size < w1.heap.size := by simp at hz1; omega
         by_cases e2 : checkV t1 t2 t3 (bs ta) = 0
         · have E2 := Lib.hid e2
           rw [e2]
           clear e2
           first
             | (go_wp2; go_ret; exact ⟨ret_int (S0.out E1.out E2.out (by simp)).symm, hx2'⟩)
             | (go_wp2_with fail
                refine (Order_any f1 f2 f3 t1 t2 t3 fa ta _ (hg.ext hx2') hfs hts).mono ?_
                rintro e w3 ⟨rfl, hx3⟩
                by_cases ho : 0 ≤ orderL f1 f2 f3 (bs fa) t1 t2 t3 (bs ta)
                · have HO := Lib.hid ho
                  go_wp2
                  go_ret
                  exact ⟨ret_int (S7.out E1.out E2.out (by trivial) (by trivial) HO.out).symm, hx2'.trans hx3⟩
                · have HO := Lib.hid ho
                  go_wp2
                  go_ret
                  exact ⟨ret_int (S0.out E1.out E2.out (.inr (.inr (by have := HO.out; omega)))).symm, hx2'.trans hx3⟩)
         · first
             | exact absurd (HT.out rfl) e2
             | exact absurd (HT.out trivial) e2
             | (go_wp2; go_ret; exact ⟨ret_int (ST.out E1.out e2).symm, hx2'⟩)
       · first
           | exact absurd (HF.out rfl) e1
           | exact absurd (HF.out trivial) e1
           | (go_wp2; go_ret; exact ⟨ret_int (SF.out e1).symm, hx1'⟩))
theorem spanFault_any (s : Sp) (w : World) (hg : Good w) (hfs : s.f.a.size ≤ 2097152) (hts : s.t.a.size ≤ 2097152) :
    Calls Tryz.prog 131 #[spV s] w fun e w' => e = .returned (.int .i64 (spErr s)) ∧ Ext w w' := by
  by_cases h : (!s.hf && !decide (s.f = zeroV) || !s.ht && !decide (s.t = zeroV)) = true
  · rw [spErr_bad h]
    exact spanFault_bad s.hf s.ht s.f s.t w h
  · refine spanFault_rest s.hf s.ht s.f s.t w hg hfs hts ?_
    revert h
    cases s.hf <;> cases s.ht <;> cases decide (s.f = zeroV) <;> cases decide (s.t = zeroV) <;> decide
end Go.Proofs.YtghhjlcbcojcnaaGreatDoor

namespace Go.Proofs.YtghhjlcbcojcnaaGreatDoor
open Go.RowKit

/-- what the walks ask of spans' texts -/
def SmallS (l : List Sp) : Prop := ∀ s ∈ l, s.f.a.size ≤ 2097152 ∧ s.t.a.size ≤ 2097152
theorem errAt_0 {l : List Sp} (h : 0 < l.length) : errAt l 0 = spErr l[0] := by
  unfold errAt
  have e : l.getD 0 zeroS = l[0] := by simp [List.getD, List.getElem?_eq_getElem h]
  rw [e]
  by_cases h1 : spErr l[0] = 0
  · rw [if_neg (by simpa using h1), if_pos rfl, h1]
  · rw [if_pos h1]
theorem errAt_bad {l : List Sp} {k : Nat} (h : k < l.length) (h1 : ¬ spErr l[k] = 0) : errAt l k = spErr l[k] := by
  unfold errAt
  have e : l.getD k zeroS = l[k] := by simp [List.getD, List.getElem?_eq_getElem h]
  rw [e, if_pos h1]
theorem errAt_gap {l : List Sp} {k : Nat} (h : k < l.length) (h0 : 0 < k) (h1 : spErr l[k] = 0) : errAt l k = gapErr l[k - 1] l[k] := by
  unfold errAt
  have e : l.getD k zeroS = l[k] := by simp [List.getD, List.getElem?_eq_getElem h]
  have e2 : l.getD (k - 1) zeroS = l[k - 1] := by simp [List.getD, List.getElem?_eq_getElem (by omega : k - 1 < l.length)]
  rw [e, e2, if_neg (by simpa using h1), if_neg (by omega)]
theorem rng_large {l : List Sp} (h : 10 < l.length) : rngErr l = 4 := by rw [rngErr, if_pos h]
theorem rng_at {l : List Sp} {k : Nat} (hl : l.length ≤ 10) (h : k < l.length) (h0 : ∀ x ∈ (errsOf l).take k, x = 0) (h1 : ¬ errAt l k = 0) : rngErr l = errAt l k := by
  rw [rngErr, if_neg (by omega)]
  have hk : k < (errsOf l).length := by rw [errs_length]; exact h
  rw [firstI_at hk h0 (by rw [errs_get]; exact h1), errs_get]
theorem rng_next {l : List Sp} {k : Nat} (h : k < l.length) (h0 : ∀ x ∈ (errsOf l).take k, x = 0) (h1 : errAt l k = 0) : ∀ x ∈ (errsOf l).take (k + 1), x = 0 := by
  have hk : k < (errsOf l).length := by rw [errs_length]; exact h
  exact take_zero_succ hk h0 (by rw [errs_get]; exact h1)
theorem rng_all {l : List Sp} (hl : l.length ≤ 10) (h0 : ∀ x ∈ (errsOf l).take l.length, x = 0) : rngErr l = 0 := by
  rw [rngErr, if_neg (by omega)]
  rw [List.take_of_length_le (by rw [errs_length]; exact Nat.le_refl _)] at h0
  exact firstI_zero h0
theorem gap_ne {p s : Sp} (h : p.ht = false ∨ s.hf = false ∨ 0 ≤ p.t.ord s.f) : gapErr p s = 7 := by
  unfold gapErr
  rw [if_pos]
  rcases h with h | h | h <;> simp [h]
theorem gap_ok {p s : Sp} (h1 : p.ht = true) (h2 : s.hf = true) (h : ¬ 0 ≤ p.t.ord s.f) : gapErr p s = 0 := by
  unfold gapErr
  rw [if_neg]
  simpa [h1, h2] using h
set_option maxHeartbeats 8000000 in
theorem CheckRange_any (A : Option Addr) (n c : Nat) (l : List Sp) (w : World) (hg : Good w) (hn : l.length = n) (hr : RdS w A l) (hs : SmallS l) (hl : n ≤ 2097152) :
    Calls Tryz.prog 53 #[.agg #[.slice A n c]] w fun e w' => e = .returned (.int .i64 (rngErr l)) ∧ Ext w w' := by
  have HN := Lib.hid hn
  clear hn
  by_cases h10 : 10 < n
  · have hR : rngErr l = 4 := rng_large (by rw [HN.out]; exact h10)
    have HR := Lib.hid hR
    clear hR
    go_enter Tryz.func53, Tryz.ntmps53
    go_wp2
    go_ret
    exact ⟨ret_int HR.out.symm, (by repeat (first | with_reducible exact Ext.refl _ | with_reducible assumption | with_reducible apply Ext.drewN | with_reducible apply Ext.drew | with_reducible apply Ext.alloc | exact Ext.refl _ | assumption | apply Ext.drewN | apply Ext.drew | apply Ext.alloc))⟩
  rcases Nat.eq_zero_or_pos n with h0 | h0
  · subst h0
    have he : l = [] := List.eq_nil_of_length_eq_zero HN.out
    have hR : rngErr l = 0 := by rw [he]; rfl
    have HR := Lib.hid hR
    clear he hR
    go_enter Tryz.func53, Tryz.ntmps53
    go_wp2
    go_loop [14] (fun i => i = .int .i64 0) (fun i => 0)
    case atStart => rfl
    case round =>
      subst hrel
      go_wp2
      go_ret
      exact ⟨ret_int HR.out.symm, (by repeat (first | with_reducible exact Ext.refl _ | with_reducible assumption | with_reducible apply Ext.drewN | with_reducible apply Ext.drew | with_reducible apply Ext.alloc | exact Ext.refl _ | assumption | apply Ext.drewN | apply Ext.drew | apply Ext.alloc))⟩
  obtain ⟨b, o, rfl, hX⟩ := hr (fun e => by have := HN.out; rw [e] at this; simp at this; omega)
  clear hr
  go_enter Tryz.func53, Tryz.ntmps53
  go_wp2
  go_loopw [14] (fun i wr => ∃ k : Nat, k ≤ n ∧ i = .int .i64 k ∧ (∀ x ∈ (errsOf l).take k, x = 0) ∧ Ext (w.alloc (.cells #[.slice (some ⟨b, o, none⟩) n c] 51)) wr) (fun i _ => n - (intOf i).toNat)
  case atStart => exact ⟨0, Nat.zero_le _, rfl, by simp, Ext.refl _⟩
  case round =>
    obtain ⟨k, hk, rfl, hall, hxr⟩ := hrel
    have HALL := Lib.hid hall
    clear hall
    have hxw : Ext w wr := Ext.trans (by repeat (first | with_reducible exact Ext.refl _ | with_reducible assumption | with_reducible apply Ext.drewN | with_reducible apply Ext.drew | with_reducible apply Ext.alloc | exact Ext.refl _ | assumption | apply Ext.drewN | apply Ext.drew | apply Ext.alloc)) hxr
    have hB := (Blk.new w 51 #[.slice (some ⟨b, o, none⟩) n c]).ext hxr
    by_cases hlt : k < n
    · have hk1 : k < l.length := by rw [HN.out]; exact hlt
      have X := hX.ext hxw
      have x0 := X.c0 k hk1; have x1 := X.c1 k hk1; have x2 := X.c2 k hk1; have x3 := X.c3 k hk1; have x4 := X.c4 k hk1
      have x5 := X.c5 k hk1; have x6 := X.c6 k hk1; have x7 := X.c7 k hk1; have x8 := X.c8 k hk1; have x9 := X.c9 k hk1
      have hz1 := hs l[k] (List.getElem_mem hk1)
      have hbad : ¬ spErr l[k] = 0 → rngErr l = spErr l[k] := fun h => by
        have e := errAt_bad hk1 h
        rw [rng_at (by have := HN.out; omega) hk1 HALL.out (by rw [e]; exact h), e]
      have HBAD := Lib.hid hbad
      have hgood : errAt l k = 0 → ∀ x ∈ (errsOf l).take (k + 1), x = 0 := rng_next hk1 HALL.out
      have HGOOD := Lib.hid hgood
      have hgapb : errAt l k = 7 → rngErr l = 7 := fun h => by rw [rng_at (by have := HN.out; omega) hk1 HALL.out (by rw [h]; decide), h]
      have HGAPB := Lib.hid hgapb
      clear hbad hgood hgapb
      by_cases hk0 : k = 0
      · subst hk0
        have HE := Lib.hid (errAt_0 hk1)
        generalize l[0] = s at *
        obtain ⟨hf, ht, ⟨f1, f2, f3, fa⟩, ⟨t1, t2, t3, ta⟩⟩ := s
        dsimp only at x0 x1 x2 x3 x4 x5 x6 x7 x8 x9 hz1
        rw [Nat.zero_mul, Nat.add_zero] at x0 x1 x2 x3 x4 x5 x6 x7 x8 x9
        obtain ⟨hz1, hz2⟩ := hz1
        go_wp2_with fail
        refine (spanFault_any ⟨hf, ht, ⟨f1, f2, f3, fa⟩, ⟨t1, t2, t3, ta⟩⟩ _ (hg.ext (hxw.trans (by repeat (first | with_reducible exact Ext.refl _ | with_reducible assumption | with_reducible apply Ext.drewN | with_reducible apply Ext.drew | with_reducible apply Ext.alloc | exact Ext.refl _ | assumption | apply Ext.drewN | apply Ext.drew | apply Ext.alloc)))) hz1 hz2).mono ?_
        generalize spErr ⟨hf, ht, ⟨f1, f2, f3, fa⟩, ⟨t1, t2, t3, ta⟩⟩ = r at *
        rintro e w1 ⟨rfl, hx1⟩
        by_cases hr : r = 0
        · have HR := Lib.hid hr
          rw [hr]
          clear hr
          go_wp2
          go_roundw
          case rel => exact ⟨1, by omega, rfl, HGOOD.out (HE.out.trans HR.out), (hxr.trans (by repeat (first | with_reducible exact Ext.refl _ | with_reducible assumption | with_reducible apply Ext.drewN | with_reducible apply Ext.drew | with_reducible apply Ext.alloc | exact Ext.refl _ | assumption | apply Ext.drewN | apply Ext.drew | apply Ext.alloc))).trans hx1⟩
          case measure => simp [intOf]; omega
        · go_wp2
          go_ret
          exact ⟨ret_int (HBAD.out hr).symm, (hxw.trans (by repeat (first | with_reducible exact Ext.refl _ | with_reducible assumption | with_reducible apply Ext.drewN | with_reducible apply Ext.drew | with_reducible apply Ext.alloc | exact Ext.refl _ | assumption | apply Ext.drewN | apply Ext.drew | apply Ext.alloc))).trans hx1⟩
      · obtain ⟨j, rfl⟩ : ∃ j, k = j + 1 := ⟨k - 1, by omega⟩
        have hj : j < l.length := by omega
        have HE := Lib.hid (errAt_gap hk1 (by omega))
        simp only [Nat.add_sub_cancel] at HE
        have y0 := X.c0 j hj; have y1 := X.c1 j hj; have y2 := X.c2 j hj; have y3 := X.c3 j hj; have y4 := X.c4 j hj
        have y5 := X.c5 j hj; have y6 := X.c6 j hj; have y7 := X.c7 j hj; have y8 := X.c8 j hj; have y9 := X.c9 j hj
        have hz3 := hs l[j] (List.getElem_mem hj)
        clear X hk0
        generalize l[j + 1] = s at *
        generalize l[j] = p at *
        have q3 := fun h => gap_ne (p := p) (s := s) (.inl h)
        have q4 := fun h => gap_ne (p := p) (s := s) (.inr (.inl h))
        have q5 := fun h => gap_ne (p := p) (s := s) (.inr (.inr h))
        have q6 := gap_ok (p := p) (s := s)
        obtain ⟨hf, ht, ⟨f1, f2, f3, fa⟩, ⟨t1, t2, t3, ta⟩⟩ := s
        obtain ⟨pf, pt, ⟨g1, g2, g3, ga⟩, ⟨u1, u2, u3, ua⟩⟩ := p
        dsimp only at x0 x1 x2 x3 x4 x5 x6 x7 x8 x9 hz1 y0 y1 y2 y3 y4 y5 y6 y7 y8 y9 hz3
        dsimp only [V4.ord] at q3 q4 q5 q6
        generalize gapErr ⟨pf, pt, ⟨g1, g2, g3, ga⟩, ⟨u1, u2, u3, ua⟩⟩ ⟨hf, ht, ⟨f1, f2, f3, fa⟩, ⟨t1, t2, t3, ta⟩⟩ = G at *
        have Q3 := Lib.hid q3
        have Q4 := Lib.hid q4
        have Q5 := Lib.hid q5
        have Q6 := Lib.hid q6
        clear q3 q4 q5 q6
        obtain ⟨hz1, hz2⟩ := hz1
        obtain ⟨hz3, hz4⟩ := hz3
        go_wp2_with fail
        refine (spanFault_any ⟨hf, ht, ⟨f1, f2, f3, fa⟩, ⟨t1, t2, t3, ta⟩⟩ _ (hg.ext (hxw.trans (by repeat (first | with_reducible exact Ext.refl _ | with_reducible assumption | with_reducible apply Ext.drewN | with_reducible apply Ext.drew | with_reducible apply Ext.alloc | exact Ext.refl _ | assumption | apply Ext.drewN | apply Ext.drew | apply Ext.alloc)))) hz1 hz2).mono ?_
        generalize spErr ⟨hf, ht, ⟨f1, f2, f3, fa⟩, ⟨t1, t2, t3, ta⟩⟩ = r at *
        rintro e w1 ⟨rfl, hx1⟩
        by_cases hr : r = 0
        rotate_left
        · go_wp2
          go_ret
          exact ⟨ret_int (HBAD.out hr).symm, (hxw.trans (by repeat (first | with_reducible exact Ext.refl _ | with_reducible assumption | with_reducible apply Ext.drewN | with_reducible apply Ext.drew | with_reducible apply Ext.alloc | exact Ext.refl _ | assumption | apply Ext.drewN | apply Ext.drew | apply Ext.alloc))).trans hx1⟩
        have HG := Lib.hid (HE.out hr)
        rw [hr]
        clear hr
        have bS := (Blk.new wr 145 #[.bool hf, .bool ht, .int .i64 f1, .int .i64 f2, .int .i64 f3, .string fa, .int .i64 t1, .int .i64 t2, .int .i64 t3, .string ta]).ext hx1
        have sc := bS.cell
        have sl := bS.lt
        have bB := (hB.alloc _).ext hx1
        have bc := bB.cell
        have hxa : Ext wr w1 := Ext.trans (by repeat (first | with_reducible exact Ext.refl _ | with_reducible assumption | with_reducible apply Ext.drewN | with_reducible apply Ext.drew | with_reducible apply Ext.alloc | exact Ext.refl _ | assumption | apply Ext.drewN | apply Ext.drew | apply Ext.alloc)) hx1
        have hlw := hB.lt
        have y0 := hxa.cell y0; have y1 := hxa.cell y1; have y2 := hxa.cell y2; have y3 := hxa.cell y3; have y4 := hxa.cell y4
        have y5 := hxa.cell y5; have y6 := hxa.cell y6; have y7 := hxa.cell y7; have y8 := hxa.cell y8; have y9 := hxa.cell y9
        clear x0 x1 x2 x3 x4 x5 x6 x7 x8 x9
        cases pt
        · go_wp2
          go_ret
          exact ⟨ret_int (HGAPB.out (HG.out.trans (Q3.out (by trivial)))).symm, hxw.trans (by repeat (first | with_reducible exact Ext.refl _ | with_reducible assumption | with_reducible apply Ext.drewN | with_reducible apply Ext.drew | with_reducible apply Ext.alloc | exact Ext.refl _ | assumption | apply Ext.drewN | apply Ext.drew | apply Ext.alloc))⟩
        cases hf
        · go_wp2
          go_ret
          exact ⟨ret_int (HGAPB.out (HG.out.trans (Q4.out (by trivial)))).symm, hxw.trans (by repeat (first | with_reducible exact Ext.refl _ | with_reducible assumption | with_reducible apply Ext.drewN | with_reducible apply Ext.drew | with_reducible apply Ext.alloc | exact Ext.refl _ | assumption | apply Ext.drewN | apply Ext.drew | apply Ext.alloc))⟩
        go_wp2_with fail
        refine (Order_any f1 f2 f3 u1 u2 u3 fa ua _ (hg.ext (hxw.trans (by repeat (first | with_reducible exact Ext.refl _ | with_reducible assumption | with_reducible apply Ext.drewN | with_reducible apply Ext.drew | with_reducible apply Ext.alloc | exact Ext.refl _ | assumption | apply Ext.drewN | apply Ext.drew | apply Ext.alloc)))) hz1 hz4).mono ?_
        rintro e w2 ⟨rfl, hx2⟩
        have hon := order_neg f1 f2 f3 (bs fa) u1 u2 u3 (bs ua)
        have HON := Lib.hid hon
        clear hon
        have hxb : Ext w w2 := Ext.trans (hxw.trans (by repeat (first | with_reducible exact Ext.refl _ | with_reducible assumption | with_reducible apply Ext.drewN | with_reducible apply Ext.drew | with_reducible apply Ext.alloc | exact Ext.refl _ | assumption | apply Ext.drewN | apply Ext.drew | apply Ext.alloc))) hx2
        have hxc : Ext wr w2 := Ext.trans (by repeat (first | with_reducible exact Ext.refl _ | with_reducible assumption | with_reducible apply Ext.drewN | with_reducible apply Ext.drew | with_reducible apply Ext.alloc | exact Ext.refl _ | assumption | apply Ext.drewN | apply Ext.drew | apply Ext.alloc)) hx2
        by_cases ho : orderL f1 f2 f3 (bs fa) u1 u2 u3 (bs ua) ≤ 0
        · have HO := Lib.hid ho
          go_wp2
          go_ret
          exact ⟨ret_int (HGAPB.out (HG.out.trans (Q5.out (by rw [HON.out]; have := HO.out; omega)))).symm, hxb⟩
        · have HO := Lib.hid ho
          go_wp2
          go_roundw
          case rel => exact ⟨j + 1 + 1, by omega, by go_num, HGOOD.out (HG.out.trans (Q6.out (by trivial) (by trivial) (by rw [HON.out]; have := HO.out; omega))), hxr.trans hxc⟩
          case measure => simp [intOf]; omega
    · obtain rfl : k = n := by omega
      go_wp2
      go_ret
      exact ⟨ret_int (rng_all (by have := HN.out; omega) (by rw [HN.out]; exact HALL.out)).symm, hxw⟩
end Go.Proofs.YtghhjlcbcojcnaaGreatDoor
