/- Plain law: what is read of a text as a condition has a bearable size. Contract of outref2.SameCond, at two conditions that are the same. Plain law: what both readers make of a text. Settings: plain words, and settings in memory. Maps of strings that the call itself has made. The error of settings: the reference's and the program's. Printed by gen/seta.py. Tables of settings: the program's and the reference's. Printed by gen/setb.py. Contracts of ver.Holds at the condition that always holds, and of migrate.settingsFault. The order of versions is a total order. Plain words. Intervals of places, strictly apart: what two lists have in common, a scan that finds the intervals again. Plain words. Ranges as intervals of places: what two ranges have in common, span by span and by a scan over all ends. Plain words. Contracts of ver.within, names, has, Has. -/
import Derived.Test.YtaobnifiengglaaGreatDoorAl25
import Derived.Test.YtaobnifiengglaaGreatDoorAl24
import Derived.Test.YtaobnifiengglaaGreatDoorAl14
import Derived.Maps.OwnSet
import Derived.Maps.StringElems
import Derived.Test.YtaobnifiengglaaGreatDoorAl07
import Derived.Test.YtaobnifiengglaaGreatDoorAl16
import Derived.Test.YtaobnifiengglaaGreatDoorAl27
import Derived.Deep.RegionHeld3
import Derived.Laws.EntriesVeiled
import Derived.Test.YtaobnifiengglaaGreatDoorAl13
import Derived.Test.YtaobnifiengglaaGreatDoorAl10
import Derived.Test.YtaobnifiengglaaGreatDoorAl01
import Derived.Test.YtaobnifiengglaaGreatDoorAl15

namespace Go.Proofs.YtaobnifiengglaaGreatDoor

/-- texts no longer than m -/
inductive StrC (m : Nat) : Cd → Prop where
  | mk (k : Int) (n x : ByteArray) (l : List Cd) (hn : n.size ≤ m) (hx : x.size ≤ m) (hr : ∀ c ∈ l, StrC m c) : StrC m (.mk k n x l)
theorem StrC.zero (m : Nat) : StrC m zeroC := .mk _ _ _ _ (Nat.zero_le _) (Nat.zero_le _) (fun _ h => by cases h)
theorem cnts_mem : ∀ {l : List Cd} {c : Cd}, c ∈ l → cnt c ≤ cnts l
  | a :: l, c, h => by
    rcases List.mem_cons.1 h with rfl | h
    · simp only [cnts]; omega
    · have := cnts_mem h
      simp only [cnts]; omega
theorem cnts_len' : ∀ (l : List Cd), l.length ≤ cnts l
  | [] => Nat.le_refl _
  | c :: l => by
    have := cnts_len' l
    have := cnt_pos c
    simp only [cnts, List.length_cons]
    omega
theorem small_of {m : Nat} (hm : m ≤ 2097152) {c : Cd} (h : StrC m c) (hc : cnt c ≤ 100000000) : SmallC c := by
  induction h with
  | mk k n x l hn hx hr ih =>
    unfold cnt at hc
    have := cnts_len' l
    exact .mk k n x l (by omega) (by omega) (by omega) fun c hcl => ih c hcl (by have := cnts_mem hcl; omega)
section
variable {s : ByteArray}
theorem cnt_mk (k : Int) (n x : ByteArray) (l : List Cd) : cnt (.mk k n x l) = 1 + cnts l := by simp [cnt]
theorem cnt_leaf (k : Int) (n x : ByteArray) : cnt (.mk k n x []) = 1 := by simp [cnt, cnts]
end
end Go.Proofs.YtaobnifiengglaaGreatDoor

namespace Go.Proofs.YtaobnifiengglaaGreatDoor
open Go.RowKit

theorem cnts_mem' : ∀ {l : List Cd} {c : Cd}, c ∈ l → cnt c ≤ cnts l
  | a :: l, c, h => by
    rcases List.mem_cons.1 h with rfl | h
    · simp only [cnts]; omega
    · have := cnts_mem' h
      simp only [cnts]; omega
theorem cntz_len : ∀ (l : List Cd), l.length ≤ cnts l
  | [] => Nat.le_refl _
  | c :: l => by
    have := cntz_len l
    have := cnt_pos c
    simp only [cnts, List.length_cons]
    omega
/-- the parts of a condition in memory -/
def ArgAt (P : Nat → Prop) (w : World) (l : List Cd) (b o : Nat) : Prop := ∀ j (hj : j < l.length), ∃ (ck : Int) (cn cx : ByteArray) (cA : Option Addr) (cm ccp : Nat),
  w.cell? ⟨b, o + j * 4, none⟩ = some (.int .i64 ck) ∧ w.cell? ⟨b, o + j * 4 + 1, none⟩ = some (.string cn) ∧ w.cell? ⟨b, o + j * 4 + 2, none⟩ = some (.string cx) ∧ w.cell? ⟨b, o + j * 4 + 3, none⟩ = some (.slice cA cm ccp) ∧
  CdIn P w l[j] (.agg #[.int .i64 ck, .string cn, .string cx, .slice cA cm ccp])
theorem ArgAt.ext {P : Nat → Prop} {w w' : World} {l : List Cd} {b o : Nat} (h : ArgAt P w l b o) (hx : Ext w w') : ArgAt P w' l b o := fun j hj => by
  obtain ⟨ck, cn, cx, cA, cm, ccp, h0, h1, h2, h3, hc⟩ := h j hj
  exact ⟨ck, cn, cx, cA, cm, ccp, hx.cell h0, hx.cell h1, hx.cell h2, hx.cell h3, hc.ext hx⟩
theorem CdIn.arg {P : Nat → Prop} {w : World} {k : Int} {n x : ByteArray} {l : List Cd} {v : Value} (h : CdIn P w (.mk k n x l) v) :
    ∃ (A : Option Addr) (cp b o : Nat), v = .agg #[.int .i64 k, .string n, .string x, .slice A l.length cp] ∧ (0 < l.length → A = some ⟨b, o, none⟩) ∧ ArgAt P w l b o := by
  cases h with
  | mk k n x l A cp b o u0 u1 u2 u3 hA hb h0 h1 h2 h3 hr =>
    refine ⟨A, cp, b, o, rfl, hA, fun j hj => ?_⟩
    have hc := hr j hj
    obtain ⟨ck, cn, cx, cA, cm, ccp, hcc⟩ := hc.cells
    have hcc2 := hcc
    simp only [Value.agg.injEq, Array.mk.injEq, List.cons.injEq, and_true] at hcc2
    obtain ⟨q0, q1, q2, q3⟩ := hcc2
    exact ⟨ck, cn, cx, cA, cm, ccp, q0 ▸ h0 j hj, q1 ▸ h1 j hj, q2 ▸ h2 j hj, q3 ▸ h3 j hj, hcc ▸ hc⟩
end Go.Proofs.YtaobnifiengglaaGreatDoor

namespace Go.Proofs.YtaobnifiengglaaGreatDoor

section
variable {s : ByteArray}
end
end Go.Proofs.YtaobnifiengglaaGreatDoor

namespace Go.Proofs.YtaobnifiengglaaGreatDoor
open Go.RowKit

structure Se where
  k : ByteArray
  v : ByteArray
deriving DecidableEq
/-! ### In memory -/
structure SeS (w : World) (b o : Nat) (l : List Se) : Prop where
  c0 : ∀ k (h : k < l.length), w.cell? ⟨b, o + k * 2, none⟩ = some (.string l[k].k)
  c1 : ∀ k (h : k < l.length), w.cell? ⟨b, o + k * 2 + 1, none⟩ = some (.string l[k].v)
theorem SeS.ext {w w' : World} {b o : Nat} {l : List Se} (h : SeS w b o l) (hx : Ext w w') : SeS w' b o l := ⟨fun k hk => hx.cell (h.c0 k hk), fun k hk => hx.cell (h.c1 k hk)⟩
/-- a slice of settings: its address where it has any -/
def RdE (w : World) (A : Option Addr) (l : List Se) : Prop := l ≠ [] → ∃ b o, A = some ⟨b, o, none⟩ ∧ SeS w b o l
theorem RdE.ext {w w' : World} {A : Option Addr} {l : List Se} (h : RdE w A l) (hx : Ext w w') : RdE w' A l := fun hn => by
  obtain ⟨b, o, e, k⟩ := h hn
  exact ⟨b, o, e, k.ext hx⟩
end Go.Proofs.YtaobnifiengglaaGreatDoor

namespace Go.Proofs.YtaobnifiengglaaGreatDoor
open Go.RowKit
open Go.Maps (Keyed)

theorem str_under : Tryz.prog.underlying 9 = some .string := by kernel_rfl
theorem str_zero (w : World) : (zeroValue 9).run Tryz.prog w = .ok (.string ⟨#[]⟩) w := by go_simp
/-- block b is a map of strings, of at most n entries, that holds f -/
def StrMap (w : World) (b n : Nat) (f : Str → Option Str) : Prop :=
  ∃ D : DataW PUnit, w.ownsMap Tryz.prog 9 (plainElem Tryz.prog 9) b n D ∧ (∀ s, f s = none → Maps.has D (.string s) = false) ∧ ∀ s v, f s = some v → Maps.has D (.string s) = true ∧ ∀ z, D.atKey (.string s) z = .lit (.string v)
namespace StrMap
variable {w w' : World} {b n : Nat} {f : Str → Option Str}
theorem made (w : World) : StrMap (w.alloc (.map #[] 0)) w.heap.size 0 (fun _ => none) :=
  ⟨.map [], World.ownsMap_made w _ _ _, fun _ _ => rfl, fun _ _ h => by cases h⟩
theorem ext (h : StrMap w b n f) (hx : Ext w w') : StrMap w' b n f := by
  obtain ⟨D, h, r⟩ := h
  exact ⟨D, h.kept (row := none) ⟨hx.os, hx.tape, hx.output, hx.size, fun k hk _ => hx.block k hk⟩ (by simp), r⟩
theorem lt (h : StrMap w b n f) : b < w.heap.size := by
  obtain ⟨D, h, _⟩ := h
  exact h.lt
theorem mono (h : StrMap w b n f) {m : Nat} (hm : n ≤ m) : StrMap w b m f := by
  obtain ⟨D, h, r⟩ := h
  exact ⟨D, h.mono hm, r⟩
theorem look (h : StrMap w b n f) {t : TypeId} (ht : Tryz.prog.underlying t = some (.map 9 9)) (k : ByteArray) (hk : k.size ≤ 2097152) :
    (Instr.lookup t (.map (some b)) (.string k) true).run Tryz.prog w = .ok (.tuple #[S ((f (bs k)).getD []), .bool (f (bs k)).isSome]) w := by
  obtain ⟨D, h, r1, r2⟩ := h
  obtain ⟨v, ps, hrun, hv⟩ := h.look_ok (Maps.string_keyed str_under) ht (str_zero w) (plainElem_string str_under (by decide)) (WideMaps.keyOf_string_mk str_under (s := k) (by simp only [maxLen]; omega))
  rw [hrun]
  obtain ⟨s, rfl, hs, _⟩ := plainElem_string_inv str_under hv
  have hs := congrArg Prod.fst hs
  cases hf : f (bs k) with
  | none =>
    have h0 := r1 _ hf
    have e : (DataW.lit (.string []) : DataW PUnit) = .lit (.string s.data.toList) := (Maps.atKey_of_not_has h0 _).symm.trans hs
    have e := Lit.string.inj (DataW.lit.inj e)
    have e2 : s = ⟨#[]⟩ := bs_inj (show bs s = bs ⟨#[]⟩ from e.symm)
    subst e2
    have h0 : Maps.has D (Lit.string k.data.toList) = false := h0
    simp only [h0]
    rfl
  | some u =>
    obtain ⟨h0, h1⟩ := r2 _ _ hf
    have e : (DataW.lit (.string u) : DataW PUnit) = .lit (.string s.data.toList) := (h1 _).symm.trans hs
    have e := Lit.string.inj (DataW.lit.inj e)
    have h0 : Maps.has D (Lit.string k.data.toList) = true := h0
    have e2 : S u = .string s := by rw [show u = bs s from e, S_bs]
    simp only [h0, Option.getD_some, Option.isSome_some, e2]
theorem upd (h : StrMap w b n f) {t : TypeId} (ht : Tryz.prog.underlying t = some (.map 9 9)) (k v : ByteArray) (hk : k.size ≤ 2097152) (hv : v.size ≤ 2097152) (hn : n ≤ 2097152) :
    ∃ w', (Instr.mapUpdate t (.map (some b)) (.string k) (.string v)).run Tryz.prog w = .ok () w' ∧ StrMap w' b (n + 1) (fun x => if x = bs k then some (bs v) else f x) ∧ w.grownBy w' (some b) := by
  obtain ⟨D, h, r1, r2⟩ := h
  have hkey : keyOf Tryz.prog 9 (.string k) = some (.string (bs k)) := WideMaps.keyOf_string_mk str_under (by simp only [maxLen]; omega)
  have hval : plainElem (H := PUnit) Tryz.prog 9 (.string v) = some (.lit (.string (bs v)), []) := plainElem_string str_under (by simp only [maxLen]; omega)
  obtain ⟨w', hrun, h', hg⟩ := h.update (Maps.string_keyed str_under) ht (by simp only [maxLen]; omega) hkey hval
  refine ⟨w', hrun, ⟨_, h', fun s hs => ?_, fun s u hs => ?_⟩, hg⟩ <;> dsimp only at hs
  · by_cases e : s = bs k
    · rw [if_pos e] at hs; cases hs
    · rw [if_neg e] at hs
      rw [Maps.has_put_other (by intro e2; injection e2 with e2; exact e e2)]
      exact r1 s hs
  · by_cases e : s = bs k
    · rw [if_pos e] at hs
      cases hs
      subst e
      exact ⟨Maps.has_put_same h.isMap (by trivial) _, fun z => Maps.atKey_put_same h.isMap (by trivial) _ _⟩
    · rw [if_neg e] at hs
      have hne : (Lit.string s : Lit) ≠ .string (bs k) := by intro e2; injection e2 with e2; exact e e2
      obtain ⟨h1, h2⟩ := r2 s u hs
      exact ⟨by rw [Maps.has_put_other hne]; exact h1, fun z => by rw [Maps.atKey_put_other hne]; exact h2 z⟩
end StrMap

end Go.Proofs.YtaobnifiengglaaGreatDoor

namespace Go.Proofs.YtaobnifiengglaaGreatDoor
open Go.RowKit

end Go.Proofs.YtaobnifiengglaaGreatDoor

namespace Go.Proofs.YtaobnifiengglaaGreatDoor
open Go.RowKit

end Go.Proofs.YtaobnifiengglaaGreatDoor

namespace Go.Proofs.YtaobnifiengglaaGreatDoor
open Go.RowKit

end Go.Proofs.YtaobnifiengglaaGreatDoor

namespace Go.Proofs.YtaobnifiengglaaGreatDoor

/-- a total order up to what it does not part -/
structure Pre {α : Type} (f : α → α → Int) : Prop where
  anti : ∀ a b, f a b < 0 ↔ 0 < f b a
  le : ∀ a b c, f a b ≤ 0 → f b c ≤ 0 → f a c ≤ 0
namespace Pre
variable {α : Type} {f : α → α → Int}
theorem zero (h : Pre f) {a b : α} (e : f a b = 0) : f b a = 0 := by have := h.anti a b; have := h.anti b a; omega
theorem lt_le (h : Pre f) {a b c : α} (h1 : f a b < 0) (h2 : f b c ≤ 0) : f a c < 0 := by
  have h3 := h.le a b c (by omega) h2
  rcases Int.lt_or_eq_of_le h3 with h4 | h4
  · exact h4
  · have h5 := h.le c a b (by have := h.zero h4; omega) (by omega)
    have h6 := h.le b c b h2 h5
    have := h.anti a b
    have h7 := h.le b c a h2 (by have := h.zero h4; omega)
    omega
theorem lt (h : Pre f) {a b c : α} (h1 : f a b < 0) (h2 : f b c < 0) : f a c < 0 := h.lt_le h1 (by omega)
theorem on {β : Type} (h : Pre f) (p : β → α) : Pre fun x y => f (p x) (p y) := ⟨fun _a _b => h.anti _ _, fun _a _b _c => h.le _ _ _⟩
end Pre
end Go.Proofs.YtaobnifiengglaaGreatDoor

namespace Go.Proofs.YtaobnifiengglaaGreatDoor

structure Iv where
  lo : Nat
  hi : Nat
deriving DecidableEq
def Iv.has (I : Iv) (k : Nat) : Bool := decide (I.lo ≤ k) && decide (k < I.hi)
/-- strictly apart, none of them empty, within N places -/
structure Can (N : Nat) (L : List Iv) : Prop where
  apart : L.Pairwise fun I J => I.hi < J.lo
  full : ∀ I ∈ L, I.lo < I.hi ∧ I.hi ≤ N
theorem Can.tail {N : Nat} {I : Iv} {L : List Iv} (h : Can N (I :: L)) : Can N L := ⟨(List.pairwise_cons.1 h.apart).2, fun J hJ => h.full J (List.mem_cons_of_mem _ hJ)⟩
theorem Can.one {N : Nat} {L : List Iv} (h : Can N L) {I J : Iv} (hI : I ∈ L) (hJ : J ∈ L) : I = J ∨ I.hi < J.lo ∨ J.hi < I.lo := by
  have ha := h.apart
  clear h
  induction ha with
  | nil => cases hI
  | @cons K M h1 _ ih =>
    rcases List.mem_cons.1 hI with e1 | m1 <;> rcases List.mem_cons.1 hJ with e2 | m2
    · exact .inl (e1.trans e2.symm)
    · exact .inr (.inl (e1 ▸ h1 _ m2))
    · exact .inr (.inr (e2 ▸ h1 _ m1))
    · exact ih m1 m2
/-! ### The scan -/
section
variable {σ : Type} (op : Nat → σ) (cl : σ → Nat → σ) (f : Nat → Bool)
end
end Go.Proofs.YtaobnifiengglaaGreatDoor

namespace Go.Proofs.YtaobnifiengglaaGreatDoor

/-! ### Ends, strictly rising -/
/-! ### A span as an interval -/
def insideL (s : Sp) (v : V4) : Bool := !(s.hf && decide (v.ord s.f < 0)) && !(s.ht && decide (0 ≤ v.ord s.t))
section
variable (E : List V4)
def enc (s : Sp) : Iv := ⟨if s.hf = true then E.idxOf s.f + 1 else 0, if s.ht = true then E.idxOf s.t + 1 else E.length + 1⟩
/-- a span whose ends are among the ends, and whose missing ones are zero -/
structure FitE (s : Sp) : Prop where
  f1 : s.hf = true → s.f ∈ E
  f0 : s.hf = false → s.f = zeroV
  t1 : s.ht = true → s.t ∈ E
  t0 : s.ht = false → s.t = zeroV
variable {E}
end

/-! ### A right range is a list of intervals strictly apart -/
theorem spErr_parts {s : Sp} (h : spErr s = 0) : (s.hf = false → s.f = zeroV) ∧ (s.ht = false → s.t = zeroV) ∧ s.f.err = 0 ∧ s.t.err = 0 ∧ (s.hf = true → s.ht = true → s.f.ord s.t < 0) := by
  unfold spErr at h
  by_cases h1 : (!s.hf && decide (s.f ≠ zeroV) || !s.ht && decide (s.t ≠ zeroV)) = true
  · rw [if_pos h1] at h; cases h
  rw [if_neg h1] at h
  by_cases h2 : s.f.err = 0
  · rw [if_neg (by simpa using h2)] at h
    by_cases h3 : s.t.err = 0
    · rw [if_neg (by simpa using h3)] at h
      by_cases h4 : (s.hf && s.ht && decide (0 ≤ s.f.ord s.t)) = true
      · rw [if_pos h4] at h; cases h
      · refine ⟨fun e => ?_, fun e => ?_, h2, h3, fun e1 e2 => ?_⟩
        · rw [e] at h1
          simp at h1
          exact h1.1
        · rw [e] at h1
          simp at h1
          exact h1.2
        · rw [e1, e2] at h4
          simpa using h4
    · rw [if_pos h3] at h; exact absurd h h3
  · rw [if_pos h2] at h; exact absurd h h2
theorem rng_each {l : List Sp} (h : rngErr l = 0) {k : Nat} (hk : k < l.length) : spErr l[k] = 0 := by
  have h1 := (rng_ok h).2 k hk
  unfold errAt at h1
  have e : l.getD k zeroS = l[k] := by simp [List.getD, List.getElem?_eq_getElem hk]
  rw [e] at h1
  by_cases h2 : spErr l[k] = 0
  · exact h2
  · rw [if_pos h2] at h1; exact absurd h1 h2
/-! ### What spans have in common -/
end Go.Proofs.YtaobnifiengglaaGreatDoor

namespace Go.Proofs.YtaobnifiengglaaGreatDoor
open Go.RowKit

theorem ge_not (x : Int) : (!decide (0 ≤ x)) = decide (x < 0) := by
  rw [Bool.eq_iff_iff]; simp
set_option maxHeartbeats 4000000 in
theorem within_any (s : Sp) (v : V4) (w : World) (hg : Good w) (h1 : s.f.a.size ≤ 2097152) (h2 : s.t.a.size ≤ 2097152) (h3 : v.a.size ≤ 2097152) :
    Calls Tryz.prog 197 #[spV s, verV v] w fun e w' => e = .returned (.bool (insideL s v)) ∧ Ext w w' := by
  obtain ⟨hf, ht, ⟨f1, f2, f3, fa⟩, ⟨t1, t2, t3, ta⟩⟩ := s
  obtain ⟨v1, v2, v3, va⟩ := v
  dsimp only at h1 h2 h3
  have cF := fun W (h : Ext w W) => Order_any v1 v2 v3 f1 f2 f3 va fa W (hg.ext h) h3 h1
  have cT := fun W (h : Ext w W) => Order_any v1 v2 v3 t1 t2 t3 va ta W (hg.ext h) h3 h2
  have hi : insideL ⟨hf, ht, ⟨f1, f2, f3, fa⟩, ⟨t1, t2, t3, ta⟩⟩ ⟨v1, v2, v3, va⟩ = (!(hf && decide (orderL v1 v2 v3 (bs va) f1 f2 f3 (bs fa) < 0)) && !(ht && decide (0 ≤ orderL v1 v2 v3 (bs va) t1 t2 t3 (bs ta)))) := rfl
  rw [hi]
  generalize orderL v1 v2 v3 (bs va) f1 f2 f3 (bs fa) = OF at *
  generalize orderL v1 v2 v3 (bs va) t1 t2 t3 (bs ta) = OT at *
  have CF := Lib.hid cF; have CT := Lib.hid cT
  clear cF cT hi
  cases hf
  · cases ht
    · go_enter Tryz.func197, Tryz.ntmps197
      go_wp2
      go_ret
      exact ⟨rfl, (by repeat (first | with_reducible exact Ext.refl _ | with_reducible assumption | with_reducible apply Ext.drewN | with_reducible apply Ext.drew | with_reducible apply Ext.alloc | exact Ext.refl _ | assumption | apply Ext.drewN | apply Ext.drew | apply Ext.alloc))⟩
    · go_enter Tryz.func197, Tryz.ntmps197
      go_wp2_with fail
      refine (CT.out _ (by repeat (first | with_reducible exact Ext.refl _ | with_reducible assumption | with_reducible apply Ext.drewN | with_reducible apply Ext.drew | with_reducible apply Ext.alloc | exact Ext.refl _ | assumption | apply Ext.drewN | apply Ext.drew | apply Ext.alloc))).mono ?_
      rintro e w1 ⟨rfl, hx1⟩
      go_wp2
      go_ret
      refine ⟨ret_bool ?_, Ext.trans (by repeat (first | with_reducible exact Ext.refl _ | with_reducible assumption | with_reducible apply Ext.drewN | with_reducible apply Ext.drew | with_reducible apply Ext.alloc | exact Ext.refl _ | assumption | apply Ext.drewN | apply Ext.drew | apply Ext.alloc)) hx1⟩
      simp [ge_not]
  · by_cases hF : 0 ≤ OF
    · have hF2 : ¬ OF < 0 := by omega
      have HF := Lib.hid hF2
      clear hF2
      cases ht
      · go_enter Tryz.func197, Tryz.ntmps197
        go_wp2_with fail
        refine (CF.out _ (by repeat (first | with_reducible exact Ext.refl _ | with_reducible assumption | with_reducible apply Ext.drewN | with_reducible apply Ext.drew | with_reducible apply Ext.alloc | exact Ext.refl _ | assumption | apply Ext.drewN | apply Ext.drew | apply Ext.alloc))).mono ?_
        rintro e w1 ⟨rfl, hx1⟩
        have b1 := ((Blk.new w 146 #[.bool true, .bool false, .int .i64 f1, .int .i64 f2, .int .i64 f3, .string fa, .int .i64 t1, .int .i64 t2, .int .i64 t3, .string ta]).alloc (.cells #[.int .i64 v1, .int .i64 v2, .int .i64 v3, .string va] 35)).ext hx1
        have c1 := b1.cell
        have l1 := b1.lt
        go_wp2
        go_ret
        refine ⟨ret_bool ?_, Ext.trans (by repeat (first | with_reducible exact Ext.refl _ | with_reducible assumption | with_reducible apply Ext.drewN | with_reducible apply Ext.drew | with_reducible apply Ext.alloc | exact Ext.refl _ | assumption | apply Ext.drewN | apply Ext.drew | apply Ext.alloc)) hx1⟩
        simp [HF.out]
      · go_enter Tryz.func197, Tryz.ntmps197
        go_wp2_with fail
        refine (CF.out _ (by repeat (first | with_reducible exact Ext.refl _ | with_reducible assumption | with_reducible apply Ext.drewN | with_reducible apply Ext.drew | with_reducible apply Ext.alloc | exact Ext.refl _ | assumption | apply Ext.drewN | apply Ext.drew | apply Ext.alloc))).mono ?_
        rintro e w1 ⟨rfl, hx1⟩
        have b1 := ((Blk.new w 146 #[.bool true, .bool true, .int .i64 f1, .int .i64 f2, .int .i64 f3, .string fa, .int .i64 t1, .int .i64 t2, .int .i64 t3, .string ta]).alloc (.cells #[.int .i64 v1, .int .i64 v2, .int .i64 v3, .string va] 35)).ext hx1
        have b2 := (Blk.new (w.alloc (.cells #[.bool true, .bool true, .int .i64 f1, .int .i64 f2, .int .i64 f3, .string fa, .int .i64 t1, .int .i64 t2, .int .i64 t3, .string ta] 146)) 35 #[.int .i64 v1, .int .i64 v2, .int .i64 v3, .string va]).ext hx1
        rw [World.size_alloc] at b2
        have c1 := b1.cell; have c2 := b2.cell
        have l1 := b1.lt; have l2 := b2.lt
        have hxa : Ext w w1 := Ext.trans (by repeat (first | with_reducible exact Ext.refl _ | with_reducible assumption | with_reducible apply Ext.drewN | with_reducible apply Ext.drew | with_reducible apply Ext.alloc | exact Ext.refl _ | assumption | apply Ext.drewN | apply Ext.drew | apply Ext.alloc)) hx1
        go_wp2_with fail
        refine (CT.out _ hxa).mono ?_
        rintro e w2 ⟨rfl, hx2⟩
        go_wp2
        go_ret
        refine ⟨ret_bool ?_, hxa.trans hx2⟩
        have e : decide (OF < 0) = false := decide_eq_false (by have := HF.out; omega)
        simp [e, ge_not]
    · have hF2 : OF < 0 := by omega
      have HF := Lib.hid hF2
      clear hF2
      go_enter Tryz.func197, Tryz.ntmps197
      go_wp2_with fail
      refine (CF.out _ (by repeat (first | with_reducible exact Ext.refl _ | with_reducible assumption | with_reducible apply Ext.drewN | with_reducible apply Ext.drew | with_reducible apply Ext.alloc | exact Ext.refl _ | assumption | apply Ext.drewN | apply Ext.drew | apply Ext.alloc))).mono ?_
      rintro e w1 ⟨rfl, hx1⟩
      go_wp2
      go_ret
      refine ⟨ret_bool ?_, Ext.trans (by repeat (first | with_reducible exact Ext.refl _ | with_reducible assumption | with_reducible apply Ext.drewN | with_reducible apply Ext.drew | with_reducible apply Ext.alloc | exact Ext.refl _ | assumption | apply Ext.drewN | apply Ext.drew | apply Ext.alloc)) hx1⟩
      simp
/-- an end that names an early version with the same numbers -/
def nearL (h : Bool) (e v : V4) : Bool := h && !decide (e.a.size = 0) && decide (e.a1 = v.a1) && decide (e.a2 = v.a2) && decide (e.a3 = v.a3)
set_option maxHeartbeats 4000000 in
theorem names_any (h : Bool) (e v : V4) (w : World) :
    Calls Tryz.prog 198 #[.bool h, verV e, verV v] w fun r w' => r = .returned (.bool (nearL h e v)) ∧ Ext w w' := by
  obtain ⟨e1, e2, e3, ea⟩ := e
  obtain ⟨v1, v2, v3, va⟩ := v
  have hN : nearL h ⟨e1, e2, e3, ea⟩ ⟨v1, v2, v3, va⟩ = (h && !decide (ea.size = 0) && decide (e1 = v1) && decide (e2 = v2) && decide (e3 = v3)) := rfl
  rw [hN]
  clear hN
  cases h
  · go_enter Tryz.func198, Tryz.ntmps198
    go_wp2
    go_ret
    exact ⟨rfl, (by repeat (first | with_reducible exact Ext.refl _ | with_reducible assumption | with_reducible apply Ext.drewN | with_reducible apply Ext.drew | with_reducible apply Ext.alloc | exact Ext.refl _ | assumption | apply Ext.drewN | apply Ext.drew | apply Ext.alloc))⟩
  rcases Nat.eq_zero_or_pos ea.size with h0 | h0
  · have hl := emp_of_size h0
    have hb := emp_bool h0
    have H0 := Lib.hid h0
    clear h0
    go_enter Tryz.func198, Tryz.ntmps198
    go_wp2
    go_ret
    refine ⟨ret_bool ?_, (by repeat (first | with_reducible exact Ext.refl _ | with_reducible assumption | with_reducible apply Ext.drewN | with_reducible apply Ext.drew | with_reducible apply Ext.alloc | exact Ext.refl _ | assumption | apply Ext.drewN | apply Ext.drew | apply Ext.alloc))⟩
    simp [H0.out]
  · have hl := nemp_of_size h0
    have hb := nemp_bool h0
    have H0 := Lib.hid (show ¬ ea.size = 0 by omega)
    by_cases q1 : e1 = v1
    · subst q1
      by_cases q2 : e2 = v2
      · subst q2
        go_enter Tryz.func198, Tryz.ntmps198
        go_wp2
        go_ret
        refine ⟨ret_bool ?_, (by repeat (first | with_reducible exact Ext.refl _ | with_reducible assumption | with_reducible apply Ext.drewN | with_reducible apply Ext.drew | with_reducible apply Ext.alloc | exact Ext.refl _ | assumption | apply Ext.drewN | apply Ext.drew | apply Ext.alloc))⟩
        simp [H0.out]
        by_cases q3 : e3 = v3 <;> simp [q3]
      · go_enter Tryz.func198, Tryz.ntmps198
        go_wp2
        go_ret
        refine ⟨ret_bool ?_, (by repeat (first | with_reducible exact Ext.refl _ | with_reducible assumption | with_reducible apply Ext.drewN | with_reducible apply Ext.drew | with_reducible apply Ext.alloc | exact Ext.refl _ | assumption | apply Ext.drewN | apply Ext.drew | apply Ext.alloc))⟩
        simp [q2]
    · go_enter Tryz.func198, Tryz.ntmps198
      go_wp2
      go_ret
      refine ⟨ret_bool ?_, (by repeat (first | with_reducible exact Ext.refl _ | with_reducible assumption | with_reducible apply Ext.drewN | with_reducible apply Ext.drew | with_reducible apply Ext.alloc | exact Ext.refl _ | assumption | apply Ext.drewN | apply Ext.drew | apply Ext.alloc))⟩
      simp [q1]
end Go.Proofs.YtaobnifiengglaaGreatDoor
