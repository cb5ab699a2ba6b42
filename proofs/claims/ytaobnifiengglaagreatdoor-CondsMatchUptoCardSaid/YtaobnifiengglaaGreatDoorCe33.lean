/- Tables of settings: the program's and the reference's. Printed by gen/setb.py. Contracts of ver.Holds at the condition that always holds, and of migrate.settingsFault. Settings among the arguments. The order of versions is a total order. Plain words. Intervals of places, strictly apart: what two lists have in common, a scan that finds the intervals again. Plain words. Ranges as intervals of places: what two ranges have in common, span by span and by a scan over all ends. Plain words. Contracts of ver.within, names, has, Has. Contracts of ver.has, Has. Contracts of ver.Has, ranges. -/
import Derived.Test.YtaobnifiengglaaGreatDoorCe31
import Derived.Test.YtaobnifiengglaaGreatDoorCe14
import Derived.Test.YtaobnifiengglaaGreatDoorCe32
import Derived.Test.YtaobnifiengglaaGreatDoorCe30
import Derived.Deep.RegionHeld3
import Derived.Laws.EntriesVeiled
import Derived.Test.YtaobnifiengglaaGreatDoorCe19
import Derived.Test.YtaobnifiengglaaGreatDoorCe11
import Derived.Test.YtaobnifiengglaaGreatDoorCe08
import Derived.Test.YtaobnifiengglaaGreatDoorCe01
import Derived.Test.YtaobnifiengglaaGreatDoorCe13

namespace Go.Proofs.YtaobnifiengglaaGreatDoor
open Go.RowKit

set_option maxHeartbeats 4000000 in
theorem Facts_any (A : Option Addr) (n c : Nat) (l : List Se) (w : World) (hn : l.length = n) (hr : RdE w A l) (hs : SmallE l) (hl : n ≤ 2097152) :
    Calls Tryz.prog 72 #[.slice A n c] w fun e w' => e = .returned (.map (some w.heap.size)) ∧ StrMap w' w.heap.size n (tbl l) ∧ Ext w w' := by
  have HN := Lib.hid hn
  have hmm := @run_makeMap Tryz.prog
  have hmade := StrMap.made w
  have hxm : Ext w (w.alloc (.map #[] 0)) := (Ext.refl w).alloc _
  rcases Nat.eq_zero_or_pos n with h0 | h0
  · subst h0
    have he : l = [] := List.eq_nil_of_length_eq_zero hn
    have hT : tbl l = fun _ => none := by rw [he]; rfl
    have HT := Lib.hid hT
    clear he hT hr hs hn
    go_enter Tryz.func72, Tryz.ntmps72
    go_wp2
    go_loop [9] (fun i => i = .int .i64 0) (fun i => 0)
    case atStart => rfl
    case round =>
      subst hrel
      go_wp2
      go_ret
      exact ⟨rfl, by rw [HT.out]; exact hmade, hxm⟩
  obtain ⟨b, o, rfl, hX⟩ := hr (fun e => by rw [e] at hn; simp at hn; omega)
  clear hr hn
  go_enter Tryz.func72, Tryz.ntmps72
  go_wp2
  go_loopw [9] (fun i wr => ∃ k : Nat, k ≤ n ∧ i = .int .i64 k ∧ StrMap wr w.heap.size k (tblN l k) ∧ Ext w wr) (fun i _ => n - (intOf i).toNat)
  case atStart => exact ⟨0, Nat.zero_le _, rfl, by rw [tblN_zero]; exact hmade, hxm⟩
  case round =>
    obtain ⟨k, hk, rfl, hM, hxr⟩ := hrel
    by_cases hlt : k < n
    · have hk1 : k < l.length := by rw [HN.out]; exact hlt
      have X := hX.ext hxr
      have x0 := X.c0 k hk1
      have x1 := X.c1 k hk1
      have hz1 := hs l[k] (List.getElem_mem hk1)
      have HS := Lib.hid (tblN_succ hk1)
      generalize l[k] = s at *
      obtain ⟨sk, sv⟩ := s
      dsimp only at x0 x1 hz1 HS
      obtain ⟨hz1, hz2⟩ := hz1
      clear X
      obtain ⟨w', hrun, hM', hg⟩ := (hM.ext ((Ext.refl wr).alloc (.cells #[.string sk, .string sv] 74))).upd (t := 108) Tryz.underlying108 sk sv hz1 hz2 (by omega)
      have hxn : Ext w w' := Below.grown (hxr.alloc (.cells #[.string sk, .string sv] 74)) hg (Nat.le_trans hxr.size (by rw [World.size_alloc]; omega)) (fun j hj => by simp only [Option.some.injEq] at hj; omega)
      have HX := Lib.hid hxn
      have HM := Lib.hid hM'
      clear hM hM' hg hxn
      go_wp2
      go_roundw
      case rel => exact ⟨k + 1, by omega, by go_num, by rw [HS.out]; exact HM.out, HX.out⟩
      case measure => simp [intOf]; omega
    · obtain rfl : k = n := by omega
      have HT := Lib.hid (show tblN l k = tbl l from by rw [tbl, HN.out])
      go_wp2
      go_ret
      exact ⟨rfl, by rw [← HT.out]; exact hM, hxr⟩
end Go.Proofs.YtaobnifiengglaaGreatDoor

namespace Go.Proofs.YtaobnifiengglaaGreatDoor
open Go.RowKit

theorem Holds1_any (A : Option Addr) (n c : Nat) (w : World) :
    Calls Tryz.prog 151 #[.slice A n c] w fun e w' => e = .returned (.func (.func 152) #[] #[.pointer (some ⟨w.heap.size, 0, none⟩)]) ∧ w' = w.alloc (.cells #[.slice A n c] 65) := by
  go_enter Tryz.func151, Tryz.ntmps151
  go_wp2
  go_ret
  exact ⟨rfl, rfl⟩
end Go.Proofs.YtaobnifiengglaaGreatDoor

namespace Go.Proofs.YtaobnifiengglaaGreatDoor
open Go.ChangeShapes Go.WideShapes Go.ChangeAt Go.RowKit Go.WideElems Go.Joins

instance : Inhabited Se := ⟨zeroSe⟩
set_option maxRecDepth 100000 in
theorem opens_setting : Opens 74 (fun _ (s : Se) cs => cs = [.string s.k, .string s.v]) (fun s => s.k.size + s.v.size + 2) := fun H enc W fuel cs x h => by
  obtain ⟨y0, y1, n, rfl, hl, h0, h1⟩ := trod_struct2 Tryz.underlying74 h
  have hc : Tryz.prog.cellsOf 74 = 2 := by kernel_rfl
  have cst : Tryz.prog.cellsOf 9 = 1 := by kernel_rfl
  rw [hc] at hl
  match cs, hl with
  | [c0, c1], _ =>
    dsimp only at h0 h1
    rw [cst] at h0 h1
    obtain ⟨a, e1, b1⟩ := opens_string Tryz.underlying9 H enc W n _ _ h0
    obtain ⟨b, e2, b2⟩ := opens_string Tryz.underlying9 H enc W n _ _ h1
    simp at e1 e2
    subst e1 e2
    exact ⟨⟨a, b⟩, rfl, by dsimp only at b1 b2 ⊢; simp only [Rows.uptoBulk, Rows.uptoBulkAll]; omega⟩
theorem rowOf_settings {W : World} {A : Option Addr} {l : List Se} (h : RowOf (fun _ (s : Se) cs => cs = [.string s.k, .string s.v]) 2 W A l) : RdE W A l := fun hne => by
  obtain ⟨b, o, rfl, hc⟩ := h hne
  refine ⟨b, o, rfl, ?_, ?_⟩ <;> intro k hk <;> obtain ⟨ecs, rfl, _, hj⟩ := hc k hk
  · exact hj 0 (by omega)
  · exact hj 1 (by omega)
set_option maxRecDepth 100000 in
/-- settings, of a bulk -/
theorem open_settings {H : Type} {enc : TypeId × Value → H} {W : World} {base : Nat} {v : Value} {d : DataW H} {p : List MemPlace} (hv : Value.okWide Tryz.prog W .any base 65 v) (h : DataW.Trod enc Tryz.prog W 0 (fun _ => true) true 65 v d p) :
    ∃ A c l, v = .slice A l.length c ∧ RdE W A l ∧ (∀ s ∈ l, s.k.size + s.v.size ≤ Rows.uptoBulk d) ∧ l.length * 2 ≤ Rows.uptoBulk d := by
  obtain ⟨a, len, cap, rfl⟩ := okWide_slice Tryz.underlying65 hv
  obtain ⟨fuel, hf⟩ := h
  obtain ⟨l, ⟨A, c, e, hr⟩, hb⟩ := opens_slice (sz := 2) Tryz.underlying65 (by kernel_rfl) (by decide) opens_setting H enc W fuel _ _ hf
  refine ⟨A, c, l, ?_, rowOf_settings hr, fun s hs => ?_, ?_⟩
  · have e : [Value.slice a len cap] = [.slice A l.length c] := e
    injection e
  · have := sum_mem (bk := fun s : Se => s.k.size + s.v.size + 2) hs
    dsimp only at this hb
    omega
  · have := sum_len (bk := fun s : Se => s.k.size + s.v.size + 2) (c := 2) (fun a => by omega) l
    dsimp only at this hb
    omega
end Go.Proofs.YtaobnifiengglaaGreatDoor

namespace Go.Proofs.YtaobnifiengglaaGreatDoor

/-- a total order up to what it does not part -/
structure Pre {α : Type} (f : α → α → Int) : Prop where
  anti : ∀ a b, f a b < 0 ↔ 0 < f b a
  le : ∀ a b c, f a b ≤ 0 → f b c ≤ 0 → f a c ≤ 0
namespace Pre
variable {α : Type} {f : α → α → Int}
theorem zero (h : Pre f) {a b : α} (e : f a b = 0) : f b a = 0 := by have := h.anti a b; have := h.anti b a; omega
theorem lt_le (h : Pre f) {a b c : α} (h1 : f a b < 0) (h2 : f b c ≤ 0) : f a c < 0 := by
  have h3 := h.le a b c (by omega) h2
  rcases Int.lt_or_eq_of_le h3 with h4 | h4
  · exact h4
  · have h5 := h.le c a b (by have := h.zero h4; omega) (by omega)
    have h6 := h.le b c b h2 h5
    have := h.anti a b
    have h7 := h.le b c a h2 (by have := h.zero h4; omega)
    omega
theorem lt (h : Pre f) {a b c : α} (h1 : f a b < 0) (h2 : f b c < 0) : f a c < 0 := h.lt_le h1 (by omega)
theorem on {β : Type} (h : Pre f) (p : β → α) : Pre fun x y => f (p x) (p y) := ⟨fun _a _b => h.anti _ _, fun _a _b _c => h.le _ _ _⟩
end Pre
end Go.Proofs.YtaobnifiengglaaGreatDoor

namespace Go.Proofs.YtaobnifiengglaaGreatDoor

structure Iv where
  lo : Nat
  hi : Nat
deriving DecidableEq
def Iv.has (I : Iv) (k : Nat) : Bool := decide (I.lo ≤ k) && decide (k < I.hi)
/-- strictly apart, none of them empty, within N places -/
structure Can (N : Nat) (L : List Iv) : Prop where
  apart : L.Pairwise fun I J => I.hi < J.lo
  full : ∀ I ∈ L, I.lo < I.hi ∧ I.hi ≤ N
theorem Can.tail {N : Nat} {I : Iv} {L : List Iv} (h : Can N (I :: L)) : Can N L := ⟨(List.pairwise_cons.1 h.apart).2, fun J hJ => h.full J (List.mem_cons_of_mem _ hJ)⟩
theorem Can.one {N : Nat} {L : List Iv} (h : Can N L) {I J : Iv} (hI : I ∈ L) (hJ : J ∈ L) : I = J ∨ I.hi < J.lo ∨ J.hi < I.lo := by
  have ha := h.apart
  clear h
  induction ha with
  | nil => cases hI
  | @cons K M h1 _ ih =>
    rcases List.mem_cons.1 hI with e1 | m1 <;> rcases List.mem_cons.1 hJ with e2 | m2
    · exact .inl (e1.trans e2.symm)
    · exact .inr (.inl (e1 ▸ h1 _ m2))
    · exact .inr (.inr (e2 ▸ h1 _ m1))
    · exact ih m1 m2
/-! ### The scan -/
section
variable {σ : Type} (op : Nat → σ) (cl : σ → Nat → σ) (f : Nat → Bool)
end
end Go.Proofs.YtaobnifiengglaaGreatDoor

namespace Go.Proofs.YtaobnifiengglaaGreatDoor

/-! ### Ends, strictly rising -/
/-! ### A span as an interval -/
def insideL (s : Sp) (v : V4) : Bool := !(s.hf && decide (v.ord s.f < 0)) && !(s.ht && decide (0 ≤ v.ord s.t))
section
variable (E : List V4)
def enc (s : Sp) : Iv := ⟨if s.hf = true then E.idxOf s.f + 1 else 0, if s.ht = true then E.idxOf s.t + 1 else E.length + 1⟩
/-- a span whose ends are among the ends, and whose missing ones are zero -/
structure FitE (s : Sp) : Prop where
  f1 : s.hf = true → s.f ∈ E
  f0 : s.hf = false → s.f = zeroV
  t1 : s.ht = true → s.t ∈ E
  t0 : s.ht = false → s.t = zeroV
variable {E}
end

/-! ### A right range is a list of intervals strictly apart -/
theorem spErr_parts {s : Sp} (h : spErr s = 0) : (s.hf = false → s.f = zeroV) ∧ (s.ht = false → s.t = zeroV) ∧ s.f.err = 0 ∧ s.t.err = 0 ∧ (s.hf = true → s.ht = true → s.f.ord s.t < 0) := by
  unfold spErr at h
  by_cases h1 : (!s.hf && decide (s.f ≠ zeroV) || !s.ht && decide (s.t ≠ zeroV)) = true
  · rw [if_pos h1] at h; cases h
  rw [if_neg h1] at h
  by_cases h2 : s.f.err = 0
  · rw [if_neg (by simpa using h2)] at h
    by_cases h3 : s.t.err = 0
    · rw [if_neg (by simpa using h3)] at h
      by_cases h4 : (s.hf && s.ht && decide (0 ≤ s.f.ord s.t)) = true
      · rw [if_pos h4] at h; cases h
      · refine ⟨fun e => ?_, fun e => ?_, h2, h3, fun e1 e2 => ?_⟩
        · rw [e] at h1
          simp at h1
          exact h1.1
        · rw [e] at h1
          simp at h1
          exact h1.2
        · rw [e1, e2] at h4
          simpa using h4
    · rw [if_pos h3] at h; exact absurd h h3
  · rw [if_pos h2] at h; exact absurd h h2
theorem rng_each {l : List Sp} (h : rngErr l = 0) {k : Nat} (hk : k < l.length) : spErr l[k] = 0 := by
  have h1 := (rng_ok h).2 k hk
  unfold errAt at h1
  have e : l.getD k zeroS = l[k] := by simp [List.getD, List.getElem?_eq_getElem hk]
  rw [e] at h1
  by_cases h2 : spErr l[k] = 0
  · exact h2
  · rw [if_pos h2] at h1; exact absurd h1 h2
/-! ### What spans have in common -/
end Go.Proofs.YtaobnifiengglaaGreatDoor

namespace Go.Proofs.YtaobnifiengglaaGreatDoor
open Go.RowKit

theorem ge_not (x : Int) : (!decide (0 ≤ x)) = decide (x < 0) := by
  rw [Bool.eq_iff_iff]; simp
set_option maxHeartbeats 4000000 in
theorem within_any (s : Sp) (v : V4) (w : World) (hg : Good w) (h1 : s.f.a.size ≤ 2097152) (h2 : s.t.a.size ≤ 2097152) (h3 : v.a.size ≤ 2097152) :
    Calls Tryz.prog 197 #[spV s, verV v] w fun e w' => e = .returned (.bool (insideL s v)) ∧ Ext w w' := by
  obtain ⟨hf, ht, ⟨f1, f2, f3, fa⟩, ⟨t1, t2, t3, ta⟩⟩ := s
  obtain ⟨v1, v2, v3, va⟩ := v
  dsimp only at h1 h2 h3
  have cF := fun W (h : Ext w W) => Order_any v1 v2 v3 f1 f2 f3 va fa W (hg.ext h) h3 h1
  have cT := fun W (h : Ext w W) => Order_any v1 v2 v3 t1 t2 t3 va ta W (hg.ext h) h3 h2
  have hi : insideL ⟨hf, ht, ⟨f1, f2, f3, fa⟩, ⟨t1, t2, t3, ta⟩⟩ ⟨v1, v2, v3, va⟩ = (!(hf && decide (orderL v1 v2 v3 (bs va) f1 f2 f3 (bs fa) < 0)) && !(ht && decide (0 ≤ orderL v1 v2 v3 (bs va) t1 t2 t3 (bs ta)))) := rfl
  rw [hi]
  generalize orderL v1 v2 v3 (bs va) f1 f2 f3 (bs fa) = OF at *
  generalize orderL v1 v2 v3 (bs va) t1 t2 t3 (bs ta) = OT at *
  have CF := Lib.hid cF; have CT := Lib.hid cT
  clear cF cT hi
  cases hf
  · cases ht
    · go_enter Tryz.func197, Tryz.ntmps197
      go_wp2
      go_ret
      exact ⟨rfl, (by repeat (first | with_reducible exact Ext.refl _ | with_reducible assumption | with_reducible apply Ext.drewN | with_reducible apply Ext.drew | with_reducible apply Ext.alloc | exact Ext.refl _ | assumption | apply Ext.drewN | apply Ext.drew | apply Ext.alloc))⟩
    · go_enter Tryz.func197, Tryz.ntmps197
      go_wp2_with fail
      refine (CT.out _ (by repeat (first | with_reducible exact Ext.refl _ | with_reducible assumption | with_reducible apply Ext.drewN | with_reducible apply Ext.drew | with_reducible apply Ext.alloc | exact Ext.refl _ | assumption | apply Ext.drewN | apply Ext.drew | apply Ext.alloc))).mono ?_
      rintro e w1 ⟨rfl, hx1⟩
      go_wp2
      go_ret
      refine ⟨ret_bool ?_, Ext.trans (by repeat (first | with_reducible exact Ext.refl _ | with_reducible assumption | with_reducible apply Ext.drewN | with_reducible apply Ext.drew | with_reducible apply Ext.alloc | exact Ext.refl _ | assumption | apply Ext.drewN | apply Ext.drew | apply Ext.alloc)) hx1⟩
      simp [ge_not]
  · by_cases hF : 0 ≤ OF
    · have hF2 : ¬ OF < 0 := by omega
      have HF := Lib.hid hF2
      clear hF2
      cases ht
      · go_enter Tryz.func197, Tryz.ntmps197
        go_wp2_with fail
        refine (CF.out _ (by repeat (first | with_reducible exact Ext.refl _ | with_reducible assumption | with_reducible apply Ext.drewN | with_reducible apply Ext.drew | with_reducible apply Ext.alloc | exact Ext.refl _ | assumption | apply Ext.drewN | apply Ext.drew | apply Ext.alloc))).mono ?_
        rintro e w1 ⟨rfl, hx1⟩
        have b1 := ((Blk.new w 146 #[.bool true, .bool false, .int .i64 f1, .int .i64 f2, .int .i64 f3, .string fa, .int .i64 t1, .int .i64 t2, .int .i64 t3, .string ta]).alloc (.cells #[.int .i64 v1, .int .i64 v2, .int .i64 v3, .string va] 35)).ext hx1
        have c1 := b1.cell
        have l1 := b1.lt
        go_wp2
        go_ret
        refine ⟨ret_bool ?_, Ext.trans (by repeat (first | with_reducible exact Ext.refl _ | with_reducible assumption | with_reducible apply Ext.drewN | with_reducible apply Ext.drew | with_reducible apply Ext.alloc | exact Ext.refl _ | assumption | apply Ext.drewN | apply Ext.drew | apply Ext.alloc)) hx1⟩
        simp [HF.out]
      · go_enter Tryz.func197, Tryz.ntmps197
        go_wp2_with fail
        refine (CF.out _ (by repeat (first | with_reducible exact Ext.refl _ | with_reducible assumption | with_reducible apply Ext.drewN | with_reducible apply Ext.drew | with_reducible apply Ext.alloc | exact Ext.refl _ | assumption | apply Ext.drewN | apply Ext.drew | apply Ext.alloc))).mono ?_
        rintro e w1 ⟨rfl, hx1⟩
        have b1 := ((Blk.new w 146 #[.bool true, .bool true, .int .i64 f1, .int .i64 f2, .int .i64 f3, .string fa, .int .i64 t1, .int .i64 t2, .int .i64 t3, .string ta]).alloc (.cells #[.int .i64 v1, .int .i64 v2, .int .i64 v3, .string va] 35)).ext hx1
        have b2 := (Blk.new (w.alloc (.cells #[.bool true, .bool true, .int .i64 f1, .int .i64 f2, .int .i64 f3, .string fa, .int .i64 t1, .int .i64 t2, .int .i64 t3, .string ta] 146)) 35 #[.int .i64 v1, .int .i64 v2, .int .i64 v3, .string va]).ext hx1
        rw [World.size_alloc] at b2
        have c1 := b1.cell; have c2 := b2.cell
        have l1 := b1.lt; have l2 := b2.lt
        have hxa : Ext w w1 := Ext.trans (by repeat (first | with_reducible exact Ext.refl _ | with_reducible assumption | with_reducible apply Ext.drewN | with_reducible apply Ext.drew | with_reducible apply Ext.alloc | exact Ext.refl _ | assumption | apply Ext.drewN | apply Ext.drew | apply Ext.alloc)) hx1
        go_wp2_with fail
        refine (CT.out _ hxa).mono ?_
        rintro e w2 ⟨rfl, hx2⟩
        go_wp2
        go_ret
        refine ⟨ret_bool ?_, hxa.trans hx2⟩
        have e : decide (OF < 0) = false := decide_eq_false (by have := HF.out; omega)
        simp [e, ge_not]
    · have hF2 : OF < 0 := by omega
      have HF := Lib.hid hF2
      clear hF2
      go_enter Tryz.func197, Tryz.ntmps197
      go_wp2_with fail
      refine (CF.out _ (by repeat (first | with_reducible exact Ext.refl _ | with_reducible assumption | with_reducible apply Ext.drewN | with_reducible apply Ext.drew | with_reducible apply Ext.alloc | exact Ext.refl _ | assumption | apply Ext.drewN | apply Ext.drew | apply Ext.alloc))).mono ?_
      rintro e w1 ⟨rfl, hx1⟩
      go_wp2
      go_ret
      refine ⟨ret_bool ?_, Ext.trans (by repeat (first | with_reducible exact Ext.refl _ | with_reducible assumption | with_reducible apply Ext.drewN | with_reducible apply Ext.drew | with_reducible apply Ext.alloc | exact Ext.refl _ | assumption | apply Ext.drewN | apply Ext.drew | apply Ext.alloc)) hx1⟩
      simp
/-- an end that names an early version with the same numbers -/
def nearL (h : Bool) (e v : V4) : Bool := h && !decide (e.a.size = 0) && decide (e.a1 = v.a1) && decide (e.a2 = v.a2) && decide (e.a3 = v.a3)
set_option maxHeartbeats 4000000 in
theorem names_any (h : Bool) (e v : V4) (w : World) :
    Calls Tryz.prog 198 #[.bool h, verV e, verV v] w fun r w' => r = .returned (.bool (nearL h e v)) ∧ Ext w w' := by
  obtain ⟨e1, e2, e3, ea⟩ := e
  obtain ⟨v1, v2, v3, va⟩ := v
  have hN : nearL h ⟨e1, e2, e3, ea⟩ ⟨v1, v2, v3, va⟩ = (h && !decide (ea.size = 0) && decide (e1 = v1) && decide (e2 = v2) && decide (e3 = v3)) := rfl
  rw [hN]
  clear hN
  cases h
  · go_enter Tryz.func198, Tryz.ntmps198
    go_wp2
    go_ret
    exact ⟨rfl, (by repeat (first | with_reducible exact Ext.refl _ | with_reducible assumption | with_reducible apply Ext.drewN | with_reducible apply Ext.drew | with_reducible apply Ext.alloc | exact Ext.refl _ | assumption | apply Ext.drewN | apply Ext.drew | apply Ext.alloc))⟩
  rcases Nat.eq_zero_or_pos ea.size with h0 | h0
  · have hl := emp_of_size h0
    have hb := emp_bool h0
    have H0 := Lib.hid h0
    clear h0
    go_enter Tryz.func198, Tryz.ntmps198
    go_wp2
    go_ret
    refine ⟨ret_bool ?_, (by repeat (first | with_reducible exact Ext.refl _ | with_reducible assumption | with_reducible apply Ext.drewN | with_reducible apply Ext.drew | with_reducible apply Ext.alloc | exact Ext.refl _ | assumption | apply Ext.drewN | apply Ext.drew | apply Ext.alloc))⟩
    simp [H0.out]
  · have hl := nemp_of_size h0
    have hb := nemp_bool h0
    have H0 := Lib.hid (show ¬ ea.size = 0 by omega)
    by_cases q1 : e1 = v1
    · subst q1
      by_cases q2 : e2 = v2
      · subst q2
        go_enter Tryz.func198, Tryz.ntmps198
        go_wp2
        go_ret
        refine ⟨ret_bool ?_, (by repeat (first | with_reducible exact Ext.refl _ | with_reducible assumption | with_reducible apply Ext.drewN | with_reducible apply Ext.drew | with_reducible apply Ext.alloc | exact Ext.refl _ | assumption | apply Ext.drewN | apply Ext.drew | apply Ext.alloc))⟩
        simp [H0.out]
        by_cases q3 : e3 = v3 <;> simp [q3]
      · go_enter Tryz.func198, Tryz.ntmps198
        go_wp2
        go_ret
        refine ⟨ret_bool ?_, (by repeat (first | with_reducible exact Ext.refl _ | with_reducible assumption | with_reducible apply Ext.drewN | with_reducible apply Ext.drew | with_reducible apply Ext.alloc | exact Ext.refl _ | assumption | apply Ext.drewN | apply Ext.drew | apply Ext.alloc))⟩
        simp [q2]
    · go_enter Tryz.func198, Tryz.ntmps198
      go_wp2
      go_ret
      refine ⟨ret_bool ?_, (by repeat (first | with_reducible exact Ext.refl _ | with_reducible assumption | with_reducible apply Ext.drewN | with_reducible apply Ext.drew | with_reducible apply Ext.alloc | exact Ext.refl _ | assumption | apply Ext.drewN | apply Ext.drew | apply Ext.alloc))⟩
      simp [q1]
end Go.Proofs.YtaobnifiengglaaGreatDoor

namespace Go.Proofs.YtaobnifiengglaaGreatDoor
open Go.RowKit

/-- whether a span of so many has a version -/
def hitL (n : Nat) (s : Sp) (v : V4) : Bool := insideL s v && (decide (v.a.size = 0) || (decide (n = 1) && !s.hf && !s.ht) || nearL s.hf s.f v || nearL s.ht s.t v)
/-- ver.has -/
def hasL (l : List Sp) (v : V4) : Bool := l.any fun s => hitL l.length s v
theorem hasL_yes {l : List Sp} {v : V4} {k : Nat} (h : k < l.length) (e : hitL l.length l[k] v = true) : hasL l v = true := List.any_eq_true.2 ⟨_, List.getElem_mem h, e⟩
theorem hasL_no {l : List Sp} {v : V4} (h : ∀ j (hj : j < l.length), hitL l.length l[j] v = false) : hasL l v = false := by
  rw [hasL, List.any_eq_false]
  intro s hs
  obtain ⟨k, hk, rfl⟩ := List.mem_iff_getElem.1 hs
  rw [h k hk]
  decide
set_option maxHeartbeats 8000000 in
set_option maxRecDepth 100000 in
theorem has_any (A : Option Addr) (n c : Nat) (l : List Sp) (v : V4) (w : World) (hg : Good w) (hn : l.length = n) (hr : RdS w A l) (hs : SmallS l) (hl : n ≤ 2097152) (hv : v.a.size ≤ 2097152) :
    Calls Tryz.prog 123 #[.agg #[.slice A n c], verV v] w fun e w' => e = .returned (.bool (hasL l v)) ∧ Ext w w' := by
  have HN := Lib.hid hn
  clear hn
  obtain ⟨v1, v2, v3, va⟩ := v
  dsimp only at hv
  generalize hV : (⟨v1, v2, v3, va⟩ : V4) = V at *
  have HV := Lib.hid hV
  rcases Nat.eq_zero_or_pos n with h0 | h0
  · subst h0
    have hR : hasL l V = false := by rw [List.eq_nil_of_length_eq_zero HN.out]; rfl
    have HR := Lib.hid hR
    clear hR hV
    rw [HR.out, ← HV.out]
    dsimp only [verV]
    go_enter Tryz.func123, Tryz.ntmps123
    go_wp2
    go_loop [11] (fun i => i = .int .i64 0) (fun i => 0)
    case atStart => rfl
    case round =>
      subst hrel
      go_wp2
      go_ret
      exact ⟨rfl, (by repeat (first | with_reducible exact Ext.refl _ | with_reducible assumption | with_reducible apply Ext.drewN | with_reducible apply Ext.drew | with_reducible apply Ext.alloc | exact Ext.refl _ | assumption | apply Ext.drewN | apply Ext.drew | apply Ext.alloc))⟩
  obtain ⟨b, o, rfl, hX⟩ := hr (fun e => by have := HN.out; rw [e] at this; simp at this; omega)
  clear hr hV
  rw [← HV.out]
  dsimp only [verV]
  rw [HV.out]
  have hbR := (Blk.new w 51 #[.slice (some ⟨b, o, none⟩) n c]).alloc (.cells #[.int .i64 v1, .int .i64 v2, .int .i64 v3, .string va] 35)
  have hbV := Blk.new (w.alloc (.cells #[.slice (some ⟨b, o, none⟩) n c] 51)) 35 #[.int .i64 v1, .int .i64 v2, .int .i64 v3, .string va]
  rw [World.size_alloc] at hbV
  have hx0 : Ext w ((w.alloc (.cells #[.slice (some ⟨b, o, none⟩) n c] 51)).alloc (.cells #[.int .i64 v1, .int .i64 v2, .int .i64 v3, .string va] 35)) := ((Ext.refl w).alloc _).alloc _
  obtain ⟨w0, hw0⟩ : ∃ w0, w0 = (w.alloc (.cells #[.slice (some ⟨b, o, none⟩) n c] 51)).alloc (.cells #[.int .i64 v1, .int .i64 v2, .int .i64 v3, .string va] 35) := ⟨_, rfl⟩
  rw [← hw0] at hbR hbV hx0
  have HW0 := Lib.hid hw0
  clear hw0
  go_enter Tryz.func123, Tryz.ntmps123
  go_wp2
  go_loopw [11] (fun i wr => ∃ k : Nat, k ≤ n ∧ i = .int .i64 k ∧ (∀ j (hj : j < l.length), j < k → hitL n l[j] V = false) ∧ Ext w0 wr) (fun i _ => n - (intOf i).toNat)
  case atStart => exact ⟨0, Nat.zero_le _, rfl, fun j _ h => absurd h (Nat.not_lt_zero _), by rw [HW0.out]; exact Ext.refl _⟩
  case round =>
    obtain ⟨k, hk, rfl, hall, hxr⟩ := hrel
    have HALL := Lib.hid hall
    clear hall
    have hxw := hx0.trans hxr
    by_cases hlt : k < n
    · have hk1 : k < l.length := by rw [HN.out]; exact hlt
      have X := hX.ext hxw
      have x0 := X.c0 k hk1; have x1 := X.c1 k hk1; have x2 := X.c2 k hk1; have x3 := X.c3 k hk1; have x4 := X.c4 k hk1
      have x5 := X.c5 k hk1; have x6 := X.c6 k hk1; have x7 := X.c7 k hk1; have x8 := X.c8 k hk1; have x9 := X.c9 k hk1
      have hz1 := hs l[k] (List.getElem_mem hk1)
      have HYES := Lib.hid (fun e => hasL_yes (v := V) hk1 e)
      have HNEXT := Lib.hid (show hitL n l[k] V = false → ∀ j (hj : j < l.length), j < k + 1 → hitL n l[j] V = false from fun e j hj h => by
        by_cases hjk : j = k
        · subst hjk; exact e
        · exact HALL.out j hj (by omega))
      rw [HN.out] at HYES
      have cW := fun W (h : Ext w W) => within_any l[k] V W (hg.ext h) hz1.1 hz1.2 (by rw [← HV.out]; exact hv)
      have cN1 := fun W => names_any l[k].hf l[k].f V W
      have cN2 := fun W => names_any l[k].ht l[k].t V W
      have hH : hitL n l[k] V = (insideL l[k] V && (decide (V.a.size = 0) || (decide (n = 1) && !l[k].hf && !l[k].ht) || nearL l[k].hf l[k].f V || nearL l[k].ht l[k].t V)) := rfl
      generalize hitL n l[k] V = H at *
      generalize insideL l[k] V = I at *
      generalize nearL l[k].hf l[k].f V = N1 at *
      generalize nearL l[k].ht l[k].t V = N2 at *
      generalize l[k] = s at *
      obtain ⟨hf, ht, ⟨f1, f2, f3, fa⟩, ⟨t1, t2, t3, ta⟩⟩ := s
      dsimp only at x0 x1 x2 x3 x4 x5 x6 x7 x8 x9 hz1 cN1 cN2 hH
      rw [← HV.out] at cW cN1 cN2 hH
      dsimp only [verV, spV] at cW cN1 cN2 hH
      have CW := Lib.hid cW; have CN1 := Lib.hid cN1; have CN2 := Lib.hid cN2; have HH := Lib.hid hH
      clear cW cN1 cN2 hH X hz1
      have bR := hbR.ext hxr; have bV := hbV.ext hxr
      have cR := bR.cell; have cV := bV.cell
      have lR := bR.lt; have lV := bV.lt
      have hxs : Ext wr (wr.alloc (.cells #[.bool hf, .bool ht, .int .i64 f1, .int .i64 f2, .int .i64 f3, .string fa, .int .i64 t1, .int .i64 t2, .int .i64 t3, .string ta] 146)) := (Ext.refl wr).alloc _
      have bS := Blk.new wr 146 #[.bool hf, .bool ht, .int .i64 f1, .int .i64 f2, .int .i64 f3, .string fa, .int .i64 t1, .int .i64 t2, .int .i64 t3, .string ta]
      have fin1 : ∀ W, Ext (wr.alloc (.cells #[.bool hf, .bool ht, .int .i64 f1, .int .i64 f2, .int .i64 f3, .string fa, .int .i64 t1, .int .i64 t2, .int .i64 t3, .string ta] 146)) W → Ext w0 W := fun W h => (hxr.trans hxs).trans h
      have FIN := Lib.hid fin1
      clear fin1
      obtain ⟨D, B, hD, hB, hways⟩ : ∃ D B : Bool, (decide (n = 1) && !hf && !ht) = D ∧ ((n : Int) == 1) = B ∧ ((B = false ∧ D = false) ∨ (B = true ∧ hf = true ∧ D = false) ∨ (B = true ∧ hf = false ∧ ht = true ∧ D = false) ∨ (B = true ∧ hf = false ∧ ht = false ∧ D = true)) := by
        refine ⟨_, _, rfl, rfl, ?_⟩
        by_cases h1 : n = 1
        · have e : ((n : Int) == 1) = true := by rw [beq_iff_eq]; omega
          rw [e]
          cases hf <;> cases ht <;> simp [h1]
        · have e : ((n : Int) == 1) = false := by rw [beq_eq_false_iff_ne]; omega
          exact .inl ⟨e, by simp [h1]⟩
      rw [hD] at HH
      clear hD
      rcases hways with ⟨rfl, rfl⟩ | ⟨rfl, rfl, rfl⟩ | ⟨rfl, rfl, rfl, rfl⟩ | ⟨rfl, rfl, rfl, rfl⟩
      all_goals
        go_wp2_with fail
        refine (CW.out _ (hxw.trans hxs)).mono ?_
        rintro e w1 ⟨rfl, hx1⟩
        have cS1 := (bS.ext hx1).cell; have lS1 := (bS.ext hx1).lt
        have cV1 := ((bV.ext hxs).ext hx1).cell; have lV1 := ((bV.ext hxs).ext hx1).lt
        cases I
        · have HF := Lib.hid (HNEXT.out (by rw [HH.out]; simp))
          go_wp2
          go_roundw
          case rel => exact ⟨k + 1, by omega, by go_num, HF.out, FIN.out _ hx1⟩
          case measure => simp [intOf]; omega
        rcases Nat.eq_zero_or_pos va.size with he | he
        · have HF := Lib.hid (HYES.out (by rw [HH.out]; simp [he]))
          have hl := emp_of_size he
          have hb := emp_bool he
          clear he
          go_wp2
          go_ret
          exact ⟨ret_bool HF.out.symm, (hx0.trans (FIN.out _ hx1))⟩
        have hl := nemp_of_size he
        have hb := nemp_bool he
        first
        | (have HF := Lib.hid (HYES.out (by rw [HH.out]; simp))
           go_wp2
           go_ret
           exact ⟨ret_bool HF.out.symm, (hx0.trans (FIN.out _ hx1))⟩)
        | (have HE := Lib.hid (show decide (va.size = 0) = false from decide_eq_false (by omega))
           go_wp2_with fail
           refine (CN1.out _).mono ?_
           rintro e w2 ⟨rfl, hx2⟩
           have cS2 := ((bS.ext hx1).ext hx2).cell; have lS2 := ((bS.ext hx1).ext hx2).lt
           have cV2 := (((bV.ext hxs).ext hx1).ext hx2).cell; have lV2 := (((bV.ext hxs).ext hx1).ext hx2).lt
           cases N1
           · go_wp2_with fail
             refine (CN2.out _).mono ?_
             rintro e w3 ⟨rfl, hx3⟩
             cases N2
             · have HF := Lib.hid (HNEXT.out (by rw [HH.out, HE.out]; rfl))
               go_wp2
               go_roundw
               case rel => exact ⟨k + 1, by omega, by go_num, HF.out, FIN.out _ ((hx1.trans hx2).trans hx3)⟩
               case measure => simp [intOf]; omega
             · have HF := Lib.hid (HYES.out (by rw [HH.out]; simp))
               go_wp2
               go_ret
               exact ⟨ret_bool HF.out.symm, (hx0.trans (FIN.out _ ((hx1.trans hx2).trans hx3)))⟩
           · have HF := Lib.hid (HYES.out (by rw [HH.out]; simp))
             go_wp2
             go_ret
             exact ⟨ret_bool HF.out.symm, (hx0.trans (FIN.out _ (hx1.trans hx2)))⟩)
    · obtain rfl : k = n := by omega
      have HR := Lib.hid (hasL_no (l := l) (v := V) fun j hj => by rw [HN.out]; exact HALL.out j hj (by have := HN.out; omega))
      go_wp2
      go_ret
      exact ⟨ret_bool HR.out.symm, hxw⟩
end Go.Proofs.YtaobnifiengglaaGreatDoor

namespace Go.Proofs.YtaobnifiengglaaGreatDoor
open Go.RowKit

end Go.Proofs.YtaobnifiengglaaGreatDoor
