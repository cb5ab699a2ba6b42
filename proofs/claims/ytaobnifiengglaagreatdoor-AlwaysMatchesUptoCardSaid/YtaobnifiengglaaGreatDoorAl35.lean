/- Plain law: the error of domains, domain by domain. Domains in memory; slices.Contains over texts, slices.ContainsFunc over domains; ver.mark. -/
import Derived.Test.YtaobnifiengglaaGreatDoorAl34
import Derived.Test.YtaobnifiengglaaGreatDoorAl14
import Derived.Test.YtaobnifiengglaaGreatDoorAl31
import Derived.Test.YtaobnifiengglaaGreatDoorAl29
import Derived.Test.YtaobnifiengglaaGreatDoorAl02

namespace Go.Proofs.YtaobnifiengglaaGreatDoor

theorem valErr_of {v : List ByteArray} {k : Nat} (h : k < v.length) : valErr v k = if valueL (bs v[k]) = false then 2 else if inB (v.take k) v[k] = true then 6 else 0 := by
  unfold valErr
  rw [show v.getD k ⟨#[]⟩ = v[k] by simp [List.getD, List.getElem?_eq_getElem h]]
theorem valErrs_len (v : List ByteArray) : (valErrs v).length = v.length := by simp [valErrs]
theorem valErrs_get (v : List ByteArray) (k : Nat) (h : k < (valErrs v).length) : (valErrs v)[k] = valErr v k := by simp [valErrs]
theorem val_at {v : List ByteArray} {k : Nat} (h : k < v.length) (h0 : ∀ x ∈ (valErrs v).take k, x = 0) (h1 : ¬ valErr v k = 0) : firstI (valErrs v) = valErr v k := by
  have hk : k < (valErrs v).length := by rw [valErrs_len]; exact h
  rw [firstI_at hk h0 (by rw [valErrs_get]; exact h1), valErrs_get]
theorem val_next {v : List ByteArray} {k : Nat} (h : k < v.length) (h0 : ∀ x ∈ (valErrs v).take k, x = 0) (h1 : valErr v k = 0) : ∀ x ∈ (valErrs v).take (k + 1), x = 0 := by
  have hk : k < (valErrs v).length := by rw [valErrs_len]; exact h
  exact take_zero_succ hk h0 (by rw [valErrs_get]; exact h1)
theorem val_all {v : List ByteArray} (h0 : ∀ x ∈ (valErrs v).take v.length, x = 0) : firstI (valErrs v) = 0 := by
  rw [List.take_of_length_le (by rw [valErrs_len]; exact Nat.le_refl _)] at h0
  exact firstI_zero h0
theorem dErr_of {l : List Dm} {k : Nat} (h : k < l.length) : dErr l k = dErrOf l[k] ((l.take k).any (sameD l[k])) := by
  unfold dErr
  rw [show l.getD k zeroDm = l[k] by simp [List.getD, List.getElem?_eq_getElem h]]
theorem dErrs_len (l : List Dm) : (dErrs l).length = l.length := by simp [dErrs]
theorem dErrs_get (l : List Dm) (k : Nat) (h : k < (dErrs l).length) : (dErrs l)[k] = dErr l k := by simp [dErrs]
theorem dom_at {l : List Dm} {k : Nat} (hl : ¬ 20 < l.length) (h : k < l.length) (h0 : ∀ x ∈ (dErrs l).take k, x = 0) {x : Int} (hx : x ≠ 0) (h1 : dErr l k = x) : domE l = x := by
  have hk : k < (dErrs l).length := by rw [dErrs_len]; exact h
  rw [domE, if_neg hl, firstI_at hk h0 (by rw [dErrs_get, h1]; exact hx), dErrs_get, h1]
theorem dom_next {l : List Dm} {k : Nat} (h : k < l.length) (h0 : ∀ x ∈ (dErrs l).take k, x = 0) (h1 : dErr l k = 0) : ∀ x ∈ (dErrs l).take (k + 1), x = 0 := by
  have hk : k < (dErrs l).length := by rw [dErrs_len]; exact h
  exact take_zero_succ hk h0 (by rw [dErrs_get]; exact h1)
theorem dom_all {l : List Dm} (hl : ¬ 20 < l.length) (h0 : ∀ x ∈ (dErrs l).take l.length, x = 0) : domE l = 0 := by
  rw [List.take_of_length_le (by rw [dErrs_len]; exact Nat.le_refl _)] at h0
  rw [domE, if_neg hl]
  exact firstI_zero h0
theorem d_name {d : Dm} {tw : Bool} (h : rightD d = false) : dErrOf d tw = 5 := by unfold dErrOf; rw [if_pos h]
theorem d_twice {d : Dm} (h : rightD d = true) : dErrOf d true = 6 := by unfold dErrOf; rw [if_neg (by rw [h]; decide), if_pos rfl]
theorem d_empty {d : Dm} (h : rightD d = true) (h2 : d.v.length = 0 ∧ d.a = false) : dErrOf d false = 9 := by unfold dErrOf; rw [if_neg (by rw [h]; decide), if_neg (by decide), if_pos h2]
theorem d_large {d : Dm} (h : rightD d = true) (h2 : ¬ (d.v.length = 0 ∧ d.a = false)) (h3 : 20 < d.v.length) : dErrOf d false = 4 := by unfold dErrOf; rw [if_neg (by rw [h]; decide), if_neg (by decide), if_neg h2, if_pos h3]
theorem d_vals {d : Dm} (h : rightD d = true) (h2 : ¬ (d.v.length = 0 ∧ d.a = false)) (h3 : ¬ 20 < d.v.length) : dErrOf d false = firstI (valErrs d.v) := by unfold dErrOf; rw [if_neg (by rw [h]; decide), if_neg (by decide), if_neg h2, if_neg h3]
theorem d_size {d : Dm} {tw : Bool} (h : dErrOf d tw = 0) : 0 < d.size := by
  unfold dErrOf at h
  split at h
  · cases h
  · split at h
    · cases h
    · split at h
      · cases h
      · rename_i h2
        unfold Dm.size
        by_cases ha : d.a = true
        · rw [if_pos ha]; omega
        · have : d.a = false := by simpa using ha
          have : ¬ d.v.length = 0 := fun e => h2 ⟨e, this⟩
          omega
theorem d_once {d : Dm} {tw : Bool} (h : dErrOf d tw = 0) : tw = false := by
  unfold dErrOf at h
  split at h
  · cases h
  · split at h
    · cases h
    · rename_i h2; simpa using h2
/-- what ver.domainsFault tells of the worlds -/
def domW (l : List Dm) : Nat := if domE l = 0 then min (many l) 1001 else 0
theorem dom_ok {l : List Dm} (h : domE l = 0) : l.length ≤ 20 ∧ ∀ k (_ : k < l.length), dErr l k = 0 := by
  unfold domE at h
  by_cases hl : 20 < l.length
  · rw [if_pos hl] at h; cases h
  · rw [if_neg hl] at h
    refine ⟨by omega, fun k hk => ?_⟩
    have hk2 : k < (dErrs l).length := by rw [dErrs_len]; exact hk
    rw [← dErrs_get l k hk2]
    exact firstI_all h _ (List.getElem_mem _)
end Go.Proofs.YtaobnifiengglaaGreatDoor

namespace Go.Proofs.YtaobnifiengglaaGreatDoor
open Go.RowKit

/-- texts in a slice -/
def RdB (w : World) (A : Option Addr) (v : List ByteArray) : Prop := v ≠ [] → ∃ b o, A = some ⟨b, o, none⟩ ∧ ∀ k (h : k < v.length), w.cell? ⟨b, o + k, none⟩ = some (.string v[k])
theorem RdB.ext {w w' : World} {A : Option Addr} {v : List ByteArray} (h : RdB w A v) (hx : Ext w w') : RdB w' A v := fun hn => by
  obtain ⟨b, o, e, k⟩ := h hn
  exact ⟨b, o, e, fun i hi => hx.cell (k i hi)⟩
theorem RdB.take {w : World} {A : Option Addr} {v : List ByteArray} (h : RdB w A v) (j : Nat) : RdB w A (v.take j) := fun hn => by
  obtain ⟨b, o, e, k⟩ := h (fun e => hn (by rw [e, List.take_nil]))
  exact ⟨b, o, e, fun i hi => by
    rw [List.length_take] at hi
    rw [k i (by omega), List.getElem_take]⟩
abbrev dmV (d : Dm) (A : Option Addr) (c : Nat) : Value := .agg #[.string d.n, .bool d.s, .bool d.a, .slice A d.v.length c]
def DmAt (w : World) (b o : Nat) (l : List Dm) : Prop := ∀ k (_ : k < l.length), ∃ A c, w.cell? ⟨b, o + k * 4, none⟩ = some (.string l[k].n) ∧ w.cell? ⟨b, o + k * 4 + 1, none⟩ = some (.bool l[k].s) ∧ w.cell? ⟨b, o + k * 4 + 2, none⟩ = some (.bool l[k].a) ∧
  w.cell? ⟨b, o + k * 4 + 3, none⟩ = some (.slice A l[k].v.length c) ∧ RdB w A l[k].v ∧ l[k].v.length ≤ c
def RdD (w : World) (A : Option Addr) (l : List Dm) : Prop := l ≠ [] → ∃ b o, A = some ⟨b, o, none⟩ ∧ DmAt w b o l
theorem DmAt.ext {w w' : World} {b o : Nat} {l : List Dm} (h : DmAt w b o l) (hx : Ext w w') : DmAt w' b o l := fun k hk => by
  obtain ⟨A, c, h0, h1, h2, h3, h4, h5⟩ := h k hk
  exact ⟨A, c, hx.cell h0, hx.cell h1, hx.cell h2, hx.cell h3, h4.ext hx, h5⟩
theorem RdD.ext {w w' : World} {A : Option Addr} {l : List Dm} (h : RdD w A l) (hx : Ext w w') : RdD w' A l := fun hn => by
  obtain ⟨b, o, e, k⟩ := h hn
  exact ⟨b, o, e, k.ext hx⟩
theorem RdD.take {w : World} {A : Option Addr} {l : List Dm} (h : RdD w A l) (j : Nat) : RdD w A (l.take j) := fun hn => by
  obtain ⟨b, o, e, k⟩ := h (fun e => hn (by rw [e, List.take_nil]))
  exact ⟨b, o, e, fun i hi => by
    rw [List.length_take] at hi
    obtain ⟨A, c, h0⟩ := k i (by omega)
    rw [List.getElem_take]
    exact ⟨A, c, h0⟩⟩
/-- small enough for the walks -/
def SmallD (l : List Dm) : Prop := ∀ d ∈ l, d.n.size ≤ 2097152 ∧ d.v.length ≤ 2097152 ∧ ∀ x ∈ d.v, x.size ≤ 2097152

theorem idx_in (v : List ByteArray) (x : ByteArray) : decide (0 ≤ Lib.idxOfS v x) = inB v x := by
  rw [Bool.eq_iff_iff, decide_eq_true_eq, Lib.idxOfS_nonneg_iff, inB_iff]
set_option maxHeartbeats 2000000 in
theorem ContainsB_any (A : Option Addr) (c j : Nat) (v : List ByteArray) (x : ByteArray) (w : World) (hr : RdB w A v) (hl : v.length ≤ 2097152) (hn : v ≠ []) (hj : j ≤ v.length) :
    Calls Tryz.prog 208 #[.slice A j c, .string x] w fun e w' => e = .returned (.bool (inB (v.take j) x)) ∧ Ext w w' := by
  obtain ⟨b, o, rfl, hk⟩ := hr hn
  have CI := Lib.hid (Tryz.slices_Index_string b o j c v x w hj (by omega) (fun i hi => by rw [hk i hi]; simp [List.getD, List.getElem?_eq_getElem hi]))
  have HI := Lib.hid (idx_in (v.take j) x)
  generalize Lib.idxOfS (v.take j) x = z at *
  generalize inB (v.take j) x = r at *
  clear hk hr
  go_enter Tryz.func208, Tryz.ntmps208
  go_wp2_with fail
  refine CI.out.mono ?_
  rintro e w1 ⟨rfl, rfl⟩
  go_wp2
  go_ret
  exact ⟨ret_bool (by rw [← HI.out]), Ext.refl _⟩
set_option maxHeartbeats 4000000 in
theorem IndexFuncD_any (A : Option Addr) (n c : Nat) (l : List Dm) (f : FuncId) (lb : Array Value) (p : Dm → Bool) (w : World) (hn : l.length = n) (hr : RdD w A l) (hl : n ≤ 2097152)
    (hen : ∀ xs w, Sem.run Tryz.prog (callFunc f xs) w = .ok (.enter f xs) w)
    (hp : ∀ k (hk : k < l.length) A' c' W, Ext w W → Calls Tryz.prog f (#[dmV l[k] A' c'] ++ lb) W fun e w' => e = .returned (.bool (p l[k])) ∧ Ext W w') :
    Calls Tryz.prog 209 #[.slice A n c, .func (.func f) #[] lb] w fun e w' => ∃ z : Int, e = .returned (.int .i64 z) ∧ (0 ≤ z ↔ l.any p = true) ∧ Ext w w' := by
  have HN := Lib.hid hn
  have HP := Lib.hid hp
  clear hn hp
  go_enter Tryz.func209, Tryz.ntmps209
  go_wp2
  go_loopw [8] (fun i wr => ∃ k : Nat, k ≤ n ∧ i = .int .i64 k ∧ Hid (∀ j (hj : j < l.length), j < k → p l[j] = false) ∧ Ext w wr) (fun i _ => n - (intOf i).toNat)
  case atStart => exact ⟨0, Nat.zero_le _, rfl, fun j _ h => absurd h (Nat.not_lt_zero _), Ext.refl _⟩
  case round =>
    obtain ⟨k, hk, rfl, HALL, hxr⟩ := hrel
    by_cases hlt : k < n
    · have hk1 : k < l.length := by rw [HN.out]; exact hlt
      obtain ⟨b, o, rfl, hX⟩ := hr (fun e => by rw [e] at hk1; exact absurd hk1 (Nat.not_lt_zero _))
      obtain ⟨A', c', x0, x1, x2, x3, _, _⟩ := hX.ext hxr k hk1
      have HNX := Lib.hid (show p l[k] = false → ∀ j (hj : j < l.length), j < k + 1 → p l[j] = false from fun e j hj h => by
        by_cases hjk : j = k
        · subst hjk; exact e
        · exact HALL.out j hj (by omega))
      have HYES := Lib.hid (fun e => any_at (p := p) hk1 e)
      have hc := HP.out k hk1 A' c'
      have lb0 := lt_of_cell x0
      generalize p l[k] = r at *
      generalize l[k] = s at *
      obtain ⟨dn, ds, da, dv⟩ := s
      dsimp only [dmV] at x0 x1 x2 x3 hc
      have HC := Lib.hid hc
      clear hc
      go_wp2_with fail
      refine (HC.out _ hxr).mono ?_
      rintro e w1 ⟨rfl, hx1⟩
      cases r
      · have HF := Lib.hid (HNX.out rfl)
        go_wp2
        go_roundw
        case rel => exact ⟨k + 1, by omega, by go_num, HF.out, hxr.trans hx1⟩
        case measure => simp [intOf]; omega
      · have HF := Lib.hid (HYES.out rfl)
        go_wp2
        go_ret
        exact ⟨(k : Int), rfl, ⟨fun _ => HF.out, fun _ => by omega⟩, hxr.trans hx1⟩
    · obtain rfl : k = n := by omega
      have HF := Lib.hid (any_none (p := p) fun j hj => HALL.out j hj (by have := HN.out; omega))
      go_wp2
      go_ret
      exact ⟨-1, rfl, ⟨fun h => by omega, fun h => by rw [HF.out] at h; cases h⟩, hxr⟩
set_option maxHeartbeats 4000000 in
theorem ContainsFuncD_any (A : Option Addr) (n c : Nat) (l : List Dm) (f : FuncId) (lb : Array Value) (p : Dm → Bool) (w : World) (hn : l.length = n) (hr : RdD w A l) (hl : n ≤ 2097152)
    (hen : ∀ xs w, Sem.run Tryz.prog (callFunc f xs) w = .ok (.enter f xs) w)
    (hp : ∀ k (hk : k < l.length) A' c' W, Ext w W → Calls Tryz.prog f (#[dmV l[k] A' c'] ++ lb) W fun e w' => e = .returned (.bool (p l[k])) ∧ Ext W w') :
    Calls Tryz.prog 134 #[.slice A n c, .func (.func f) #[] lb] w fun e w' => e = .returned (.bool (l.any p)) ∧ Ext w w' := by
  have CI := Lib.hid (IndexFuncD_any A n c l f lb p w hn hr hl hen hp)
  clear hn hr hp
  generalize l.any p = r at *
  go_enter Tryz.func134, Tryz.ntmps134
  go_wp2_with fail
  refine CI.out.mono ?_
  rintro e w1 ⟨z, rfl, hz, hx1⟩
  have HZ := Lib.hid hz
  clear hz
  go_wp2
  go_ret
  refine ⟨ret_bool ?_, hx1⟩
  have h := HZ.out
  cases r
  · have : ¬ 0 ≤ z := fun e => by have := h.1 e; cases this
    simp; omega
  · have := h.2 rfl
    simp; omega
set_option maxHeartbeats 2000000 in
theorem mark_any (d : Dm) (A : Option Addr) (c : Nat) (w : World) (hs : d.n.size ≤ 2097152) :
    Calls Tryz.prog 136 #[dmV d A c] w fun e w' => e = .returned (S d.mark) ∧ Ext w w' := by
  have HM := Lib.hid (show d.mark = if d.s = true then wSettingS ++ bs d.n else wFactS ++ bs d.n from rfl)
  obtain ⟨dn, ds, da, dv⟩ := d
  dsimp only [dmV] at hs HM ⊢
  generalize Dm.mark ⟨dn, ds, da, dv⟩ = M at *
  have fin : ∀ (a : ByteArray) (b : Str), bs a = b → Ending.returned (.string a) = .returned (S b) := fun a b h => by rw [← h, S_bs]
  have FIN := Lib.hid fin
  clear fin
  cases ds
  all_goals
    go_enter Tryz.func136, Tryz.ntmps136
    go_wp2
    go_ret
    exact ⟨FIN.out _ _ (by rw [HM.out, bs_append]; rfl), (by repeat (first | with_reducible exact Ext.refl _ | with_reducible assumption | with_reducible apply Ext.drewN | with_reducible apply Ext.drew | with_reducible apply Ext.alloc | exact Ext.refl _ | assumption | apply Ext.drewN | apply Ext.drew | apply Ext.alloc))⟩
set_option maxHeartbeats 4000000 in
theorem dsame_any (d o : Dm) (A A' : Option Addr) (c c' g : Nat) (w : World) (hb : Blk w g 198 #[.string d.n, .bool d.s, .bool d.a, .slice A' d.v.length c']) :
    Calls Tryz.prog 207 #[dmV o A c, .pointer (some ⟨g, 0, none⟩)] w fun e w' => e = .returned (.bool (sameD d o)) ∧ Ext w w' := by
  have HS := Lib.hid (show sameD d o = (decide (o.n = d.n) && decide (o.s = d.s)) from rfl)
  have hb1 := hb.ext ((Ext.refl w).alloc (.cells #[.string o.n, .bool o.s, .bool o.a, .slice A o.v.length c] 198))
  obtain ⟨dn, ds, da, dv⟩ := d
  obtain ⟨on, os, oa, ov⟩ := o
  dsimp only [dmV] at hb1 HS ⊢
  generalize sameD ⟨dn, ds, da, dv⟩ ⟨on, os, oa, ov⟩ = R at *
  have c1 := hb1.cell; have l1 := hb1.lt
  clear hb hb1
  by_cases hn : on = dn
  · subst hn
    have ht : (on.toList == on.toList) = true := beq_self_eq_true _
    go_enter Tryz.func207, Tryz.ntmps207
    go_wp2
    go_ret
    exact ⟨ret_bool (by rw [HS.out]; cases os <;> cases ds <;> simp), (by repeat (first | with_reducible exact Ext.refl _ | with_reducible assumption | with_reducible apply Ext.drewN | with_reducible apply Ext.drew | with_reducible apply Ext.alloc | exact Ext.refl _ | assumption | apply Ext.drewN | apply Ext.drew | apply Ext.alloc))⟩
  · have he1 : ¬ on.toList = dn.toList := by rw [str_eq]; exact hn
    have he2 : (on.toList == dn.toList) = false := beq_eq_false_iff_ne.2 he1
    go_enter Tryz.func207, Tryz.ntmps207
    go_wp2
    go_ret
    exact ⟨ret_bool (by rw [HS.out]; simp [hn]), (by repeat (first | with_reducible exact Ext.refl _ | with_reducible assumption | with_reducible apply Ext.drewN | with_reducible apply Ext.drew | with_reducible apply Ext.alloc | exact Ext.refl _ | assumption | apply Ext.drewN | apply Ext.drew | apply Ext.alloc))⟩
end Go.Proofs.YtaobnifiengglaaGreatDoor
