/- Maps of strings that the call itself has made. -/
import Derived.Test.YtcmceeihdhcmnaaGreatDoorCh43
import Derived.Maps.OwnSet
import Derived.Maps.StringElems

namespace Go.Proofs.YtcmceeihdhcmnaaGreatDoor
open Go.RowKit
open Go.Maps (Keyed)

theorem str_under : Tryz.prog.underlying 9 = some .string := by kernel_rfl
theorem str_zero (w : World) : (zeroValue 9).run Tryz.prog w = .ok (.string ⟨#[]⟩) w := by go_simp
/-- block b is a map of strings, of at most n entries, that holds f -/
def StrMap (w : World) (b n : Nat) (f : Str → Option Str) : Prop :=
  ∃ D : DataW PUnit, w.ownsMap Tryz.prog 9 (plainElem Tryz.prog 9) b n D ∧ (∀ s, f s = none → Maps.has D (.string s) = false) ∧ ∀ s v, f s = some v → Maps.has D (.string s) = true ∧ ∀ z, D.atKey (.string s) z = .lit (.string v)
namespace StrMap
variable {w w' : World} {b n : Nat} {f : Str → Option Str}
theorem made (w : World) : StrMap (w.alloc (.map #[] 0)) w.heap.size 0 (fun _ => none) :=
  ⟨.map [], World.ownsMap_made w _ _ _, fun _ _ => rfl, fun _ _ h => by cases h⟩
theorem ext (h : StrMap w b n f) (hx : Ext w w') : StrMap w' b n f := by
  obtain ⟨D, h, r⟩ := h
  exact ⟨D, h.kept (row := none) ⟨hx.os, hx.tape, hx.output, hx.size, fun k hk _ => hx.block k hk⟩ (by simp), r⟩
theorem lt (h : StrMap w b n f) : b < w.heap.size := by
  obtain ⟨D, h, _⟩ := h
  exact h.lt
theorem mono (h : StrMap w b n f) {m : Nat} (hm : n ≤ m) : StrMap w b m f := by
  obtain ⟨D, h, r⟩ := h
  exact ⟨D, h.mono hm, r⟩
theorem look (h : StrMap w b n f) {t : TypeId} (ht : Tryz.prog.underlying t = some (.map 9 9)) (k : ByteArray) (hk : k.size ≤ 2097152) :
    (Instr.lookup t (.map (some b)) (.string k) true).run Tryz.prog w = .ok (.tuple #[S ((f (bs k)).getD []), .bool (f (bs k)).isSome]) w := by
  obtain ⟨D, h, r1, r2⟩ := h
  obtain ⟨v, ps, hrun, hv⟩ := h.look_ok (Maps.string_keyed str_under) ht (str_zero w) (plainElem_string str_under (by decide)) (WideMaps.keyOf_string_mk str_under (s := k) (by simp only [maxLen]; omega))
  rw [hrun]
  obtain ⟨s, rfl, hs, _⟩ := plainElem_string_inv str_under hv
  have hs := congrArg Prod.fst hs
  cases hf : f (bs k) with
  | none =>
    have h0 := r1 _ hf
    have e : (DataW.lit (.string []) : DataW PUnit) = .lit (.string s.data.toList) := (Maps.atKey_of_not_has h0 _).symm.trans hs
    have e := Lit.string.inj (DataW.lit.inj e)
    have e2 : s = ⟨#[]⟩ := bs_inj (show bs s = bs ⟨#[]⟩ from e.symm)
    subst e2
    have h0 : Maps.has D (Lit.string k.data.toList) = false := h0
    simp only [h0]
    rfl
  | some u =>
    obtain ⟨h0, h1⟩ := r2 _ _ hf
    have e : (DataW.lit (.string u) : DataW PUnit) = .lit (.string s.data.toList) := (h1 _).symm.trans hs
    have e := Lit.string.inj (DataW.lit.inj e)
    have h0 : Maps.has D (Lit.string k.data.toList) = true := h0
    have e2 : S u = .string s := by rw [show u = bs s from e, S_bs]
    simp only [h0, Option.getD_some, Option.isSome_some, e2]
theorem upd (h : StrMap w b n f) {t : TypeId} (ht : Tryz.prog.underlying t = some (.map 9 9)) (k v : ByteArray) (hk : k.size ≤ 2097152) (hv : v.size ≤ 2097152) (hn : n ≤ 2097152) :
    ∃ w', (Instr.mapUpdate t (.map (some b)) (.string k) (.string v)).run Tryz.prog w = .ok () w' ∧ StrMap w' b (n + 1) (fun x => if x = bs k then some (bs v) else f x) ∧ w.grownBy w' (some b) := by
  obtain ⟨D, h, r1, r2⟩ := h
  have hkey : keyOf Tryz.prog 9 (.string k) = some (.string (bs k)) := WideMaps.keyOf_string_mk str_under (by simp only [maxLen]; omega)
  have hval : plainElem (H := PUnit) Tryz.prog 9 (.string v) = some (.lit (.string (bs v)), []) := plainElem_string str_under (by simp only [maxLen]; omega)
  obtain ⟨w', hrun, h', hg⟩ := h.update (Maps.string_keyed str_under) ht (by simp only [maxLen]; omega) hkey hval
  refine ⟨w', hrun, ⟨_, h', fun s hs => ?_, fun s u hs => ?_⟩, hg⟩ <;> dsimp only at hs
  · by_cases e : s = bs k
    · rw [if_pos e] at hs; cases hs
    · rw [if_neg e] at hs
      rw [Maps.has_put_other (by intro e2; injection e2 with e2; exact e e2)]
      exact r1 s hs
  · by_cases e : s = bs k
    · rw [if_pos e] at hs
      cases hs
      subst e
      exact ⟨Maps.has_put_same h.isMap (by trivial) _, fun z => Maps.atKey_put_same h.isMap (by trivial) _ _⟩
    · rw [if_neg e] at hs
      have hne : (Lit.string s : Lit) ≠ .string (bs k) := by intro e2; injection e2 with e2; exact e e2
      obtain ⟨h1, h2⟩ := r2 s u hs
      exact ⟨by rw [Maps.has_put_other hne]; exact h1, fun z => by rw [Maps.atKey_put_other hne]; exact h2 z⟩
end StrMap

/-- what a table of the first k settings holds -/
def tblN (l : List Se) (k : Nat) : Str → Option Str := (l.take k).foldl (fun f s x => if x = bs s.k then some (bs s.v) else f x) (fun _ => none)
def tbl (l : List Se) : Str → Option Str := tblN l l.length
theorem tblN_zero (l : List Se) : tblN l 0 = fun _ => none := rfl
theorem tblN_succ {l : List Se} {k : Nat} (h : k < l.length) : tblN l (k + 1) = fun x => if x = bs l[k].k then some (bs l[k].v) else tblN l k x := by
  unfold tblN
  rw [List.take_add_one, List.getElem?_eq_getElem h, Option.toList_some, List.foldl_append]
  rfl
end Go.Proofs.YtcmceeihdhcmnaaGreatDoor
