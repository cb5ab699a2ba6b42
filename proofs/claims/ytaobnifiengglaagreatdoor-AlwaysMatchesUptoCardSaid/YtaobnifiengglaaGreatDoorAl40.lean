/- Contracts of the closures of ver.Always. -/
import Derived.Test.YtaobnifiengglaaGreatDoorAl39
import Derived.Test.YtaobnifiengglaaGreatDoorAl36
import Derived.Test.YtaobnifiengglaaGreatDoorAl33
import Derived.Test.YtaobnifiengglaaGreatDoorAl37

namespace Go.Proofs.YtaobnifiengglaaGreatDoor
open Go.RowKit

theorem enters_alw1 : ∀ xs w, Sem.run Tryz.prog (callFunc 135 xs) w = .ok (.enter 135 xs) w := enters_of Tryz.func135 (by kernel_rfl) rfl
theorem enters_alw21 : ∀ xs w, Sem.run Tryz.prog (callFunc 138 xs) w = .ok (.enter 138 xs) w := enters_of Tryz.func138 (by kernel_rfl) rfl
theorem mark_str (d : Dm) : ∃ y : ByteArray, S d.mark = .string y ∧ bs y = d.mark := ⟨⟨d.mark.toArray⟩, rfl, bs_mk _⟩
set_option maxHeartbeats 4000000 in
theorem alw1_any (d : Dm) (A : Option Addr) (c g : Nat) (x : ByteArray) (w : World) (hs : d.n.size ≤ 2097152) (hb : Blk w g 9 #[.string x]) :
    Calls Tryz.prog 135 #[dmV d A c, .pointer (some ⟨g, 0, none⟩)] w fun e w' => e = .returned (.bool (decide (d.mark = bs x))) ∧ Ext w w' := by
  obtain ⟨y, hy, hby⟩ := mark_str d
  have cm := fun W => mark_any d A c W hs
  rw [hy] at cm
  have hres : decide (d.mark = bs x) = decide (y = x) := by
    rw [← hby, decide_eq_decide]
    exact ⟨fun h => bs_inj h, fun h => by rw [h]⟩
  rw [hres]
  obtain ⟨dn, ds, da, dv⟩ := d
  dsimp only [dmV] at cm ⊢
  have CM := Lib.hid cm
  have hxW : Ext w (w.alloc (.cells #[.string dn, .bool ds, .bool da, .slice A dv.length c] 198)) := (Ext.refl w).alloc _
  have bX := Blk.new w 198 #[.string dn, .bool ds, .bool da, .slice A dv.length c]
  have b1 := hb.ext hxW
  have cX := bX.cell; have lX := bX.lt; have c1 := b1.cell; have l1 := b1.lt
  clear cm hy hby hres hb bX b1
  by_cases he : y = x
  · subst he
    have ht : (y.toList == y.toList) = true := beq_self_eq_true _
    go_enter Tryz.func135, Tryz.ntmps135
    go_wp2_with fail
    generalize (w.alloc (.cells #[.string dn, .bool ds, .bool da, .slice A dv.length c] 198)) = W at *
    refine wp_region_ext (by kernel_rfl) (by kernel_rfl) ?_
    repeat (first | go_big_quiet_skip | (refine wpQuiet_step (fun K hK => ?_); go_simp; first | (refine hK _ ?_; clear hK K) | (apply Exists.intro; refine ⟨fun wq hwq => ?_, hK _ ?_⟩; (obtain ⟨hqc, hqf⟩ := hwq.cells; have hqs := hwq.size; (try go_simp); first | rfl | ((first | rw [if_neg (by omega)] | rw [if_pos (by omega)]); (try go_simp); rfl) | ((go_at_call 136; exact (CM.out _).mono (fun e w'' h => ⟨h.1, hwq.trans h.2⟩)))); clear hK K)))
    refine wpQuiet_nil ?_
    intro wN hxN
    obtain ⟨hcN, hfN⟩ := hxN.cells
    have hsN := hxN.size
    go_wp2
    go_ret
    exact ⟨ret_bool (by simp), hxW.trans hxN⟩
  · have he1 : ¬ y.toList = x.toList := by rw [str_eq]; exact he
    have he2 : (y.toList == x.toList) = false := beq_eq_false_iff_ne.2 he1
    go_enter Tryz.func135, Tryz.ntmps135
    go_wp2_with fail
    generalize (w.alloc (.cells #[.string dn, .bool ds, .bool da, .slice A dv.length c] 198)) = W at *
    refine wp_region_ext (by kernel_rfl) (by kernel_rfl) ?_
    repeat (first | go_big_quiet_skip | (refine wpQuiet_step (fun K hK => ?_); go_simp; first | (refine hK _ ?_; clear hK K) | (apply Exists.intro; refine ⟨fun wq hwq => ?_, hK _ ?_⟩; (obtain ⟨hqc, hqf⟩ := hwq.cells; have hqs := hwq.size; (try go_simp); first | rfl | ((first | rw [if_neg (by omega)] | rw [if_pos (by omega)]); (try go_simp); rfl) | ((go_at_call 136; exact (CM.out _).mono (fun e w'' h => ⟨h.1, hwq.trans h.2⟩)))); clear hK K)))
    refine wpQuiet_nil ?_
    intro wN hxN
    obtain ⟨hcN, hfN⟩ := hxN.cells
    have hsN := hxN.size
    go_wp2
    go_ret
    exact ⟨ret_bool (by simp [he]), hxW.trans hxN⟩
set_option maxHeartbeats 4000000 in
theorem alw21_any (qm qh b n : Nat) (M : Str → Option Str) (head key : ByteArray) (w : World) (hm : Blk w qm 108 #[.map (some b)]) (hh : Blk w qh 9 #[.string head]) (hM : StrMap w b n M) (hs : head.size ≤ 1000) (hk : key.size ≤ 1000) :
    Calls Tryz.prog 138 #[.string key, .pointer (some ⟨qm, 0, none⟩), .pointer (some ⟨qh, 0, none⟩)] w fun e w' => e = .returned (.tuple #[S ((M (bs head ++ bs key)).getD []), .bool (M (bs head ++ bs key)).isSome]) ∧ Ext w w' := by
  have hlook := hM.look (t := 108) Tryz.underlying108 (head ++ key) (by rw [ByteArray.size_append]; omega)
  rw [bs_append] at hlook
  generalize M (bs head ++ bs key) = o at *
  have c1 := hm.cell; have l1 := hm.lt; have c2 := hh.cell; have l2 := hh.lt
  clear hm hh hM
  go_enter Tryz.func138, Tryz.ntmps138
  go_wp2
  go_ret2
  exact ⟨rfl, Ext.refl _⟩
theorem alw2_any (qm b n : Nat) (M : Str → Option Str) (head : ByteArray) (w : World) (hm : Blk w qm 108 #[.map (some b)]) (hM : StrMap w b n M) (hs : head.size ≤ 1000) :
    Calls Tryz.prog 137 #[.string head, .pointer (some ⟨qm, 0, none⟩)] w fun e w' => ∃ k, e = .returned (.func (.func 138) #[] k) ∧ FnTells 138 k (fun y => M (bs head ++ y)) w' ∧ Ext w w' := by
  have hx : Ext w (w.alloc (.cells #[.string head] 9)) := (Ext.refl w).alloc _
  have HT := Lib.hid (show FnTells 138 #[.pointer (some ⟨qm, 0, none⟩), .pointer (some ⟨w.heap.size, 0, none⟩)] (fun y => M (bs head ++ y)) (w.alloc (.cells #[.string head] 9)) from fun W hW key hk =>
    alw21_any qm w.heap.size b n M head key W ((hm.ext hx).ext hW) ((Blk.new w _ _).ext hW) ((hM.ext hx).ext hW) hs hk)
  clear hm hM
  go_enter Tryz.func137, Tryz.ntmps137
  go_wp2
  go_ret
  exact ⟨_, rfl, HT.out, hx⟩

/-! ### Plain: worlds as one map -/
def fsOf (M : Str → Option Str) : Fs := (fun y => M (wFactS ++ y), fun y => M (wSettingS ++ y))
def e0 : Fs := (fun _ => none, fun _ => none)
theorem fs_none : fsOf (fun _ => none) = e0 := rfl
theorem fs_put (d : Dm) (v : ByteArray) (M : Str → Option Str) : fsOf (fun x => if x = d.mark then some (bs v) else M x) = putD d v (fsOf M) := by
  obtain ⟨dn, ds, da, dv⟩ := d
  unfold fsOf putD put1 Dm.mark
  dsimp only
  cases ds
  · rw [if_neg (by decide), if_neg (by decide)]
    refine Prod.ext (funext fun y => ?_) (funext fun y => ?_) <;> dsimp only
    · by_cases h : y = bs dn
      · rw [if_pos h, if_pos (by rw [h])]
      · rw [if_neg h, if_neg (fun e => h (List.append_cancel_left e))]
    · rw [if_neg (by simp [wFactS, wSettingS])]
  · rw [if_pos rfl, if_pos rfl]
    refine Prod.ext (funext fun y => ?_) (funext fun y => ?_) <;> dsimp only
    · rw [if_neg (by simp [wFactS, wSettingS])]
    · by_cases h : y = bs dn
      · rw [if_pos h, if_pos (by rw [h])]
      · rw [if_neg h, if_neg (fun e => h (List.append_cancel_left e))]
theorem dec_drop {l : List Dm} {k : Nat} (h : k < l.length) (w : Nat) (e : Fs) : decP (l.drop k) w e = decP (l.drop (k + 1)) (w / l[k].size) (if h : w % l[k].size < l[k].v.length then putD l[k] (l[k].v[w % l[k].size]'h) e else e) := by
  rw [List.drop_eq_getElem_cons h, decP]
/-- whether a condition holds in a world -/
def holdsE (c : Cd) (e : Fs) : Bool := holdsC e.1 e.2 c
def alwA (c : Cd) (l : List Dm) : Bool := if alwE c l = 0 then (List.range (many l)).all (fun w => holdsE c (decP l w e0)) else false
def alwN (c : Cd) (l : List Dm) : Bool := if alwE c l = 0 then (List.range (many l)).all (fun w => !holdsE c (decP l w e0)) else false
theorem all_range_succ (p : Nat → Bool) (j : Nat) : (List.range (j + 1)).all p = ((List.range j).all p && p j) := by
  rw [List.range_succ, List.all_append]
  simp
end Go.Proofs.YtaobnifiengglaaGreatDoor
