/- Contracts of migrate.PrintRule and of outref2.RuleText. -/
import Derived.Test.YtncagihilplliaaGreatDoorRulD
namespace Go.Proofs.YtncagihilplliaaGreatDoor
open Go.RowKit

/-- migrate.PrintRule's text -/
def prRu (r : Ru) : Str := if ruErr r = 0 then ruText r else []
/-- a right rule's values are short -/
theorem old_len {r : Ru} (h : ruErr r = 0) : r.old.length ≤ 1000 ∧ r.new.length ≤ 1000 := by
  have hR := right_of h
  unfold ruErr at h
  rw [if_neg (by have := hR.lo; have := hR.hi; omega)] at h
  by_cases h2 : (!pathL r.key || useTo r.kind && !pathL r.tt) = true
  · rw [if_pos h2] at h; omega
  rw [if_neg h2] at h
  by_cases h3 : (!useTo r.kind && !r.tt.isEmpty || !useOld r.kind && !r.old.isEmpty || !useNew r.kind && !r.new.isEmpty || !valueL r.old || !valueL r.new) = true
  · rw [if_pos h3] at h; omega
  simp only [Bool.or_eq_true, Bool.and_eq_true, Bool.not_eq_true', not_or, not_and, Bool.not_eq_false] at h3
  obtain ⟨⟨_, h4⟩, h5⟩ := h3
  unfold valueL at h4 h5
  simp only [Bool.and_eq_true, decide_eq_true_eq] at h4 h5
  exact ⟨h4.2, h5.2⟩
theorem ruText_eq (k : Int) (key tt old new : Str) : ruText ⟨k, key, tt, old, new⟩ = ruWord k ++ [32] ++ key ++ (if useTo k = true then [32] ++ tt else []) ++ (if useOld k = true then [32] ++ quoteL old else []) ++ (if useNew k = true then [32] ++ quoteL new else []) := by
  simp [ruText]
set_option maxRecDepth 100000 in
set_option maxHeartbeats 8000000 in
theorem RuleText_any (r : RB) (w : World) (hg : Good w) (hs : SmallR r) :
    Calls Tryz.prog 14 #[ruV r] w fun e w' => e = .returned (S (ruText r.l)) ∧ Ext w w' := by
  obtain ⟨k, key, tt, old, new⟩ := r
  obtain ⟨s1, s2, s3, s4⟩ := hs
  dsimp only at s1 s2 s3 s4
  dsimp only [RB.l]
  rw [ruText_eq]
  have hq1 := fun W (h : Ext w W) => RQuoted_any old W (hg.ext h) s3
  have hq2 := fun W (h : Ext w W) => RQuoted_any new W (hg.ext h) s4
  have l1 := quote_len (bs old)
  have l2 := quote_len (bs new)
  rw [bs_length] at l1 l2
  obtain ⟨qo, ho, hqo, hlo⟩ : ∃ x : ByteArray, S (quoteL (bs old)) = .string x ∧ bs x = quoteL (bs old) ∧ x.size ≤ 6291456 := ⟨⟨(quoteL (bs old)).toArray⟩, rfl, by rw [bs_mk], by rw [← bs_length, bs_mk]; omega⟩
  obtain ⟨qn, hn, hqn, hln⟩ : ∃ x : ByteArray, S (quoteL (bs new)) = .string x ∧ bs x = quoteL (bs new) ∧ x.size ≤ 6291456 := ⟨⟨(quoteL (bs new)).toArray⟩, rfl, by rw [bs_mk], by rw [← bs_length, bs_mk]; omega⟩
  rw [ho] at hq1
  rw [hn] at hq2
  rw [← hqo, ← hqn]
  have hu := ruleWord_any k
  have hwl : (ruWord k).length ≤ 10 := by
    rcases kind_or k with rfl | rfl | rfl | rfl | rfl | rfl | rfl | rfl | ⟨n1, n2, n3, n4, n5, n6, n7, n8⟩
    all_goals first
      | decide
      | skip
    simp only [beq_eq_false_iff_ne] at n1 n2 n3 n4 n5 n6 n7 n8
    unfold ruWord
    rw [if_neg n1, if_neg n2, if_neg n3, if_neg n4, if_neg n5, if_neg n6, if_neg n7, if_neg n8]
    decide
  obtain ⟨wd, hwd, hbw, hlw⟩ : ∃ x : ByteArray, S (ruWord k) = .string x ∧ bs x = ruWord k ∧ x.size ≤ 10 := ⟨⟨(ruWord k).toArray⟩, rfl, by rw [bs_mk], by rw [← bs_length, bs_mk]; omega⟩
  rw [hwd] at hu
  rw [← hbw]
  have HQ1 := Lib.hid hq1
  have HQ2 := Lib.hid hq2
  have HU := Lib.hid hu
  clear hq1 hq2 hu l1 l2 ho hqo hn hqn hwd hbw hwl
  generalize useTo k = T at *
  generalize useOld k = O at *
  generalize useNew k = N at *
  have fin : ∀ (a : ByteArray) (b : Str), bs a = b → Ending.returned (.string a) = .returned (S b) := fun a b h => by rw [← h, S_bs]
  have FIN := Lib.hid fin
  clear fin
  go_enter Tryz.func14, Tryz.ntmps14
  go_wp2_with fail
  refine (HU.out _).mono ?_
  rintro e w' ⟨rfl, rfl⟩
  have bW := Blk.new w 23 #[.int .i64 k, .string key, .string tt, .string old, .string new]
  cases T <;> cases O <;> cases N
  case false.false.false | true.false.false =>
    go_wp2
    go_ret
    exact ⟨FIN.out _ _ (by simp), (by repeat (first | with_reducible exact Ext.refl _ | with_reducible assumption | with_reducible apply Ext.drewN | with_reducible apply Ext.drew | with_reducible apply Ext.alloc | exact Ext.refl _ | assumption | apply Ext.drewN | apply Ext.drew | apply Ext.alloc))⟩
  case false.true.false | true.true.false =>
    go_wp2_with fail
    refine (HQ1.out _ (by repeat (first | with_reducible exact Ext.refl _ | with_reducible assumption | with_reducible apply Ext.drewN | with_reducible apply Ext.drew | with_reducible apply Ext.alloc | exact Ext.refl _ | assumption | apply Ext.drewN | apply Ext.drew | apply Ext.alloc))).mono ?_
    rintro e w1 ⟨rfl, hx1⟩
    have bc1 := (bW.ext hx1).cell
    go_wp2
    go_ret
    exact ⟨FIN.out _ _ (by simp), Ext.trans (by repeat (first | with_reducible exact Ext.refl _ | with_reducible assumption | with_reducible apply Ext.drewN | with_reducible apply Ext.drew | with_reducible apply Ext.alloc | exact Ext.refl _ | assumption | apply Ext.drewN | apply Ext.drew | apply Ext.alloc)) hx1⟩
  case false.false.true | true.false.true =>
    go_wp2_with fail
    refine (HQ2.out _ (by repeat (first | with_reducible exact Ext.refl _ | with_reducible assumption | with_reducible apply Ext.drewN | with_reducible apply Ext.drew | with_reducible apply Ext.alloc | exact Ext.refl _ | assumption | apply Ext.drewN | apply Ext.drew | apply Ext.alloc))).mono ?_
    rintro e w1 ⟨rfl, hx1⟩
    have bc1 := (bW.ext hx1).cell
    go_wp2
    go_ret
    exact ⟨FIN.out _ _ (by simp), Ext.trans (by repeat (first | with_reducible exact Ext.refl _ | with_reducible assumption | with_reducible apply Ext.drewN | with_reducible apply Ext.drew | with_reducible apply Ext.alloc | exact Ext.refl _ | assumption | apply Ext.drewN | apply Ext.drew | apply Ext.alloc)) hx1⟩
  all_goals
    go_wp2_with fail
    refine (HQ1.out _ (by repeat (first | with_reducible exact Ext.refl _ | with_reducible assumption | with_reducible apply Ext.drewN | with_reducible apply Ext.drew | with_reducible apply Ext.alloc | exact Ext.refl _ | assumption | apply Ext.drewN | apply Ext.drew | apply Ext.alloc))).mono ?_
    rintro e w1 ⟨rfl, hx1⟩
    have b1 := bW.ext hx1
    have bc1 := b1.cell
    have hxw1 : Ext w w1 := Ext.trans (by repeat (first | with_reducible exact Ext.refl _ | with_reducible assumption | with_reducible apply Ext.drewN | with_reducible apply Ext.drew | with_reducible apply Ext.alloc | exact Ext.refl _ | assumption | apply Ext.drewN | apply Ext.drew | apply Ext.alloc)) hx1
    go_wp2_with fail
    refine (HQ2.out _ hxw1).mono ?_
    rintro e w2 ⟨rfl, hx2⟩
    go_wp2
    go_ret
    exact ⟨FIN.out _ _ (by simp), hxw1.trans hx2⟩
theorem cell_kept {w w' : World} {a : Addr} {v : Value} (hx : Ext w w') (h : w.cell? a = some v) : w'.cell? a = some v := by
  obtain ⟨b, o, s⟩ := a
  cases s with
  | none => exact hx.cell h
  | some x => have := World.cell?_spot h; cases this
set_option maxRecDepth 100000 in
set_option maxHeartbeats 8000000 in
theorem PrintRule_any (r : RB) (w : World) (hg : Good w) (hs : SmallR r) :
    Calls Tryz.prog 8 #[ruV r] w fun e w' => e = .returned (.tuple #[S (prRu r.l), .int .i64 (ruErr r.l)]) ∧ Ext w w' := by
  have hck := fun W (h : Ext w W) => CheckRule_any r W (hg.ext h) hs
  by_cases h0 : ruErr r.l = 0
  rotate_left
  · have hp : prRu r.l = [] := by rw [prRu, if_neg h0]
    have hb : (ruErr r.l != 0) = true := by rw [bne_iff_ne]; exact h0
    rw [hp]
    generalize ruErr r.l = E at *
    have HCK := Lib.hid hck
    clear hck h0 hp
    obtain ⟨k, key, tt, old, new⟩ := r
    go_enter Tryz.func8, Tryz.ntmps8
    go_wp2_with fail
    refine (HCK.out _ (by repeat (first | with_reducible exact Ext.refl _ | with_reducible assumption | with_reducible apply Ext.drewN | with_reducible apply Ext.drew | with_reducible apply Ext.alloc | exact Ext.refl _ | assumption | apply Ext.drewN | apply Ext.drew | apply Ext.alloc))).mono ?_
    rintro e w1 ⟨rfl, hx1⟩
    go_wp2
    go_ret2
    exact ⟨rfl, Ext.trans (by repeat (first | with_reducible exact Ext.refl _ | with_reducible assumption | with_reducible apply Ext.drewN | with_reducible apply Ext.drew | with_reducible apply Ext.alloc | exact Ext.refl _ | assumption | apply Ext.drewN | apply Ext.drew | apply Ext.alloc)) hx1⟩
  have hR := right_of h0
  have hp : prRu r.l = ruText r.l := by rw [prRu, if_pos h0]
  rw [hp, h0]
  rw [h0] at hck
  have HCK := Lib.hid hck
  have hlo := hR.lo
  have hhi := hR.hi
  clear hck h0 hp hR
  obtain ⟨k, key, tt, old, new⟩ := r
  obtain ⟨s1, s2, s3, s4⟩ := hs
  dsimp only at s1 s2 s3 s4
  dsimp only [RB.l] at hlo hhi
  dsimp only [RB.l]
  rw [ruText_eq]
  obtain ⟨n, rfl⟩ : ∃ n : Nat, k = n := ⟨k.toNat, by omega⟩
  have hq1 := fun W (h : Ext w W) => (Quoted_any old W s3)
  have hq2 := fun W (h : Ext w W) => (Quoted_any new W s4)
  have l1 := quote_len (bs old)
  have l2 := quote_len (bs new)
  rw [bs_length] at l1 l2
  obtain ⟨qo, ho, hqo, hlo'⟩ : ∃ x : ByteArray, S (quoteL (bs old)) = .string x ∧ bs x = quoteL (bs old) ∧ x.size ≤ 6291456 := ⟨⟨(quoteL (bs old)).toArray⟩, rfl, by rw [bs_mk], by rw [← bs_length, bs_mk]; omega⟩
  obtain ⟨qn, hn, hqn, hln⟩ : ∃ x : ByteArray, S (quoteL (bs new)) = .string x ∧ bs x = quoteL (bs new) ∧ x.size ≤ 6291456 := ⟨⟨(quoteL (bs new)).toArray⟩, rfl, by rw [bs_mk], by rw [← bs_length, bs_mk]; omega⟩
  rw [ho] at hq1
  rw [hn] at hq2
  rw [← hqo, ← hqn]
  have hu := uses_any (n : Int)
  obtain ⟨wd, hwd, hbw⟩ := ruWords_at hlo hhi
  rw [Int.toNat_natCast] at hwd
  have hlw : wd.size ≤ 10 := by
    have hm : wd ∈ ruWords := List.mem_of_getElem? hwd
    have hall : (ruWords.all fun x => decide (x.size ≤ 10)) = true := by decide
    simpa using List.all_eq_true.1 hall wd hm
  rw [← hbw]
  have hn9 : n < 9 := by omega
  have hn9' : (n : Int) < 9 := by omega
  have HWD := Lib.hid hwd
  have HQ1 := Lib.hid hq1
  have HQ2 := Lib.hid hq2
  have HU := Lib.hid hu
  clear hq1 hq2 hu l1 l2 ho hqo hn hqn hwd hbw
  generalize useTo (n : Int) = T at *
  generalize useOld (n : Int) = O at *
  generalize useNew (n : Int) = N at *
  have fin : ∀ (a : ByteArray) (b : Str), bs a = b → Ending.returned (.tuple #[.string a, .int .i64 0]) = .returned (.tuple #[S b, .int .i64 0]) := fun a b h => by rw [← h, S_bs]
  have FIN := Lib.hid fin
  clear fin
  have bW := Blk.new w 23 #[.int .i64 n, .string key, .string tt, .string old, .string new]
  go_enter Tryz.func8, Tryz.ntmps8
  go_wp2_with fail
  refine (HCK.out _ (by repeat (first | with_reducible exact Ext.refl _ | with_reducible assumption | with_reducible apply Ext.drewN | with_reducible apply Ext.drew | with_reducible apply Ext.alloc | exact Ext.refl _ | assumption | apply Ext.drewN | apply Ext.drew | apply Ext.alloc))).mono ?_
  rintro e w1 ⟨rfl, hx1⟩
  have b1 := bW.ext hx1
  have hxw : Ext w w1 := Ext.trans (by repeat (first | with_reducible exact Ext.refl _ | with_reducible assumption | with_reducible apply Ext.drewN | with_reducible apply Ext.drew | with_reducible apply Ext.alloc | exact Ext.refl _ | assumption | apply Ext.drewN | apply Ext.drew | apply Ext.alloc)) hx1
  have bc1 := b1.cell
  clear hx1 bW
  go_wp2_with fail
  refine (HU.out _).mono ?_
  rintro e w' ⟨rfl, rfl⟩
  go_upto_region 5 with fail
  go_cut [8] (fun s wx => s = .string (wd ++ (⟨#[32]⟩ : ByteArray) ++ key) ∧ Ext w1 wx)
  case first =>
    have k0 : w1.cell? ⟨w.heap.size, 0, none⟩ = some (.int .i64 n) := b1.cell 0
    have k1 : w1.cell? ⟨w.heap.size, 1, none⟩ = some (.string key) := b1.cell 1
    clear bc1 b1
    go_region_with
      (first
      | (go_at_call 46; refine (ruleWords_any _).mono ?_; rintro e wA ⟨b, rfl, hbb, hst, hxA⟩; (have hcx : wA.cell? ⟨b, n, none⟩ = some (.string wd) := by (have h1 := hst.cell n hn9; rw [h1]; have h2 := HWD.out; rw [List.getElem?_eq_getElem hn9] at h2; injection h2 with h2; rw [h2])); have kA0 := hxA.cell k0; have kA1 := hxA.cell k1))
    all_goals
      go_wp2_with fail
      go_meet
      case rel => exact ⟨rfl, Ext.trans (Ext.trans (by repeat (first | with_reducible exact Ext.refl _ | with_reducible assumption | with_reducible apply Ext.drewN | with_reducible apply Ext.drew | with_reducible apply Ext.alloc | exact Ext.refl _ | assumption | apply Ext.drewN | apply Ext.drew | apply Ext.alloc)) hxA) (by repeat (first | with_reducible exact Ext.refl _ | with_reducible assumption | with_reducible apply Ext.drewN | with_reducible apply Ext.drew | with_reducible apply Ext.alloc | exact Ext.refl _ | assumption | apply Ext.drewN | apply Ext.drew | apply Ext.alloc))⟩
  case rest =>
    obtain ⟨rfl, hx4⟩ := hcut
    have bW := b1.ext hx4
    have hxc := hxw.trans hx4
    clear b1 bc1 hx4
    have bc := bW.cell
    cases T <;> cases O <;> cases N
    case false.false.false | true.false.false =>
      go_wp2
      go_ret2
      exact ⟨FIN.out _ _ (by simp), hxc⟩
    case false.true.false | true.true.false =>
      go_wp2_with fail
      refine (HQ1.out _ hxc).mono ?_
      rintro e w2 ⟨rfl, hx2⟩
      have bc2 := (bW.ext hx2).cell
      go_wp2
      go_ret2
      exact ⟨FIN.out _ _ (by simp), hxc.trans hx2⟩
    case false.false.true | true.false.true =>
      go_wp2_with fail
      refine (HQ2.out _ hxc).mono ?_
      rintro e w2 ⟨rfl, hx2⟩
      have bc2 := (bW.ext hx2).cell
      go_wp2
      go_ret2
      exact ⟨FIN.out _ _ (by simp), hxc.trans hx2⟩
    all_goals
      go_wp2_with fail
      refine (HQ1.out _ hxc).mono ?_
      rintro e w2 ⟨rfl, hx2⟩
      have b2 := bW.ext hx2
      have bc2 := b2.cell
      go_wp2_with fail
      refine (HQ2.out _ (hxc.trans hx2)).mono ?_
      rintro e w3 ⟨rfl, hx3⟩
      go_wp2
      go_ret2
      exact ⟨FIN.out _ _ (by simp), (hxc.trans hx2).trans hx3⟩
end Go.Proofs.YtncagihilplliaaGreatDoor
