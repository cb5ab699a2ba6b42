/- Contracts of migrate.PrintRule and of outref2.RuleText. Contract of migrate.quoted. Plain law: the program's reading of a rule, stage by stage; the index of a word. -/
import Derived.Test.YtcmceeihdhcmnaaGreatDoorCh29
import Derived.Test.YtcmceeihdhcmnaaGreatDoorCh28

namespace Go.Proofs.YtcmceeihdhcmnaaGreatDoor
open Go.RowKit

/-- migrate.PrintRule's text -/
def prRu (r : Ru) : Str := if ruErr r = 0 then ruText r else []
/-- a right rule's values are short -/
theorem old_len {r : Ru} (h : ruErr r = 0) : r.old.length ≤ 1000 ∧ r.new.length ≤ 1000 := by
  have hR := right_of h
  unfold ruErr at h
  rw [if_neg (by have := hR.lo; have := hR.hi; omega)] at h
  by_cases h2 : (!pathL r.key || useTo r.kind && !pathL r.tt) = true
  · rw [if_pos h2] at h; omega
  rw [if_neg h2] at h
  by_cases h3 : (!useTo r.kind && !r.tt.isEmpty || !useOld r.kind && !r.old.isEmpty || !useNew r.kind && !r.new.isEmpty || !valueL r.old || !valueL r.new) = true
  · rw [if_pos h3] at h; omega
  simp only [Bool.or_eq_true, Bool.and_eq_true, Bool.not_eq_true', not_or, not_and, Bool.not_eq_false] at h3
  obtain ⟨⟨_, h4⟩, h5⟩ := h3
  unfold valueL at h4 h5
  simp only [Bool.and_eq_true, decide_eq_true_eq] at h4 h5
  exact ⟨h4.2, h5.2⟩
theorem ruText_eq (k : Int) (key tt old new : Str) : ruText ⟨k, key, tt, old, new⟩ = ruWord k ++ [32] ++ key ++ (if useTo k = true then [32] ++ tt else []) ++ (if useOld k = true then [32] ++ quoteL old else []) ++ (if useNew k = true then [32] ++ quoteL new else []) := by
  simp [ruText]
set_option maxRecDepth 100000 in
set_option maxHeartbeats 8000000 in
theorem RuleText_any (r : RB) (w : World) (hg : Good w) (hs : SmallR r) :
    Calls Tryz.prog 16 #[ruV r] w fun e w' => e = .returned (S (ruText r.l)) ∧ Ext w w' := by
  obtain ⟨k, key, tt, old, new⟩ := r
  obtain ⟨s1, s2, s3, s4⟩ := hs
  dsimp only at s1 s2 s3 s4
  dsimp only [RB.l]
  rw [ruText_eq]
  have hq1 := fun W (h : Ext w W) => RQuoted_any old W (hg.ext h) s3
  have hq2 := fun W (h : Ext w W) => RQuoted_any new W (hg.ext h) s4
  have l1 := quote_len (bs old)
  have l2 := quote_len (bs new)
  rw [bs_length] at l1 l2
  obtain ⟨qo, ho, hqo, hlo⟩ : ∃ x : ByteArray, S (quoteL (bs old)) = .string x ∧ bs x = quoteL (bs old) ∧ x.size ≤ 6291456 := ⟨⟨(quoteL (bs old)).toArray⟩, rfl, by rw [bs_mk], by rw [← bs_length, bs_mk]; omega⟩
  obtain ⟨qn, hn, hqn, hln⟩ : ∃ x : ByteArray, S (quoteL (bs new)) = .string x ∧ bs x = quoteL (bs new) ∧ x.size ≤ 6291456 := ⟨⟨(quoteL (bs new)).toArray⟩, rfl, by rw [bs_mk], by rw [← bs_length, bs_mk]; omega⟩
  rw [ho] at hq1
  rw [hn] at hq2
  rw [← hqo, ← hqn]
  have hu := ruleWord_any k
  have hwl : (ruWord k).length ≤ 10 := by
    rcases kind_or k with rfl | rfl | rfl | rfl | rfl | rfl | rfl | rfl | ⟨n1, n2, n3, n4, n5, n6, n7, n8⟩
    all_goals first
      | decide
      | skip
    simp only [beq_eq_false_iff_ne] at n1 n2 n3 n4 n5 n6 n7 n8
    unfold ruWord
    rw [if_neg n1, if_neg n2, if_neg n3, if_neg n4, if_neg n5, if_neg n6, if_neg n7, if_neg n8]
    decide
  obtain ⟨wd, hwd, hbw, hlw⟩ : ∃ x : ByteArray, S (ruWord k) = .string x ∧ bs x = ruWord k ∧ x.size ≤ 10 := ⟨⟨(ruWord k).toArray⟩, rfl, by rw [bs_mk], by rw [← bs_length, bs_mk]; omega⟩
  rw [hwd] at hu
  rw [← hbw]
  have HQ1 := Lib.hid hq1
  have HQ2 := Lib.hid hq2
  have HU := Lib.hid hu
  clear hq1 hq2 hu l1 l2 ho hqo hn hqn hwd hbw hwl
  generalize useTo k = T at *
  generalize useOld k = O at *
  generalize useNew k = N at *
  have fin : ∀ (a : ByteArray) (b : Str), bs a = b → Ending.returned (.string a) = .returned (S b) := fun a b h => by rw [← h, S_bs]
  have FIN := Lib.hid fin
  clear fin
  go_enter Tryz.func16, Tryz.ntmps16
  go_wp2_with fail
  refine (HU.out _).mono ?_
  rintro e w' ⟨rfl, rfl⟩
  have bW := Blk.new w 23 #[.int .i64 k, .string key, .string tt, .string old, .string new]
  cases T <;> cases O <;> cases N
  case false.false.false | true.false.false =>
    go_wp2
    go_ret
    exact ⟨FIN.out _ _ (by simp), (by repeat (first | with_reducible exact Ext.refl _ | with_reducible assumption | with_reducible apply Ext.drewN | with_reducible apply Ext.drew | with_reducible apply Ext.alloc | exact Ext.refl _ | assumption | apply Ext.drewN | apply Ext.drew | apply Ext.alloc))⟩
  case false.true.false | true.true.false =>
    go_wp2_with fail
    refine (HQ1.out _ (by repeat (first | with_reducible exact Ext.refl _ | with_reducible assumption | with_reducible apply Ext.drewN | with_reducible apply Ext.drew | with_reducible apply Ext.alloc | exact Ext.refl _ | assumption | apply Ext.drewN | apply Ext.drew | apply Ext.alloc))).mono ?_
    rintro e w1 ⟨rfl, hx1⟩
    have bc1 := (bW.ext hx1).cell
    go_wp2
    go_ret
    exact ⟨FIN.out _ _ (by simp), Ext.trans (by repeat (first | with_reducible exact Ext.refl _ | with_reducible assumption | with_reducible apply Ext.drewN | with_reducible apply Ext.drew | with_reducible apply Ext.alloc | exact Ext.refl _ | assumption | apply Ext.drewN | apply Ext.drew | apply Ext.alloc)) hx1⟩
  case false.false.true | true.false.true =>
    go_wp2_with fail
    refine (HQ2.out _ (by repeat (first | with_reducible exact Ext.refl _ | with_reducible assumption | with_reducible apply Ext.drewN | with_reducible apply Ext.drew | with_reducible apply Ext.alloc | exact Ext.refl _ | assumption | apply Ext.drewN | apply Ext.drew | apply Ext.alloc))).mono ?_
    rintro e w1 ⟨rfl, hx1⟩
    have bc1 := (bW.ext hx1).cell
    go_wp2
    go_ret
    exact ⟨FIN.out _ _ (by simp), Ext.trans (by repeat (first | with_reducible exact Ext.refl _ | with_reducible assumption | with_reducible apply Ext.drewN | with_reducible apply Ext.drew | with_reducible apply Ext.alloc | exact Ext.refl _ | assumption | apply Ext.drewN | apply Ext.drew | apply Ext.alloc)) hx1⟩
  all_goals
    go_wp2_with fail
    refine (HQ1.out _ (by repeat (first | with_reducible exact Ext.refl _ | with_reducible assumption | with_reducible apply Ext.drewN | with_reducible apply Ext.drew | with_reducible apply Ext.alloc | exact Ext.refl _ | assumption | apply Ext.drewN | apply Ext.drew | apply Ext.alloc))).mono ?_
    rintro e w1 ⟨rfl, hx1⟩
    have b1 := bW.ext hx1
    have bc1 := b1.cell
    have hxw1 : Ext w w1 := Ext.trans (by repeat (first | with_reducible exact Ext.refl _ | with_reducible assumption | with_reducible apply Ext.drewN | with_reducible apply Ext.drew | with_reducible apply Ext.alloc | exact Ext.refl _ | assumption | apply Ext.drewN | apply Ext.drew | apply Ext.alloc)) hx1
    go_wp2_with fail
    refine (HQ2.out _ hxw1).mono ?_
    rintro e w2 ⟨rfl, hx2⟩
    go_wp2
    go_ret
    exact ⟨FIN.out _ _ (by simp), hxw1.trans hx2⟩
theorem cell_kept {w w' : World} {a : Addr} {v : Value} (hx : Ext w w') (h : w.cell? a = some v) : w'.cell? a = some v := by
  obtain ⟨b, o, s⟩ := a
  cases s with
  | none => exact hx.cell h
  | some x => have := World.cell?_spot h; cases this
set_option maxRecDepth 100000 in
set_option maxHeartbeats 8000000 in
theorem PrintRule_any (r : RB) (w : World) (hg : Good w) (hs : SmallR r) :
    Calls Tryz.prog 10 #[ruV r] w fun e w' => e = .returned (.tuple #[S (prRu r.l), .int .i64 (ruErr r.l)]) ∧ Ext w w' := by
  have hck := fun W (h : Ext w W) => CheckRule_any r W (hg.ext h) hs
  by_cases h0 : ruErr r.l = 0
  rotate_left
  · have hp : prRu r.l = [] := by rw [prRu, if_neg h0]
    have hb : (ruErr r.l != 0) = true := by rw [bne_iff_ne]; exact h0
    rw [hp]
    generalize ruErr r.l = E at *
    have HCK := Lib.hid hck
    clear hck h0 hp
    obtain ⟨k, key, tt, old, new⟩ := r
    go_enter Tryz.func10, Tryz.ntmps10
    go_wp2_with fail
    refine (HCK.out _ (by repeat (first | with_reducible exact Ext.refl _ | with_reducible assumption | with_reducible apply Ext.drewN | with_reducible apply Ext.drew | with_reducible apply Ext.alloc | exact Ext.refl _ | assumption | apply Ext.drewN | apply Ext.drew | apply Ext.alloc))).mono ?_
    rintro e w1 ⟨rfl, hx1⟩
    go_wp2
    go_ret2
    exact ⟨rfl, Ext.trans (by repeat (first | with_reducible exact Ext.refl _ | with_reducible assumption | with_reducible apply Ext.drewN | with_reducible apply Ext.drew | with_reducible apply Ext.alloc | exact Ext.refl _ | assumption | apply Ext.drewN | apply Ext.drew | apply Ext.alloc)) hx1⟩
  have hR := right_of h0
  have hp : prRu r.l = ruText r.l := by rw [prRu, if_pos h0]
  rw [hp, h0]
  rw [h0] at hck
  have HCK := Lib.hid hck
  have hlo := hR.lo
  have hhi := hR.hi
  clear hck h0 hp hR
  obtain ⟨k, key, tt, old, new⟩ := r
  obtain ⟨s1, s2, s3, s4⟩ := hs
  dsimp only at s1 s2 s3 s4
  dsimp only [RB.l] at hlo hhi
  dsimp only [RB.l]
  rw [ruText_eq]
  obtain ⟨n, rfl⟩ : ∃ n : Nat, k = n := ⟨k.toNat, by omega⟩
  have hq1 := fun W (h : Ext w W) => (Quoted_any old W s3)
  have hq2 := fun W (h : Ext w W) => (Quoted_any new W s4)
  have l1 := quote_len (bs old)
  have l2 := quote_len (bs new)
  rw [bs_length] at l1 l2
  obtain ⟨qo, ho, hqo, hlo'⟩ : ∃ x : ByteArray, S (quoteL (bs old)) = .string x ∧ bs x = quoteL (bs old) ∧ x.size ≤ 6291456 := ⟨⟨(quoteL (bs old)).toArray⟩, rfl, by rw [bs_mk], by rw [← bs_length, bs_mk]; omega⟩
  obtain ⟨qn, hn, hqn, hln⟩ : ∃ x : ByteArray, S (quoteL (bs new)) = .string x ∧ bs x = quoteL (bs new) ∧ x.size ≤ 6291456 := ⟨⟨(quoteL (bs new)).toArray⟩, rfl, by rw [bs_mk], by rw [← bs_length, bs_mk]; omega⟩
  rw [ho] at hq1
  rw [hn] at hq2
  rw [← hqo, ← hqn]
  have hu := uses_any (n : Int)
  obtain ⟨wd, hwd, hbw⟩ := ruWords_at hlo hhi
  rw [Int.toNat_natCast] at hwd
  have hlw : wd.size ≤ 10 := by
    have hm : wd ∈ ruWords := List.mem_of_getElem? hwd
    have hall : (ruWords.all fun x => decide (x.size ≤ 10)) = true := by decide
    simpa using List.all_eq_true.1 hall wd hm
  rw [← hbw]
  have hn9 : n < 9 := by omega
  have hn9' : (n : Int) < 9 := by omega
  have HWD := Lib.hid hwd
  have HQ1 := Lib.hid hq1
  have HQ2 := Lib.hid hq2
  have HU := Lib.hid hu
  clear hq1 hq2 hu l1 l2 ho hqo hn hqn hwd hbw
  generalize useTo (n : Int) = T at *
  generalize useOld (n : Int) = O at *
  generalize useNew (n : Int) = N at *
  have fin : ∀ (a : ByteArray) (b : Str), bs a = b → Ending.returned (.tuple #[.string a, .int .i64 0]) = .returned (.tuple #[S b, .int .i64 0]) := fun a b h => by rw [← h, S_bs]
  have FIN := Lib.hid fin
  clear fin
  have bW := Blk.new w 23 #[.int .i64 n, .string key, .string tt, .string old, .string new]
  go_enter Tryz.func10, Tryz.ntmps10
  go_wp2_with fail
  refine (HCK.out _ (by repeat (first | with_reducible exact Ext.refl _ | with_reducible assumption | with_reducible apply Ext.drewN | with_reducible apply Ext.drew | with_reducible apply Ext.alloc | exact Ext.refl _ | assumption | apply Ext.drewN | apply Ext.drew | apply Ext.alloc))).mono ?_
  rintro e w1 ⟨rfl, hx1⟩
  have b1 := bW.ext hx1
  have hxw : Ext w w1 := Ext.trans (by repeat (first | with_reducible exact Ext.refl _ | with_reducible assumption | with_reducible apply Ext.drewN | with_reducible apply Ext.drew | with_reducible apply Ext.alloc | exact Ext.refl _ | assumption | apply Ext.drewN | apply Ext.drew | apply Ext.alloc)) hx1
  have bc1 := b1.cell
  clear hx1 bW
  go_wp2_with fail
  refine (HU.out _).mono ?_
  rintro e w' ⟨rfl, rfl⟩
  go_upto_region 5 with fail
  go_cut [8] (fun s wx => s = .string (wd ++ (⟨#[32]⟩ : ByteArray) ++ key) ∧ Ext w1 wx)
  case first =>
    have k0 : w1.cell? ⟨w.heap.size, 0, none⟩ = some (.int .i64 n) := b1.cell 0
    have k1 : w1.cell? ⟨w.heap.size, 1, none⟩ = some (.string key) := b1.cell 1
    clear bc1 b1
    go_region_with
      (first
      | (go_at_call 61; refine (ruleWords_any _).mono ?_; rintro e wA ⟨b, rfl, hbb, hst, hxA⟩; (have hcx : wA.cell? ⟨b, n, none⟩ = some (.string wd) := by (have h1 := hst.cell n hn9; rw [h1]; have h2 := HWD.out; rw [List.getElem?_eq_getElem hn9] at h2; injection h2 with h2; rw [h2])); have kA0 := hxA.cell k0; have kA1 := hxA.cell k1))
    all_goals
      go_wp2_with fail
      go_meet
      case rel => exact ⟨rfl, Ext.trans (Ext.trans (by repeat (first | with_reducible exact Ext.refl _ | with_reducible assumption | with_reducible apply Ext.drewN | with_reducible apply Ext.drew | with_reducible apply Ext.alloc | exact Ext.refl _ | assumption | apply Ext.drewN | apply Ext.drew | apply Ext.alloc)) hxA) (by repeat (first | with_reducible exact Ext.refl _ | with_reducible assumption | with_reducible apply Ext.drewN | with_reducible apply Ext.drew | with_reducible apply Ext.alloc | exact Ext.refl _ | assumption | apply Ext.drewN | apply Ext.drew | apply Ext.alloc))⟩
  case rest =>
    obtain ⟨rfl, hx4⟩ := hcut
    have bW := b1.ext hx4
    have hxc := hxw.trans hx4
    clear b1 bc1 hx4
    have bc := bW.cell
    cases T <;> cases O <;> cases N
    case false.false.false | true.false.false =>
      go_wp2
      go_ret2
      exact ⟨FIN.out _ _ (by simp), hxc⟩
    case false.true.false | true.true.false =>
      go_wp2_with fail
      refine (HQ1.out _ hxc).mono ?_
      rintro e w2 ⟨rfl, hx2⟩
      have bc2 := (bW.ext hx2).cell
      go_wp2
      go_ret2
      exact ⟨FIN.out _ _ (by simp), hxc.trans hx2⟩
    case false.false.true | true.false.true =>
      go_wp2_with fail
      refine (HQ2.out _ hxc).mono ?_
      rintro e w2 ⟨rfl, hx2⟩
      have bc2 := (bW.ext hx2).cell
      go_wp2
      go_ret2
      exact ⟨FIN.out _ _ (by simp), hxc.trans hx2⟩
    all_goals
      go_wp2_with fail
      refine (HQ1.out _ hxc).mono ?_
      rintro e w2 ⟨rfl, hx2⟩
      have b2 := bW.ext hx2
      have bc2 := b2.cell
      go_wp2_with fail
      refine (HQ2.out _ (hxc.trans hx2)).mono ?_
      rintro e w3 ⟨rfl, hx3⟩
      go_wp2
      go_ret2
      exact ⟨FIN.out _ _ (by simp), (hxc.trans hx2).trans hx3⟩
end Go.Proofs.YtcmceeihdhcmnaaGreatDoor

namespace Go.Proofs.YtcmceeihdhcmnaaGreatDoor
open Go.RowKit

/-- migrate.quoted -/
def qresR : Option (Str × Str) → Str × Str × Bool
  | none => ([], [], false)
  | some (t, z) => (t, z, true)
set_option maxRecDepth 100000 in
set_option maxHeartbeats 8000000 in
theorem quoted_any (s : ByteArray) (w : World) (hs : s.size ≤ 2097152) :
    Calls Tryz.prog 67 #[.string s] w fun e w' => e = .returned (.tuple #[S (qresR (quotedL (bs s))).1, S (qresR (quotedL (bs s))).2.1, .bool (qresR (quotedL (bs s))).2.2]) ∧ Ext w w' := by
  rcases Nat.eq_zero_or_pos s.size with h0 | h0
  · have he : quotedL (bs s) = none := by rw [bs_nil h0]; rfl
    have hi := emp_bool h0
    rw [he]
    clear he
    go_enter Tryz.func67, Tryz.ntmps67
    go_wp2
    go_ret3
    exact ⟨rfl, Ext.refl _⟩
  have hi := nemp_bool h0
  have hd := drop_cons s 0 h0
  rw [List.drop_zero] at hd
  by_cases hc : s[0] = 34
  rotate_left
  · have he : quotedL (bs s) = none := by
      rw [hd]
      unfold quotedL
      split
      · rename_i e; injection e with e _; exact absurd e hc
      · rfl
    have e1 := byte_ne hc 34 rfl
    rw [he]
    clear he hd hc
    go_enter Tryz.func67, Tryz.ntmps67
    go_wp2
    go_ret3
    exact ⟨rfl, Ext.refl _⟩
  have e0 : ((s[0].toNat : Int) != 34) = false := by rw [hc]; rfl
  obtain ⟨R, hR⟩ : ∃ R, unq ((bs s).drop 1) = R := ⟨_, rfl⟩
  have hq : quotedL (bs s) = R := by rw [hd, hc, ← hR]; rfl
  have hst := invQ_start (bs s) 1
  rw [hR] at hst
  rw [hq]
  have HST := Lib.hid hst
  clear hst hq hR hd hc
  go_enter Tryz.func67, Tryz.ntmps67
  go_wp2
  go_loopw [5, 6] (fun v k' wr => ∃ (k : Nat) (done : Str), k' = .int .i64 k ∧ wr.ownsRow w.heap.size 5 1 v done.length (u8s done) ∧ k ≤ s.size ∧ done.length ≤ k ∧ InvQ (bs s) R k done ∧ Ext w wr) (fun _ k _ => s.size - (intOf k).toNat)
  case atStart => exact ⟨1, [], rfl, World.ownsRow_nil _ _ _ _, by omega, Nat.zero_le _, HST.out, Ext.refl _⟩
  case round =>
    obtain ⟨k, done, rfl, hown, hk1, hk3, hinv, hxr⟩ := hrel
    have HINV := Lib.hid hinv
    clear hinv
    by_cases hlt : k < s.size
    · by_cases h34 : s[k] = 34
      · have e1 : ((s[k].toNat : Int) == 34) = true := by rw [h34]; rfl
        have hres := invQ_end HINV.out hlt h34
        subst hres
        have hcv := conv_own hown wr.drew ((Ext.refl wr).drew)
        have hkk : (k : Int) + 1 ≤ s.size := by omega
        have hkw : IntKind.i64.wrap ((k : Int) + 1) = (k : Int) + 1 := by rw [IntKind.wrap_i64]; omega
        clear h34 hown
        go_wp2
        go_outline
        go_region
        all_goals
          go_wp2
          go_ret3
          have hd2 : Value.string (s.extract (k + 1) s.size) = S ((bs s).drop (k + 1)) := str_S (Lib.extract_to_end s (k + 1))
          refine ⟨?_, hxr.drew⟩
          show Ending.returned (.tuple #[S done, .string (s.extract (k + 1) s.size), .bool true]) = _
          rw [hd2]
          rfl
      have e1 := byte_no h34 34 rfl
      by_cases h92 : s[k] = 92
      · have e2 : ((s[k].toNat : Int) == 92) = true := by rw [h92]; rfl
        by_cases hend : k + 1 = s.size
        · have hres := invQ_last HINV.out hend h92
          subst hres
          have hE : ((k : Int) + 1 == (s.size : Int)) = true := by rw [beq_iff_eq]; omega
          clear h34 h92
          go_wp2
          go_ret3
          exact ⟨rfl, hxr⟩
        have hlt2 : k + 1 < s.size := by omega
        have hE : ((k : Int) + 1 == (s.size : Int)) = false := by rw [beq_eq_false_iff_ne]; omega
        by_cases hok : s[k + 1] = 34 ∨ s[k + 1] = 92
        · have hinv2 := invQ_two HINV.out hlt2 h92 hok
          have HI2 := Lib.hid hinv2
          clear hinv2 h34 h92
          rcases hok with hd | hd
          · have e3 : ((s[k + 1].toNat : Int) != 34) = false := by rw [hd]; rfl
            clear hd
            have HX := Lib.hid hxr
            have hsz := hxr.size
            go_wp2_with (at_builtin; refine wpList_app1 _ _ _ rfl _ _ 180 rfl (.int .u8 0) 1 1 Tryz.underlying180 info_u8 rfl (by decide) (by decide) w.heap.size _ done.length _ rfl hown _ rfl rfl (by simp [Value.oneCell']) (by omega) hsz ?_; intro v' w3 hown3 hx3 _)
            go_roundw
            case rel => exact ⟨k + 1 + 1, done ++ [s[k + 1]], by go_num, by rw [u8s_append, List.length_append]; exact hown3, by omega, by rw [List.length_append]; simp; omega, HI2.out, hx3 _ HX.out (Nat.le_refl _)⟩
            case measure => simp [intOf]; omega
          · have e3 : ((s[k + 1].toNat : Int) != 34) = true := by rw [hd]; rfl
            have e4 : ((s[k + 1].toNat : Int) != 92) = false := by rw [hd]; rfl
            clear hd
            have HX := Lib.hid hxr
            have hsz := hxr.size
            go_wp2_with (at_builtin; refine wpList_app1 _ _ _ rfl _ _ 180 rfl (.int .u8 0) 1 1 Tryz.underlying180 info_u8 rfl (by decide) (by decide) w.heap.size _ done.length _ rfl hown _ rfl rfl (by simp [Value.oneCell']) (by omega) hsz ?_; intro v' w3 hown3 hx3 _)
            go_roundw
            case rel => exact ⟨k + 1 + 1, done ++ [s[k + 1]], by go_num, by rw [u8s_append, List.length_append]; exact hown3, by omega, by rw [List.length_append]; simp; omega, HI2.out, hx3 _ HX.out (Nat.le_refl _)⟩
            case measure => simp [intOf]; omega
        · have hres := invQ_bad HINV.out hlt2 h92 (fun e => hok (.inl e)) (fun e => hok (.inr e))
          have e3 := byte_ne (fun e => hok (.inl e)) 34 rfl
          have e4 := byte_ne (fun e => hok (.inr e)) 92 rfl
          subst hres
          clear h34 h92 hok
          go_wp2
          go_ret3
          exact ⟨rfl, hxr⟩
      · have e2 := byte_no h92 92 rfl
        have hinv2 := invQ_one HINV.out hlt h34 h92
        have HI2 := Lib.hid hinv2
        clear hinv2 h34 h92
        have HX := Lib.hid hxr
        have hsz := hxr.size
        go_wp2_with (at_builtin; refine wpList_app1 _ _ _ rfl _ _ 180 rfl (.int .u8 0) 1 1 Tryz.underlying180 info_u8 rfl (by decide) (by decide) w.heap.size _ done.length _ rfl hown _ rfl rfl (by simp [Value.oneCell']) (by omega) hsz ?_; intro v' w3 hown3 hx3 _)
        go_roundw
        case rel => exact ⟨k + 1, done ++ [s[k]], by go_num, by rw [u8s_append, List.length_append]; exact hown3, by omega, by rw [List.length_append]; simp; omega, HI2.out, hx3 _ HX.out (Nat.le_refl _)⟩
        case measure => simp [intOf]; omega
    · have hres := invQ_out HINV.out (by omega)
      subst hres
      go_wp2
      go_ret3
      exact ⟨rfl, hxr⟩
end Go.Proofs.YtcmceeihdhcmnaaGreatDoor

namespace Go.Proofs.YtcmceeihdhcmnaaGreatDoor
open Go.RowKit

def candO (k : Int) (key rest : Str) : Option Ru :=
  if (!(qresR (quotedL rest)).2.2 || !([32] : Str).isPrefixOf (qresR (quotedL rest)).2.1) = true then none
  else if (!(qresR (quotedL ((qresR (quotedL rest)).2.1.drop 1))).2.2 || !(qresR (quotedL ((qresR (quotedL rest)).2.1.drop 1))).2.1.isEmpty) = true then none
  else some ⟨k, key, [], (qresR (quotedL rest)).1, (qresR (quotedL ((qresR (quotedL rest)).2.1.drop 1))).1⟩
def candN (k : Int) (key rest : Str) : Option Ru :=
  if (!(qresR (quotedL rest)).2.2 || !(qresR (quotedL rest)).2.1.isEmpty) = true then none else some ⟨k, key, [], [], (qresR (quotedL rest)).1⟩
def candB (f : Bool) (k : Int) (key rest : Str) (more T O N : Bool) : Option Ru :=
  if (!f || decide (k < 1)) = true then none
  else if (key.isEmpty || (more != (T || O || N))) = true then none
  else if T = true then (if (rest.isEmpty || rest.contains 32) = true then none else some ⟨k, key, rest, [], []⟩)
  else if O = true then candO k key rest
  else if N = true then candN k key rest
  else if rest.isEmpty = true then some ⟨k, key, [], [], []⟩ else none
theorem candN_eq (k : Int) (key rest : Str) : candN k key rest = (match quotedL rest with | some (n, []) => some ⟨k, key, [], [], n⟩ | _ => none) := by
  unfold candN
  cases quotedL rest with
  | none => rfl
  | some x =>
    obtain ⟨n, z⟩ := x
    cases z <;> rfl
theorem candO_eq (k : Int) (key rest : Str) : candO k key rest = (match quotedL rest with
    | some (o, 32 :: r) => (match quotedL r with
      | some (n, []) => some ⟨k, key, [], o, n⟩
      | _ => none)
    | _ => none) := by
  unfold candO
  cases quotedL rest with
  | none => rfl
  | some x =>
    obtain ⟨o, z⟩ := x
    cases z with
    | nil => rfl
    | cons c r =>
      by_cases hc : c = 32
      · subst hc
        simp only [qresR, List.drop_succ_cons, List.drop_zero]
        cases quotedL r with
        | none => rfl
        | some y =>
          obtain ⟨n, z2⟩ := y
          cases z2 <;> rfl
      · have h1 : ([32] : Str).isPrefixOf (c :: r) = false := by
          have : ((32 : UInt8) == c) = false := by rw [beq_eq_false_iff_ne]; exact fun e => hc e.symm
          simp [List.isPrefixOf, this]
        rw [if_pos (by simp only [qresR, h1]; rfl)]
        split
        · rename_i heq
          injection heq with h
          injection h with _ h
          injection h with h _
          exact absurd h hc
        · rfl
theorem cand_stage {s a b : Str} {f : Bool} {key rest : Str} {more : Bool} (h1 : cutC 32 s = (a, b, f)) (h2 : cutC 32 b = (key, rest, more)) :
    candP s = candB f (ruKind a) key rest more (useTo (ruKind a)) (useOld (ruKind a)) (useNew (ruKind a)) := by
  unfold candP candB
  rw [h1]
  dsimp only
  rw [h2]
  dsimp only
  rw [candO_eq, candN_eq]
  rfl
theorem parse_stage {s : Str} (h : ¬ 4000 < s.length) : parseRu s = (match candP s with | none => (zeroR, 8) | some r => if ruErr r ≠ 0 then (zeroR, ruErr r) else (r, 0)) := by
  unfold parseRu
  rw [if_neg h]
  rfl
/-- the reading behind its candidate -/
def endRu : Option Ru → Ru × Int
  | none => (zeroR, 8)
  | some r => if ruErr r ≠ 0 then (zeroR, ruErr r) else (r, 0)
theorem parse_end {s a b : Str} {f : Bool} {key rest : Str} {more : Bool} (h : ¬ 4000 < s.length) (h1 : cutC 32 s = (a, b, f)) (h2 : cutC 32 b = (key, rest, more)) :
    parseRu s = endRu (candB f (ruKind a) key rest more (useTo (ruKind a)) (useOld (ruKind a)) (useNew (ruKind a))) := by
  rw [parse_stage h, cand_stage h1 h2]
  cases candB f (ruKind a) key rest more (useTo (ruKind a)) (useOld (ruKind a)) (useNew (ruKind a)) <;> rfl
theorem kind_class {k : Int} (h1 : 1 ≤ k) (h8 : k ≤ 8) : (useTo k = true ∧ useOld k = false ∧ useNew k = false) ∨ (useTo k = false ∧ useOld k = false ∧ useNew k = true) ∨ (useTo k = false ∧ useOld k = false ∧ useNew k = false) ∨ (useTo k = false ∧ useOld k = true ∧ useNew k = true) := by
  rcases kind_cases h1 h8 with rfl | rfl | rfl | rfl | rfl | rfl | rfl | rfl <;> decide
theorem idx_words (x : ByteArray) : Lib.idxOfS (ruWords.take 9) x = ruKind (bs x) := by
  have e : ∀ (y : ByteArray), (y = x) = (bs x = bs y) := fun y => propext ⟨fun h => by rw [h], fun h => bs_inj h.symm⟩
  show Lib.idxFromS ruWords x 0 = _
  unfold ruWords ruKind
  simp only [Lib.idxFromS, e]
  rfl
theorem index_words (b : Nat) (x : ByteArray) (w : World) (h : Strs w b ruWords) :
    Calls Tryz.prog 65 #[.slice (some ⟨b, 0, none⟩) 9 9, .string x] w fun e w' => e = .returned (.int .i64 (ruKind (bs x))) ∧ w = w' := by
  refine (Tryz.slices_Index_string b 0 9 9 ruWords x w (by decide) (by decide) (fun j hj => ?_)).mono fun e w' ⟨h1, h2⟩ => ⟨by rw [h1, idx_words], h2.symm⟩
  rw [Nat.zero_add, h.cell j hj, List.getD_eq_getElem?_getD, List.getElem?_eq_getElem hj]; rfl
end Go.Proofs.YtcmceeihdhcmnaaGreatDoor
