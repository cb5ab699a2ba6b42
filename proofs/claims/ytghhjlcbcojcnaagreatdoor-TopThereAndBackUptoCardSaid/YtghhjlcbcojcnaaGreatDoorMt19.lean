/- Contract of outref2.ReadRule. (Printed by gen/rulh.py.) -/
import Derived.Test.YtghhjlcbcojcnaaGreatDoorMt18

namespace Go.Proofs.YtghhjlcbcojcnaaGreatDoor
open Go.RowKit

/-- the reference's candidate, by its parts -/
def candC (s : Str) (k : Int) (key r1 t2 r2 : Str) (T O N : Bool) : Option Ru :=
  match (if O = true then takeR false (quotedL (if T = true then r2 else r1)) else some ([], if T = true then r2 else r1)) with
  | none => none
  | some (o, r3) => match (if N = true then takeR true (quotedL r3) else some ([], r3)) with
    | none => none
    | some (n, r4) => if (!r4.isEmpty || key.isEmpty || (T && (if T = true then t2 else []).isEmpty) || decide (ruText ⟨k, key, if T = true then t2 else [], o, n⟩ ≠ s)) = true then none else some ⟨k, key, if T = true then t2 else [], o, n⟩
theorem read_end {s a b key r1 : Str} {f m : Bool} (h : ¬ 4000 < s.length) (h1 : cutC 32 s = (a, b, f)) (h2 : cutC 32 b = (key, r1, m)) (hk : ¬ ruKind a < 1) :
    readRu s = endRu (candC s (ruKind a) key r1 (cutC 32 r1).1 (cutC 32 r1).2.1 (useTo (ruKind a)) (useOld (ruKind a)) (useNew (ruKind a))) := by
  unfold readRu
  rw [if_neg h, h1]
  dsimp only
  rw [if_neg hk]
  have e : candR s = candC s (ruKind a) key r1 (cutC 32 r1).1 (cutC 32 r1).2.1 (useTo (ruKind a)) (useOld (ruKind a)) (useNew (ruKind a)) := by
    unfold candR candC
    rw [h1]
    dsimp only
    rw [h2]
    dsimp only
    simp only [takeQ_R]
    rfl
  rw [e]
  cases candC s (ruKind a) key r1 (cutC 32 r1).1 (cutC 32 r1).2.1 (useTo (ruKind a)) (useOld (ruKind a)) (useNew (ruKind a)) <;> rfl
theorem ruKind_none {w : Str} (h : ∀ j : Nat, 1 ≤ j → j < 9 → ruWord j ≠ w) : ruKind w < 1 := by
  by_cases h1 : ruKind w < 1
  · exact h1
  · obtain ⟨a, b, c⟩ := ruKind_back (w := w) (by omega)
    exfalso
    refine h (ruKind w).toNat (by omega) (by omega) ?_
    rw [show (((ruKind w).toNat : Nat) : Int) = ruKind w by omega]
    exact c.symm
theorem readRu_none {s a b : Str} {f : Bool} (h : ¬ 4000 < s.length) (h1 : cutC 32 s = (a, b, f)) (hk : ruKind a < 1) : readRu s = (zeroR, 8) := by
  unfold readRu
  rw [if_neg h, h1]
  dsimp only
  rw [if_pos hk]
theorem takeR_size {last : Bool} {q : Option (Str × Str)} {v z : Str} (h : takeR last q = some (v, z)) : v.length ≤ (qresR q).1.length ∧ z.length ≤ (qresR q).2.1.length := by
  cases q with
  | none => cases h
  | some x =>
    obtain ⟨t, y⟩ := x
    cases last
    · simp only [takeR] at h
      by_cases hp : ([32] : Str).isPrefixOf y = true
      · simp only [hp] at h
        cases h
        simp [qresR]
      · rw [(Bool.not_eq_true _).mp hp] at h
        cases h
    · cases h
      exact ⟨Nat.le_refl _, Nat.le_refl _⟩

set_option maxRecDepth 100000 in
set_option maxHeartbeats 32000000 in
theorem ReadRule_any (s : ByteArray) (w : World) (hg : Good w) (hs : s.size ≤ 2097152) :
    Calls Tryz.prog 20 #[.string s] w fun e w' => e = .returned (.tuple #[ruX (parseRu (bs s)).1, .int .i64 (parseRu (bs s)).2]) ∧ Ext w w' := by
  rw [← readRu_eq]
  by_cases hbig : 4000 < s.size
  · have hp : readRu (bs s) = (zeroR, 4) := by rw [readRu, if_pos (by rw [bs_length]; exact hbig)]
    have hb2 : (4000 : Int) < s.size := by omega
    rw [hp]
    clear hp
    go_enter Tryz.func20, Tryz.ntmps20
    go_wp2
    exact bodyPost_ret (v := .tuple #[ruX zeroR, .int .i64 4]) (by simp [results, Tryz.results20, go_sem, zeroR]) rfl ⟨rfl, (by repeat (first | with_reducible exact Ext.refl _ | with_reducible assumption | with_reducible apply Ext.drewN | with_reducible apply Ext.drew | with_reducible apply Ext.alloc | ((with_reducible refine Ext.setCell ?_ ?_ _); rotate_left; (first | (dsimp only; omega) | (simp; omega) | skip)) | exact Ext.refl _ | assumption | apply Ext.drewN | apply Ext.drew | apply Ext.alloc | refine Ext.setCell ?_ (by first | (dsimp only; omega) | (simp; omega)) _))⟩
  have hb2 : ¬ (4000 : Int) < s.size := by omega
  have hbl : ¬ 4000 < (bs s).length := by rw [bs_length]; exact hbig
  have HBL := Lib.hid hbl
  clear hbl hbig
  have bP0 := Blk.new w 23 #[.int .i64 0, .string ⟨#[]⟩, .string ⟨#[]⟩, .string ⟨#[]⟩, .string ⟨#[]⟩]
  go_enter Tryz.func20, Tryz.ntmps20
  go_wp2_with fail
  refine (cut_ex 32 s _ (hg.ext (by repeat (first | with_reducible exact Ext.refl _ | with_reducible assumption | with_reducible apply Ext.drewN | with_reducible apply Ext.drew | with_reducible apply Ext.alloc | exact Ext.refl _ | assumption | apply Ext.drewN | apply Ext.drew | apply Ext.alloc))) hs).mono ?_
  rintro e w1 ⟨a, b, f, rfl, hcut, hza, hzb, hx1⟩
  have bP1 := bP0.ext hx1
  have hxw1 : Ext w w1 := Ext.trans (by repeat (first | with_reducible exact Ext.refl _ | with_reducible assumption | with_reducible apply Ext.drewN | with_reducible apply Ext.drew | with_reducible apply Ext.alloc | exact Ext.refl _ | assumption | apply Ext.drewN | apply Ext.drew | apply Ext.alloc)) hx1
  have HCUT := Lib.hid hcut
  have hlt1 := bP1.lt
  clear hx1 bP0 hcut
  go_wp2
  go_loop [7] (fun t => ∃ k : Nat, 1 ≤ k ∧ k ≤ 9 ∧ t = .int .i64 k ∧ ∀ j : Nat, 1 ≤ j → j < k → ruWord j ≠ bs a) (fun t => 9 - (intOf t).toNat)
  case atStart => exact ⟨1, by omega, by omega, rfl, fun j h1 h2 => absurd h2 (by omega)⟩
  case round =>
    obtain ⟨k, hk1, hk9, rfl, hno⟩ := hrel
    have HNO := Lib.hid hno
    clear hno
    by_cases hlt : k ≤ 8
    rotate_left
    · obtain rfl : k = 9 := by omega
      have hn := readRu_none HBL.out HCUT.out (ruKind_none HNO.out)
      have HN := Lib.hid hn
      have bP := bP1.alloc (.cells #[.string b] 9)
      have cQ := bP.cell; have fQ := bP.free; have zQ := bP.lt
      have cP := bP1.cell; have fP := bP1.free; have zP := bP1.lt
      have hne := Nat.ne_of_lt zP
      clear hn
      go_wp2
      exact bodyPost_ret (v := .tuple #[ruX zeroR, .int .i64 8]) (by simp [results, Tryz.results20, go_sem, cP, zP, zeroR]) rfl ⟨by rw [HN.out], (by repeat (first | with_reducible exact Ext.refl _ | with_reducible assumption | with_reducible apply Ext.drewN | with_reducible apply Ext.drew | with_reducible apply Ext.alloc | ((with_reducible refine Ext.setCell ?_ ?_ _); rotate_left; (first | (dsimp only; omega) | (simp; omega) | skip)) | exact Ext.refl _ | assumption | apply Ext.drewN | apply Ext.drew | apply Ext.alloc | refine Ext.setCell ?_ (by first | (dsimp only; omega) | (simp; omega)) _))⟩
    have hli : (k : Int) ≤ 8 := by omega
    have hu := ruleWord_any k
    obtain ⟨wd, hwd, hbw⟩ : ∃ x : ByteArray, S (ruWord k) = .string x ∧ bs x = ruWord k := ⟨⟨(ruWord k).toArray⟩, rfl, by rw [bs_mk]⟩
    rw [hwd] at hu
    have HU := Lib.hid hu
    have HBW := Lib.hid hbw
    clear hu hwd hbw
    by_cases he : wd = a
    rotate_left
    · have hne : (wd.toList == a.toList) = false := by
        rw [eqE, decide_eq_false_iff_not]
        exact fun e => he (bs_inj e)
      have hne2 : ruWord k ≠ bs a := fun e => he (bs_inj (by rw [HBW.out, e]))
      have HNE := Lib.hid hne2
      clear he hne2
      go_wp2_with fail
      refine (HU.out _).mono ?_
      rintro e w' ⟨rfl, rfl⟩
      go_wp2
      go_round
      case rel =>
        refine ⟨k + 1, by omega, by omega, by go_num, fun j h1 h2 => ?_⟩
        by_cases hj : j = k
        · subst hj; exact HNE.out
        · exact HNO.out j h1 (by omega)
      case measure => simp [intOf]; omega
    subst he
    have hkk : ruKind (bs wd) = k := by rw [HBW.out]; exact (ruKind_word (by omega) (by omega)).1
    have hcls := kind_class (k := (k : Int)) (by omega) (by omega)
    have hre := fun key r1 m h => read_end (s := bs s) (key := key) (r1 := r1) (m := m) HBL.out HCUT.out h (by rw [hkk]; omega)
    rw [hkk] at hre
    have HRE := Lib.hid hre
    clear hre hkk HBL HCUT HNO HBW
    generalize useTo (k : Int) = T at *
    generalize useOld (k : Int) = O at *
    generalize useNew (k : Int) = N at *
    have hee : (wd.toList == wd.toList) = true := by simp
    go_wp2_with fail
    refine (HU.out _).mono ?_
    rintro e w' ⟨rfl, rfl⟩
    clear HU
    have bS0 := Blk.new w1 9 #[.string b]
    have bI0 := Blk.new (w1.alloc (.cells #[.string b] 9)) 23 #[.int .i64 k, .string ⟨#[]⟩, .string ⟨#[]⟩, .string ⟨#[]⟩, .string ⟨#[]⟩]
    have bR0 := Blk.new ((w1.alloc (.cells #[.string b] 9)).alloc (.cells #[.int .i64 k, .string ⟨#[]⟩, .string ⟨#[]⟩, .string ⟨#[]⟩, .string ⟨#[]⟩] 23)) 4 #[.bool true]
    rw [World.size_alloc] at bI0
    rw [World.size_alloc, World.size_alloc] at bR0
    have bS := (bS0.alloc (.cells #[.int .i64 k, .string ⟨#[]⟩, .string ⟨#[]⟩, .string ⟨#[]⟩, .string ⟨#[]⟩] 23)).alloc (.cells #[.bool true] 4)
    have bI := bI0.alloc (.cells #[.bool true] 4)
    have bR := bR0
    have hx1w : Ext w1 (((w1.alloc (.cells #[.string b] 9)).alloc (.cells #[.int .i64 k, .string ⟨#[]⟩, .string ⟨#[]⟩, .string ⟨#[]⟩, .string ⟨#[]⟩] 23)).alloc (.cells #[.bool true] 4)) := (by repeat (first | with_reducible exact Ext.refl _ | with_reducible assumption | with_reducible apply Ext.drewN | with_reducible apply Ext.drew | with_reducible apply Ext.alloc | exact Ext.refl _ | assumption | apply Ext.drewN | apply Ext.drew | apply Ext.alloc))
    clear bS0 bI0 bR0
    have nSI : w1.heap.size ≠ (w1.heap.size + 1) := by omega
    have nIS : (w1.heap.size + 1) ≠ w1.heap.size := by omega
    have nRS : (w1.heap.size + 1 + 1) ≠ w1.heap.size := by omega
    have nSR : w1.heap.size ≠ (w1.heap.size + 1 + 1) := by omega
    have nRI : (w1.heap.size + 1 + 1) ≠ (w1.heap.size + 1) := by omega
    have nIR : (w1.heap.size + 1) ≠ (w1.heap.size + 1 + 1) := by omega
    have nSI' := nSI
    have lS : w1.heap.size ≤ w1.heap.size := Nat.le_refl _
    have lI : w1.heap.size ≤ (w1.heap.size + 1) := by omega
    have lR : w1.heap.size ≤ (w1.heap.size + 1 + 1) := by omega
    have iC := bI.cell; have iF := bI.free; have iZ := bI.lt
    have sC := bS.cell; have sF := bS.free; have sZ := bS.lt
    have rC := bR.cell; have rF := bR.free; have rZ := bR.lt
    go_wp2_with fail
    refine (cut_ex 32 b _ (hg.ext (hxw1.trans hx1w)) (by omega)).mono ?_
    rintro e w3 ⟨key, r1, m, rfl, hcut2, hzk, hzr, hx3⟩
    have HEQ := Lib.hid (HRE.out _ _ _ hcut2)
    clear HRE hcut2
    replace bI := bI.ext hx3
    replace bS := bS.ext hx3
    replace bR := bR.ext hx3
    replace hx1w := hx1w.trans hx3
    clear hx3
    clear iC iF iZ sC sF sZ rC rF rZ
    have jC := bI.cell; have jF := bI.free; have jZ := bI.lt
    have tC := bS.cell; have tF := bS.free; have tZ := bS.lt
    have qC := bR.cell; have qF := bR.free; have qZ := bR.lt
    replace bI := bI.set 1 (.string key)
    replace bS := bS.far (p := ⟨(w1.heap.size + 1), 1, none⟩) nSI (.string key)
    replace bR := bR.far (p := ⟨(w1.heap.size + 1), 1, none⟩) nRI (.string key)
    replace hx1w := hx1w.setCell (p := ⟨(w1.heap.size + 1), 1, none⟩) lI (.string key)
    replace bI := bI.far (p := ⟨w1.heap.size, 0, none⟩) nIS (.string r1)
    replace bS := bS.set 0 (.string r1)
    replace bR := bR.far (p := ⟨w1.heap.size, 0, none⟩) nRS (.string r1)
    replace hx1w := hx1w.setCell (p := ⟨w1.heap.size, 0, none⟩) lS (.string r1)
    rcases hcls with ⟨rfl, rfl, rfl⟩ | ⟨rfl, rfl, rfl⟩ | ⟨rfl, rfl, rfl⟩ | ⟨rfl, rfl, rfl⟩
    · skip
      have iC := bI.cell; have iF := bI.free; have iZ := bI.lt
      have sC := bS.cell; have sF := bS.free; have sZ := bS.lt
      have rC := bR.cell; have rF := bR.free; have rZ := bR.lt
      go_wp2_with fail
      refine (cut_ex 32 r1 _ (hg.ext (hxw1.trans hx1w)) (by omega)).mono ?_
      rintro e w4 ⟨tt, r2, m2, rfl, hcut3, hzt, hzr2, hx4⟩
      rw [hcut3] at HEQ
      replace bI := bI.ext hx4
      replace bS := bS.ext hx4
      replace bR := bR.ext hx4
      replace hx1w := hx1w.trans hx4
      clear hx4
      clear jC jF jZ tC tF tZ qC qF qZ
      clear iC iF iZ sC sF sZ rC rF rZ
      have jC := bI.cell; have jF := bI.free; have jZ := bI.lt
      have tC := bS.cell; have tF := bS.free; have tZ := bS.lt
      have qC := bR.cell; have qF := bR.free; have qZ := bR.lt
      replace bI := bI.set 2 (.string tt)
      replace bS := bS.far (p := ⟨(w1.heap.size + 1), 2, none⟩) nSI (.string tt)
      replace bR := bR.far (p := ⟨(w1.heap.size + 1), 2, none⟩) nRI (.string tt)
      replace hx1w := hx1w.setCell (p := ⟨(w1.heap.size + 1), 2, none⟩) lI (.string tt)
      replace bI := bI.far (p := ⟨w1.heap.size, 0, none⟩) nIS (.string r2)
      replace bS := bS.set 0 (.string r2)
      replace bR := bR.far (p := ⟨w1.heap.size, 0, none⟩) nRS (.string r2)
      replace hx1w := hx1w.setCell (p := ⟨w1.heap.size, 0, none⟩) lS (.string r2)
      have iC := bI.cell; have iF := bI.free; have iZ := bI.lt
      have sC := bS.cell; have sF := bS.free; have sZ := bS.lt
      have rC := bR.cell; have rF := bR.free; have rZ := bR.lt
      go_wp2_with fail
      refine (take_skip _ true _ (w1.heap.size + 1 + 1) w1.heap.size (w1.heap.size + 1) _ _ bR (by first | exact .inl rfl | exact .inr rfl)).mono ?_
      rintro e w' ⟨rfl, rfl⟩
      go_wp2_with fail
      refine (take_skip _ true _ (w1.heap.size + 1 + 1) w1.heap.size (w1.heap.size + 1) _ _ bR (by first | exact .inl rfl | exact .inr rfl)).mono ?_
      rintro e w' ⟨rfl, rfl⟩
      rcases Nat.eq_zero_or_pos r2.size with hrz | hrz
      rotate_left
      · have hre := nemp_bool hrz
        have hrl : (bs r2).isEmpty = false := by rw [← isE]; exact hre
        have hn : readRu (bs s) = (zeroR, 8) := by rw [HEQ.out]; unfold candC; simp only [if_true, Bool.false_eq_true, if_false, hrl, Bool.not_false, Bool.true_or, if_true]; try rfl
        have HN := Lib.hid hn
        clear hn
        have bP := bP1.ext hx1w
        have cP := bP.cell; have fP := bP.free; have zP := bP.lt
        have hxw := hxw1.trans hx1w
        go_wp2
        exact bodyPost_ret (v := .tuple #[ruX zeroR, .int .i64 8]) (by simp [results, Tryz.results20, go_sem, cP, zeroR]) rfl ⟨by rw [HN.out], (by repeat (first | with_reducible exact Ext.refl _ | with_reducible assumption | with_reducible apply Ext.drewN | with_reducible apply Ext.drew | with_reducible apply Ext.alloc | ((with_reducible refine Ext.setCell ?_ ?_ _); rotate_left; (first | (dsimp only; omega) | (simp; omega) | skip)) | exact Ext.refl _ | assumption | apply Ext.drewN | apply Ext.drew | apply Ext.alloc | refine Ext.setCell ?_ (by first | (dsimp only; omega) | (simp; omega)) _))⟩
      have hre := emp_bool hrz
      have hrl : (bs r2).isEmpty = true := by rw [bs_nil hrz]; rfl
      rcases Nat.eq_zero_or_pos key.size with hkz | hkz
      · have hke := emp_bool hkz
        have hkl : (bs key).isEmpty = true := by rw [bs_nil hkz]; rfl
        have hn : readRu (bs s) = (zeroR, 8) := by rw [HEQ.out]; unfold candC; simp only [if_true, Bool.false_eq_true, if_false, hrl, hkl, Bool.true_or, Bool.or_true, if_true, Bool.not_true]; try rfl
        have HN := Lib.hid hn
        clear hn
        have bP := bP1.ext hx1w
        have cP := bP.cell; have fP := bP.free; have zP := bP.lt
        have hxw := hxw1.trans hx1w
        go_wp2
        exact bodyPost_ret (v := .tuple #[ruX zeroR, .int .i64 8]) (by simp [results, Tryz.results20, go_sem, cP, zeroR]) rfl ⟨by rw [HN.out], (by repeat (first | with_reducible exact Ext.refl _ | with_reducible assumption | with_reducible apply Ext.drewN | with_reducible apply Ext.drew | with_reducible apply Ext.alloc | ((with_reducible refine Ext.setCell ?_ ?_ _); rotate_left; (first | (dsimp only; omega) | (simp; omega) | skip)) | exact Ext.refl _ | assumption | apply Ext.drewN | apply Ext.drew | apply Ext.alloc | refine Ext.setCell ?_ (by first | (dsimp only; omega) | (simp; omega)) _))⟩
      have hke := nemp_bool hkz
      have hkl : (bs key).isEmpty = false := by rw [← isE]; exact hke
      rcases Nat.eq_zero_or_pos tt.size with htz | htz
      · have hte := emp_bool htz
        have htl : (bs tt).isEmpty = true := by rw [bs_nil htz]; rfl
        have hn : readRu (bs s) = (zeroR, 8) := by rw [HEQ.out]; unfold candC; simp only [if_true, Bool.false_eq_true, if_false, hrl, hkl, htl, Bool.true_or, Bool.or_true, Bool.and_self, if_true, Bool.not_true]; try rfl
        have HN := Lib.hid hn
        clear hn
        have bP := bP1.ext hx1w
        have cP := bP.cell; have fP := bP.free; have zP := bP.lt
        have hxw := hxw1.trans hx1w
        go_wp2
        exact bodyPost_ret (v := .tuple #[ruX zeroR, .int .i64 8]) (by simp [results, Tryz.results20, go_sem, cP, zeroR]) rfl ⟨by rw [HN.out], (by repeat (first | with_reducible exact Ext.refl _ | with_reducible assumption | with_reducible apply Ext.drewN | with_reducible apply Ext.drew | with_reducible apply Ext.alloc | ((with_reducible refine Ext.setCell ?_ ?_ _); rotate_left; (first | (dsimp only; omega) | (simp; omega) | skip)) | exact Ext.refl _ | assumption | apply Ext.drewN | apply Ext.drew | apply Ext.alloc | refine Ext.setCell ?_ (by first | (dsimp only; omega) | (simp; omega)) _))⟩
      have hte := nemp_bool htz
      have htl : (bs tt).isEmpty = false := by rw [← isE]; exact hte
      have hsm : SmallR ⟨k, key, tt, ⟨#[]⟩, ⟨#[]⟩⟩ := ⟨(show key.size ≤ 2097152 by omega), (show tt.size ≤ 2097152 by omega), (show (⟨#[]⟩ : ByteArray).size ≤ 2097152 by decide), (show (⟨#[]⟩ : ByteArray).size ≤ 2097152 by decide)⟩
      have hrt := fun W (h : Ext w W) => RuleText_any ⟨k, key, tt, ⟨#[]⟩, ⟨#[]⟩⟩ W (hg.ext h) hsm
      have hre2 := fun W (h : Ext w W) => RuleError_any ⟨k, key, tt, ⟨#[]⟩, ⟨#[]⟩⟩ W (hg.ext h) hsm
      have hrl2 : RB.l ⟨k, key, tt, ⟨#[]⟩, ⟨#[]⟩⟩ = (⟨(k : Int), bs key, bs tt, [], []⟩ : Ru) := rfl
      rw [hrl2] at hrt hre2
      have hEQ : readRu (bs s) = endRu (if decide (ruText (⟨(k : Int), bs key, bs tt, [], []⟩ : Ru) ≠ bs s) = true then none else some (⟨(k : Int), bs key, bs tt, [], []⟩ : Ru)) := by rw [HEQ.out]; unfold candC; simp only [if_true, Bool.false_eq_true, if_false, hrl, hkl, htl, Bool.not_true, Bool.false_or, Bool.and_false, if_true, Bool.false_eq_true, if_false]; try rfl
      generalize hQ : (⟨(k : Int), bs key, bs tt, [], []⟩ : Ru) = Q at *
      have hQv : ruX Q = ruV ⟨k, key, tt, ⟨#[]⟩, ⟨#[]⟩⟩ := by rw [← hQ]
      obtain ⟨rt, hrt1, hrt2⟩ : ∃ x : ByteArray, S (ruText Q) = .string x ∧ bs x = ruText Q := ⟨⟨(ruText Q).toArray⟩, rfl, by rw [bs_mk]⟩
      rw [hrt1] at hrt
      rw [← hrt2] at hEQ
      have HEQ2 := Lib.hid hEQ
      clear hQ hrl2 hrt1 hrt2 hEQ
      clear iC iF iZ sC sF sZ rC rF rZ
      have iC := bI.cell; have iF := bI.free; have iZ := bI.lt
      have sC := bS.cell; have sF := bS.free; have sZ := bS.lt
      have rC := bR.cell; have rF := bR.free; have rZ := bR.lt
      go_wp2_with fail
      refine (hrt _ (hxw1.trans hx1w)).mono ?_
      rintro e wt ⟨rfl, hxt⟩
      clear hrt
      replace bI := bI.ext hxt
      replace bS := bS.ext hxt
      replace bR := bR.ext hxt
      replace hx1w := hx1w.trans hxt
      clear hxt
      clear iC iF iZ sC sF sZ rC rF rZ
      have iC := bI.cell; have iF := bI.free; have iZ := bI.lt
      have sC := bS.cell; have sF := bS.free; have sZ := bS.lt
      have rC := bR.cell; have rF := bR.free; have rZ := bR.lt
      by_cases hsame : bs rt = bs s
      rotate_left
      · have hb : (rt.toList == s.toList) = false := by rw [eqE, decide_eq_false hsame]
        have hn : readRu (bs s) = (zeroR, 8) := by rw [HEQ2.out, if_pos (decide_eq_true hsame)]; rfl
        have HN := Lib.hid hn
        clear hn hsame
        have bP := bP1.ext hx1w
        have cP := bP.cell; have fP := bP.free; have zP := bP.lt
        have hxw := hxw1.trans hx1w
        go_wp2
        exact bodyPost_ret (v := .tuple #[ruX zeroR, .int .i64 8]) (by simp [results, Tryz.results20, go_sem, cP, zeroR]) rfl ⟨by rw [HN.out], (by repeat (first | with_reducible exact Ext.refl _ | with_reducible assumption | with_reducible apply Ext.drewN | with_reducible apply Ext.drew | with_reducible apply Ext.alloc | ((with_reducible refine Ext.setCell ?_ ?_ _); rotate_left; (first | (dsimp only; omega) | (simp; omega) | skip)) | exact Ext.refl _ | assumption | apply Ext.drewN | apply Ext.drew | apply Ext.alloc | refine Ext.setCell ?_ (by first | (dsimp only; omega) | (simp; omega)) _))⟩
      have hb : (rt.toList == s.toList) = true := by rw [eqE, decide_eq_true hsame]
      have hS2 : readRu (bs s) = endRu (some Q) := by rw [HEQ2.out, if_neg (by simp [hsame])]
      have HS2 := Lib.hid hS2
      clear hS2 hsame
      go_wp2_with fail
      refine (hre2 _ (hxw1.trans hx1w)).mono ?_
      rintro e wz ⟨rfl, hxz⟩
      clear hre2
      replace bI := bI.ext hxz
      replace bS := bS.ext hxz
      replace bR := bR.ext hxz
      replace hx1w := hx1w.trans hxz
      clear hxz
      clear iC iF iZ sC sF sZ rC rF rZ
      have iC := bI.cell; have iF := bI.free; have iZ := bI.lt
      have sC := bS.cell; have sF := bS.free; have sZ := bS.lt
      have rC := bR.cell; have rF := bR.free; have rZ := bR.lt
      by_cases h0 : ruErr Q = 0
      · have hres : readRu (bs s) = (Q, 0) := by rw [HS2.out, endRu, if_neg (by rw [h0]; decide)]
        have HRES := Lib.hid hres
        rw [h0]
        clear hres h0
        have bP := bP1.ext hx1w
        have cP := bP.cell; have fP := bP.free; have zP := bP.lt
        have hxw := hxw1.trans hx1w
        go_wp2
        exact bodyPost_ret (v := .tuple #[ruV ⟨k, key, tt, ⟨#[]⟩, ⟨#[]⟩⟩, .int .i64 0]) (by simp [results, Tryz.results20, go_sem, cP]) rfl ⟨by rw [HRES.out]; dsimp only; rw [hQv], (by repeat (first | with_reducible exact Ext.refl _ | with_reducible assumption | with_reducible apply Ext.drewN | with_reducible apply Ext.drew | with_reducible apply Ext.alloc | ((with_reducible refine Ext.setCell ?_ ?_ _); rotate_left; (first | (dsimp only; omega) | (simp; omega) | skip)) | exact Ext.refl _ | assumption | apply Ext.drewN | apply Ext.drew | apply Ext.alloc | refine Ext.setCell ?_ (by first | (dsimp only; omega) | (simp; omega)) _))⟩
      · have hres : readRu (bs s) = (zeroR, ruErr Q) := by rw [HS2.out, endRu, if_pos h0]
        have HRES := Lib.hid hres
        have hbe : (ruErr Q != 0) = true := by rw [bne_iff_ne]; exact h0
        clear hres h0
        have bP := bP1.ext hx1w
        have cP := bP.cell; have fP := bP.free; have zP := bP.lt
        have hxw := hxw1.trans hx1w
        go_wp2
        exact bodyPost_ret (v := .tuple #[ruX zeroR, .int .i64 (ruErr Q)]) (by simp [results, Tryz.results20, go_sem, cP, zeroR]) rfl ⟨by rw [HRES.out], (by repeat (first | with_reducible exact Ext.refl _ | with_reducible assumption | with_reducible apply Ext.drewN | with_reducible apply Ext.drew | with_reducible apply Ext.alloc | ((with_reducible refine Ext.setCell ?_ ?_ _); rotate_left; (first | (dsimp only; omega) | (simp; omega) | skip)) | exact Ext.refl _ | assumption | apply Ext.drewN | apply Ext.drew | apply Ext.alloc | refine Ext.setCell ?_ (by first | (dsimp only; omega) | (simp; omega)) _))⟩
    · skip
      have iC := bI.cell; have iF := bI.free; have iZ := bI.lt
      have sC := bS.cell; have sF := bS.free; have sZ := bS.lt
      have rC := bR.cell; have rF := bR.free; have rZ := bR.lt
      go_wp2_with fail
      refine (take_skip _ true _ (w1.heap.size + 1 + 1) w1.heap.size (w1.heap.size + 1) _ _ bR (by first | exact .inl rfl | exact .inr rfl)).mono ?_
      rintro e w' ⟨rfl, rfl⟩
      have htk := take_any true (w1.heap.size + 1 + 1) w1.heap.size (w1.heap.size + 1) 4 _ r1 w1 _ hx1w lR lS lI nRS nRI nSI' bR bS bI (.string ⟨#[]⟩) rfl (by omega)
      rw [takeQ_R] at htk
      have hqs := q_size (bs r1)
      generalize hQb : quotedL (bs r1) = Qb at *
      have HTK := Lib.hid htk
      clear htk
      go_wp2_with fail
      refine HTK.out.mono ?_
      rintro e wb ⟨rfl, htk⟩
      cases hTb : takeR true Qb with
      | none =>
        rw [hTb] at htk
        obtain ⟨hx1w, bR, bS, bI⟩ := htk
        clear iC iF iZ sC sF sZ rC rF rZ
        have iC := bI.cell; have iF := bI.free; have iZ := bI.lt
        have sC := bS.cell; have sF := bS.free; have sZ := bS.lt
        have rC := bR.cell; have rF := bR.free; have rZ := bR.lt
        have hn : readRu (bs s) = (zeroR, 8) := by rw [HEQ.out]; unfold candC; simp only [if_true, Bool.false_eq_true, if_false, hQb, hTb]; try rfl
        have HN := Lib.hid hn
        clear hn
        have bP := bP1.ext hx1w
        have cP := bP.cell; have fP := bP.free; have zP := bP.lt
        have hxw := hxw1.trans hx1w
        go_wp2
        exact bodyPost_ret (v := .tuple #[ruX zeroR, .int .i64 8]) (by simp [results, Tryz.results20, go_sem, cP, zeroR]) rfl ⟨by rw [HN.out], (by repeat (first | with_reducible exact Ext.refl _ | with_reducible assumption | with_reducible apply Ext.drewN | with_reducible apply Ext.drew | with_reducible apply Ext.alloc | ((with_reducible refine Ext.setCell ?_ ?_ _); rotate_left; (first | (dsimp only; omega) | (simp; omega) | skip)) | exact Ext.refl _ | assumption | apply Ext.drewN | apply Ext.drew | apply Ext.alloc | refine Ext.setCell ?_ (by first | (dsimp only; omega) | (simp; omega)) _))⟩
      | some y =>
        obtain ⟨vb, zb⟩ := y
        rw [hTb] at htk
        obtain ⟨hx1w, bR, bS, bI⟩ := htk
        have htz := takeR_size hTb
        have hsq := hqs
        rw [bs_length] at hsq
        obtain ⟨Vb, hVb⟩ : ∃ V : ByteArray, V = ⟨vb.toArray⟩ := ⟨_, rfl⟩
        obtain ⟨Zb, hZb⟩ : ∃ Z : ByteArray, Z = ⟨zb.toArray⟩ := ⟨_, rfl⟩
        have hbVb : bs Vb = vb := by rw [hVb, bs_mk]
        have hbZb : bs Zb = zb := by rw [hZb, bs_mk]
        have hsVb : Vb.size ≤ r1.size := by rw [← bs_length, hbVb]; omega
        have hsZb : Zb.size ≤ r1.size := by rw [← bs_length, hbZb]; omega
        rw [show S vb = .string Vb by rw [← hbVb, S_bs]] at bI
        rw [show S zb = .string Zb by rw [← hbZb, S_bs]] at bS
        rw [← hbVb, ← hbZb] at hTb
        clear hVb hZb hbVb hbZb htz hsq hqs
        clear iC iF iZ sC sF sZ rC rF rZ
        have iC := bI.cell; have iF := bI.free; have iZ := bI.lt
        have sC := bS.cell; have sF := bS.free; have sZ := bS.lt
        have rC := bR.cell; have rF := bR.free; have rZ := bR.lt
        rcases Nat.eq_zero_or_pos Zb.size with hrz | hrz
        rotate_left
        · have hre := nemp_bool hrz
          have hrl : (bs Zb).isEmpty = false := by rw [← isE]; exact hre
          have hn : readRu (bs s) = (zeroR, 8) := by rw [HEQ.out]; unfold candC; simp only [if_true, Bool.false_eq_true, if_false, hQb, hTb, hrl, Bool.not_false, Bool.true_or, if_true]; try rfl
          have HN := Lib.hid hn
          clear hn
          have bP := bP1.ext hx1w
          have cP := bP.cell; have fP := bP.free; have zP := bP.lt
          have hxw := hxw1.trans hx1w
          go_wp2
          exact bodyPost_ret (v := .tuple #[ruX zeroR, .int .i64 8]) (by simp [results, Tryz.results20, go_sem, cP, zeroR]) rfl ⟨by rw [HN.out], (by repeat (first | with_reducible exact Ext.refl _ | with_reducible assumption | with_reducible apply Ext.drewN | with_reducible apply Ext.drew | with_reducible apply Ext.alloc | ((with_reducible refine Ext.setCell ?_ ?_ _); rotate_left; (first | (dsimp only; omega) | (simp; omega) | skip)) | exact Ext.refl _ | assumption | apply Ext.drewN | apply Ext.drew | apply Ext.alloc | refine Ext.setCell ?_ (by first | (dsimp only; omega) | (simp; omega)) _))⟩
        have hre := emp_bool hrz
        have hrl : (bs Zb).isEmpty = true := by rw [bs_nil hrz]; rfl
        rcases Nat.eq_zero_or_pos key.size with hkz | hkz
        · have hke := emp_bool hkz
          have hkl : (bs key).isEmpty = true := by rw [bs_nil hkz]; rfl
          have hn : readRu (bs s) = (zeroR, 8) := by rw [HEQ.out]; unfold candC; simp only [if_true, Bool.false_eq_true, if_false, hQb, hTb, hrl, hkl, Bool.true_or, Bool.or_true, if_true, Bool.not_true]; try rfl
          have HN := Lib.hid hn
          clear hn
          have bP := bP1.ext hx1w
          have cP := bP.cell; have fP := bP.free; have zP := bP.lt
          have hxw := hxw1.trans hx1w
          go_wp2
          exact bodyPost_ret (v := .tuple #[ruX zeroR, .int .i64 8]) (by simp [results, Tryz.results20, go_sem, cP, zeroR]) rfl ⟨by rw [HN.out], (by repeat (first | with_reducible exact Ext.refl _ | with_reducible assumption | with_reducible apply Ext.drewN | with_reducible apply Ext.drew | with_reducible apply Ext.alloc | ((with_reducible refine Ext.setCell ?_ ?_ _); rotate_left; (first | (dsimp only; omega) | (simp; omega) | skip)) | exact Ext.refl _ | assumption | apply Ext.drewN | apply Ext.drew | apply Ext.alloc | refine Ext.setCell ?_ (by first | (dsimp only; omega) | (simp; omega)) _))⟩
        have hke := nemp_bool hkz
        have hkl : (bs key).isEmpty = false := by rw [← isE]; exact hke
        have hsm : SmallR ⟨k, key, ⟨#[]⟩, ⟨#[]⟩, Vb⟩ := ⟨(show key.size ≤ 2097152 by omega), (show (⟨#[]⟩ : ByteArray).size ≤ 2097152 by decide), (show (⟨#[]⟩ : ByteArray).size ≤ 2097152 by decide), (show Vb.size ≤ 2097152 by omega)⟩
        have hrt := fun W (h : Ext w W) => RuleText_any ⟨k, key, ⟨#[]⟩, ⟨#[]⟩, Vb⟩ W (hg.ext h) hsm
        have hre2 := fun W (h : Ext w W) => RuleError_any ⟨k, key, ⟨#[]⟩, ⟨#[]⟩, Vb⟩ W (hg.ext h) hsm
        have hrl2 : RB.l ⟨k, key, ⟨#[]⟩, ⟨#[]⟩, Vb⟩ = (⟨(k : Int), bs key, [], [], bs Vb⟩ : Ru) := rfl
        rw [hrl2] at hrt hre2
        have hEQ : readRu (bs s) = endRu (if decide (ruText (⟨(k : Int), bs key, [], [], bs Vb⟩ : Ru) ≠ bs s) = true then none else some (⟨(k : Int), bs key, [], [], bs Vb⟩ : Ru)) := by rw [HEQ.out]; unfold candC; simp only [if_true, Bool.false_eq_true, if_false, hQb, hTb, hrl, hkl, Bool.not_true, Bool.false_or, Bool.false_and, if_true, Bool.false_eq_true, if_false]; try rfl
        generalize hQ : (⟨(k : Int), bs key, [], [], bs Vb⟩ : Ru) = Q at *
        have hQv : ruX Q = ruV ⟨k, key, ⟨#[]⟩, ⟨#[]⟩, Vb⟩ := by rw [← hQ]
        obtain ⟨rt, hrt1, hrt2⟩ : ∃ x : ByteArray, S (ruText Q) = .string x ∧ bs x = ruText Q := ⟨⟨(ruText Q).toArray⟩, rfl, by rw [bs_mk]⟩
        rw [hrt1] at hrt
        rw [← hrt2] at hEQ
        have HEQ2 := Lib.hid hEQ
        clear hQ hrl2 hrt1 hrt2 hEQ
        clear iC iF iZ sC sF sZ rC rF rZ
        have iC := bI.cell; have iF := bI.free; have iZ := bI.lt
        have sC := bS.cell; have sF := bS.free; have sZ := bS.lt
        have rC := bR.cell; have rF := bR.free; have rZ := bR.lt
        go_wp2_with fail
        refine (hrt _ (hxw1.trans hx1w)).mono ?_
        rintro e wt ⟨rfl, hxt⟩
        clear hrt
        replace bI := bI.ext hxt
        replace bS := bS.ext hxt
        replace bR := bR.ext hxt
        replace hx1w := hx1w.trans hxt
        clear hxt
        clear iC iF iZ sC sF sZ rC rF rZ
        have iC := bI.cell; have iF := bI.free; have iZ := bI.lt
        have sC := bS.cell; have sF := bS.free; have sZ := bS.lt
        have rC := bR.cell; have rF := bR.free; have rZ := bR.lt
        by_cases hsame : bs rt = bs s
        rotate_left
        · have hb : (rt.toList == s.toList) = false := by rw [eqE, decide_eq_false hsame]
          have hn : readRu (bs s) = (zeroR, 8) := by rw [HEQ2.out, if_pos (decide_eq_true hsame)]; rfl
          have HN := Lib.hid hn
          clear hn hsame
          have bP := bP1.ext hx1w
          have cP := bP.cell; have fP := bP.free; have zP := bP.lt
          have hxw := hxw1.trans hx1w
          go_wp2
          exact bodyPost_ret (v := .tuple #[ruX zeroR, .int .i64 8]) (by simp [results, Tryz.results20, go_sem, cP, zeroR]) rfl ⟨by rw [HN.out], (by repeat (first | with_reducible exact Ext.refl _ | with_reducible assumption | with_reducible apply Ext.drewN | with_reducible apply Ext.drew | with_reducible apply Ext.alloc | ((with_reducible refine Ext.setCell ?_ ?_ _); rotate_left; (first | (dsimp only; omega) | (simp; omega) | skip)) | exact Ext.refl _ | assumption | apply Ext.drewN | apply Ext.drew | apply Ext.alloc | refine Ext.setCell ?_ (by first | (dsimp only; omega) | (simp; omega)) _))⟩
        have hb : (rt.toList == s.toList) = true := by rw [eqE, decide_eq_true hsame]
        have hS2 : readRu (bs s) = endRu (some Q) := by rw [HEQ2.out, if_neg (by simp [hsame])]
        have HS2 := Lib.hid hS2
        clear hS2 hsame
        go_wp2_with fail
        refine (hre2 _ (hxw1.trans hx1w)).mono ?_
        rintro e wz ⟨rfl, hxz⟩
        clear hre2
        replace bI := bI.ext hxz
        replace bS := bS.ext hxz
        replace bR := bR.ext hxz
        replace hx1w := hx1w.trans hxz
        clear hxz
        clear iC iF iZ sC sF sZ rC rF rZ
        have iC := bI.cell; have iF := bI.free; have iZ := bI.lt
        have sC := bS.cell; have sF := bS.free; have sZ := bS.lt
        have rC := bR.cell; have rF := bR.free; have rZ := bR.lt
        by_cases h0 : ruErr Q = 0
        · have hres : readRu (bs s) = (Q, 0) := by rw [HS2.out, endRu, if_neg (by rw [h0]; decide)]
          have HRES := Lib.hid hres
          rw [h0]
          clear hres h0
          have bP := bP1.ext hx1w
          have cP := bP.cell; have fP := bP.free; have zP := bP.lt
          have hxw := hxw1.trans hx1w
          go_wp2
          exact bodyPost_ret (v := .tuple #[ruV ⟨k, key, ⟨#[]⟩, ⟨#[]⟩, Vb⟩, .int .i64 0]) (by simp [results, Tryz.results20, go_sem, cP]) rfl ⟨by rw [HRES.out]; dsimp only; rw [hQv], (by repeat (first | with_reducible exact Ext.refl _ | with_reducible assumption | with_reducible apply Ext.drewN | with_reducible apply Ext.drew | with_reducible apply Ext.alloc | ((with_reducible refine Ext.setCell ?_ ?_ _); rotate_left; (first | (dsimp only; omega) | (simp; omega) | skip)) | exact Ext.refl _ | assumption | apply Ext.drewN | apply Ext.drew | apply Ext.alloc | refine Ext.setCell ?_ (by first | (dsimp only; omega) | (simp; omega)) _))⟩
        · have hres : readRu (bs s) = (zeroR, ruErr Q) := by rw [HS2.out, endRu, if_pos h0]
          have HRES := Lib.hid hres
          have hbe : (ruErr Q != 0) = true := by rw [bne_iff_ne]; exact h0
          clear hres h0
          have bP := bP1.ext hx1w
          have cP := bP.cell; have fP := bP.free; have zP := bP.lt
          have hxw := hxw1.trans hx1w
          go_wp2
          exact bodyPost_ret (v := .tuple #[ruX zeroR, .int .i64 (ruErr Q)]) (by simp [results, Tryz.results20, go_sem, cP, zeroR]) rfl ⟨by rw [HRES.out], (by repeat (first | with_reducible exact Ext.refl _ | with_reducible assumption | with_reducible apply Ext.drewN | with_reducible apply Ext.drew | with_reducible apply Ext.alloc | ((with_reducible refine Ext.setCell ?_ ?_ _); rotate_left; (first | (dsimp only; omega) | (simp; omega) | skip)) | exact Ext.refl _ | assumption | apply Ext.drewN | apply Ext.drew | apply Ext.alloc | refine Ext.setCell ?_ (by first | (dsimp only; omega) | (simp; omega)) _))⟩
    · skip
      have iC := bI.cell; have iF := bI.free; have iZ := bI.lt
      have sC := bS.cell; have sF := bS.free; have sZ := bS.lt
      have rC := bR.cell; have rF := bR.free; have rZ := bR.lt
      go_wp2_with fail
      refine (take_skip _ true _ (w1.heap.size + 1 + 1) w1.heap.size (w1.heap.size + 1) _ _ bR (by first | exact .inl rfl | exact .inr rfl)).mono ?_
      rintro e w' ⟨rfl, rfl⟩
      go_wp2_with fail
      refine (take_skip _ true _ (w1.heap.size + 1 + 1) w1.heap.size (w1.heap.size + 1) _ _ bR (by first | exact .inl rfl | exact .inr rfl)).mono ?_
      rintro e w' ⟨rfl, rfl⟩
      rcases Nat.eq_zero_or_pos r1.size with hrz | hrz
      rotate_left
      · have hre := nemp_bool hrz
        have hrl : (bs r1).isEmpty = false := by rw [← isE]; exact hre
        have hn : readRu (bs s) = (zeroR, 8) := by rw [HEQ.out]; unfold candC; simp only [if_true, Bool.false_eq_true, if_false, hrl, Bool.not_false, Bool.true_or, if_true]; try rfl
        have HN := Lib.hid hn
        clear hn
        have bP := bP1.ext hx1w
        have cP := bP.cell; have fP := bP.free; have zP := bP.lt
        have hxw := hxw1.trans hx1w
        go_wp2
        exact bodyPost_ret (v := .tuple #[ruX zeroR, .int .i64 8]) (by simp [results, Tryz.results20, go_sem, cP, zeroR]) rfl ⟨by rw [HN.out], (by repeat (first | with_reducible exact Ext.refl _ | with_reducible assumption | with_reducible apply Ext.drewN | with_reducible apply Ext.drew | with_reducible apply Ext.alloc | ((with_reducible refine Ext.setCell ?_ ?_ _); rotate_left; (first | (dsimp only; omega) | (simp; omega) | skip)) | exact Ext.refl _ | assumption | apply Ext.drewN | apply Ext.drew | apply Ext.alloc | refine Ext.setCell ?_ (by first | (dsimp only; omega) | (simp; omega)) _))⟩
      have hre := emp_bool hrz
      have hrl : (bs r1).isEmpty = true := by rw [bs_nil hrz]; rfl
      rcases Nat.eq_zero_or_pos key.size with hkz | hkz
      · have hke := emp_bool hkz
        have hkl : (bs key).isEmpty = true := by rw [bs_nil hkz]; rfl
        have hn : readRu (bs s) = (zeroR, 8) := by rw [HEQ.out]; unfold candC; simp only [if_true, Bool.false_eq_true, if_false, hrl, hkl, Bool.true_or, Bool.or_true, if_true, Bool.not_true]; try rfl
        have HN := Lib.hid hn
        clear hn
        have bP := bP1.ext hx1w
        have cP := bP.cell; have fP := bP.free; have zP := bP.lt
        have hxw := hxw1.trans hx1w
        go_wp2
        exact bodyPost_ret (v := .tuple #[ruX zeroR, .int .i64 8]) (by simp [results, Tryz.results20, go_sem, cP, zeroR]) rfl ⟨by rw [HN.out], (by repeat (first | with_reducible exact Ext.refl _ | with_reducible assumption | with_reducible apply Ext.drewN | with_reducible apply Ext.drew | with_reducible apply Ext.alloc | ((with_reducible refine Ext.setCell ?_ ?_ _); rotate_left; (first | (dsimp only; omega) | (simp; omega) | skip)) | exact Ext.refl _ | assumption | apply Ext.drewN | apply Ext.drew | apply Ext.alloc | refine Ext.setCell ?_ (by first | (dsimp only; omega) | (simp; omega)) _))⟩
      have hke := nemp_bool hkz
      have hkl : (bs key).isEmpty = false := by rw [← isE]; exact hke
      have hsm : SmallR ⟨k, key, ⟨#[]⟩, ⟨#[]⟩, ⟨#[]⟩⟩ := ⟨(show key.size ≤ 2097152 by omega), (show (⟨#[]⟩ : ByteArray).size ≤ 2097152 by decide), (show (⟨#[]⟩ : ByteArray).size ≤ 2097152 by decide), (show (⟨#[]⟩ : ByteArray).size ≤ 2097152 by decide)⟩
      have hrt := fun W (h : Ext w W) => RuleText_any ⟨k, key, ⟨#[]⟩, ⟨#[]⟩, ⟨#[]⟩⟩ W (hg.ext h) hsm
      have hre2 := fun W (h : Ext w W) => RuleError_any ⟨k, key, ⟨#[]⟩, ⟨#[]⟩, ⟨#[]⟩⟩ W (hg.ext h) hsm
      have hrl2 : RB.l ⟨k, key, ⟨#[]⟩, ⟨#[]⟩, ⟨#[]⟩⟩ = (⟨(k : Int), bs key, [], [], []⟩ : Ru) := rfl
      rw [hrl2] at hrt hre2
      have hEQ : readRu (bs s) = endRu (if decide (ruText (⟨(k : Int), bs key, [], [], []⟩ : Ru) ≠ bs s) = true then none else some (⟨(k : Int), bs key, [], [], []⟩ : Ru)) := by rw [HEQ.out]; unfold candC; simp only [Bool.false_eq_true, if_false, hrl, hkl, Bool.not_true, Bool.false_or, Bool.false_and, Bool.false_eq_true, if_false]; try rfl
      generalize hQ : (⟨(k : Int), bs key, [], [], []⟩ : Ru) = Q at *
      have hQv : ruX Q = ruV ⟨k, key, ⟨#[]⟩, ⟨#[]⟩, ⟨#[]⟩⟩ := by rw [← hQ]
      obtain ⟨rt, hrt1, hrt2⟩ : ∃ x : ByteArray, S (ruText Q) = .string x ∧ bs x = ruText Q := ⟨⟨(ruText Q).toArray⟩, rfl, by rw [bs_mk]⟩
      rw [hrt1] at hrt
      rw [← hrt2] at hEQ
      have HEQ2 := Lib.hid hEQ
      clear hQ hrl2 hrt1 hrt2 hEQ
      clear iC iF iZ sC sF sZ rC rF rZ
      have iC := bI.cell; have iF := bI.free; have iZ := bI.lt
      have sC := bS.cell; have sF := bS.free; have sZ := bS.lt
      have rC := bR.cell; have rF := bR.free; have rZ := bR.lt
      go_wp2_with fail
      refine (hrt _ (hxw1.trans hx1w)).mono ?_
      rintro e wt ⟨rfl, hxt⟩
      clear hrt
      replace bI := bI.ext hxt
      replace bS := bS.ext hxt
      replace bR := bR.ext hxt
      replace hx1w := hx1w.trans hxt
      clear hxt
      clear iC iF iZ sC sF sZ rC rF rZ
      have iC := bI.cell; have iF := bI.free; have iZ := bI.lt
      have sC := bS.cell; have sF := bS.free; have sZ := bS.lt
      have rC := bR.cell; have rF := bR.free; have rZ := bR.lt
      by_cases hsame : bs rt = bs s
      rotate_left
      · have hb : (rt.toList == s.toList) = false := by rw [eqE, decide_eq_false hsame]
        have hn : readRu (bs s) = (zeroR, 8) := by rw [HEQ2.out, if_pos (decide_eq_true hsame)]; rfl
        have HN := Lib.hid hn
        clear hn hsame
        have bP := bP1.ext hx1w
        have cP := bP.cell; have fP := bP.free; have zP := bP.lt
        have hxw := hxw1.trans hx1w
        go_wp2
        exact bodyPost_ret (v := .tuple #[ruX zeroR, .int .i64 8]) (by simp [results, Tryz.results20, go_sem, cP, zeroR]) rfl ⟨by rw [HN.out], (by repeat (first | with_reducible exact Ext.refl _ | with_reducible assumption | with_reducible apply Ext.drewN | with_reducible apply Ext.drew | with_reducible apply Ext.alloc | ((with_reducible refine Ext.setCell ?_ ?_ _); rotate_left; (first | (dsimp only; omega) | (simp; omega) | skip)) | exact Ext.refl _ | assumption | apply Ext.drewN | apply Ext.drew | apply Ext.alloc | refine Ext.setCell ?_ (by first | (dsimp only; omega) | (simp; omega)) _))⟩
      have hb : (rt.toList == s.toList) = true := by rw [eqE, decide_eq_true hsame]
      have hS2 : readRu (bs s) = endRu (some Q) := by rw [HEQ2.out, if_neg (by simp [hsame])]
      have HS2 := Lib.hid hS2
      clear hS2 hsame
      go_wp2_with fail
      refine (hre2 _ (hxw1.trans hx1w)).mono ?_
      rintro e wz ⟨rfl, hxz⟩
      clear hre2
      replace bI := bI.ext hxz
      replace bS := bS.ext hxz
      replace bR := bR.ext hxz
      replace hx1w := hx1w.trans hxz
      clear hxz
      clear iC iF iZ sC sF sZ rC rF rZ
      have iC := bI.cell; have iF := bI.free; have iZ := bI.lt
      have sC := bS.cell; have sF := bS.free; have sZ := bS.lt
      have rC := bR.cell; have rF := bR.free; have rZ := bR.lt
      by_cases h0 : ruErr Q = 0
      · have hres : readRu (bs s) = (Q, 0) := by rw [HS2.out, endRu, if_neg (by rw [h0]; decide)]
        have HRES := Lib.hid hres
        rw [h0]
        clear hres h0
        have bP := bP1.ext hx1w
        have cP := bP.cell; have fP := bP.free; have zP := bP.lt
        have hxw := hxw1.trans hx1w
        go_wp2
        exact bodyPost_ret (v := .tuple #[ruV ⟨k, key, ⟨#[]⟩, ⟨#[]⟩, ⟨#[]⟩⟩, .int .i64 0]) (by simp [results, Tryz.results20, go_sem, cP]) rfl ⟨by rw [HRES.out]; dsimp only; rw [hQv], (by repeat (first | with_reducible exact Ext.refl _ | with_reducible assumption | with_reducible apply Ext.drewN | with_reducible apply Ext.drew | with_reducible apply Ext.alloc | ((with_reducible refine Ext.setCell ?_ ?_ _); rotate_left; (first | (dsimp only; omega) | (simp; omega) | skip)) | exact Ext.refl _ | assumption | apply Ext.drewN | apply Ext.drew | apply Ext.alloc | refine Ext.setCell ?_ (by first | (dsimp only; omega) | (simp; omega)) _))⟩
      · have hres : readRu (bs s) = (zeroR, ruErr Q) := by rw [HS2.out, endRu, if_pos h0]
        have HRES := Lib.hid hres
        have hbe : (ruErr Q != 0) = true := by rw [bne_iff_ne]; exact h0
        clear hres h0
        have bP := bP1.ext hx1w
        have cP := bP.cell; have fP := bP.free; have zP := bP.lt
        have hxw := hxw1.trans hx1w
        go_wp2
        exact bodyPost_ret (v := .tuple #[ruX zeroR, .int .i64 (ruErr Q)]) (by simp [results, Tryz.results20, go_sem, cP, zeroR]) rfl ⟨by rw [HRES.out], (by repeat (first | with_reducible exact Ext.refl _ | with_reducible assumption | with_reducible apply Ext.drewN | with_reducible apply Ext.drew | with_reducible apply Ext.alloc | ((with_reducible refine Ext.setCell ?_ ?_ _); rotate_left; (first | (dsimp only; omega) | (simp; omega) | skip)) | exact Ext.refl _ | assumption | apply Ext.drewN | apply Ext.drew | apply Ext.alloc | refine Ext.setCell ?_ (by first | (dsimp only; omega) | (simp; omega)) _))⟩
    · skip
      have iC := bI.cell; have iF := bI.free; have iZ := bI.lt
      have sC := bS.cell; have sF := bS.free; have sZ := bS.lt
      have rC := bR.cell; have rF := bR.free; have rZ := bR.lt
      have htk := take_any false (w1.heap.size + 1 + 1) w1.heap.size (w1.heap.size + 1) 3 _ r1 w1 _ hx1w lR lS lI nRS nRI nSI' bR bS bI (.string ⟨#[]⟩) rfl (by omega)
      rw [takeQ_R] at htk
      have hqs := q_size (bs r1)
      generalize hQb : quotedL (bs r1) = Qb at *
      have HTK := Lib.hid htk
      clear htk
      go_wp2_with fail
      refine HTK.out.mono ?_
      rintro e wb ⟨rfl, htk⟩
      cases hTb : takeR false Qb with
      | none =>
        rw [hTb] at htk
        obtain ⟨hx1w, bR, bS, bI⟩ := htk
        clear iC iF iZ sC sF sZ rC rF rZ
        have iC := bI.cell; have iF := bI.free; have iZ := bI.lt
        have sC := bS.cell; have sF := bS.free; have sZ := bS.lt
        have rC := bR.cell; have rF := bR.free; have rZ := bR.lt
        go_wp2_with fail
        refine (take_skip _ false _ (w1.heap.size + 1 + 1) w1.heap.size (w1.heap.size + 1) _ _ bR (by first | exact .inl rfl | exact .inr rfl)).mono ?_
        rintro e w' ⟨rfl, rfl⟩
        have hn : readRu (bs s) = (zeroR, 8) := by rw [HEQ.out]; unfold candC; simp only [if_true, Bool.false_eq_true, if_false, hQb, hTb]; try rfl
        have HN := Lib.hid hn
        clear hn
        have bP := bP1.ext hx1w
        have cP := bP.cell; have fP := bP.free; have zP := bP.lt
        have hxw := hxw1.trans hx1w
        go_wp2
        exact bodyPost_ret (v := .tuple #[ruX zeroR, .int .i64 8]) (by simp [results, Tryz.results20, go_sem, cP, zeroR]) rfl ⟨by rw [HN.out], (by repeat (first | with_reducible exact Ext.refl _ | with_reducible assumption | with_reducible apply Ext.drewN | with_reducible apply Ext.drew | with_reducible apply Ext.alloc | ((with_reducible refine Ext.setCell ?_ ?_ _); rotate_left; (first | (dsimp only; omega) | (simp; omega) | skip)) | exact Ext.refl _ | assumption | apply Ext.drewN | apply Ext.drew | apply Ext.alloc | refine Ext.setCell ?_ (by first | (dsimp only; omega) | (simp; omega)) _))⟩
      | some y =>
        obtain ⟨vb, zb⟩ := y
        rw [hTb] at htk
        obtain ⟨hx1w, bR, bS, bI⟩ := htk
        have htz := takeR_size hTb
        have hsq := hqs
        rw [bs_length] at hsq
        obtain ⟨Vb, hVb⟩ : ∃ V : ByteArray, V = ⟨vb.toArray⟩ := ⟨_, rfl⟩
        obtain ⟨Zb, hZb⟩ : ∃ Z : ByteArray, Z = ⟨zb.toArray⟩ := ⟨_, rfl⟩
        have hbVb : bs Vb = vb := by rw [hVb, bs_mk]
        have hbZb : bs Zb = zb := by rw [hZb, bs_mk]
        have hsVb : Vb.size ≤ r1.size := by rw [← bs_length, hbVb]; omega
        have hsZb : Zb.size ≤ r1.size := by rw [← bs_length, hbZb]; omega
        rw [show S vb = .string Vb by rw [← hbVb, S_bs]] at bI
        rw [show S zb = .string Zb by rw [← hbZb, S_bs]] at bS
        rw [← hbVb, ← hbZb] at hTb
        clear hVb hZb hbVb hbZb htz hsq hqs
        clear iC iF iZ sC sF sZ rC rF rZ
        have iC := bI.cell; have iF := bI.free; have iZ := bI.lt
        have sC := bS.cell; have sF := bS.free; have sZ := bS.lt
        have rC := bR.cell; have rF := bR.free; have rZ := bR.lt
        have htk := take_any true (w1.heap.size + 1 + 1) w1.heap.size (w1.heap.size + 1) 4 _ Zb w1 _ hx1w lR lS lI nRS nRI nSI' bR bS bI (.string ⟨#[]⟩) rfl (by omega)
        rw [takeQ_R] at htk
        have hqs := q_size (bs Zb)
        generalize hQc : quotedL (bs Zb) = Qc at *
        have HTK := Lib.hid htk
        clear htk
        go_wp2_with fail
        refine HTK.out.mono ?_
        rintro e wc ⟨rfl, htk⟩
        cases hTc : takeR true Qc with
        | none =>
          rw [hTc] at htk
          obtain ⟨hx1w, bR, bS, bI⟩ := htk
          clear iC iF iZ sC sF sZ rC rF rZ
          have iC := bI.cell; have iF := bI.free; have iZ := bI.lt
          have sC := bS.cell; have sF := bS.free; have sZ := bS.lt
          have rC := bR.cell; have rF := bR.free; have rZ := bR.lt
          have hn : readRu (bs s) = (zeroR, 8) := by rw [HEQ.out]; unfold candC; simp only [if_true, Bool.false_eq_true, if_false, hQb, hTb, hQc, hTc]; try rfl
          have HN := Lib.hid hn
          clear hn
          have bP := bP1.ext hx1w
          have cP := bP.cell; have fP := bP.free; have zP := bP.lt
          have hxw := hxw1.trans hx1w
          go_wp2
          exact bodyPost_ret (v := .tuple #[ruX zeroR, .int .i64 8]) (by simp [results, Tryz.results20, go_sem, cP, zeroR]) rfl ⟨by rw [HN.out], (by repeat (first | with_reducible exact Ext.refl _ | with_reducible assumption | with_reducible apply Ext.drewN | with_reducible apply Ext.drew | with_reducible apply Ext.alloc | ((with_reducible refine Ext.setCell ?_ ?_ _); rotate_left; (first | (dsimp only; omega) | (simp; omega) | skip)) | exact Ext.refl _ | assumption | apply Ext.drewN | apply Ext.drew | apply Ext.alloc | refine Ext.setCell ?_ (by first | (dsimp only; omega) | (simp; omega)) _))⟩
        | some y =>
          obtain ⟨vc, zc⟩ := y
          rw [hTc] at htk
          obtain ⟨hx1w, bR, bS, bI⟩ := htk
          have htz := takeR_size hTc
          have hsq := hqs
          rw [bs_length] at hsq
          obtain ⟨Vc, hVc⟩ : ∃ V : ByteArray, V = ⟨vc.toArray⟩ := ⟨_, rfl⟩
          obtain ⟨Zc, hZc⟩ : ∃ Z : ByteArray, Z = ⟨zc.toArray⟩ := ⟨_, rfl⟩
          have hbVc : bs Vc = vc := by rw [hVc, bs_mk]
          have hbZc : bs Zc = zc := by rw [hZc, bs_mk]
          have hsVc : Vc.size ≤ Zb.size := by rw [← bs_length, hbVc]; omega
          have hsZc : Zc.size ≤ Zb.size := by rw [← bs_length, hbZc]; omega
          rw [show S vc = .string Vc by rw [← hbVc, S_bs]] at bI
          rw [show S zc = .string Zc by rw [← hbZc, S_bs]] at bS
          rw [← hbVc, ← hbZc] at hTc
          clear hVc hZc hbVc hbZc htz hsq hqs
          clear iC iF iZ sC sF sZ rC rF rZ
          have iC := bI.cell; have iF := bI.free; have iZ := bI.lt
          have sC := bS.cell; have sF := bS.free; have sZ := bS.lt
          have rC := bR.cell; have rF := bR.free; have rZ := bR.lt
          rcases Nat.eq_zero_or_pos Zc.size with hrz | hrz
          rotate_left
          · have hre := nemp_bool hrz
            have hrl : (bs Zc).isEmpty = false := by rw [← isE]; exact hre
            have hn : readRu (bs s) = (zeroR, 8) := by rw [HEQ.out]; unfold candC; simp only [if_true, Bool.false_eq_true, if_false, hQb, hTb, hQc, hTc, hrl, Bool.not_false, Bool.true_or, if_true]; try rfl
            have HN := Lib.hid hn
            clear hn
            have bP := bP1.ext hx1w
            have cP := bP.cell; have fP := bP.free; have zP := bP.lt
            have hxw := hxw1.trans hx1w
            go_wp2
            exact bodyPost_ret (v := .tuple #[ruX zeroR, .int .i64 8]) (by simp [results, Tryz.results20, go_sem, cP, zeroR]) rfl ⟨by rw [HN.out], (by repeat (first | with_reducible exact Ext.refl _ | with_reducible assumption | with_reducible apply Ext.drewN | with_reducible apply Ext.drew | with_reducible apply Ext.alloc | ((with_reducible refine Ext.setCell ?_ ?_ _); rotate_left; (first | (dsimp only; omega) | (simp; omega) | skip)) | exact Ext.refl _ | assumption | apply Ext.drewN | apply Ext.drew | apply Ext.alloc | refine Ext.setCell ?_ (by first | (dsimp only; omega) | (simp; omega)) _))⟩
          have hre := emp_bool hrz
          have hrl : (bs Zc).isEmpty = true := by rw [bs_nil hrz]; rfl
          rcases Nat.eq_zero_or_pos key.size with hkz | hkz
          · have hke := emp_bool hkz
            have hkl : (bs key).isEmpty = true := by rw [bs_nil hkz]; rfl
            have hn : readRu (bs s) = (zeroR, 8) := by rw [HEQ.out]; unfold candC; simp only [if_true, Bool.false_eq_true, if_false, hQb, hTb, hQc, hTc, hrl, hkl, Bool.true_or, Bool.or_true, if_true, Bool.not_true]; try rfl
            have HN := Lib.hid hn
            clear hn
            have bP := bP1.ext hx1w
            have cP := bP.cell; have fP := bP.free; have zP := bP.lt
            have hxw := hxw1.trans hx1w
            go_wp2
            exact bodyPost_ret (v := .tuple #[ruX zeroR, .int .i64 8]) (by simp [results, Tryz.results20, go_sem, cP, zeroR]) rfl ⟨by rw [HN.out], (by repeat (first | with_reducible exact Ext.refl _ | with_reducible assumption | with_reducible apply Ext.drewN | with_reducible apply Ext.drew | with_reducible apply Ext.alloc | ((with_reducible refine Ext.setCell ?_ ?_ _); rotate_left; (first | (dsimp only; omega) | (simp; omega) | skip)) | exact Ext.refl _ | assumption | apply Ext.drewN | apply Ext.drew | apply Ext.alloc | refine Ext.setCell ?_ (by first | (dsimp only; omega) | (simp; omega)) _))⟩
          have hke := nemp_bool hkz
          have hkl : (bs key).isEmpty = false := by rw [← isE]; exact hke
          have hsm : SmallR ⟨k, key, ⟨#[]⟩, Vb, Vc⟩ := ⟨(show key.size ≤ 2097152 by omega), (show (⟨#[]⟩ : ByteArray).size ≤ 2097152 by decide), (show Vb.size ≤ 2097152 by omega), (show Vc.size ≤ 2097152 by omega)⟩
          have hrt := fun W (h : Ext w W) => RuleText_any ⟨k, key, ⟨#[]⟩, Vb, Vc⟩ W (hg.ext h) hsm
          have hre2 := fun W (h : Ext w W) => RuleError_any ⟨k, key, ⟨#[]⟩, Vb, Vc⟩ W (hg.ext h) hsm
          have hrl2 : RB.l ⟨k, key, ⟨#[]⟩, Vb, Vc⟩ = (⟨(k : Int), bs key, [], bs Vb, bs Vc⟩ : Ru) := rfl
          rw [hrl2] at hrt hre2
          have hEQ : readRu (bs s) = endRu (if decide (ruText (⟨(k : Int), bs key, [], bs Vb, bs Vc⟩ : Ru) ≠ bs s) = true then none else some (⟨(k : Int), bs key, [], bs Vb, bs Vc⟩ : Ru)) := by rw [HEQ.out]; unfold candC; simp only [if_true, Bool.false_eq_true, if_false, hQb, hTb, hQc, hTc, hrl, hkl, Bool.not_true, Bool.false_or, Bool.false_and, if_true, Bool.false_eq_true, if_false]; try rfl
          generalize hQ : (⟨(k : Int), bs key, [], bs Vb, bs Vc⟩ : Ru) = Q at *
          have hQv : ruX Q = ruV ⟨k, key, ⟨#[]⟩, Vb, Vc⟩ := by rw [← hQ]
          obtain ⟨rt, hrt1, hrt2⟩ : ∃ x : ByteArray, S (ruText Q) = .string x ∧ bs x = ruText Q := ⟨⟨(ruText Q).toArray⟩, rfl, by rw [bs_mk]⟩
          rw [hrt1] at hrt
          rw [← hrt2] at hEQ
          have HEQ2 := Lib.hid hEQ
          clear hQ hrl2 hrt1 hrt2 hEQ
          clear iC iF iZ sC sF sZ rC rF rZ
          have iC := bI.cell; have iF := bI.free; have iZ := bI.lt
          have sC := bS.cell; have sF := bS.free; have sZ := bS.lt
          have rC := bR.cell; have rF := bR.free; have rZ := bR.lt
          go_wp2_with fail
          refine (hrt _ (hxw1.trans hx1w)).mono ?_
          rintro e wt ⟨rfl, hxt⟩
          clear hrt
          replace bI := bI.ext hxt
          replace bS := bS.ext hxt
          replace bR := bR.ext hxt
          replace hx1w := hx1w.trans hxt
          clear hxt
          clear iC iF iZ sC sF sZ rC rF rZ
          have iC := bI.cell; have iF := bI.free; have iZ := bI.lt
          have sC := bS.cell; have sF := bS.free; have sZ := bS.lt
          have rC := bR.cell; have rF := bR.free; have rZ := bR.lt
          by_cases hsame : bs rt = bs s
          rotate_left
          · have hb : (rt.toList == s.toList) = false := by rw [eqE, decide_eq_false hsame]
            have hn : readRu (bs s) = (zeroR, 8) := by rw [HEQ2.out, if_pos (decide_eq_true hsame)]; rfl
            have HN := Lib.hid hn
            clear hn hsame
            have bP := bP1.ext hx1w
            have cP := bP.cell; have fP := bP.free; have zP := bP.lt
            have hxw := hxw1.trans hx1w
            go_wp2
            exact bodyPost_ret (v := .tuple #[ruX zeroR, .int .i64 8]) (by simp [results, Tryz.results20, go_sem, cP, zeroR]) rfl ⟨by rw [HN.out], (by repeat (first | with_reducible exact Ext.refl _ | with_reducible assumption | with_reducible apply Ext.drewN | with_reducible apply Ext.drew | with_reducible apply Ext.alloc | ((with_reducible refine Ext.setCell ?_ ?_ _); rotate_left; (first | (dsimp only; omega) | (simp; omega) | skip)) | exact Ext.refl _ | assumption | apply Ext.drewN | apply Ext.drew | apply Ext.alloc | refine Ext.setCell ?_ (by first | (dsimp only; omega) | (simp; omega)) _))⟩
          have hb : (rt.toList == s.toList) = true := by rw [eqE, decide_eq_true hsame]
          have hS2 : readRu (bs s) = endRu (some Q) := by rw [HEQ2.out, if_neg (by simp [hsame])]
          have HS2 := Lib.hid hS2
          clear hS2 hsame
          go_wp2_with fail
          refine (hre2 _ (hxw1.trans hx1w)).mono ?_
          rintro e wz ⟨rfl, hxz⟩
          clear hre2
          replace bI := bI.ext hxz
          replace bS := bS.ext hxz
          replace bR := bR.ext hxz
          replace hx1w := hx1w.trans hxz
          clear hxz
          clear iC iF iZ sC sF sZ rC rF rZ
          have iC := bI.cell; have iF := bI.free; have iZ := bI.lt
          have sC := bS.cell; have sF := bS.free; have sZ := bS.lt
          have rC := bR.cell; have rF := bR.free; have rZ := bR.lt
          by_cases h0 : ruErr Q = 0
          · have hres : readRu (bs s) = (Q, 0) := by rw [HS2.out, endRu, if_neg (by rw [h0]; decide)]
            have HRES := Lib.hid hres
            rw [h0]
            clear hres h0
            have bP := bP1.ext hx1w
            have cP := bP.cell; have fP := bP.free; have zP := bP.lt
            have hxw := hxw1.trans hx1w
            go_wp2
            exact bodyPost_ret (v := .tuple #[ruV ⟨k, key, ⟨#[]⟩, Vb, Vc⟩, .int .i64 0]) (by simp [results, Tryz.results20, go_sem, cP]) rfl ⟨by rw [HRES.out]; dsimp only; rw [hQv], (by repeat (first | with_reducible exact Ext.refl _ | with_reducible assumption | with_reducible apply Ext.drewN | with_reducible apply Ext.drew | with_reducible apply Ext.alloc | ((with_reducible refine Ext.setCell ?_ ?_ _); rotate_left; (first | (dsimp only; omega) | (simp; omega) | skip)) | exact Ext.refl _ | assumption | apply Ext.drewN | apply Ext.drew | apply Ext.alloc | refine Ext.setCell ?_ (by first | (dsimp only; omega) | (simp; omega)) _))⟩
          · have hres : readRu (bs s) = (zeroR, ruErr Q) := by rw [HS2.out, endRu, if_pos h0]
            have HRES := Lib.hid hres
            have hbe : (ruErr Q != 0) = true := by rw [bne_iff_ne]; exact h0
            clear hres h0
            have bP := bP1.ext hx1w
            have cP := bP.cell; have fP := bP.free; have zP := bP.lt
            have hxw := hxw1.trans hx1w
            go_wp2
            exact bodyPost_ret (v := .tuple #[ruX zeroR, .int .i64 (ruErr Q)]) (by simp [results, Tryz.results20, go_sem, cP, zeroR]) rfl ⟨by rw [HRES.out], (by repeat (first | with_reducible exact Ext.refl _ | with_reducible assumption | with_reducible apply Ext.drewN | with_reducible apply Ext.drew | with_reducible apply Ext.alloc | ((with_reducible refine Ext.setCell ?_ ?_ _); rotate_left; (first | (dsimp only; omega) | (simp; omega) | skip)) | exact Ext.refl _ | assumption | apply Ext.drewN | apply Ext.drew | apply Ext.alloc | refine Ext.setCell ?_ (by first | (dsimp only; omega) | (simp; omega)) _))⟩
end Go.Proofs.YtghhjlcbcojcnaaGreatDoor
