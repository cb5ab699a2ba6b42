/- Contract of outref2.condWords. Contract of the program's reading of conditions, all levels. -/
import Derived.Test.YtncagihilplliaaGreatDoorCr36
import Derived.Test.YtncagihilplliaaGreatDoorCr19
import Derived.Test.YtncagihilplliaaGreatDoorCr32

namespace Go.Proofs.YtncagihilplliaaGreatDoor
open Go.RowKit

theorem info_word : (Tryz.prog.info? 131).map (fun i => (i.zero, i.size, i.bytes)) = some (some (.agg #[.string ⟨#[]⟩, .int .u8 0, .int .i64 0, .string ⟨#[]⟩]), 4, 48) := by kernel_rfl
def wdCells (d : Wd) : List Value := [.string d.t, .int .u8 d.k.toNat, .int .i64 d.a, .string d.v]
def wdRow (l : List Wd) : List Value := (l.map wdCells).flatten
theorem wdRow_snoc (l : List Wd) (d : Wd) : wdRow (l ++ [d]) = wdRow l ++ wdCells d := by simp [wdRow]
theorem wdRow_at : ∀ (l : List Wd) (j : Nat) (h : j < l.length) (i : Nat), i < 4 → (wdRow l)[j * 4 + i]? = (wdCells l[j])[i]?
  | [], j, h, _, _ => absurd h (Nat.not_lt_zero _)
  | d :: l, 0, _, i, hi => by
    show (wdCells d ++ wdRow l)[0 * 4 + i]? = _
    rw [Nat.zero_mul, Nat.zero_add, List.getElem?_append_left (by simpa [wdCells] using hi)]
    rfl
  | d :: l, j + 1, h, i, hi => by
    show (wdCells d ++ wdRow l)[(j + 1) * 4 + i]? = _
    rw [List.getElem?_append_right (by simp [wdCells]; omega)]
    have : (j + 1) * 4 + i - (wdCells d).length = j * 4 + i := by simp [wdCells]; omega
    rw [this, wdRow_at l j (by simpa using h) i hi]
    rfl
theorem wds_of_row {w : World} {B : Nat} {b n cp : Nat} {l : List Wd} (h : w.ownsRow B 131 4 (.slice (some ⟨b, 0, none⟩) n cp) n (wdRow l)) (hn : l.length = n) : WdsAt w b l := by
  have hc : ∀ j (hj : j < l.length) i (hi : i < 4), w.cell? ⟨b, j * 4 + i, none⟩ = (wdCells l[j])[i]? := fun j hj i hi => by
    rw [h.cellAt (j * 4 + i) (by omega), wdRow_at l j hj i hi]
  exact ⟨(h.lt b rfl).2, fun j hj => hc j hj 0 (by omega), fun j hj => hc j hj 1 (by omega), fun j hj => hc j hj 2 (by omega), fun j hj => hc j hj 3 (by omega)⟩
theorem qat_bad {l : Str} {i : Nat} (h : (qat l i).2.2 = false) : (qat l i).1 = [] := by
  unfold qat at h ⊢
  cases hu : unq (l.drop (i + 1)) with
  | none => rfl
  | some x => rw [hu] at h; cases h
theorem special_any (c : UInt8) (w : World) :
    Calls Tryz.prog 131 #[.int .u8 c.toNat] w fun e w' => e = .returned (.bool (!tokB c)) ∧ w = w' := by
  have ht : (!tokB c) = (decide ((c.toNat : Int) = 32) || decide ((c.toNat : Int) = 9) || decide ((c.toNat : Int) = 40) || decide ((c.toNat : Int) = 41) || decide ((c.toNat : Int) = 61) || decide ((c.toNat : Int) = 34)) := by
    have h (n : UInt8) (z : Int) (hz : z = n.toNat) : (c == n) = decide ((c.toNat : Int) = z) := by
      rw [Bool.eq_iff_iff, beq_iff_eq, decide_eq_true_iff, ← UInt8.toNat_inj]; omega
    unfold tokB blankB signB
    rw [h 32 32 rfl, h 9 9 rfl, h 40 40 rfl, h 41 41 rfl, h 61 61 rfl, h 34 34 rfl]
    simp only [Bool.not_and, Bool.not_not, Bool.or_assoc]
  rw [ht]
  have e : ∀ z : Int, ((c.toNat : Int) == z) = decide ((c.toNat : Int) = z) := fun z => ieq _ _
  have e1 := e 32; have e2 := e 9; have e3 := e 40; have e4 := e 41; have e5 := e 61; have e6 := e 34
  clear e ht
  generalize decide ((c.toNat : Int) = 32) = b1 at *
  generalize decide ((c.toNat : Int) = 9) = b2 at *
  generalize decide ((c.toNat : Int) = 40) = b3 at *
  generalize decide ((c.toNat : Int) = 41) = b4 at *
  generalize decide ((c.toNat : Int) = 61) = b5 at *
  generalize decide ((c.toNat : Int) = 34) = b6 at *
  cases b1
  · cases b2
    · cases b3
      · cases b4
        · cases b5
          · cases b6
            all_goals
              go_enter Tryz.func131, Tryz.ntmps131
              go_wp2
              go_ret
              exact ⟨rfl, rfl⟩
          · go_enter Tryz.func131, Tryz.ntmps131
            go_wp2
            go_ret
            exact ⟨rfl, rfl⟩
        · go_enter Tryz.func131, Tryz.ntmps131
          go_wp2
          go_ret
          exact ⟨rfl, rfl⟩
      · go_enter Tryz.func131, Tryz.ntmps131
        go_wp2
        go_ret
        exact ⟨rfl, rfl⟩
    · go_enter Tryz.func131, Tryz.ntmps131
      go_wp2
      go_ret
      exact ⟨rfl, rfl⟩
  · go_enter Tryz.func131, Tryz.ntmps131
    go_wp2
    go_ret
    exact ⟨rfl, rfl⟩
set_option maxRecDepth 100000 in
set_option maxHeartbeats 8000000 in
theorem condWords_any (s : ByteArray) (w : World) (hs : s.size ≤ 2097152) :
    Calls Tryz.prog 90 #[.string s] w fun e w' => ∃ b n cp, e = .returned (.slice (some ⟨b, 0, none⟩) n cp) ∧ (wordsT s 0).length = n ∧ n ≤ cp ∧ w.heap.size ≤ b ∧ WdsAt w' b (wordsT s 0) ∧ Ext w w' := by
  obtain ⟨W, hW⟩ : ∃ W, wordsT s 0 = W := ⟨_, rfl⟩
  rw [hW]
  have HW := Lib.hid hW
  clear hW
  have hwh : w.heap.size ≤ w.heap.size := Nat.le_refl _
  go_enter Tryz.func90, Tryz.ntmps90
  go_wp2
  go_loopw [3, 5] (fun v i' wr => ∃ (i : Nat) (done : List Wd) (N : Nat), i' = .int .i64 i ∧ done.length = N ∧ wr.ownsRow w.heap.size 131 4 v N (wdRow done) ∧ i ≤ s.size ∧ N ≤ i ∧ done ++ wordsT s i = W ∧ Ext w wr) (fun _ i _ => s.size - (intOf i).toNat)
  case atStart => exact ⟨0, [], 0, by go_num, rfl, World.ownsRow_nil _ _ _ _, Nat.zero_le _, Nat.le_refl _, HW.out, Ext.refl _⟩
  case round =>
    obtain ⟨i, done, N, rfl, hN, hown, hi, hNi, hdone, hxr⟩ := hrel
    have HX := Lib.hid hxr
    have hsz := hxr.size
    have HD := Lib.hid hdone
    have HN := Lib.hid hN
    clear hxr hdone hN
    by_cases hlt : i < s.size
    · cases hb : blankB s[i]
      rotate_left
      · have hw := words_blank hlt hb
        have HB := Lib.hid hw
        have hbb : s[i] = 32 ∨ s[i] = 9 := by unfold blankB at hb; simpa using hb
        clear hw hb
        rcases hbb with hc | hc
        · have e1 : ((s[i].toNat : Int) == 32) = true := by rw [hc]; rfl
          clear hc
          go_wp2
          go_roundw
          case rel => exact ⟨i + 1, done, N, by go_num, HN.out, hown, hlt, by omega, by rw [← HB.out]; exact HD.out, HX.out⟩
          case measure => simp [intOf]; omega
        · have e0 : ((s[i].toNat : Int) == 32) = false := by rw [hc]; rfl
          have e1 : ((s[i].toNat : Int) == 9) = true := by rw [hc]; rfl
          clear hc
          go_wp2
          go_roundw
          case rel => exact ⟨i + 1, done, N, by go_num, HN.out, hown, hlt, by omega, by rw [← HB.out]; exact HD.out, HX.out⟩
          case measure => simp [intOf]; omega
      have hbl : ¬ s[i] = 32 ∧ ¬ s[i] = 9 := by unfold blankB at hb; simpa using hb
      have e32 := byte_no hbl.1 32 rfl
      have e9 := byte_no hbl.2 9 rfl
      clear hbl
      by_cases hq : s[i] = 34
      · have e34 : ((s[i].toNat : Int) == 34) = true := by rw [hq]; rfl
        have hns : ¬ signB s[i] = true := by rw [hq]; decide
        have hqa := fun W => quotedAt_any s i W hs (by omega)
        have hwq := words_quote hlt hb hns hq
        have hwb := words_broken hlt hb hns hq
        have hqb := qat_bad (l := bs s) (i := i)
        have hq1 := fun h => Nat.succ_le_of_lt (qat_ge s i h)
        have hq2 := (qat_le s i).1
        clear hns
        generalize qat (bs s) i = Q at *
        obtain ⟨qt, qe, qo⟩ := Q
        dsimp only at hqa hwq hwb hqb hq1 hq2
        have HQA := Lib.hid hqa
        clear hqa hq hb
        cases qo
        · have hqt := hqb rfl
          subst hqt
          have hw := hwb (by decide)
          have HW2 := Lib.hid hw
          clear hw hwb hwq hqb hq1
          go_wp2_with fail
          refine (HQA.out _).mono ?_
          rintro e w' ⟨rfl, rfl⟩
          go_wp2_with (at_builtin; refine wpList_app1 _ _ _ rfl _ _ 126 rfl (.agg #[.string ⟨#[]⟩, .int .u8 0, .int .i64 0, .string ⟨#[]⟩]) 4 48 Tryz.underlying126 info_word rfl (by decide) (by decide) w.heap.size _ N _ rfl hown _ rfl rfl (by simp [Value.oneCell']) (by omega) hsz ?_; intro v' w3 hown3 hx3 _)
          go_roundw
          case rel => exact ⟨s.size, done ++ [badW i], N + 1, by go_num, by rw [List.length_append, HN.out]; rfl, by rw [wdRow_snoc]; exact hown3, Nat.le_refl _, by omega, by rw [words_end (Nat.le_refl _), List.append_assoc]; rw [HW2.out] at HD; exact HD.out, hx3 _ HX.out (Nat.le_refl _)⟩
          case measure => simp [intOf]; omega
        · have hw := hwq rfl
          have hq3 := hq1 rfl
          have HW2 := Lib.hid hw
          clear hw hwb hwq hqb hq1
          go_wp2_with fail
          refine (HQA.out _).mono ?_
          rintro e w' ⟨rfl, rfl⟩
          go_wp2_with (at_builtin; refine wpList_app1 _ _ _ rfl _ _ 126 rfl (.agg #[.string ⟨#[]⟩, .int .u8 0, .int .i64 0, .string ⟨#[]⟩]) 4 48 Tryz.underlying126 info_word rfl (by decide) (by decide) w.heap.size _ N _ rfl hown _ rfl rfl (by simp [Value.oneCell']) (by omega) hsz ?_; intro v' w3 hown3 hx3 _)
          go_roundw
          case rel => exact ⟨qe, done ++ [⟨⟨#[]⟩, 113, i, ⟨qt.toArray⟩⟩], N + 1, by go_num, by rw [List.length_append, HN.out]; rfl, by rw [wdRow_snoc]; exact hown3, hq2, by omega, by rw [List.append_assoc]; rw [HW2.out] at HD; exact HD.out, hx3 _ HX.out (Nat.le_refl _)⟩
          case measure => simp [intOf]; omega
      have e34 := byte_no hq 34 rfl
      have hsp := special_any s[i]
      by_cases hsg : signB s[i] = true
      · have hw := words_sign hlt hb hsg
        have hkb : tokB s[i] = false := by unfold tokB; rw [hsg]; simp
        rw [hkb] at hsp
        have henc := sign_enc hsg
        have HW2 := Lib.hid hw
        have HSP := Lib.hid hsp
        clear hw hkb hsp hsg hq hb
        go_wp2_with fail
        refine (HSP.out _).mono ?_
        rintro e w' ⟨rfl, rfl⟩
        go_wp2_with (at_builtin; refine wpList_app1 _ _ _ rfl _ _ 126 rfl (.agg #[.string ⟨#[]⟩, .int .u8 0, .int .i64 0, .string ⟨#[]⟩]) 4 48 Tryz.underlying126 info_word rfl (by decide) (by decide) w.heap.size _ N _ rfl hown _ rfl rfl (by simp [Value.oneCell']) (by omega) hsz ?_; intro v' w3 hown3 hx3 _)
        go_roundw
        case rel => exact ⟨i + 1, done ++ [⟨⟨#[s[i]]⟩, s[i], i, ⟨#[]⟩⟩], N + 1, by go_num, by rw [List.length_append, HN.out]; rfl, by rw [wdRow_snoc]; exact hown3, hlt, by omega, by rw [List.append_assoc]; rw [HW2.out] at HD; exact HD.out, hx3 _ HX.out (Nat.le_refl _)⟩
        case measure => simp [intOf]; omega
      · have hw := words_word hlt hb hsg hq
        have hkb : tokB s[i] = true := by unfold tokB; rw [hb, (Bool.not_eq_true _).mp hsg]; simpa using hq
        have hrun1 := runN_yes tokB s hlt hkb
        rw [hkb] at hsp
        have hF1 : i + runN tokB ((bs s).drop i) ≤ s.size := run_le tokB s (Nat.le_of_lt hlt)
        have hF2 : i + 1 ≤ i + runN tokB ((bs s).drop i) := by omega
        obtain ⟨F, hF⟩ : ∃ F, i + runN tokB ((bs s).drop i) = F := ⟨_, rfl⟩
        rw [hF] at hw hF1 hF2
        have HW2 := Lib.hid hw
        have HSP := Lib.hid hsp
        have HFF := Lib.hid hF
        clear hw hkb hsp hsg hq hb hrun1 hF
        go_wp2_with fail
        refine (HSP.out _).mono ?_
        rintro e w' ⟨rfl, rfl⟩
        obtain ⟨wo, rfl⟩ : ∃ wo, wo = wr := ⟨_, rfl⟩
        go_wp2
        go_loop [11] (fun k' => ∃ k : Nat, k' = .int .i64 k ∧ i ≤ k ∧ k ≤ s.size ∧ k + runN tokB ((bs s).drop k) = F) (fun k' => s.size - (intOf k').toNat)
        case atStart => exact ⟨i, rfl, Nat.le_refl _, Nat.le_of_lt hlt, HFF.out⟩
        case round =>
          obtain ⟨k, rfl, hik, hks, hrun⟩ := hrel
          have hsk := fun h : k < s.size => special_any s[k]
          by_cases hlk : k < s.size
          · have hsk := hsk hlk
            cases hkb : tokB s[k]
            · have hend := (runN_no tokB s hlk hkb).symm.trans hrun
              subst hend
              rw [hkb] at hsk
              have HSK := Lib.hid hsk
              have hkk : (k : Int) ≤ s.size := by omega
              have hik2 : (i : Int) ≤ k := by omega
              clear hsk hkb hrun HFF
              go_wp2_with fail
              refine (HSK.out _).mono ?_
              rintro e w' ⟨rfl, rfl⟩
              go_wp2_with (at_builtin; refine wpList_app1 _ _ _ rfl _ _ 126 rfl (.agg #[.string ⟨#[]⟩, .int .u8 0, .int .i64 0, .string ⟨#[]⟩]) 4 48 Tryz.underlying126 info_word rfl (by decide) (by decide) w.heap.size _ N _ rfl hown _ rfl rfl (by simp [Value.oneCell']) (by omega) hsz ?_; intro v' w3 hown3 hx3 _)
              go_roundw
              case rel => exact ⟨k, done ++ [⟨s.extract i k, 119, i, ⟨#[]⟩⟩], N + 1, by go_num, by rw [List.length_append, HN.out]; rfl, by rw [wdRow_snoc]; exact hown3, hks, by omega, by rw [List.append_assoc]; rw [HW2.out] at HD; exact HD.out, hx3 _ HX.out (Nat.le_refl _)⟩
              case measure => simp [intOf]; omega
            · have hnx := (runN_yes tokB s hlk hkb).symm.trans hrun
              rw [hkb] at hsk
              have HSK := Lib.hid hsk
              have HNX := Lib.hid hnx
              clear hsk hkb hrun hnx
              go_wp2_with fail
              refine (HSK.out _).mono ?_
              rintro e w' ⟨rfl, rfl⟩
              go_wp2
              go_round
              case rel => exact ⟨k + 1, by go_num, by omega, hlk, HNX.out⟩
              case measure => simp [intOf]; omega
          · have hend := (runN_out tokB s (Nat.le_of_not_lt hlk)).symm.trans hrun
            subst hend
            have hkk : (k : Int) ≤ s.size := by omega
            have hik2 : (i : Int) ≤ k := by omega
            clear hsk hrun HFF
            go_wp2_with (at_builtin; refine wpList_app1 _ _ _ rfl _ _ 126 rfl (.agg #[.string ⟨#[]⟩, .int .u8 0, .int .i64 0, .string ⟨#[]⟩]) 4 48 Tryz.underlying126 info_word rfl (by decide) (by decide) w.heap.size _ N _ rfl hown _ rfl rfl (by simp [Value.oneCell']) (by omega) hsz ?_; intro v' w3 hown3 hx3 _)
            go_roundw
            case rel => exact ⟨k, done ++ [⟨s.extract i k, 119, i, ⟨#[]⟩⟩], N + 1, by go_num, by rw [List.length_append, HN.out]; rfl, by rw [wdRow_snoc]; exact hown3, hks, by omega, by rw [List.append_assoc]; rw [HW2.out] at HD; exact HD.out, hx3 _ HX.out (Nat.le_refl _)⟩
            case measure => simp [intOf]; omega
    · have hrest := words_end (s := s) (Nat.le_of_not_lt hlt)
      have hfull := HD.out
      rw [hrest] at hfull
      have HF := Lib.hid hfull
      clear hrest hfull
      go_wp2_with (at_builtin; refine wpList_app1 _ _ _ rfl _ _ 126 rfl (.agg #[.string ⟨#[]⟩, .int .u8 0, .int .i64 0, .string ⟨#[]⟩]) 4 48 Tryz.underlying126 info_word rfl (by decide) (by decide) w.heap.size _ N _ rfl hown _ rfl rfl (by simp [Value.oneCell']) (by omega) hsz ?_; intro v' w3 hown3 hx3 _)
      obtain ⟨gB, cB, rfl, hgB, hBB, hcB, _⟩ := own_form hown3 (by omega)
      go_ret
      refine ⟨gB, N + 1, cB, rfl, ?_, hcB, hBB, ?_, hx3 _ HX.out (Nat.le_refl _)⟩
      · rw [← HF.out, List.length_append, HN.out]; rfl
      · rw [← HF.out]
        refine wds_of_row (B := w.heap.size) (n := N + 1) (cp := cB) ?_ (by rw [List.length_append, HN.out]; rfl)
        rw [wdRow_snoc]
        exact hown3
end Go.Proofs.YtncagihilplliaaGreatDoor

namespace Go.Proofs.YtncagihilplliaaGreatDoor
open Go.RowKit

theorem cond_all (g : Nat) (s : ByteArray) (hs : s.size ≤ 2097152) : ∀ (n lev : Nat), lev + n = 100 → ∀ (σ : St) (w : World), Rd w g s σ → OkS s σ →
    Calls Tryz.prog 87 #[.pointer (some ⟨g, 0, none⟩), .int .i64 lev] w (CdPost g s w (condF s n σ))
  | 0, lev, hl, σ, w, h, ho => by
    obtain rfl : lev = 100 := by omega
    exact cond_step g s hs 100 none (Nat.le_refl _) (fun _ => rfl) (fun f e => by cases e) (fun τ W hr _ => list_none g s τ W hr) (fun f e => by cases e) σ w h ho
  | n + 1, lev, hl, σ, w, h, ho => by
    have ih := cond_all g s hs n (lev + 1) (by omega)
    exact cond_step g s hs lev (some (condF s n)) (by omega) (fun e => by cases e) (fun f _ => by omega)
      (fun τ W hr hok => list_some g s hs lev (by omega) n ih τ W hr hok) (fun f e => by cases e; exact ih) σ w h ho
end Go.Proofs.YtncagihilplliaaGreatDoor
