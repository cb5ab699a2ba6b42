/- Plain law: what ver.PrintRange writes, ver.ParseRange reads back. -/
import Derived.Test.YtncagihilplliaaGreatDoorRngL
namespace Go.Proofs.YtncagihilplliaaGreatDoor

/-! ### Cutting a joined text -/
theorem occ_false {a r : Str} (ha : (44 : UInt8) ∉ a) {j : Nat} (hj : j < a.length) : Lib.occAt (a ++ r) [44, 32] j = false := by
  cases h : Lib.occAt (a ++ r) [44, 32] j
  · rfl
  · have h1 := Lib.occAt_head (c := 44) (t := [32]) rfl h
    rw [List.getElem?_append_left hj, List.getElem?_eq_getElem hj] at h1
    injection h1 with h1
    exact absurd (h1 ▸ List.getElem_mem hj) ha
theorem index_sep (a r : Str) (ha : (44 : UInt8) ∉ a) : Lib.index (a ++ 44 :: 32 :: r) [44, 32] = a.length := by
  refine Lib.index_first (by simp) ?_ (fun j hj => occ_false ha hj)
  simp [Lib.occAt]
theorem index_nosep (a : Str) (ha : (44 : UInt8) ∉ a) : Lib.index a [44, 32] = -1 := by
  refine Lib.index_none fun j _ => ?_
  cases h : Lib.occAt a [44, 32] j
  · rfl
  · have h1 := Lib.occAt_head (c := 44) (t := [32]) rfl h
    exact absurd (List.mem_of_getElem? h1) ha
theorem joinTail_cons (sep y : Str) (r : List Str) : Lib.joinTail sep (y :: r) = sep ++ y ++ Lib.joinTail sep r := by simp [Lib.joinTail]
theorem split_join : ∀ (r : List Str) (x : Str), (∀ p ∈ x :: r, (44 : UInt8) ∉ p) → Lib.split (Lib.join (x :: r) [44, 32]) [44, 32] = x :: r
  | [], x, h => by
    have hx := index_nosep x (h x (by simp))
    rw [Lib.join_one]
    unfold Lib.split
    rw [Lib.count_miss hx]
    rfl
  | y :: r, x, h => by
    have ih := split_join r y (fun p hp => h p (List.mem_cons_of_mem _ hp))
    have hj : Lib.join (x :: y :: r) [44, 32] = x ++ 44 :: 32 :: Lib.join (y :: r) [44, 32] := by
      rw [Lib.join_cons, joinTail_cons, Lib.join_cons]; simp
    rw [hj]
    generalize Lib.join (y :: r) [44, 32] = t at *
    have hi := index_sep x t (h x (by simp))
    have hd : (x ++ 44 :: 32 :: t).drop (x.length + ([44, 32] : Str).length) = t := by
      rw [← List.drop_drop]
      simp
    unfold Lib.split at ih ⊢
    rw [Lib.count_hit (by simp) hi, hd, Nat.add_comm, Lib.splitK, hi]
    rw [if_neg (by rw [beq_iff_eq]; omega)]
    rw [Int.toNat_natCast, hd, ih]
    congr 1
    simp

/-! ### The signs of a version's text -/
theorem mem_splitC (c d : UInt8) : ∀ l : Str, d ∈ l → d = c ∨ ∃ p ∈ splitC c l, d ∈ p
  | [], h => by cases h
  | x :: r, h => by
    unfold splitC
    by_cases hx : x = c
    · rw [if_pos hx]
      rcases List.mem_cons.1 h with e | e
      · exact .inl (e.trans hx)
      · rcases mem_splitC c d r e with e | ⟨p, hp, hd⟩
        · exact .inl e
        · exact .inr ⟨p, List.mem_cons_of_mem _ hp, hd⟩
    · rw [if_neg hx]
      cases hs : splitC c r with
      | nil => exact absurd hs (splitC_ne c r)
      | cons q t =>
        dsimp only
        rcases List.mem_cons.1 h with e | e
        · exact .inr ⟨x :: q, by simp, by simp [e]⟩
        · rcases mem_splitC c d r e with e | ⟨p, hp, hd⟩
          · exact .inl e
          · rw [hs] at hp
            rcases List.mem_cons.1 hp with rfl | hp
            · exact .inr ⟨x :: p, by simp, by simp [hd]⟩
            · exact .inr ⟨p, by simp [hp], hd⟩
theorem early_signs {e : Str} (h : earlyL e = true) (c : UInt8) (hc : wordB c = false) (h46 : c ≠ 46) : c ∉ e := by
  intro hm
  unfold earlyL at h
  simp only [Bool.and_eq_true] at h
  rcases mem_splitC 46 c e hm with h1 | ⟨p, hp, hd⟩
  · exact h46 h1
  · have h2 := List.all_eq_true.1 h.1 p hp
    unfold earlyWordL eachL at h2
    simp only [Bool.and_eq_true] at h2
    have h3 := List.all_eq_true.1 h2.1.1.1 c hd
    rw [hc] at h3
    cases h3
theorem itoa_signs {n : Int} (h0 : 0 ≤ n) (c : UInt8) (hc : digitB c = false) : c ∉ Lib.itoa n := by
  rw [itoa_dec h0]
  exact digit_ne (decDigits_all n.toNat).1 c hc
theorem text_signs {v : V4} (h : v.err = 0) (c : UInt8) (hc : wordB c = false) (hd : digitB c = false) (h46 : c ≠ 46) (h45 : c ≠ 45) : c ∉ v.text := by
  obtain ⟨⟨a1, a2⟩, ⟨b1, b2⟩, ⟨c1, c2⟩, he⟩ := checkV_ok (show checkV v.a1 v.a2 v.a3 (bs v.a) = 0 from h)
  have e1 := itoa_signs a1 c hd
  have e2 := itoa_signs b1 c hd
  have e3 := itoa_signs c1 c hd
  unfold V4.text textL
  by_cases h0 : bs v.a = []
  · rw [if_pos h0]
    simp [e1, e2, e3, h46]
  · rw [if_neg h0]
    have e4 : c ∉ bs v.a := by
      rcases he with he | he
      · exact absurd he h0
      · exact early_signs he c hc h46
    simp [e1, e2, e3, e4, h46, h45]
theorem no44 {v : V4} (h : v.err = 0) : (44 : UInt8) ∉ v.text := text_signs h 44 (by decide) (by decide) (by decide) (by decide)
theorem no32 {v : V4} (h : v.err = 0) : (32 : UInt8) ∉ v.text := text_signs h 32 (by decide) (by decide) (by decide) (by decide)
theorem pV_text {v : V4} (h : v.err = 0) : pV v.text = (v, 0) := by
  have h1 := parse_text (ma := v.a1) (mi := v.a2) (pa := v.a3) (e := bs v.a) h
  unfold pV V4.text
  rw [h1]

/-! ### A span -/
theorem sp_ok {s : Sp} (h : spErr s = 0) : (s.hf = false → s.f = zeroV) ∧ (s.ht = false → s.t = zeroV) ∧ s.f.err = 0 ∧ s.t.err = 0 := by
  unfold spErr at h
  by_cases h1 : (!s.hf && decide (s.f ≠ zeroV) || !s.ht && decide (s.t ≠ zeroV)) = true
  · rw [if_pos h1] at h; cases h
  rw [if_neg h1] at h
  by_cases h2 : s.f.err ≠ 0
  · rw [if_pos h2] at h; exact absurd h h2
  rw [if_neg h2] at h
  by_cases h3 : s.t.err ≠ 0
  · rw [if_pos h3] at h; exact absurd h h3
  refine ⟨fun e => ?_, fun e => ?_, Classical.not_not.1 h2, Classical.not_not.1 h3⟩
  · exact Classical.byContradiction fun h5 => h1 (by simp [e, h5])
  · exact Classical.byContradiction fun h5 => h1 (by simp [e, h5])
theorem span_back {s : Sp} (h : spErr s = 0) : synL (spText s) = false ∧ spanL (itemL (spText s)).1 = (s, 0) ∧ (44 : UInt8) ∉ spText s ∧ ∃ c r, spText s = c :: r ∧ c ≠ 110 := by
  obtain ⟨z1, z2, ef, et⟩ := sp_ok h
  obtain ⟨hf, ht, f, t⟩ := s
  dsimp only at z1 z2 ef et
  have f44 := no44 ef
  have t44 := no44 et
  have f32 := no32 ef
  have t32 := no32 et
  have pf := pV_text ef
  have pt := pV_text et
  cases hf <;> cases ht
  · obtain rfl := z1 rfl
    obtain rfl := z2 rfl
    have hi : itemL [42] = (⟨42, [], []⟩, true) := by rw [itemL, if_pos rfl]
    have hs : spText ⟨false, false, zeroV, zeroV⟩ = [42] := rfl
    rw [hs, synL, hi]
    exact ⟨rfl, by rw [spanL, if_pos rfl]; rfl, by decide, 42, [], rfl, by decide⟩
  · obtain rfl := z1 rfl
    have hs : spText ⟨false, true, zeroV, t⟩ = 60 :: t.text := rfl
    have hi : itemL (60 :: t.text) = (⟨60, t.text, []⟩, true) := by
      rw [itemL, if_neg, if_neg (by cases t.text <;> simp [Lib.hasPrefix, List.isPrefixOf]), if_pos (by simp)]
      · rw [show (60 :: t.text : Str).drop 1 = t.text from rfl, rowL_none t32]; rfl
      · intro e; injection e with e; cases e
    rw [hs, synL, hi]
    refine ⟨?_, ?_, by simp [t44], 60, t.text, rfl, by decide⟩
    · unfold wrongL; dsimp only; rw [pt]; simp
    · unfold spanL; dsimp only; rw [pt, if_neg (by decide), if_neg (by simp), if_neg (by decide), if_pos rfl]
  · obtain rfl := z2 rfl
    have hs : spText ⟨true, false, f, zeroV⟩ = 62 :: 61 :: f.text := rfl
    have hi : itemL (62 :: 61 :: f.text) = (⟨62, f.text, []⟩, true) := by
      rw [itemL, if_neg (by intro e; injection e with e; cases e), if_pos (by simp [Lib.hasPrefix, List.isPrefixOf])]
      rw [show (62 :: 61 :: f.text : Str).drop 2 = f.text from rfl, cutC_none 32 _ f32]
      dsimp only
      rw [if_neg (by decide), rowL_none f32]
    rw [hs, synL, hi]
    refine ⟨?_, ?_, by simp [f44], 62, 61 :: f.text, rfl, by decide⟩
    · unfold wrongL; dsimp only; rw [pf]; simp
    · unfold spanL; dsimp only; rw [pf, if_neg (by decide), if_neg (by simp), if_pos rfl]
  · have hs : spText ⟨true, true, f, t⟩ = 62 :: 61 :: (f.text ++ 32 :: 60 :: t.text) := by simp [spText]
    have hi : itemL (62 :: 61 :: (f.text ++ 32 :: 60 :: t.text)) = (⟨98, f.text, t.text⟩, true) := by
      rw [itemL, if_neg (by intro e; injection e with e; cases e), if_pos (by simp [Lib.hasPrefix, List.isPrefixOf])]
      rw [show (62 :: 61 :: (f.text ++ 32 :: 60 :: t.text) : Str).drop 2 = f.text ++ 32 :: 60 :: t.text from rfl, cutC_app 32 _ _ f32]
      dsimp only
      have htr : Lib.trimPrefix (60 :: t.text) [60] = t.text := by rw [Lib.trimPrefix, if_pos (by simp [Lib.hasPrefix, List.isPrefixOf])]; rfl
      rw [if_pos rfl, htr, rowL_none f32, rowL_none t32, show Lib.hasPrefix (60 :: t.text) [60] = true by simp [Lib.hasPrefix, List.isPrefixOf]]
      rfl
    rw [hs, synL, hi]
    refine ⟨?_, ?_, by simp [f44, t44], 62, _, rfl, by decide⟩
    · unfold wrongL; dsimp only; rw [pf, pt]; simp
    · unfold spanL; dsimp only; rw [pf, pt, if_neg (by decide), if_neg (by simp), if_neg (by decide), if_neg (by decide), if_pos rfl]
theorem parse_rngText {l : List Sp} (h : rngErr l = 0) (hl : (rngText l).length ≤ 1000) : parseR (rngText l) = (l, 0) := by
  obtain ⟨h10, hall⟩ := rng_ok h
  have hsp : ∀ s ∈ l, spErr s = 0 := fun s hs => by
    obtain ⟨k, hk, rfl⟩ := List.getElem_of_mem hs
    exact err_sp hk (hall k hk)
  unfold parseR
  rw [if_neg (by omega)]
  cases l with
  | nil => rw [rngText, if_pos rfl, if_pos rfl]
  | cons s r =>
    have hne : ¬ rngText (s :: r) = [110, 111, 110, 101] := by
      obtain ⟨_, _, _, c, t, hc, h110⟩ := span_back (hsp s (by simp))
      rw [rngText, if_neg (by simp), List.map_cons, Lib.join_cons, hc]
      intro e
      simp only [List.cons_append] at e
      injection e with e
      exact h110 e
    have hsplit : Lib.split (rngText (s :: r)) [44, 32] = (s :: r).map spText := by
      rw [rngText, if_neg (by simp), List.map_cons]
      refine split_join _ _ fun p hp => ?_
      obtain ⟨q, hq, rfl⟩ := List.mem_map.1 (show p ∈ (s :: r).map spText from hp)
      exact (span_back (hsp q hq)).2.2.1
    rw [if_neg hne, hsplit]
    have hany : ¬ ((s :: r).map spText).any synL = true := by
      intro e
      obtain ⟨p, hp, hs⟩ := List.any_eq_true.1 e
      obtain ⟨q, hq, rfl⟩ := List.mem_map.1 hp
      rw [(span_back (hsp q hq)).1] at hs
      cases hs
    rw [if_neg hany]
    have hmap : ((s :: r).map spText).map (fun p => spanL (itemL p).1) = (s :: r).map fun s => (s, (0 : Int)) := by
      rw [List.map_map]
      exact List.map_congr_left fun q hq => (span_back (hsp q hq)).2.1
    rw [hmap]
    unfold spansOf
    have e2 : ((s :: r).map fun s => (s, (0 : Int))).map (·.2) = (s :: r).map fun _ => (0 : Int) := by rw [List.map_map]; rfl
    have e1 : ((s :: r).map fun s => (s, (0 : Int))).map (·.1) = s :: r := by
      rw [List.map_map]
      exact List.map_id _
    have e0 : firstI ((s :: r).map fun _ => (0 : Int)) = 0 := firstI_zero fun x hx => by
      obtain ⟨_, _, rfl⟩ := List.mem_map.1 hx
      rfl
    rw [e2, e0, if_neg (by decide), e1, if_neg (by rw [h]; decide)]
end Go.Proofs.YtncagihilplliaaGreatDoor
