/- Plain law: what ver.PrintRange writes, ver.ParseRange reads back. Spans and ranges in memory; the struct equalities that the walks meet; slices.Equal over spans. -/
import Derived.Test.YtcmceeihdhcmnaaGreatDoorRm18
import Derived.Test.YtcmceeihdhcmnaaGreatDoorRm04
import Derived.Laws.StructEq
import Derived.Deep.QuietTactic

namespace Go.Proofs.YtcmceeihdhcmnaaGreatDoor

/-! ### Cutting a joined text -/
theorem occ_false {a r : Str} (ha : (44 : UInt8) ∉ a) {j : Nat} (hj : j < a.length) : Lib.occAt (a ++ r) [44, 32] j = false := by
  cases h : Lib.occAt (a ++ r) [44, 32] j
  · rfl
  · have h1 := Lib.occAt_head (c := 44) (t := [32]) rfl h
    rw [List.getElem?_append_left hj, List.getElem?_eq_getElem hj] at h1
    injection h1 with h1
    exact absurd (h1 ▸ List.getElem_mem hj) ha
theorem index_sep (a r : Str) (ha : (44 : UInt8) ∉ a) : Lib.index (a ++ 44 :: 32 :: r) [44, 32] = a.length := by
  refine Lib.index_first (by simp) ?_ (fun j hj => occ_false ha hj)
  simp [Lib.occAt]
theorem index_nosep (a : Str) (ha : (44 : UInt8) ∉ a) : Lib.index a [44, 32] = -1 := by
  refine Lib.index_none fun j _ => ?_
  cases h : Lib.occAt a [44, 32] j
  · rfl
  · have h1 := Lib.occAt_head (c := 44) (t := [32]) rfl h
    exact absurd (List.mem_of_getElem? h1) ha
theorem joinTail_cons (sep y : Str) (r : List Str) : Lib.joinTail sep (y :: r) = sep ++ y ++ Lib.joinTail sep r := by simp [Lib.joinTail]
theorem split_join : ∀ (r : List Str) (x : Str), (∀ p ∈ x :: r, (44 : UInt8) ∉ p) → Lib.split (Lib.join (x :: r) [44, 32]) [44, 32] = x :: r
  | [], x, h => by
    have hx := index_nosep x (h x (by simp))
    rw [Lib.join_one]
    unfold Lib.split
    rw [Lib.count_miss hx]
    rfl
  | y :: r, x, h => by
    have ih := split_join r y (fun p hp => h p (List.mem_cons_of_mem _ hp))
    have hj : Lib.join (x :: y :: r) [44, 32] = x ++ 44 :: 32 :: Lib.join (y :: r) [44, 32] := by
      rw [Lib.join_cons, joinTail_cons, Lib.join_cons]; simp
    rw [hj]
    generalize Lib.join (y :: r) [44, 32] = t at *
    have hi := index_sep x t (h x (by simp))
    have hd : (x ++ 44 :: 32 :: t).drop (x.length + ([44, 32] : Str).length) = t := by
      rw [← List.drop_drop]
      simp
    unfold Lib.split at ih ⊢
    rw [Lib.count_hit (by simp) hi, hd, Nat.add_comm, Lib.splitK, hi]
    rw [if_neg (by rw [beq_iff_eq]; omega)]
    rw [Int.toNat_natCast, hd, ih]
    congr 1
    simp

/-! ### The signs of a version's text -/
theorem mem_splitC (c d : UInt8) : ∀ l : Str, d ∈ l → d = c ∨ ∃ p ∈ splitC c l, d ∈ p
  | [], h => by cases h
  | x :: r, h => by
    unfold splitC
    by_cases hx : x = c
    · rw [if_pos hx]
      rcases List.mem_cons.1 h with e | e
      · exact .inl (e.trans hx)
      · rcases mem_splitC c d r e with e | ⟨p, hp, hd⟩
        · exact .inl e
        · exact .inr ⟨p, List.mem_cons_of_mem _ hp, hd⟩
    · rw [if_neg hx]
      cases hs : splitC c r with
      | nil => exact absurd hs (splitC_ne c r)
      | cons q t =>
        dsimp only
        rcases List.mem_cons.1 h with e | e
        · exact .inr ⟨x :: q, by simp, by simp [e]⟩
        · rcases mem_splitC c d r e with e | ⟨p, hp, hd⟩
          · exact .inl e
          · rw [hs] at hp
            rcases List.mem_cons.1 hp with rfl | hp
            · exact .inr ⟨x :: p, by simp, by simp [hd]⟩
            · exact .inr ⟨p, by simp [hp], hd⟩
theorem early_signs {e : Str} (h : earlyL e = true) (c : UInt8) (hc : wordB c = false) (h46 : c ≠ 46) : c ∉ e := by
  intro hm
  unfold earlyL at h
  simp only [Bool.and_eq_true] at h
  rcases mem_splitC 46 c e hm with h1 | ⟨p, hp, hd⟩
  · exact h46 h1
  · have h2 := List.all_eq_true.1 h.1 p hp
    unfold earlyWordL eachL at h2
    simp only [Bool.and_eq_true] at h2
    have h3 := List.all_eq_true.1 h2.1.1.1 c hd
    rw [hc] at h3
    cases h3
theorem itoa_signs {n : Int} (h0 : 0 ≤ n) (c : UInt8) (hc : digitB c = false) : c ∉ Lib.itoa n := by
  rw [itoa_dec h0]
  exact digit_ne (decDigits_all n.toNat).1 c hc
theorem text_signs {v : V4} (h : v.err = 0) (c : UInt8) (hc : wordB c = false) (hd : digitB c = false) (h46 : c ≠ 46) (h45 : c ≠ 45) : c ∉ v.text := by
  obtain ⟨⟨a1, a2⟩, ⟨b1, b2⟩, ⟨c1, c2⟩, he⟩ := checkV_ok (show checkV v.a1 v.a2 v.a3 (bs v.a) = 0 from h)
  have e1 := itoa_signs a1 c hd
  have e2 := itoa_signs b1 c hd
  have e3 := itoa_signs c1 c hd
  unfold V4.text textL
  by_cases h0 : bs v.a = []
  · rw [if_pos h0]
    simp [e1, e2, e3, h46]
  · rw [if_neg h0]
    have e4 : c ∉ bs v.a := by
      rcases he with he | he
      · exact absurd he h0
      · exact early_signs he c hc h46
    simp [e1, e2, e3, e4, h46, h45]
theorem no44 {v : V4} (h : v.err = 0) : (44 : UInt8) ∉ v.text := text_signs h 44 (by decide) (by decide) (by decide) (by decide)
theorem no32 {v : V4} (h : v.err = 0) : (32 : UInt8) ∉ v.text := text_signs h 32 (by decide) (by decide) (by decide) (by decide)
theorem pV_text {v : V4} (h : v.err = 0) : pV v.text = (v, 0) := by
  have h1 := parse_text (ma := v.a1) (mi := v.a2) (pa := v.a3) (e := bs v.a) h
  unfold pV V4.text
  rw [h1]

/-! ### A span -/
theorem sp_ok {s : Sp} (h : spErr s = 0) : (s.hf = false → s.f = zeroV) ∧ (s.ht = false → s.t = zeroV) ∧ s.f.err = 0 ∧ s.t.err = 0 := by
  unfold spErr at h
  by_cases h1 : (!s.hf && decide (s.f ≠ zeroV) || !s.ht && decide (s.t ≠ zeroV)) = true
  · rw [if_pos h1] at h; cases h
  rw [if_neg h1] at h
  by_cases h2 : s.f.err ≠ 0
  · rw [if_pos h2] at h; exact absurd h h2
  rw [if_neg h2] at h
  by_cases h3 : s.t.err ≠ 0
  · rw [if_pos h3] at h; exact absurd h h3
  refine ⟨fun e => ?_, fun e => ?_, Classical.not_not.1 h2, Classical.not_not.1 h3⟩
  · exact Classical.byContradiction fun h5 => h1 (by simp [e, h5])
  · exact Classical.byContradiction fun h5 => h1 (by simp [e, h5])
theorem span_back {s : Sp} (h : spErr s = 0) : synL (spText s) = false ∧ spanL (itemL (spText s)).1 = (s, 0) ∧ (44 : UInt8) ∉ spText s ∧ ∃ c r, spText s = c :: r ∧ c ≠ 110 := by
  obtain ⟨z1, z2, ef, et⟩ := sp_ok h
  obtain ⟨hf, ht, f, t⟩ := s
  dsimp only at z1 z2 ef et
  have f44 := no44 ef
  have t44 := no44 et
  have f32 := no32 ef
  have t32 := no32 et
  have pf := pV_text ef
  have pt := pV_text et
  cases hf <;> cases ht
  · obtain rfl := z1 rfl
    obtain rfl := z2 rfl
    have hi : itemL [42] = (⟨42, [], []⟩, true) := by rw [itemL, if_pos rfl]
    have hs : spText ⟨false, false, zeroV, zeroV⟩ = [42] := rfl
    rw [hs, synL, hi]
    exact ⟨rfl, by rw [spanL, if_pos rfl]; rfl, by decide, 42, [], rfl, by decide⟩
  · obtain rfl := z1 rfl
    have hs : spText ⟨false, true, zeroV, t⟩ = 60 :: t.text := rfl
    have hi : itemL (60 :: t.text) = (⟨60, t.text, []⟩, true) := by
      rw [itemL, if_neg, if_neg (by cases t.text <;> simp [Lib.hasPrefix, List.isPrefixOf]), if_pos (by simp)]
      · rw [show (60 :: t.text : Str).drop 1 = t.text from rfl, rowL_none t32]; rfl
      · intro e; injection e with e; cases e
    rw [hs, synL, hi]
    refine ⟨?_, ?_, by simp [t44], 60, t.text, rfl, by decide⟩
    · unfold wrongL; dsimp only; rw [pt]; simp
    · unfold spanL; dsimp only; rw [pt, if_neg (by decide), if_neg (by simp), if_neg (by decide), if_pos rfl]
  · obtain rfl := z2 rfl
    have hs : spText ⟨true, false, f, zeroV⟩ = 62 :: 61 :: f.text := rfl
    have hi : itemL (62 :: 61 :: f.text) = (⟨62, f.text, []⟩, true) := by
      rw [itemL, if_neg (by intro e; injection e with e; cases e), if_pos (by simp [Lib.hasPrefix, List.isPrefixOf])]
      rw [show (62 :: 61 :: f.text : Str).drop 2 = f.text from rfl, cutC_none 32 _ f32]
      dsimp only
      rw [if_neg (by decide), rowL_none f32]
    rw [hs, synL, hi]
    refine ⟨?_, ?_, by simp [f44], 62, 61 :: f.text, rfl, by decide⟩
    · unfold wrongL; dsimp only; rw [pf]; simp
    · unfold spanL; dsimp only; rw [pf, if_neg (by decide), if_neg (by simp), if_pos rfl]
  · have hs : spText ⟨true, true, f, t⟩ = 62 :: 61 :: (f.text ++ 32 :: 60 :: t.text) := by simp [spText]
    have hi : itemL (62 :: 61 :: (f.text ++ 32 :: 60 :: t.text)) = (⟨98, f.text, t.text⟩, true) := by
      rw [itemL, if_neg (by intro e; injection e with e; cases e), if_pos (by simp [Lib.hasPrefix, List.isPrefixOf])]
      rw [show (62 :: 61 :: (f.text ++ 32 :: 60 :: t.text) : Str).drop 2 = f.text ++ 32 :: 60 :: t.text from rfl, cutC_app 32 _ _ f32]
      dsimp only
      have htr : Lib.trimPrefix (60 :: t.text) [60] = t.text := by rw [Lib.trimPrefix, if_pos (by simp [Lib.hasPrefix, List.isPrefixOf])]; rfl
      rw [if_pos rfl, htr, rowL_none f32, rowL_none t32, show Lib.hasPrefix (60 :: t.text) [60] = true by simp [Lib.hasPrefix, List.isPrefixOf]]
      rfl
    rw [hs, synL, hi]
    refine ⟨?_, ?_, by simp [f44, t44], 62, _, rfl, by decide⟩
    · unfold wrongL; dsimp only; rw [pf, pt]; simp
    · unfold spanL; dsimp only; rw [pf, pt, if_neg (by decide), if_neg (by simp), if_neg (by decide), if_neg (by decide), if_pos rfl]
theorem parse_rngText {l : List Sp} (h : rngErr l = 0) (hl : (rngText l).length ≤ 1000) : parseR (rngText l) = (l, 0) := by
  obtain ⟨h10, hall⟩ := rng_ok h
  have hsp : ∀ s ∈ l, spErr s = 0 := fun s hs => by
    obtain ⟨k, hk, rfl⟩ := List.getElem_of_mem hs
    exact err_sp hk (hall k hk)
  unfold parseR
  rw [if_neg (by omega)]
  cases l with
  | nil => rw [rngText, if_pos rfl, if_pos rfl]
  | cons s r =>
    have hne : ¬ rngText (s :: r) = [110, 111, 110, 101] := by
      obtain ⟨_, _, _, c, t, hc, h110⟩ := span_back (hsp s (by simp))
      rw [rngText, if_neg (by simp), List.map_cons, Lib.join_cons, hc]
      intro e
      simp only [List.cons_append] at e
      injection e with e
      exact h110 e
    have hsplit : Lib.split (rngText (s :: r)) [44, 32] = (s :: r).map spText := by
      rw [rngText, if_neg (by simp), List.map_cons]
      refine split_join _ _ fun p hp => ?_
      obtain ⟨q, hq, rfl⟩ := List.mem_map.1 (show p ∈ (s :: r).map spText from hp)
      exact (span_back (hsp q hq)).2.2.1
    rw [if_neg hne, hsplit]
    have hany : ¬ ((s :: r).map spText).any synL = true := by
      intro e
      obtain ⟨p, hp, hs⟩ := List.any_eq_true.1 e
      obtain ⟨q, hq, rfl⟩ := List.mem_map.1 hp
      rw [(span_back (hsp q hq)).1] at hs
      cases hs
    rw [if_neg hany]
    have hmap : ((s :: r).map spText).map (fun p => spanL (itemL p).1) = (s :: r).map fun s => (s, (0 : Int)) := by
      rw [List.map_map]
      exact List.map_congr_left fun q hq => (span_back (hsp q hq)).2.1
    rw [hmap]
    unfold spansOf
    have e2 : ((s :: r).map fun s => (s, (0 : Int))).map (·.2) = (s :: r).map fun _ => (0 : Int) := by rw [List.map_map]; rfl
    have e1 : ((s :: r).map fun s => (s, (0 : Int))).map (·.1) = s :: r := by
      rw [List.map_map]
      exact List.map_id _
    have e0 : firstI ((s :: r).map fun _ => (0 : Int)) = 0 := firstI_zero fun x hx => by
      obtain ⟨_, _, rfl⟩ := List.mem_map.1 hx
      rfl
    rw [e2, e0, if_neg (by decide), e1, if_neg (by rw [h]; decide)]
end Go.Proofs.YtcmceeihdhcmnaaGreatDoor

namespace Go.Proofs.YtcmceeihdhcmnaaGreatDoor
open Go.RowKit

abbrev verV (v : V4) : Value := .agg #[.int .i64 v.a1, .int .i64 v.a2, .int .i64 v.a3, .string v.a]
abbrev spV (s : Sp) : Value := .agg #[.bool s.hf, .bool s.ht, .int .i64 s.f.a1, .int .i64 s.f.a2, .int .i64 s.f.a3, .string s.f.a, .int .i64 s.t.a1, .int .i64 s.t.a2, .int .i64 s.t.a3, .string s.t.a]
theorem str_eq (a b : ByteArray) : (a.toList = b.toList) = (a = b) := by
  rw [ByteArray.toList_eq, ByteArray.toList_eq]
  exact propext ⟨fun h => bs_inj h, fun h => by rw [h]⟩
theorem run_eqv (d : Nat) (u v : V4) (w : World) : (Op.equalIn (d + 2) 35 (verV u) (verV v)).run Tryz.prog w = .ok (decide (u = v)) w := by
  obtain ⟨u1, u2, u3, u⟩ := u
  obtain ⟨v1, v2, v3, v⟩ := v
  dsimp only [verV]
  rw [run_equalIn_agg w (d + 1) 35 _ _ (by kernel_rfl) (by kernel_rfl)]
  go_simp
  simp only [str_eq]
  by_cases h1 : u1 = v1 <;> by_cases h2 : u2 = v2 <;> by_cases h3 : u3 = v3 <;> by_cases h4 : u = v <;> simp [h1, h2, h3, h4]
theorem run_neqv (u v : V4) (w : World) : (binOp .neq 35 (verV u) (verV v)).run Tryz.prog w = .ok (.bool (!decide (u = v))) w := by
  rw [run_neq_struct, run_eqv 9998]
  rfl
theorem run_eqs (d : Nat) (u v : Sp) (w : World) : (Op.equalIn (d + 3) 127 (spV u) (spV v)).run Tryz.prog w = .ok (decide (u = v)) w := by
  obtain ⟨uf, ut, ⟨u1, u2, u3, ua⟩, ⟨u4, u5, u6, ub⟩⟩ := u
  obtain ⟨vf, vt, ⟨v1, v2, v3, va⟩, ⟨v4, v5, v6, vb⟩⟩ := v
  dsimp only [spV]
  rw [run_equalIn_agg w (d + 2) 127 _ _ (by kernel_rfl) (by kernel_rfl)]
  simp only [Sp.mk.injEq, V4.mk.injEq]
  go_simp
  simp only [str_eq]
  repeat' split
  all_goals simp_all
theorem run_neqs (u v : Sp) (w : World) : (binOp .neq 127 (spV u) (spV v)).run Tryz.prog w = .ok (.bool (!decide (u = v))) w := by
  rw [run_neq_struct, run_eqs 9997]
  rfl

/-! ### Spans in memory -/
/-- spans at an address: cell by cell -/
structure SpS (w : World) (b o : Nat) (l : List Sp) : Prop where
  c0 : ∀ k (h : k < l.length), w.cell? ⟨b, o + k * 10, none⟩ = some (.bool l[k].hf)
  c1 : ∀ k (h : k < l.length), w.cell? ⟨b, o + k * 10 + 1, none⟩ = some (.bool l[k].ht)
  c2 : ∀ k (h : k < l.length), w.cell? ⟨b, o + k * 10 + 2, none⟩ = some (.int .i64 l[k].f.a1)
  c3 : ∀ k (h : k < l.length), w.cell? ⟨b, o + k * 10 + 3, none⟩ = some (.int .i64 l[k].f.a2)
  c4 : ∀ k (h : k < l.length), w.cell? ⟨b, o + k * 10 + 4, none⟩ = some (.int .i64 l[k].f.a3)
  c5 : ∀ k (h : k < l.length), w.cell? ⟨b, o + k * 10 + 5, none⟩ = some (.string l[k].f.a)
  c6 : ∀ k (h : k < l.length), w.cell? ⟨b, o + k * 10 + 6, none⟩ = some (.int .i64 l[k].t.a1)
  c7 : ∀ k (h : k < l.length), w.cell? ⟨b, o + k * 10 + 7, none⟩ = some (.int .i64 l[k].t.a2)
  c8 : ∀ k (h : k < l.length), w.cell? ⟨b, o + k * 10 + 8, none⟩ = some (.int .i64 l[k].t.a3)
  c9 : ∀ k (h : k < l.length), w.cell? ⟨b, o + k * 10 + 9, none⟩ = some (.string l[k].t.a)
theorem SpS.ext {w w' : World} {b o : Nat} {l : List Sp} (h : SpS w b o l) (hx : Ext w w') : SpS w' b o l :=
  ⟨fun k hk => hx.cell (h.c0 k hk), fun k hk => hx.cell (h.c1 k hk), fun k hk => hx.cell (h.c2 k hk), fun k hk => hx.cell (h.c3 k hk), fun k hk => hx.cell (h.c4 k hk),
    fun k hk => hx.cell (h.c5 k hk), fun k hk => hx.cell (h.c6 k hk), fun k hk => hx.cell (h.c7 k hk), fun k hk => hx.cell (h.c8 k hk), fun k hk => hx.cell (h.c9 k hk)⟩
/-- a slice of spans: its address where it has any -/
def RdS (w : World) (A : Option Addr) (l : List Sp) : Prop := l ≠ [] → ∃ b o, A = some ⟨b, o, none⟩ ∧ SpS w b o l
theorem RdS.ext {w w' : World} {A : Option Addr} {l : List Sp} (h : RdS w A l) (hx : Ext w w') : RdS w' A l := fun hn => by
  obtain ⟨b, o, e, k⟩ := h hn
  exact ⟨b, o, e, k.ext hx⟩
set_option maxHeartbeats 4000000 in
theorem EqualS_any (A B : Option Addr) (n m c d : Nat) (xs ys : List Sp) (w : World) (hn : xs.length = n) (hm : ys.length = m) (hx : RdS w A xs) (hy : RdS w B ys) (hl : n ≤ 2097152) (hl2 : m ≤ 2097152) :
    Calls Tryz.prog 96 #[.slice A n c, .slice B m d] w fun e w' => e = .returned (.bool (decide (xs = ys))) ∧ Ext w w' := by
  by_cases hnm : n = m
  rotate_left
  · have h1 : ¬ (n : Int) = (m : Int) := by omega
    have hne : ¬ xs = ys := fun e => hnm (by rw [← hn, ← hm, e])
    have HNE := Lib.hid hne
    clear hne hnm hn hm
    go_enter Tryz.func96, Tryz.ntmps96
    go_wp2
    go_ret
    exact ⟨ret_bool (decide_eq_false HNE.out).symm, Ext.refl _⟩
  subst hnm
  have HN := Lib.hid hn
  have HM := Lib.hid hm
  clear hn hm
  rcases Nat.eq_zero_or_pos n with h0 | h0
  · subst h0
    have he : xs = ys := by rw [List.eq_nil_of_length_eq_zero HN.out, List.eq_nil_of_length_eq_zero HM.out]
    have HE := Lib.hid he
    clear he
    go_enter Tryz.func96, Tryz.ntmps96
    go_wp2
    go_loop [13] (fun i => i = .int .i64 0) (fun i => 0)
    case atStart => rfl
    case round =>
      subst hrel
      go_wp2
      go_ret
      exact ⟨ret_bool (decide_eq_true HE.out).symm, Ext.refl _⟩
  obtain ⟨b1, o1, rfl, hX⟩ := hx (fun e => by have := HN.out; rw [e] at this; simp at this; omega)
  obtain ⟨b2, o2, rfl, hY⟩ := hy (fun e => by have := HM.out; rw [e] at this; simp at this; omega)
  go_enter Tryz.func96, Tryz.ntmps96
  go_wp2
  go_loopw [13] (fun i wr => ∃ k : Nat, k ≤ n ∧ i = .int .i64 k ∧ (∀ j (h1 : j < xs.length) (h2 : j < ys.length), j < k → xs[j] = ys[j]) ∧ Ext w wr) (fun i _ => n - (intOf i).toNat)
  case atStart => exact ⟨0, Nat.zero_le _, rfl, fun j _ _ h => absurd h (by omega), Ext.refl _⟩
  case round =>
    obtain ⟨k, hk, rfl, hall, hxr⟩ := hrel
    have HALL := Lib.hid hall
    clear hall
    by_cases hlt : k < n
    · have hk1 : k < xs.length := by rw [HN.out]; exact hlt
      have hk2 : k < ys.length := by rw [HM.out]; exact hlt
      have X := hX.ext hxr
      have Y := hY.ext hxr
      have x0 := X.c0 k hk1; have x1 := X.c1 k hk1; have x2 := X.c2 k hk1; have x3 := X.c3 k hk1; have x4 := X.c4 k hk1
      have x5 := X.c5 k hk1; have x6 := X.c6 k hk1; have x7 := X.c7 k hk1; have x8 := X.c8 k hk1; have x9 := X.c9 k hk1
      have y0 := Y.c0 k hk2; have y1 := Y.c1 k hk2; have y2 := Y.c2 k hk2; have y3 := Y.c3 k hk2; have y4 := Y.c4 k hk2
      have y5 := Y.c5 k hk2; have y6 := Y.c6 k hk2; have y7 := Y.c7 k hk2; have y8 := Y.c8 k hk2; have y9 := Y.c9 k hk2
      clear X Y
      have hone : xs[k] = ys[k] → ∀ j (h1 : j < xs.length) (h2 : j < ys.length), j < k + 1 → xs[j] = ys[j] := fun e j h1 h2 h3 => by
        by_cases hj : j = k
        · subst hj; exact e
        · exact HALL.out j h1 h2 (by omega)
      have hno : ¬ xs[k] = ys[k] → decide (xs = ys) = false := fun e => decide_eq_false fun e2 => e (by subst e2; rfl)
      have HONE := Lib.hid hone
      have HNO := Lib.hid hno
      clear hone hno
      generalize xs[k] = x at *
      generalize ys[k] = y at *
      have hq := run_neqs x y
      obtain ⟨xf, xt, ⟨xa, xb, xc, xd⟩, ⟨xe, xg, xh, xi⟩⟩ := x
      obtain ⟨yf, yt, ⟨ya, yb, yc, yd⟩, ⟨ye, yg, yh, yi⟩⟩ := y
      dsimp only [spV] at hq x0 x1 x2 x3 x4 x5 x6 x7 x8 x9 y0 y1 y2 y3 y4 y5 y6 y7 y8 y9
      generalize hX : (⟨xf, xt, ⟨xa, xb, xc, xd⟩, ⟨xe, xg, xh, xi⟩⟩ : Sp) = X at *
      generalize hY : (⟨yf, yt, ⟨ya, yb, yc, yd⟩, ⟨ye, yg, yh, yi⟩⟩ : Sp) = Y at *
      clear hX hY
      by_cases hz : X = Y
      · rw [decide_eq_true hz] at hq
        have HZ := Lib.hid hz
        clear hz
        go_wp2
        go_quiet (fail)
        go_wp2
        go_roundw
        case rel => exact ⟨k + 1, by omega, by go_num, HONE.out HZ.out, hxr.drewN _⟩
        case measure => simp [intOf]; omega
      · rw [decide_eq_false hz] at hq
        have HZ := Lib.hid hz
        clear hz
        go_wp2
        go_quiet (fail)
        go_wp2
        go_ret
        exact ⟨ret_bool (HNO.out HZ.out).symm, hxr.drewN _⟩
    · obtain rfl : k = n := by omega
      go_wp2
      go_ret
      refine ⟨ret_bool (decide_eq_true ?_).symm, hxr⟩
      refine List.ext_getElem (by rw [HN.out, HM.out]) fun j h1 h2 => HALL.out j h1 h2 (by have := HN.out; omega)
end Go.Proofs.YtcmceeihdhcmnaaGreatDoor
