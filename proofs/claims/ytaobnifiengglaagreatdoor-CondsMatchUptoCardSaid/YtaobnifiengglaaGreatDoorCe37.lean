/- Contract of ver.condText and ver.PrintCond. (Printed by gen/ctxa.py.) -/
import Derived.Test.YtaobnifiengglaaGreatDoorCe36
import Derived.Test.YtaobnifiengglaaGreatDoorCe30
import Derived.Test.YtaobnifiengglaaGreatDoorCe35
import Derived.Test.YtaobnifiengglaaGreatDoorCe21
import Derived.Test.YtaobnifiengglaaGreatDoorCe14

namespace Go.Proofs.YtaobnifiengglaaGreatDoor
open Go.RowKit

theorem cts_map : ∀ l : List Cd, ctsL l = l.map ctL
  | [] => by simp [ctsL]
  | c :: l => by simp [ctsL, cts_map l]
theorem group_many (w : Str) : ∀ T : List Str, 2 ≤ T.length → groupT w T = 40 :: (Lib.join T (32 :: (w ++ [32])) ++ [41])
  | [], h => absurd h (by decide)
  | [a], h => absurd h (by simp)
  | a :: b :: l, _ => by rw [groupT, joinT_eq]
set_option maxRecDepth 100000 in
set_option maxHeartbeats 16000000 in
theorem condText_step (k : Int) (n x : ByteArray) (l : List Cd) (hp : partErr k (bs n) (bs x) l.length = 0) (hlen : (ctL (.mk k n x l)).length ≤ 90000000) (hll : l.length ≤ 100000)
    (ih : ∀ c ∈ l, ∀ (P : Nat → Prop) v w, Good w → CdIn P w c v → Calls Tryz.prog 145 #[v] w fun e w' => e = .returned (S (ctL c)) ∧ Ext w w')
    (P : Nat → Prop) (v : Value) (w : World) (hg : Good w) (hc : CdIn P w (.mk k n x l) v) : Calls Tryz.prog 145 #[v] w fun e w' => e = .returned (S (ctL (.mk k n x l))) ∧ Ext w w' := by
  have hk := part_kind hp
  have hf := form_leaf (part_form hp)
  obtain ⟨s1, s2⟩ := part_sizes hp
  rw [bs_length] at s1 s2
  obtain ⟨A, cp, b, o, rfl, hA, hr⟩ := hc.arg
  have hql := quote_len (bs x)
  rw [bs_length] at hql
  obtain ⟨q, hq, hbq, hlq⟩ : ∃ q : ByteArray, S (quoteL (bs x)) = .string q ∧ bs q = quoteL (bs x) ∧ q.size ≤ 100000 := ⟨⟨(quoteL (bs x)).toArray⟩, rfl, by rw [bs_mk], by rw [← bs_length, bs_mk]; omega⟩
  have hQ := fun W (h : Ext w W) => Quoted_any x W (by omega)
  rw [hq] at hQ
  have bX := Blk.new w 61 #[.int .i64 k, .string n, .string x, .slice A l.length cp]
  have hxW : Ext w (w.alloc (.cells #[.int .i64 k, .string n, .string x, .slice A l.length cp] 61)) := (Ext.refl w).alloc _
  have HQ := Lib.hid hQ; have HBQ := Lib.hid hbq; have HA := Lib.hid hA; have HR := Lib.hid hr; have HIH := Lib.hid ih
  clear hQ hbq hA hr ih hql hq hp hc
  have cX := bX.cell; have lX := bX.lt
  rcases (show k = 1 ∨ k = 2 ∨ k = 3 ∨ k = 4 ∨ k = 5 ∨ k = 6 ∨ (k = 7 ∨ k = 8) by omega) with rfl | rfl | rfl | rfl | rfl | rfl | hk78
  · have HT := Lib.hid (show ctL (.mk 1 n x l) = wAlways by unfold ctL; rfl)
    clear hlen hf
    go_enter Tryz.func145, Tryz.ntmps145
    go_wp2
    go_ret
    exact ⟨by rw [HT.out]; rfl, (by repeat (first | with_reducible exact Ext.refl _ | with_reducible assumption | with_reducible apply Ext.drewN | with_reducible apply Ext.drew | with_reducible apply Ext.alloc | exact Ext.refl _ | assumption | apply Ext.drewN | apply Ext.drew | apply Ext.alloc))⟩
  · have HT := Lib.hid (show ctL (.mk 2 n x l) = wFact ++ (32 :: (bs n ++ (32 :: 61 :: 32 :: quoteL (bs x)))) by unfold ctL; rfl)
    clear hlen hf
    go_enter Tryz.func145, Tryz.ntmps145
    go_wp2_with fail
    generalize (w.alloc (.cells #[.int .i64 2, .string n, .string x, .slice A l.length cp] 61)) = W at *
    refine wp_region_ext (by kernel_rfl) (by kernel_rfl) ?_
    repeat (first | go_big_quiet_skip | (refine wpQuiet_step (fun K hK => ?_); go_simp; first | (refine hK _ ?_; clear hK K) | (apply Exists.intro; refine ⟨fun wq hwq => ?_, hK _ ?_⟩; (obtain ⟨hqc, hqf⟩ := hwq.cells; have hqs := hwq.size; (try go_simp); first | rfl | ((first | rw [if_neg (by omega)] | rw [if_pos (by omega)]); (try go_simp); rfl) | ((go_at_call 77; exact (HQ.out _ (hxW.trans hwq)).mono (fun e w'' h => ⟨h.1, hwq.trans h.2⟩)))); clear hK K)))
    refine wpQuiet_nil ?_
    intro wN hxN
    obtain ⟨hcN, hfN⟩ := hxN.cells
    have hsN := hxN.size
    go_wp2
    go_ret
    exact ⟨ret_strS (by rw [HT.out, ← HBQ.out]; simp [bs, wFact]), hxW.trans hxN⟩
  · have HT := Lib.hid (show ctL (.mk 3 n x l) = wSetting ++ (32 :: (bs n ++ (32 :: 61 :: 32 :: quoteL (bs x)))) by unfold ctL; rfl)
    clear hlen hf
    go_enter Tryz.func145, Tryz.ntmps145
    go_wp2_with fail
    generalize (w.alloc (.cells #[.int .i64 3, .string n, .string x, .slice A l.length cp] 61)) = W at *
    refine wp_region_ext (by kernel_rfl) (by kernel_rfl) ?_
    repeat (first | go_big_quiet_skip | (refine wpQuiet_step (fun K hK => ?_); go_simp; first | (refine hK _ ?_; clear hK K) | (apply Exists.intro; refine ⟨fun wq hwq => ?_, hK _ ?_⟩; (obtain ⟨hqc, hqf⟩ := hwq.cells; have hqs := hwq.size; (try go_simp); first | rfl | ((first | rw [if_neg (by omega)] | rw [if_pos (by omega)]); (try go_simp); rfl) | ((go_at_call 77; exact (HQ.out _ (hxW.trans hwq)).mono (fun e w'' h => ⟨h.1, hwq.trans h.2⟩)))); clear hK K)))
    refine wpQuiet_nil ?_
    intro wN hxN
    obtain ⟨hcN, hfN⟩ := hxN.cells
    have hsN := hxN.size
    go_wp2
    go_ret
    exact ⟨ret_strS (by rw [HT.out, ← HBQ.out]; simp [bs, wSetting]), hxW.trans hxN⟩
  · have HT := Lib.hid (show ctL (.mk 4 n x l) = wHas ++ (32 :: bs n) by unfold ctL; rfl)
    clear hlen hf
    go_enter Tryz.func145, Tryz.ntmps145
    go_wp2
    go_ret
    exact ⟨ret_strS (by rw [HT.out]; simp [bs, wHas]), (by repeat (first | with_reducible exact Ext.refl _ | with_reducible assumption | with_reducible apply Ext.drewN | with_reducible apply Ext.drew | with_reducible apply Ext.alloc | exact Ext.refl _ | assumption | apply Ext.drewN | apply Ext.drew | apply Ext.alloc))⟩
  · have HT := Lib.hid (show ctL (.mk 5 n x l) = wVersion ++ (32 :: (bs n ++ (32 :: (wIn ++ (32 :: quoteL (bs x)))))) by unfold ctL; rfl)
    clear hlen hf
    go_enter Tryz.func145, Tryz.ntmps145
    go_wp2_with fail
    generalize (w.alloc (.cells #[.int .i64 5, .string n, .string x, .slice A l.length cp] 61)) = W at *
    refine wp_region_ext (by kernel_rfl) (by kernel_rfl) ?_
    repeat (first | go_big_quiet_skip | (refine wpQuiet_step (fun K hK => ?_); go_simp; first | (refine hK _ ?_; clear hK K) | (apply Exists.intro; refine ⟨fun wq hwq => ?_, hK _ ?_⟩; (obtain ⟨hqc, hqf⟩ := hwq.cells; have hqs := hwq.size; (try go_simp); first | rfl | ((first | rw [if_neg (by omega)] | rw [if_pos (by omega)]); (try go_simp); rfl) | ((go_at_call 77; exact (HQ.out _ (hxW.trans hwq)).mono (fun e w'' h => ⟨h.1, hwq.trans h.2⟩)))); clear hK K)))
    refine wpQuiet_nil ?_
    intro wN hxN
    obtain ⟨hcN, hfN⟩ := hxN.cells
    have hsN := hxN.size
    go_wp2
    go_ret
    exact ⟨ret_strS (by rw [HT.out, ← HBQ.out]; simp [bs, wVersion, wIn]), hxW.trans hxN⟩
  · have hl1 := hf.2.2.2 rfl
    match l, hl1 with
    | [c], _ =>
      have hT : ctL (.mk 6 n x [c]) = wNot ++ (32 :: ctL c) := by
        rw [show ctL (.mk 6 n x [c]) = wNot ++ (32 :: (ctsL [c]).headD []) from by unfold ctL; rfl]
        simp [ctsL]
      rw [hT] at hlen
      have HT := Lib.hid hT
      obtain ⟨t, ht, hbt, hlt⟩ : ∃ t : ByteArray, S (ctL c) = .string t ∧ bs t = ctL c ∧ t.size ≤ 90000000 := ⟨⟨(ctL c).toArray⟩, rfl, by rw [bs_mk], by rw [← bs_length, bs_mk]; simp at hlen; omega⟩
      have HBT := Lib.hid hbt
      obtain rfl := HA.out (by simp)
      obtain ⟨ck, cn, cx, cA, cm, ccp, x0, x1, x2, x3, hcd⟩ := HR.out.ext hxW 0 (by simp)
      have hih := HIH.out c (by simp) P _ _ (hg.ext hxW) hcd
      rw [ht] at hih
      have HI := Lib.hid hih
      simp only [Nat.zero_mul, Nat.add_zero, List.length_cons, List.length_nil, Nat.zero_add] at x0 x1 x2 x3
      have lb := lt_of_cell x0
      clear hih hcd hbt ht hT hlen hf hll
      go_enter Tryz.func145, Tryz.ntmps145
      go_wp2_with fail
      refine HI.out.mono ?_
      rintro e w1 ⟨rfl, hx1⟩
      go_wp2
      go_ret
      exact ⟨ret_strS (by rw [HT.out, ← HBT.out]; simp [bs, wNot]), hxW.trans hx1⟩
  · obtain ⟨WD, hWD⟩ : ∃ WD : Str, WD = (if k = 8 then wOr else wAnd) := ⟨_, rfl⟩
    have hT : ctL (.mk k n x l) = groupT WD (ctsL l) := by rcases hk78 with rfl | rfl <;> rw [hWD] <;> unfold ctL <;> rfl
    rw [cts_map] at hT
    rw [hT] at hlen
    have HT := Lib.hid hT
    clear hf hT
    rcases Nat.eq_zero_or_pos l.length with hz | hz
    · obtain rfl : l = [] := List.eq_nil_of_length_eq_zero hz
      clear hlen hz
      rcases hk78 with rfl | rfl <;> subst hWD
      all_goals
        go_enter Tryz.func145, Tryz.ntmps145
        go_wp2
        go_ret
        exact ⟨by rw [HT.out]; rfl, (by repeat (first | with_reducible exact Ext.refl _ | with_reducible assumption | with_reducible apply Ext.drewN | with_reducible apply Ext.drew | with_reducible apply Ext.alloc | exact Ext.refl _ | assumption | apply Ext.drewN | apply Ext.drew | apply Ext.alloc))⟩
    obtain rfl := HA.out hz
    by_cases h1 : l.length = 1
    · match l, h1 with
      | [c], _ =>
        have hT2 : groupT WD ([c].map ctL) = 40 :: (WD ++ (32 :: (ctL c ++ [41]))) := rfl
        rw [hT2] at hlen
        have HT2 := Lib.hid (HT.out.trans hT2)
        obtain ⟨t, ht, hbt, hlt⟩ : ∃ t : ByteArray, S (ctL c) = .string t ∧ bs t = ctL c ∧ t.size ≤ 90000000 := ⟨⟨(ctL c).toArray⟩, rfl, by rw [bs_mk], by rw [← bs_length, bs_mk]; simp at hlen; omega⟩
        have HBT := Lib.hid hbt
        obtain ⟨ck, cn, cx, cA, cm, ccp, x0, x1, x2, x3, hcd⟩ := HR.out.ext hxW 0 (by simp)
        have hih := HIH.out c (by simp) P _ _ (hg.ext hxW) hcd
        rw [ht] at hih
        have HI := Lib.hid hih
        simp only [Nat.zero_mul, Nat.add_zero, List.length_cons, List.length_nil, Nat.zero_add] at x0 x1 x2 x3
        have lb := lt_of_cell x0
        clear hih hcd hbt ht hT2 hlen hll
        rcases hk78 with rfl | rfl <;> subst hWD
        all_goals
          go_enter Tryz.func145, Tryz.ntmps145
          go_wp2_with fail
          refine HI.out.mono ?_
          rintro e w1 ⟨rfl, hx1⟩
          go_wp2
          go_ret
          exact ⟨ret_strS (by rw [HT2.out, ← HBT.out]; simp [bs, wAnd, wOr]), hxW.trans hx1⟩
    have h2 : 2 ≤ l.length := by omega
    obtain ⟨J, hJ⟩ : ∃ J : ByteArray, bs J = Lib.join (l.map ctL) (32 :: (WD ++ [32])) := ⟨⟨_⟩, bs_mk _⟩
    have hJl : l.length ≠ 1 → groupT WD (l.map ctL) = 40 :: (bs J ++ [41]) := fun h => by
      rw [hJ]
      exact group_many WD (l.map ctL) (by rw [List.length_map]; omega)
    have hJs : l.length ≠ 1 → J.size ≤ 90000000 := fun h => by
      rw [hJl h] at hlen
      have := bs_length J
      simp at hlen
      omega
    have cj : ∀ (sep : ByteArray) W B v, bs sep = 32 :: (WD ++ [32]) → W.ownsRow B 9 1 v l.length ((l.map ctL).map S) → l.length ≠ 1 → Calls Tryz.prog 107 #[v, .string sep] W fun e w' => e = .returned (.string J) ∧ Ext W w' := fun sep W B v hs hown hne => by
      have := join_own sep W hown (List.length_map _) hz (by omega) (by rw [hs, ← hJ, bs_length]; exact Nat.le_trans (hJs hne) (by decide))
      rw [hs, ← hJ, S_bs] at this
      exact this
    have CJ := Lib.hid cj; have HJL := Lib.hid hJl; have HJS := Lib.hid hJs; have HWD := Lib.hid hWD
    clear cj hJl hJs hJ hlen hWD

    have hn0 : ((l.length : Int) == 0) = false := by rw [beq_eq_false_iff_ne]; omega
    have hn1 : ((l.length : Int) == 1) = false := by rw [beq_eq_false_iff_ne]; omega
    rcases hk78 with rfl | rfl
    ·
      go_enter Tryz.func145, Tryz.ntmps145
      go_wp2
      go_loopg [4, 80] l.length (fun g v i wr => ∃ k : Nat, k ≤ l.length ∧ l.length - k ≤ g ∧ i = .int .i64 k ∧ wr.ownsRow (w.heap.size + 1) 9 1 v k ((l.take k).map fun c => S (ctL c)) ∧ Ext (w.alloc (.cells #[.int .i64 7, .string n, .string x, .slice (some ⟨b, o, none⟩) l.length cp] 61)) wr)
      case atStart => exact ⟨0, Nat.zero_le _, by omega, rfl, World.ownsRow_nil _ _ _ _, Ext.refl _⟩
      case round =>
        obtain ⟨k, hk, hgk, rfl, hown, hxr0⟩ := hrel
        have hxr : Ext w wr := hxW.trans hxr0
        have hbase : w.heap.size + 1 ≤ wr.heap.size := by have := hxr0.size; rw [World.size_alloc] at this; exact this
        by_cases hlt : k < l.length
        rotate_left
        · obtain rfl : k = l.length := by omega
          have hL : wr.ownsRow (w.heap.size + 1) 9 1 u4 l.length ((l.map ctL).map S) := by
            rw [List.map_map]
            rw [List.take_length] at hown
            exact hown
          have hJs := HJS.out h1
          go_wp2_with fail
          refine (CJ.out _ wr _ _ (by rw [HWD.out]; rfl) hL h1).mono ?_
          rintro e w2 ⟨rfl, hx2⟩
          go_wp2
          go_ret
          exact ⟨ret_strS (by rw [HT.out, HJL.out h1]; simp [bs]), hxr.trans hx2⟩
        have hk1 : k < l.length := hlt
        obtain ⟨ck, cn, cx, cA, cm, ccp, x0, x1, x2, x3, hcd⟩ := HR.out.ext hxr k hk1
        have hxs : Ext wr (wr.alloc (.cells #[.int .i64 ck, .string cn, .string cx, .slice cA cm ccp] 61)) := (Ext.refl wr).alloc _
        have hih := HIH.out l[k] (List.getElem_mem hk1) P _ _ (hg.ext (hxr.trans hxs)) (hcd.ext hxs)
        have HI := Lib.hid hih
        have HNX := Lib.hid (map_take_succ (fun c => S (ctL c)) l k hk1)
        have lb := lt_of_cell x0
        clear hih hcd
        generalize ctL l[k] = TX at *
        go_wp2_with fail
        refine HI.out.mono ?_
        rintro e w8 ⟨rfl, hx8⟩
        have hx9 := hxs.trans hx8
        have hown8 := own_ext hown hx9
        have hb8 : w.heap.size + 1 ≤ w8.heap.size := Nat.le_trans hbase hx9.size
        go_wp2_with (at_builtin; refine wpList_app1g _ _ _ rfl _ _ 100 rfl (.string ⟨#[]⟩) 1 16 Tryz.underlying100 info_string rfl (by decide) (by decide) (w.heap.size + 1) _ k _ rfl hown8 _ _ rfl (by first | rfl | simp) rfl (by simp [Value.oneCell']) (by omega) hb8 ?_; intro v' w9 hown9 hx10 _)
        go_roundg (l.length - (k + 1))
        case rel => exact ⟨k + 1, by omega, Nat.le_refl _, by go_num, by rw [← HNX.out]; exact hown9, hx10 _ (hxr0.trans hx9) (by rw [World.size_alloc]; exact Nat.le_refl _)⟩
        case measure => omega
    ·
      go_enter Tryz.func145, Tryz.ntmps145
      go_wp2
      go_loopg [4, 80] l.length (fun g v i wr => ∃ k : Nat, k ≤ l.length ∧ l.length - k ≤ g ∧ i = .int .i64 k ∧ wr.ownsRow (w.heap.size + 1) 9 1 v k ((l.take k).map fun c => S (ctL c)) ∧ Ext (w.alloc (.cells #[.int .i64 8, .string n, .string x, .slice (some ⟨b, o, none⟩) l.length cp] 61)) wr)
      case atStart => exact ⟨0, Nat.zero_le _, by omega, rfl, World.ownsRow_nil _ _ _ _, Ext.refl _⟩
      case round =>
        obtain ⟨k, hk, hgk, rfl, hown, hxr0⟩ := hrel
        have hxr : Ext w wr := hxW.trans hxr0
        have hbase : w.heap.size + 1 ≤ wr.heap.size := by have := hxr0.size; rw [World.size_alloc] at this; exact this
        by_cases hlt : k < l.length
        rotate_left
        · obtain rfl : k = l.length := by omega
          have hL : wr.ownsRow (w.heap.size + 1) 9 1 u4 l.length ((l.map ctL).map S) := by
            rw [List.map_map]
            rw [List.take_length] at hown
            exact hown
          have hJs := HJS.out h1
          go_wp2_with fail
          refine (CJ.out _ wr _ _ (by rw [HWD.out]; rfl) hL h1).mono ?_
          rintro e w2 ⟨rfl, hx2⟩
          go_wp2
          go_ret
          exact ⟨ret_strS (by rw [HT.out, HJL.out h1]; simp [bs]), hxr.trans hx2⟩
        have hk1 : k < l.length := hlt
        obtain ⟨ck, cn, cx, cA, cm, ccp, x0, x1, x2, x3, hcd⟩ := HR.out.ext hxr k hk1
        have hxs : Ext wr (wr.alloc (.cells #[.int .i64 ck, .string cn, .string cx, .slice cA cm ccp] 61)) := (Ext.refl wr).alloc _
        have hih := HIH.out l[k] (List.getElem_mem hk1) P _ _ (hg.ext (hxr.trans hxs)) (hcd.ext hxs)
        have HI := Lib.hid hih
        have HNX := Lib.hid (map_take_succ (fun c => S (ctL c)) l k hk1)
        have lb := lt_of_cell x0
        clear hih hcd
        generalize ctL l[k] = TX at *
        go_wp2_with fail
        refine HI.out.mono ?_
        rintro e w8 ⟨rfl, hx8⟩
        have hx9 := hxs.trans hx8
        have hown8 := own_ext hown hx9
        have hb8 : w.heap.size + 1 ≤ w8.heap.size := Nat.le_trans hbase hx9.size
        go_wp2_with (at_builtin; refine wpList_app1g _ _ _ rfl _ _ 100 rfl (.string ⟨#[]⟩) 1 16 Tryz.underlying100 info_string rfl (by decide) (by decide) (w.heap.size + 1) _ k _ rfl hown8 _ _ rfl (by first | rfl | simp) rfl (by simp [Value.oneCell']) (by omega) hb8 ?_; intro v' w9 hown9 hx10 _)
        go_roundg (l.length - (k + 1))
        case rel => exact ⟨k + 1, by omega, Nat.le_refl _, by go_num, by rw [← HNX.out]; exact hown9, hx10 _ (hxr0.trans hx9) (by rw [World.size_alloc]; exact Nat.le_refl _)⟩
        case measure => omega

theorem condText_any : ∀ (m : Nat) (c : Cd), OkD m c → cnt c ≤ 10000 → ∀ (P : Nat → Prop) (v : Value) (w : World), Good w → CdIn P w c v → Calls Tryz.prog 145 #[v] w fun e w' => e = .returned (S (ctL c)) ∧ Ext w w' := by
  intro m
  induction m with
  | zero =>
    intro c h hc P v w hg hcd
    have hlen := ct_len 0 c h
    obtain ⟨k, n, x, l⟩ := c
    have hl := (form_leaf (part_form h.1)).2.2.1 h.2
    exact condText_step k n x l h.1 (by omega) (by omega) (fun c hm => by rw [List.eq_nil_of_length_eq_zero hl] at hm; cases hm) P v w hg hcd
  | succ m ih =>
    intro c h hc P v w hg hcd
    have hlen := ct_len (m + 1) c h
    obtain ⟨k, n, x, l⟩ := c
    have hcl : cnt (.mk k n x l) = 1 + cnts l := rfl
    have := cntz_len l
    exact condText_step k n x l h.1 (by omega) (by omega) (fun c hm P v w hg hcd => ih c (h.2 c hm) (by have := cnts_mem' hm; omega) P v w hg hcd) P v w hg hcd
end Go.Proofs.YtaobnifiengglaaGreatDoor
