/- Contract of outref2.CondText. (Printed by gen/ctxa.py.) Contract of ver.PrintCond. Plain law: the value of a key among ordered settings. -/
import Derived.Test.YtaobnifiengglaaGreatDoorCe37
import Derived.Test.YtaobnifiengglaaGreatDoorCe22
import Derived.Test.YtaobnifiengglaaGreatDoorCe31
import Derived.Sort.Walk0

namespace Go.Proofs.YtaobnifiengglaaGreatDoor
open Go.RowKit

set_option maxRecDepth 100000 in
set_option maxHeartbeats 16000000 in
theorem CondText_step (k : Int) (n x : ByteArray) (l : List Cd) (hp : partErr k (bs n) (bs x) l.length = 0) (hlen : (ctL (.mk k n x l)).length ≤ 90000000) (hll : l.length ≤ 100000)
    (ih : ∀ c ∈ l, ∀ (P : Nat → Prop) v w, Good w → CdIn P w c v → Calls Tryz.prog 68 #[v] w fun e w' => e = .returned (S (ctL c)) ∧ Ext w w')
    (P : Nat → Prop) (v : Value) (w : World) (hg : Good w) (hc : CdIn P w (.mk k n x l) v) : Calls Tryz.prog 68 #[v] w fun e w' => e = .returned (S (ctL (.mk k n x l))) ∧ Ext w w' := by
  have hk := part_kind hp
  have hf := form_leaf (part_form hp)
  obtain ⟨s1, s2⟩ := part_sizes hp
  rw [bs_length] at s1 s2
  obtain ⟨A, cp, b, o, rfl, hA, hr⟩ := hc.arg
  have hql := quote_len (bs x)
  rw [bs_length] at hql
  obtain ⟨q, hq, hbq, hlq⟩ : ∃ q : ByteArray, S (quoteL (bs x)) = .string q ∧ bs q = quoteL (bs x) ∧ q.size ≤ 100000 := ⟨⟨(quoteL (bs x)).toArray⟩, rfl, by rw [bs_mk], by rw [← bs_length, bs_mk]; omega⟩
  have hQ := fun W (h : Ext w W) => RQuoted_any x W (hg.ext h) (by omega)
  rw [hq] at hQ
  have bX := Blk.new w 61 #[.int .i64 k, .string n, .string x, .slice A l.length cp]
  have hxW : Ext w (w.alloc (.cells #[.int .i64 k, .string n, .string x, .slice A l.length cp] 61)) := (Ext.refl w).alloc _
  have HQ := Lib.hid hQ; have HBQ := Lib.hid hbq; have HA := Lib.hid hA; have HR := Lib.hid hr; have HIH := Lib.hid ih
  clear hQ hbq hA hr ih hql hq hp hc
  have cX := bX.cell; have lX := bX.lt
  rcases (show k = 1 ∨ k = 2 ∨ k = 3 ∨ k = 4 ∨ k = 5 ∨ k = 6 ∨ (k = 7 ∨ k = 8) by omega) with rfl | rfl | rfl | rfl | rfl | rfl | hk78
  · have HT := Lib.hid (show ctL (.mk 1 n x l) = wAlways by unfold ctL; rfl)
    clear hlen hf
    go_enter Tryz.func68, Tryz.ntmps68
    go_wp2
    go_ret
    exact ⟨by rw [HT.out]; rfl, (by repeat (first | with_reducible exact Ext.refl _ | with_reducible assumption | with_reducible apply Ext.drewN | with_reducible apply Ext.drew | with_reducible apply Ext.alloc | exact Ext.refl _ | assumption | apply Ext.drewN | apply Ext.drew | apply Ext.alloc))⟩
  · have HT := Lib.hid (show ctL (.mk 2 n x l) = wFact ++ (32 :: (bs n ++ (32 :: 61 :: 32 :: quoteL (bs x)))) by unfold ctL; rfl)
    clear hlen hf
    go_enter Tryz.func68, Tryz.ntmps68
    go_wp2_with fail
    generalize (w.alloc (.cells #[.int .i64 2, .string n, .string x, .slice A l.length cp] 61)) = W at *
    refine wp_region_ext (by kernel_rfl) (by kernel_rfl) ?_
    repeat (first | go_big_quiet_skip | (refine wpQuiet_step (fun K hK => ?_); go_simp; first | (refine hK _ ?_; clear hK K) | (apply Exists.intro; refine ⟨fun wq hwq => ?_, hK _ ?_⟩; (obtain ⟨hqc, hqf⟩ := hwq.cells; have hqs := hwq.size; (try go_simp); first | rfl | ((first | rw [if_neg (by omega)] | rw [if_pos (by omega)]); (try go_simp); rfl) | ((go_at_call 83; exact (HQ.out _ (hxW.trans hwq)).mono (fun e w'' h => ⟨h.1, hwq.trans h.2⟩)))); clear hK K)))
    refine wpQuiet_nil ?_
    intro wN hxN
    obtain ⟨hcN, hfN⟩ := hxN.cells
    have hsN := hxN.size
    go_wp2
    go_ret
    exact ⟨ret_strS (by rw [HT.out, ← HBQ.out]; simp [bs, wFact]), hxW.trans hxN⟩
  · have HT := Lib.hid (show ctL (.mk 3 n x l) = wSetting ++ (32 :: (bs n ++ (32 :: 61 :: 32 :: quoteL (bs x)))) by unfold ctL; rfl)
    clear hlen hf
    go_enter Tryz.func68, Tryz.ntmps68
    go_wp2_with fail
    generalize (w.alloc (.cells #[.int .i64 3, .string n, .string x, .slice A l.length cp] 61)) = W at *
    refine wp_region_ext (by kernel_rfl) (by kernel_rfl) ?_
    repeat (first | go_big_quiet_skip | (refine wpQuiet_step (fun K hK => ?_); go_simp; first | (refine hK _ ?_; clear hK K) | (apply Exists.intro; refine ⟨fun wq hwq => ?_, hK _ ?_⟩; (obtain ⟨hqc, hqf⟩ := hwq.cells; have hqs := hwq.size; (try go_simp); first | rfl | ((first | rw [if_neg (by omega)] | rw [if_pos (by omega)]); (try go_simp); rfl) | ((go_at_call 83; exact (HQ.out _ (hxW.trans hwq)).mono (fun e w'' h => ⟨h.1, hwq.trans h.2⟩)))); clear hK K)))
    refine wpQuiet_nil ?_
    intro wN hxN
    obtain ⟨hcN, hfN⟩ := hxN.cells
    have hsN := hxN.size
    go_wp2
    go_ret
    exact ⟨ret_strS (by rw [HT.out, ← HBQ.out]; simp [bs, wSetting]), hxW.trans hxN⟩
  · have HT := Lib.hid (show ctL (.mk 4 n x l) = wHas ++ (32 :: bs n) by unfold ctL; rfl)
    clear hlen hf
    go_enter Tryz.func68, Tryz.ntmps68
    go_wp2
    go_ret
    exact ⟨ret_strS (by rw [HT.out]; simp [bs, wHas]), (by repeat (first | with_reducible exact Ext.refl _ | with_reducible assumption | with_reducible apply Ext.drewN | with_reducible apply Ext.drew | with_reducible apply Ext.alloc | exact Ext.refl _ | assumption | apply Ext.drewN | apply Ext.drew | apply Ext.alloc))⟩
  · have HT := Lib.hid (show ctL (.mk 5 n x l) = wVersion ++ (32 :: (bs n ++ (32 :: (wIn ++ (32 :: quoteL (bs x)))))) by unfold ctL; rfl)
    clear hlen hf
    go_enter Tryz.func68, Tryz.ntmps68
    go_wp2_with fail
    generalize (w.alloc (.cells #[.int .i64 5, .string n, .string x, .slice A l.length cp] 61)) = W at *
    refine wp_region_ext (by kernel_rfl) (by kernel_rfl) ?_
    repeat (first | go_big_quiet_skip | (refine wpQuiet_step (fun K hK => ?_); go_simp; first | (refine hK _ ?_; clear hK K) | (apply Exists.intro; refine ⟨fun wq hwq => ?_, hK _ ?_⟩; (obtain ⟨hqc, hqf⟩ := hwq.cells; have hqs := hwq.size; (try go_simp); first | rfl | ((first | rw [if_neg (by omega)] | rw [if_pos (by omega)]); (try go_simp); rfl) | ((go_at_call 83; exact (HQ.out _ (hxW.trans hwq)).mono (fun e w'' h => ⟨h.1, hwq.trans h.2⟩)))); clear hK K)))
    refine wpQuiet_nil ?_
    intro wN hxN
    obtain ⟨hcN, hfN⟩ := hxN.cells
    have hsN := hxN.size
    go_wp2
    go_ret
    exact ⟨ret_strS (by rw [HT.out, ← HBQ.out]; simp [bs, wVersion, wIn]), hxW.trans hxN⟩
  · have hl1 := hf.2.2.2 rfl
    match l, hl1 with
    | [c], _ =>
      have hT : ctL (.mk 6 n x [c]) = wNot ++ (32 :: ctL c) := by
        rw [show ctL (.mk 6 n x [c]) = wNot ++ (32 :: (ctsL [c]).headD []) from by unfold ctL; rfl]
        simp [ctsL]
      rw [hT] at hlen
      have HT := Lib.hid hT
      obtain ⟨t, ht, hbt, hlt⟩ : ∃ t : ByteArray, S (ctL c) = .string t ∧ bs t = ctL c ∧ t.size ≤ 90000000 := ⟨⟨(ctL c).toArray⟩, rfl, by rw [bs_mk], by rw [← bs_length, bs_mk]; simp at hlen; omega⟩
      have HBT := Lib.hid hbt
      obtain rfl := HA.out (by simp)
      obtain ⟨ck, cn, cx, cA, cm, ccp, x0, x1, x2, x3, hcd⟩ := HR.out.ext hxW 0 (by simp)
      have hih := HIH.out c (by simp) P _ _ (hg.ext hxW) hcd
      rw [ht] at hih
      have HI := Lib.hid hih
      simp only [Nat.zero_mul, Nat.add_zero, List.length_cons, List.length_nil, Nat.zero_add] at x0 x1 x2 x3
      have lb := lt_of_cell x0
      clear hih hcd hbt ht hT hlen hf hll
      go_enter Tryz.func68, Tryz.ntmps68
      go_wp2_with fail
      refine HI.out.mono ?_
      rintro e w1 ⟨rfl, hx1⟩
      go_wp2
      go_ret
      exact ⟨ret_strS (by rw [HT.out, ← HBT.out]; simp [bs, wNot]), hxW.trans hx1⟩
  · obtain ⟨WD, hWD⟩ : ∃ WD : Str, WD = (if k = 8 then wOr else wAnd) := ⟨_, rfl⟩
    have hT : ctL (.mk k n x l) = groupT WD (ctsL l) := by rcases hk78 with rfl | rfl <;> rw [hWD] <;> unfold ctL <;> rfl
    rw [cts_map] at hT
    rw [hT] at hlen
    have HT := Lib.hid hT
    clear hf hT
    rcases Nat.eq_zero_or_pos l.length with hz | hz
    · obtain rfl : l = [] := List.eq_nil_of_length_eq_zero hz
      clear hlen hz
      rcases hk78 with rfl | rfl <;> subst hWD
      all_goals
        go_enter Tryz.func68, Tryz.ntmps68
        go_wp2
        go_loop [4, 60] (fun a i => a = .slice none 0 0 ∧ i = .int .i64 0) (fun _ _ => 0)
        case atStart => exact ⟨rfl, rfl⟩
        case round =>
          obtain ⟨rfl, rfl⟩ := hrel
          go_wp2
          go_ret
          exact ⟨by rw [HT.out]; rfl, (by repeat (first | with_reducible exact Ext.refl _ | with_reducible assumption | with_reducible apply Ext.drewN | with_reducible apply Ext.drew | with_reducible apply Ext.alloc | exact Ext.refl _ | assumption | apply Ext.drewN | apply Ext.drew | apply Ext.alloc))⟩
    obtain rfl := HA.out hz
    obtain ⟨J, hJ⟩ : ∃ J : ByteArray, bs J = Lib.join (l.map ctL) (32 :: (WD ++ [32])) := ⟨⟨_⟩, bs_mk _⟩
    have hJl : l.length ≠ 1 → groupT WD (l.map ctL) = 40 :: (bs J ++ [41]) := fun h => by
      rw [hJ]
      exact group_many WD (l.map ctL) (by rw [List.length_map]; omega)
    have hJs : l.length ≠ 1 → J.size ≤ 90000000 := fun h => by
      rw [hJl h] at hlen
      have := bs_length J
      simp at hlen
      omega
    have cj : ∀ (sep : ByteArray) W B v, bs sep = 32 :: (WD ++ [32]) → W.ownsRow B 9 1 v l.length ((l.map ctL).map S) → l.length ≠ 1 → Calls Tryz.prog 107 #[v, .string sep] W fun e w' => e = .returned (.string J) ∧ Ext W w' := fun sep W B v hs hown hne => by
      have := join_own sep W hown (List.length_map _) hz (by omega) (by rw [hs, ← hJ, bs_length]; exact Nat.le_trans (hJs hne) (by decide))
      rw [hs, ← hJ, S_bs] at this
      exact this
    have HONE := Lib.hid (show ∀ (h : l.length = 1), groupT WD (l.map ctL) = (40 : UInt8) :: (WD ++ ((32 : UInt8) :: (ctL (l[0]'(by omega)) ++ [(41 : UInt8)]))) ∧ (ctL (l[0]'(by omega))).length ≤ 90000000 from fun h => by
      match l, h with
      | [c0], _ =>
        have hl2 : (groupT WD ([c0].map ctL)).length ≤ 90000000 := hlen
        rw [show groupT WD ([c0].map ctL) = 40 :: (WD ++ (32 :: (ctL c0 ++ [41]))) from rfl] at hl2
        refine ⟨rfl, ?_⟩
        show (ctL c0).length ≤ _
        simp at hl2
        omega)
    have CJ := Lib.hid cj; have HJL := Lib.hid hJl; have HJS := Lib.hid hJs; have HWD := Lib.hid hWD
    clear cj hJl hJs hJ hlen hWD

    rcases hk78 with rfl | rfl
    ·
      go_enter Tryz.func68, Tryz.ntmps68
      go_wp2
      go_loopg [4, 60] l.length (fun g v i wr => ∃ k : Nat, k ≤ l.length ∧ l.length - k ≤ g ∧ i = .int .i64 k ∧ wr.ownsRow (w.heap.size + 1) 9 1 v k ((l.take k).map fun c => S (ctL c)) ∧ Ext (w.alloc (.cells #[.int .i64 7, .string n, .string x, .slice (some ⟨b, o, none⟩) l.length cp] 61)) wr)
      case atStart => exact ⟨0, Nat.zero_le _, by omega, rfl, World.ownsRow_nil _ _ _ _, Ext.refl _⟩
      case round =>
        obtain ⟨k, hk, hgk, rfl, hown, hxr0⟩ := hrel
        have hxr : Ext w wr := hxW.trans hxr0
        have hbase : w.heap.size + 1 ≤ wr.heap.size := by have := hxr0.size; rw [World.size_alloc] at this; exact this
        by_cases hlt : k < l.length
        rotate_left
        · obtain rfl : k = l.length := by omega
          have hL : wr.ownsRow (w.heap.size + 1) 9 1 u4 l.length ((l.map ctL).map S) := by
            rw [List.map_map]
            rw [List.take_length] at hown
            exact hown
          by_cases h1 : l.length = 1
          · obtain ⟨hT2, hl2⟩ := HONE.out h1
            have h0 : 0 < l.length := hz
            obtain ⟨g, c, rfl, hgl, _, hgc, hcell⟩ := own_form hL hz
            have x0 : wr.cell? ⟨g, 0, none⟩ = some (S (ctL l[0])) := hcell 0 _ (by rw [List.getElem?_map, List.getElem?_map, List.getElem?_eq_getElem h0]; rfl)
            obtain ⟨t, ht, hbt, hlt2⟩ : ∃ t : ByteArray, S (ctL l[0]) = .string t ∧ bs t = ctL l[0] ∧ t.size ≤ 90000000 := ⟨⟨(ctL l[0]).toArray⟩, rfl, by rw [bs_mk], by rw [← bs_length, bs_mk]; exact hl2⟩
            rw [ht] at x0
            rw [← hbt] at hT2
            have HT2 := Lib.hid (HT.out.trans hT2)
            have hk0 : ((l.length : Int) == 0) = false := by rw [beq_eq_false_iff_ne]; omega
            have hk1 : ((l.length : Int) == 1) = true := by rw [beq_iff_eq]; omega
            clear hbt ht hT2 hL hown hcell hl2
            go_wp2
            go_ret
            exact ⟨ret_strS (by rw [HT2.out, HWD.out]; simp [bs, wAnd]), hxr⟩
          have hJs := HJS.out h1
          obtain ⟨g, c, rfl, hgl, _, hgc, hcell⟩ := own_form hL hz
          clear hcell
          have hk0 : ((l.length : Int) == 0) = false := by rw [beq_eq_false_iff_ne]; omega
          have hk1 : ((l.length : Int) == 1) = false := by rw [beq_eq_false_iff_ne]; omega
          go_wp2_with fail
          refine (CJ.out _ wr _ _ (by rw [HWD.out]; rfl) hL h1).mono ?_
          rintro e w2 ⟨rfl, hx2⟩
          go_wp2
          go_ret
          exact ⟨ret_strS (by rw [HT.out, HJL.out h1]; simp [bs]), hxr.trans hx2⟩
        have hk1 : k < l.length := hlt
        obtain ⟨ck, cn, cx, cA, cm, ccp, x0, x1, x2, x3, hcd⟩ := HR.out.ext hxr k hk1
        have hxs : Ext wr (wr.alloc (.cells #[.int .i64 ck, .string cn, .string cx, .slice cA cm ccp] 61)) := (Ext.refl wr).alloc _
        have hih := HIH.out l[k] (List.getElem_mem hk1) P _ _ (hg.ext (hxr.trans hxs)) (hcd.ext hxs)
        have HI := Lib.hid hih
        have HNX := Lib.hid (map_take_succ (fun c => S (ctL c)) l k hk1)
        have lb := lt_of_cell x0
        clear hih hcd
        generalize ctL l[k] = TX at *
        go_wp2_with fail
        refine HI.out.mono ?_
        rintro e w8 ⟨rfl, hx8⟩
        have hx9 := hxs.trans hx8
        have hown8 := own_ext hown hx9
        have hb8 : w.heap.size + 1 ≤ w8.heap.size := Nat.le_trans hbase hx9.size
        go_wp2_with (at_builtin; refine wpList_app1g _ _ _ rfl _ _ 100 rfl (.string ⟨#[]⟩) 1 16 Tryz.underlying100 info_string rfl (by decide) (by decide) (w.heap.size + 1) _ k _ rfl hown8 _ _ rfl (by first | rfl | simp) rfl (by simp [Value.oneCell']) (by omega) hb8 ?_; intro v' w9 hown9 hx10 _)
        go_roundg (l.length - (k + 1))
        case rel => exact ⟨k + 1, by omega, Nat.le_refl _, by go_num, by rw [← HNX.out]; exact hown9, hx10 _ (hxr0.trans hx9) (by rw [World.size_alloc]; exact Nat.le_refl _)⟩
        case measure => omega
    ·
      go_enter Tryz.func68, Tryz.ntmps68
      go_wp2
      go_loopg [4, 60] l.length (fun g v i wr => ∃ k : Nat, k ≤ l.length ∧ l.length - k ≤ g ∧ i = .int .i64 k ∧ wr.ownsRow (w.heap.size + 1) 9 1 v k ((l.take k).map fun c => S (ctL c)) ∧ Ext (w.alloc (.cells #[.int .i64 8, .string n, .string x, .slice (some ⟨b, o, none⟩) l.length cp] 61)) wr)
      case atStart => exact ⟨0, Nat.zero_le _, by omega, rfl, World.ownsRow_nil _ _ _ _, Ext.refl _⟩
      case round =>
        obtain ⟨k, hk, hgk, rfl, hown, hxr0⟩ := hrel
        have hxr : Ext w wr := hxW.trans hxr0
        have hbase : w.heap.size + 1 ≤ wr.heap.size := by have := hxr0.size; rw [World.size_alloc] at this; exact this
        by_cases hlt : k < l.length
        rotate_left
        · obtain rfl : k = l.length := by omega
          have hL : wr.ownsRow (w.heap.size + 1) 9 1 u4 l.length ((l.map ctL).map S) := by
            rw [List.map_map]
            rw [List.take_length] at hown
            exact hown
          by_cases h1 : l.length = 1
          · obtain ⟨hT2, hl2⟩ := HONE.out h1
            have h0 : 0 < l.length := hz
            obtain ⟨g, c, rfl, hgl, _, hgc, hcell⟩ := own_form hL hz
            have x0 : wr.cell? ⟨g, 0, none⟩ = some (S (ctL l[0])) := hcell 0 _ (by rw [List.getElem?_map, List.getElem?_map, List.getElem?_eq_getElem h0]; rfl)
            obtain ⟨t, ht, hbt, hlt2⟩ : ∃ t : ByteArray, S (ctL l[0]) = .string t ∧ bs t = ctL l[0] ∧ t.size ≤ 90000000 := ⟨⟨(ctL l[0]).toArray⟩, rfl, by rw [bs_mk], by rw [← bs_length, bs_mk]; exact hl2⟩
            rw [ht] at x0
            rw [← hbt] at hT2
            have HT2 := Lib.hid (HT.out.trans hT2)
            have hk0 : ((l.length : Int) == 0) = false := by rw [beq_eq_false_iff_ne]; omega
            have hk1 : ((l.length : Int) == 1) = true := by rw [beq_iff_eq]; omega
            clear hbt ht hT2 hL hown hcell hl2
            go_wp2
            go_ret
            exact ⟨ret_strS (by rw [HT2.out, HWD.out]; simp [bs, wOr]), hxr⟩
          have hJs := HJS.out h1
          obtain ⟨g, c, rfl, hgl, _, hgc, hcell⟩ := own_form hL hz
          clear hcell
          have hk0 : ((l.length : Int) == 0) = false := by rw [beq_eq_false_iff_ne]; omega
          have hk1 : ((l.length : Int) == 1) = false := by rw [beq_eq_false_iff_ne]; omega
          go_wp2_with fail
          refine (CJ.out _ wr _ _ (by rw [HWD.out]; rfl) hL h1).mono ?_
          rintro e w2 ⟨rfl, hx2⟩
          go_wp2
          go_ret
          exact ⟨ret_strS (by rw [HT.out, HJL.out h1]; simp [bs]), hxr.trans hx2⟩
        have hk1 : k < l.length := hlt
        obtain ⟨ck, cn, cx, cA, cm, ccp, x0, x1, x2, x3, hcd⟩ := HR.out.ext hxr k hk1
        have hxs : Ext wr (wr.alloc (.cells #[.int .i64 ck, .string cn, .string cx, .slice cA cm ccp] 61)) := (Ext.refl wr).alloc _
        have hih := HIH.out l[k] (List.getElem_mem hk1) P _ _ (hg.ext (hxr.trans hxs)) (hcd.ext hxs)
        have HI := Lib.hid hih
        have HNX := Lib.hid (map_take_succ (fun c => S (ctL c)) l k hk1)
        have lb := lt_of_cell x0
        clear hih hcd
        generalize ctL l[k] = TX at *
        go_wp2_with fail
        refine HI.out.mono ?_
        rintro e w8 ⟨rfl, hx8⟩
        have hx9 := hxs.trans hx8
        have hown8 := own_ext hown hx9
        have hb8 : w.heap.size + 1 ≤ w8.heap.size := Nat.le_trans hbase hx9.size
        go_wp2_with (at_builtin; refine wpList_app1g _ _ _ rfl _ _ 100 rfl (.string ⟨#[]⟩) 1 16 Tryz.underlying100 info_string rfl (by decide) (by decide) (w.heap.size + 1) _ k _ rfl hown8 _ _ rfl (by first | rfl | simp) rfl (by simp [Value.oneCell']) (by omega) hb8 ?_; intro v' w9 hown9 hx10 _)
        go_roundg (l.length - (k + 1))
        case rel => exact ⟨k + 1, by omega, Nat.le_refl _, by go_num, by rw [← HNX.out]; exact hown9, hx10 _ (hxr0.trans hx9) (by rw [World.size_alloc]; exact Nat.le_refl _)⟩
        case measure => omega

theorem CondText_any : ∀ (m : Nat) (c : Cd), OkD m c → cnt c ≤ 10000 → ∀ (P : Nat → Prop) (v : Value) (w : World), Good w → CdIn P w c v → Calls Tryz.prog 68 #[v] w fun e w' => e = .returned (S (ctL c)) ∧ Ext w w' := by
  intro m
  induction m with
  | zero =>
    intro c h hc P v w hg hcd
    have hlen := ct_len 0 c h
    obtain ⟨k, n, x, l⟩ := c
    have hl := (form_leaf (part_form h.1)).2.2.1 h.2
    exact CondText_step k n x l h.1 (by omega) (by omega) (fun c hm => by rw [List.eq_nil_of_length_eq_zero hl] at hm; cases hm) P v w hg hcd
  | succ m ih =>
    intro c h hc P v w hg hcd
    have hlen := ct_len (m + 1) c h
    obtain ⟨k, n, x, l⟩ := c
    have hcl : cnt (.mk k n x l) = 1 + cnts l := rfl
    have := cntz_len l
    exact CondText_step k n x l h.1 (by omega) (by omega) (fun c hm P v w hg hcd => ih c (h.2 c hm) (by have := cnts_mem' hm; omega) P v w hg hcd) P v w hg hcd
end Go.Proofs.YtaobnifiengglaaGreatDoor

namespace Go.Proofs.YtaobnifiengglaaGreatDoor
open Go.RowKit

/-- what ver.PrintCond gives -/
def prC (c : Cd) : Str := if checkC c = 0 then ctL c else []
theorem check_cnt {c : Cd} (h : checkC c = 0) : cnt c ≤ 100 := by
  unfold checkC at h
  by_cases h1 : 100 < cnt c
  · rw [if_pos h1] at h; cases h
  · omega
set_option maxHeartbeats 4000000 in
theorem PrintCond_any (c : Cd) (v : Value) (P : Nat → Prop) (w : World) (hg : GoodN w) (hc : CdIn P w c v) (hsm : SmallC c) (hcnt : cnt c ≤ 100000000) :
    Calls Tryz.prog 64 #[v] w fun e w' => e = .returned (.tuple #[S (prC c), .int .i64 (checkC c)]) ∧ Ext w w' := by
  obtain ⟨k, n, x, A, m, cp, rfl⟩ := hc.cells
  have hx0 : Ext w (w.alloc (.cells #[.int .i64 k, .string n, .string x, .slice A m cp] 61)) := (Ext.refl w).alloc _
  have bX := Blk.new w 61 #[.int .i64 k, .string n, .string x, .slice A m cp]
  have CC := Lib.hid (CheckCond_any c _ _ _ (hg.ext hx0) (hc.ext hx0) hsm hcnt)
  have CT := Lib.hid (fun (h0 : checkC c = 0) W (hx : Ext w W) => condText_any 100 c (ok_of_check h0) (by have := check_cnt h0; omega) P _ W (hg.toGood.ext hx) (hc.ext hx))
  unfold prC
  clear hc
  generalize checkC c = E at *
  generalize ctL c = T at *
  go_enter Tryz.func64, Tryz.ntmps64
  go_wp2_with fail
  refine CC.out.mono ?_
  rintro e w1 ⟨rfl, hx1⟩
  have hxa := hx0.trans hx1
  have bX1 := bX.ext hx1
  have cX := bX1.cell; have lX := bX1.lt
  by_cases h0 : E = 0
  · subst h0
    have CT2 := Lib.hid (CT.out rfl)
    clear CT
    go_wp2_with fail
    refine (CT2.out _ hxa).mono ?_
    rintro e w2 ⟨rfl, hx2⟩
    go_wp2
    go_ret2
    exact ⟨by first | rfl | (rw [if_pos rfl]; done) | simp, hxa.trans hx2⟩
  · have hne : (E != 0) = true := by rw [bne_iff_ne]; exact h0
    go_wp2
    go_ret2
    exact ⟨by first | rfl | (rw [if_neg h0]; first | done | rfl) | simp [h0], hxa⟩
end Go.Proofs.YtaobnifiengglaaGreatDoor

namespace Go.Proofs.YtaobnifiengglaaGreatDoor

theorem cmpB_lt : ∀ a b : Str, Lib.compareBytes a b < 0 ↔ a < b
  | [], [] => by simp [Lib.compareBytes]
  | [], b :: rb => by simp [Lib.compareBytes]
  | a :: ra, [] => by simp [Lib.compareBytes]
  | a :: ra, b :: rb => by
    unfold Lib.compareBytes
    rw [List.cons_lt_cons_iff]
    by_cases h : a < b
    · simp [h]
    · by_cases h2 : b < a
      · rw [if_neg h, if_pos h2]
        constructor
        · intro h3; omega
        · rintro (h3 | ⟨rfl, _⟩)
          · exact absurd h3 h
          · exact absurd h2 (UInt8.lt_irrefl _)
      · rw [if_neg h, if_neg h2, cmpB_lt ra rb]
        obtain rfl : a = b := UInt8.le_antisymm (UInt8.not_lt.1 h2) (UInt8.not_lt.1 h)
        constructor
        · intro h3; exact .inr ⟨rfl, h3⟩
        · rintro (h3 | ⟨_, h3⟩)
          · exact absurd h3 h
          · exact h3
theorem cmpB_zero : ∀ a b : Str, Lib.compareBytes a b = 0 ↔ a = b
  | [], [] => by simp [Lib.compareBytes]
  | [], b :: rb => by simp [Lib.compareBytes]
  | a :: ra, [] => by simp [Lib.compareBytes]
  | a :: ra, b :: rb => by
    unfold Lib.compareBytes
    by_cases h : a < b
    · rw [if_pos h]
      constructor
      · intro h3; omega
      · intro h3; injection h3 with h3 _; subst h3; exact absurd h (UInt8.lt_irrefl _)
    · by_cases h2 : b < a
      · rw [if_neg h, if_pos h2]
        constructor
        · intro h3; omega
        · intro h3; injection h3 with h3 _; subst h3; exact absurd h2 (UInt8.lt_irrefl _)
      · rw [if_neg h, if_neg h2, cmpB_zero ra rb]
        obtain rfl : a = b := UInt8.le_antisymm (UInt8.not_lt.1 h2) (UInt8.not_lt.1 h)
        simp
theorem strLt_irrefl (a : Str) : ¬ a < a := List.lt_irrefl a
theorem strLt_trans {a b c : Str} (h : a < b) (h2 : b < c) : a < c := List.lt_trans h h2
theorem strLt_of {a b : Str} (h : ¬ b < a) (hne : b ≠ a) : a < b := by
  by_cases h1 : a < b
  · exact h1
  · exact absurd (List.le_antisymm (List.not_lt.1 h1) (List.not_lt.1 h)) hne
/-- ordered by their keys -/
def Asc (l : List Se) : Prop := ∀ i j (hj : j < l.length) (hi : i < j), bs (l[i]'(Nat.lt_trans hi hj)).k < bs l[j].k
theorem firstI_all : ∀ {l : List Int}, firstI l = 0 → ∀ x ∈ l, x = 0
  | [], _ => by simp
  | y :: l, h => by
    unfold firstI at h
    by_cases hy : y = 0
    · rw [if_pos hy] at h
      intro x hx
      rcases List.mem_cons.1 hx with rfl | hx
      · exact hy
      · exact firstI_all h x hx
    · rw [if_neg hy] at h; exact absurd h hy
theorem seErr_asc {is : Str → Bool} {l : List Se} (h : seErr is l = 0) : Asc l := by
  have h1 : ∀ k (hk : k + 1 < l.length), bs (l[k]'(by omega)).k < bs l[k + 1].k := fun k hk => by
    have h0 := firstI_all h (seAt is l (k + 1)) (by
      rw [← seErrs_get is l (k + 1) (by rw [seErrs_length]; exact hk)]
      exact List.getElem_mem _)
    have h2 : seOne is l[k + 1] = 0 := by
      by_cases e : seOne is l[k + 1] = 0
      · exact e
      · rw [seAt_bad hk e] at h0; exact h0
    rw [seAt_gap hk h2, seGap] at h0
    by_cases hb : (Op.bytesLess l[k + 1].k.toList l[k].k.toList || l[k + 1].k.toList == l[k].k.toList) = true
    · rw [if_pos hb] at h0; cases h0
    · simp only [ByteArray.toList_eq, Proofs.bytesLess_eq, Bool.or_eq_true, decide_eq_true_eq, beq_iff_eq, not_or] at hb
      exact strLt_of hb.1 hb.2
  suffices ∀ d i (hd : i + (d + 1) < l.length), bs (l[i]'(by omega)).k < bs l[i + (d + 1)].k from fun i j hj hi => by
    obtain ⟨d, rfl⟩ : ∃ d, j = i + (d + 1) := ⟨j - i - 1, by omega⟩
    exact this d i hj
  intro d
  induction d with
  | zero => exact fun i hd => h1 i hd
  | succ d ih => exact fun i hd => strLt_trans (ih i (by omega)) (h1 (i + (d + 1)) hd)
theorem tbl_some {l : List Se} (ha : Asc l) : ∀ N, N ≤ l.length → ∀ i (_h : i < N) (hl : i < l.length), tblN l N (bs l[i].k) = some (bs l[i].v)
  | 0, _, _, h, _ => absurd h (Nat.not_lt_zero _)
  | N + 1, hN, i, h, hl => by
    rw [tblN_succ (show N < l.length by omega)]
    dsimp only
    by_cases e : i = N
    · subst e; rw [if_pos rfl]
    · have := ha i N (by omega) (by omega)
      rw [if_neg (fun e2 => by rw [e2] at this; exact strLt_irrefl _ this)]
      exact tbl_some ha N (by omega) i (by omega) hl
theorem tbl_none {l : List Se} {x : Str} : ∀ N (hN : N ≤ l.length), (∀ i (h : i < N), x ≠ bs (l[i]'(by omega)).k) → tblN l N x = none
  | 0, _, _ => rfl
  | N + 1, hN, h => by
    rw [tblN_succ (show N < l.length by omega)]
    dsimp only
    rw [if_neg (h N (by omega))]
    exact tbl_none N (by omega) fun i hi => h i (by omega)
/-- a search's bounds -/
def Below_ (l : List Se) (x : Str) (i : Nat) : Prop := ∀ k (hk : k < l.length), k < i → bs l[k].k < x
def Above_ (l : List Se) (x : Str) (j : Nat) : Prop := ∀ k (hk : k < l.length), j ≤ k → ¬ bs l[k].k < x
theorem below_next {l : List Se} (ha : Asc l) {x : Str} {h : Nat} (hh : h < l.length) (hx : bs l[h].k < x) : Below_ l x (h + 1) := fun k hk hkh => by
  by_cases e : k = h
  · subst e; exact hx
  · exact strLt_trans (ha k h hh (by omega)) hx
theorem above_next {l : List Se} (ha : Asc l) {x : Str} {h : Nat} (hh : h < l.length) (hx : ¬ bs l[h].k < x) : Above_ l x h := fun k hk hkh => by
  by_cases e : k = h
  · subst e; exact hx
  · exact fun h2 => hx (strLt_trans (ha h k hk (by omega)) h2)
theorem search_hit {l : List Se} (ha : Asc l) {x : Str} {i : Nat} (hi : i < l.length) (he : bs l[i].k = x) : tbl l x = some (bs l[i].v) := by
  subst he
  exact tbl_some ha l.length (Nat.le_refl _) i hi hi
theorem search_miss {l : List Se} (ha : Asc l) {x : Str} {i : Nat} (hb : Below_ l x i) (hab : Above_ l x i) (he : ∀ h : i < l.length, bs l[i].k ≠ x) : tbl l x = none := by
  refine tbl_none l.length (Nat.le_refl _) fun k hk e => ?_
  by_cases h1 : k < i
  · have := hb k hk h1
    rw [← e] at this
    exact strLt_irrefl _ this
  · by_cases h2 : k = i
    · subst h2; exact he hk e.symm
    · have := ha i k hk (by omega)
      rw [← e] at this
      exact hab i (by omega) (Nat.le_refl _) this
end Go.Proofs.YtaobnifiengglaaGreatDoor
