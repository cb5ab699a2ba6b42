/- Contract of outref2.RangeText. -/
import Derived.Test.YtncagihilplliaaGreatDoorRngF
namespace Go.Proofs.YtncagihilplliaaGreatDoor
open Go.RowKit

theorem sp_both (F T : Str) : Lib.join [62 :: 61 :: F, 60 :: T] [32] = [62, 61] ++ F ++ [32, 60] ++ T := by
  rw [Lib.join_cons]
  simp [Lib.joinTail]
theorem join_none_star : Lib.join [([42] : Str)] [32] = [42] := Lib.join_one _ _
set_option maxHeartbeats 16000000 in
set_option maxRecDepth 100000 in
theorem RangeText_any (A : Option Addr) (n c : Nat) (l : List Sp) (w : World) (hg : GoodN w) (hn : l.length = n) (hr : RdS w A l) (hs : SmallS l) (hl : n ≤ 2097152) (h0 : rngErr l = 0) :
    Calls Tryz.prog 36 #[.agg #[.slice A n c]] w fun e w' => e = .returned (S (rngText l)) ∧ Ext w w' := by
  have HN := Lib.hid hn
  have H0 := Lib.hid h0
  have hj := join_sp_len h0
  clear hn h0
  rcases Nat.eq_zero_or_pos n with hz | hz
  · subst hz
    have he : l = [] := List.eq_nil_of_length_eq_zero HN.out
    have HE := Lib.hid he
    clear he
    go_enter Tryz.func36, Tryz.ntmps36
    go_wp2
    go_ret
    exact ⟨by rw [HE.out, rngText, if_pos rfl]; rfl, (by repeat (first | with_reducible exact Ext.refl _ | with_reducible assumption | with_reducible apply Ext.drewN | with_reducible apply Ext.drew | with_reducible apply Ext.alloc | exact Ext.refl _ | assumption | apply Ext.drewN | apply Ext.drew | apply Ext.alloc))⟩
  have hne : ¬ l = [] := fun e => by have := HN.out; rw [e] at this; simp at this; omega
  obtain ⟨b, o, rfl, hX⟩ := hr hne
  have hT : rngText l = Lib.join (l.map spText) [44, 32] := by rw [rngText, if_neg hne]
  have HT := Lib.hid hT
  clear hT hne hr
  have hnn : ((n : Int) == 0) = false := by rw [beq_eq_false_iff_ne]; omega
  go_enter Tryz.func36, Tryz.ntmps36
  go_wp2
  go_loopg [3, 14] n (fun g v i wr => ∃ k : Nat, k ≤ n ∧ n - k ≤ g ∧ i = .int .i64 k ∧ wr.ownsRow (w.heap.size + 1) 9 1 v k ((l.take k).map fun s => S (spText s)) ∧ Ext (w.alloc (.cells #[.slice (some ⟨b, o, none⟩) n c] 51)) wr)
  case atStart => exact ⟨0, Nat.zero_le _, by omega, rfl, World.ownsRow_nil _ _ _ _, Ext.refl _⟩
  case round =>
    obtain ⟨k, hk, hgk, rfl, hown, hxr⟩ := hrel
    have hxw : Ext w wr := Ext.trans (by repeat (first | with_reducible exact Ext.refl _ | with_reducible assumption | with_reducible apply Ext.drewN | with_reducible apply Ext.drew | with_reducible apply Ext.alloc | exact Ext.refl _ | assumption | apply Ext.drewN | apply Ext.drew | apply Ext.alloc)) hxr
    have hbase : w.heap.size + 1 ≤ wr.heap.size := by have := hxr.size; simp at this; omega
    by_cases hlt : k < n
    rotate_left
    · obtain rfl : k = n := by omega
      have hL : wr.ownsRow (w.heap.size + 1) 9 1 u3 k ((l.map spText).map S) := by
        rw [List.map_map]
        rw [← HN.out, List.take_length, HN.out] at hown
        exact hown
      go_wp2_with fail
      refine (join_own ⟨#[44, 32]⟩ wr hL (by rw [List.length_map]; exact HN.out) hz (by omega) (by have := hj; exact Nat.le_trans this (by decide))).mono ?_
      rintro e w2 ⟨rfl, hx2⟩
      go_wp2
      go_ret
      exact ⟨by rw [HT.out]; rfl, hxw.trans hx2⟩
    have hk1 : k < l.length := by rw [HN.out]; exact hlt
    have X := hX.ext hxw
    have x0 := X.c0 k hk1; have x1 := X.c1 k hk1; have x2 := X.c2 k hk1; have x3 := X.c3 k hk1; have x4 := X.c4 k hk1
    have x5 := X.c5 k hk1; have x6 := X.c6 k hk1; have x7 := X.c7 k hk1; have x8 := X.c8 k hk1; have x9 := X.c9 k hk1
    have hz1 := hs l[k] (List.getElem_mem hk1)
    have hok := sps_ok H0.out l[k] (List.getElem_mem hk1)
    have HNX := Lib.hid (map_take_succ (fun s => S (spText s)) l k hk1)
    clear X
    generalize l[k] = s at *
    have hX : spText s = if s.hf = true then (if s.ht = true then [62, 61] ++ s.f.text ++ [32, 60] ++ s.t.text else [62, 61] ++ s.f.text) else if s.ht = true then [60] ++ s.t.text else [42] := rfl
    have lF := text_len hok.1
    have lT := text_len hok.2
    obtain ⟨hf, ht, f, t⟩ := s
    dsimp only at x0 x1 x2 x3 x4 x5 x6 x7 x8 x9 hz1 hok hX lF lT
    have cF : ∀ W, Ext w W → Calls Tryz.prog 30 #[verV f] W fun e w'' => e = .returned (S f.text) ∧ Ext W w'' := fun W hx => vtext_x f W (hg.ext hx) hz1.1 hok.1
    have cT : ∀ W, Ext w W → Calls Tryz.prog 30 #[verV t] W fun e w'' => e = .returned (S t.text) ∧ Ext W w'' := fun W hx => vtext_x t W (hg.ext hx) hz1.2 hok.2
    have HXX := Lib.hid hX
    clear hX hok hz1
    generalize spText ⟨hf, ht, f, t⟩ = TX at *
    generalize f.text = F at *
    generalize t.text = T at *
    obtain ⟨f1, f2, f3, fa⟩ := f
    obtain ⟨t1, t2, t3, ta⟩ := t
    dsimp only [verV] at cF cT
    dsimp only at x0 x1 x2 x3 x4 x5 x6 x7 x8 x9
    have CF := Lib.hid cF
    have CT := Lib.hid cT
    clear cF cT
    cases hf <;> cases ht
    · have hlitb : (wr.alloc (.cells #[.bool false, .bool false, .int .i64 f1, .int .i64 f2, .int .i64 f3, .string fa, .int .i64 t1, .int .i64 t2, .int .i64 t3, .string ta] 103)).heap.size = wr.heap.size + 1 := by simp
      have hl := World.ownsRow_lit (base := 0) (e := 9) (size := 1) (wr.alloc (.cells #[.bool false, .bool false, .int .i64 f1, .int .i64 f2, .int .i64 f3, .string fa, .int .i64 t1, .int .i64 t2, .int .i64 t3, .string ta] 103)) #[.string ⟨#[42]⟩] 1 (Nat.zero_le _) (by decide) rfl
      rw [hlitb] at hl
      have hL := hl
      go_wp2_with fail
      refine (join_own ⟨#[32]⟩ _ (L := [[42]]) hL rfl (by decide) (by decide) (by rw [show Lib.join [([42] : Str)] (bs ⟨#[32]⟩) = [42] from join_none_star]; first | (simp; done) | (simp; omega))).mono ?_
      rintro e w8 ⟨rfl, hx8⟩
      have hx9 : Ext wr w8 := (((Ext.refl wr).alloc _).alloc _).trans hx8
      have hown8 := own_ext hown hx9
      have hTX : Lib.join [[42]] (bs ⟨#[32]⟩) = TX := by rw [HXX.out]; exact join_none_star
      rw [hTX]
      clear hTX
      have hb8 : w.heap.size + 1 ≤ w8.heap.size := Nat.le_trans hbase hx9.size
      go_wp2_with (at_builtin; refine wpList_app1g _ _ _ rfl _ _ 70 rfl (.string ⟨#[]⟩) 1 16 Tryz.underlying70 info_string rfl (by decide) (by decide) (w.heap.size + 1) _ k _ rfl hown8 _ _ rfl (by first | rfl | simp) rfl (by simp [Value.oneCell']) (by omega) hb8 ?_; intro v' w9 hown9 hx10 _)
      go_roundg (n - (k + 1))
      case rel => exact ⟨k + 1, by omega, Nat.le_refl _, by go_num, by rw [← HNX.out]; exact hown9, hx10 _ (hxr.trans hx9) (by simp)⟩
      case measure => omega
    · go_wp2_with fail
      refine (CT.out _ (hxw.trans (by repeat (first | with_reducible exact Ext.refl _ | with_reducible assumption | with_reducible apply Ext.drewN | with_reducible apply Ext.drew | with_reducible apply Ext.alloc | exact Ext.refl _ | assumption | apply Ext.drewN | apply Ext.drew | apply Ext.alloc)))).mono ?_
      rintro e w2 ⟨rfl, hx2⟩
      have hE2 : Ext wr w2 := Ext.trans (by repeat (first | with_reducible exact Ext.refl _ | with_reducible assumption | with_reducible apply Ext.drewN | with_reducible apply Ext.drew | with_reducible apply Ext.alloc | exact Ext.refl _ | assumption | apply Ext.drewN | apply Ext.drew | apply Ext.alloc)) hx2
      have b2 := (Blk.new wr 103 #[.bool false, .bool true, .int .i64 f1, .int .i64 f2, .int .i64 f3, .string fa, .int .i64 t1, .int .i64 t2, .int .i64 t3, .string ta]).ext hx2
      have s2 := b2.cell; have z2 := b2.lt
      clear x0 x1 x2 x3 x4 x5 x6 x7 x8 x9 hx2
      go_wp2_with (at_builtin; refine wpList_app1g _ _ _ rfl _ _ 70 rfl (.string ⟨#[]⟩) 1 16 Tryz.underlying70 info_string rfl (by decide) (by decide) w2.heap.size _ 0 _ rfl (World.ownsRow_nil _ _ _ _) _ _ rfl (by first | rfl | simp) rfl (by simp [Value.oneCell']) (by omega) (Nat.le_refl _) ?_; intro v1 w3 own3 hx3 hb3; simp only [Nat.zero_add, Nat.reduceAdd, List.nil_append, List.cons_append] at own3; (obtain ⟨g3, c3, hv3, _, _, _, _⟩ := own_form own3 (by omega)); subst hv3; have hE3 := hx3 _ hE2 hE2.size; have b3 := hb3 _ _ _ b2 b2.lt; have s3 := b3.cell; have z3 := b3.lt)
      have hL : w3.ownsRow w2.heap.size 9 1 (.slice (some ⟨g3, 0, none⟩) 1 c3) 1 ([60 :: T].map S) := by
          have e1 : Value.string (⟨#[60]⟩ ++ ⟨T.toArray⟩) = S (60 :: T) := str_S (by rw [bs_append, bs_mk]; rfl)
          rw [List.map_cons, List.map_nil, ← e1]
          exact own3
      go_wp2_with fail
      refine (join_own ⟨#[32]⟩ w3 (L := [60 :: T]) hL rfl (by decide) (by decide) (by rw [show Lib.join [60 :: T] (bs ⟨#[32]⟩) = 60 :: T from Lib.join_one _ _]; first | (simp; done) | (simp; omega))).mono ?_
      rintro e w8 ⟨rfl, hx8⟩
      have hx9 : Ext wr w8 := (hE3).trans hx8
      have hown8 := own_ext hown hx9
      have hTX : Lib.join [60 :: T] (bs ⟨#[32]⟩) = TX := by rw [HXX.out]; exact Lib.join_one _ _
      rw [hTX]
      clear hTX
      have hb8 : w.heap.size + 1 ≤ w8.heap.size := Nat.le_trans hbase hx9.size
      go_wp2_with (at_builtin; refine wpList_app1g _ _ _ rfl _ _ 70 rfl (.string ⟨#[]⟩) 1 16 Tryz.underlying70 info_string rfl (by decide) (by decide) (w.heap.size + 1) _ k _ rfl hown8 _ _ rfl (by first | rfl | simp) rfl (by simp [Value.oneCell']) (by omega) hb8 ?_; intro v' w9 hown9 hx10 _)
      go_roundg (n - (k + 1))
      case rel => exact ⟨k + 1, by omega, Nat.le_refl _, by go_num, by rw [← HNX.out]; exact hown9, hx10 _ (hxr.trans hx9) (by simp)⟩
      case measure => omega
    · go_wp2_with fail
      refine (CF.out _ (hxw.trans (by repeat (first | with_reducible exact Ext.refl _ | with_reducible assumption | with_reducible apply Ext.drewN | with_reducible apply Ext.drew | with_reducible apply Ext.alloc | exact Ext.refl _ | assumption | apply Ext.drewN | apply Ext.drew | apply Ext.alloc)))).mono ?_
      rintro e w2 ⟨rfl, hx2⟩
      have hE2 : Ext wr w2 := Ext.trans (by repeat (first | with_reducible exact Ext.refl _ | with_reducible assumption | with_reducible apply Ext.drewN | with_reducible apply Ext.drew | with_reducible apply Ext.alloc | exact Ext.refl _ | assumption | apply Ext.drewN | apply Ext.drew | apply Ext.alloc)) hx2
      have b2 := (Blk.new wr 103 #[.bool true, .bool false, .int .i64 f1, .int .i64 f2, .int .i64 f3, .string fa, .int .i64 t1, .int .i64 t2, .int .i64 t3, .string ta]).ext hx2
      have s2 := b2.cell; have z2 := b2.lt
      clear x0 x1 x2 x3 x4 x5 x6 x7 x8 x9 hx2
      go_wp2_with (at_builtin; refine wpList_app1g _ _ _ rfl _ _ 70 rfl (.string ⟨#[]⟩) 1 16 Tryz.underlying70 info_string rfl (by decide) (by decide) w2.heap.size _ 0 _ rfl (World.ownsRow_nil _ _ _ _) _ _ rfl (by first | rfl | simp) rfl (by simp [Value.oneCell']) (by omega) (Nat.le_refl _) ?_; intro v1 w3 own3 hx3 hb3; simp only [Nat.zero_add, Nat.reduceAdd, List.nil_append, List.cons_append] at own3; (obtain ⟨g3, c3, hv3, _, _, _, _⟩ := own_form own3 (by omega)); subst hv3; have hE3 := hx3 _ hE2 hE2.size; have b3 := hb3 _ _ _ b2 b2.lt; have s3 := b3.cell; have z3 := b3.lt)
      have hL : w3.ownsRow w2.heap.size 9 1 (.slice (some ⟨g3, 0, none⟩) 1 c3) 1 ([62 :: 61 :: F].map S) := by
          have e1 : Value.string (⟨#[62, 61]⟩ ++ ⟨F.toArray⟩) = S (62 :: 61 :: F) := str_S (by rw [bs_append, bs_mk]; rfl)
          rw [List.map_cons, List.map_nil, ← e1]
          exact own3
      go_wp2_with fail
      refine (join_own ⟨#[32]⟩ w3 (L := [62 :: 61 :: F]) hL rfl (by decide) (by decide) (by rw [show Lib.join [62 :: 61 :: F] (bs ⟨#[32]⟩) = 62 :: 61 :: F from Lib.join_one _ _]; first | (simp; done) | (simp; omega))).mono ?_
      rintro e w8 ⟨rfl, hx8⟩
      have hx9 : Ext wr w8 := (hE3).trans hx8
      have hown8 := own_ext hown hx9
      have hTX : Lib.join [62 :: 61 :: F] (bs ⟨#[32]⟩) = TX := by rw [HXX.out]; exact Lib.join_one _ _
      rw [hTX]
      clear hTX
      have hb8 : w.heap.size + 1 ≤ w8.heap.size := Nat.le_trans hbase hx9.size
      go_wp2_with (at_builtin; refine wpList_app1g _ _ _ rfl _ _ 70 rfl (.string ⟨#[]⟩) 1 16 Tryz.underlying70 info_string rfl (by decide) (by decide) (w.heap.size + 1) _ k _ rfl hown8 _ _ rfl (by first | rfl | simp) rfl (by simp [Value.oneCell']) (by omega) hb8 ?_; intro v' w9 hown9 hx10 _)
      go_roundg (n - (k + 1))
      case rel => exact ⟨k + 1, by omega, Nat.le_refl _, by go_num, by rw [← HNX.out]; exact hown9, hx10 _ (hxr.trans hx9) (by simp)⟩
      case measure => omega
    · go_wp2_with fail
      refine (CF.out _ (hxw.trans (by repeat (first | with_reducible exact Ext.refl _ | with_reducible assumption | with_reducible apply Ext.drewN | with_reducible apply Ext.drew | with_reducible apply Ext.alloc | exact Ext.refl _ | assumption | apply Ext.drewN | apply Ext.drew | apply Ext.alloc)))).mono ?_
      rintro e w2 ⟨rfl, hx2⟩
      have hE2 : Ext wr w2 := Ext.trans (by repeat (first | with_reducible exact Ext.refl _ | with_reducible assumption | with_reducible apply Ext.drewN | with_reducible apply Ext.drew | with_reducible apply Ext.alloc | exact Ext.refl _ | assumption | apply Ext.drewN | apply Ext.drew | apply Ext.alloc)) hx2
      have b2 := (Blk.new wr 103 #[.bool true, .bool true, .int .i64 f1, .int .i64 f2, .int .i64 f3, .string fa, .int .i64 t1, .int .i64 t2, .int .i64 t3, .string ta]).ext hx2
      have s2 := b2.cell; have z2 := b2.lt
      clear x0 x1 x2 x3 x4 x5 x6 x7 x8 x9 hx2
      go_wp2_with (at_builtin; refine wpList_app1g _ _ _ rfl _ _ 70 rfl (.string ⟨#[]⟩) 1 16 Tryz.underlying70 info_string rfl (by decide) (by decide) w2.heap.size _ 0 _ rfl (World.ownsRow_nil _ _ _ _) _ _ rfl (by first | rfl | simp) rfl (by simp [Value.oneCell']) (by omega) (Nat.le_refl _) ?_; intro v1 w3 own3 hx3 hb3; simp only [Nat.zero_add, Nat.reduceAdd, List.nil_append, List.cons_append] at own3; (obtain ⟨g3, c3, hv3, _, _, _, _⟩ := own_form own3 (by omega)); subst hv3; have hE3 := hx3 _ hE2 hE2.size; have b3 := hb3 _ _ _ b2 b2.lt; have s3 := b3.cell; have z3 := b3.lt)
      refine (CT.out _ (hxw.trans hE3)).mono ?_
      rintro e w4 ⟨rfl, hx4⟩
      have own4 := own_ext own3 hx4
      have b4 := b3.ext hx4
      have s4 := b4.cell; have z4 := b4.lt
      have hE4 := hE3.trans hx4
      have hz4 : w2.heap.size ≤ w4.heap.size := (Ext.trans (hx3 _ (Ext.refl _) (Nat.le_refl _)) hx4).size
      clear s2 z2 s3 z3
      go_wp2_with (at_builtin; refine wpList_app1g _ _ _ rfl _ _ 70 rfl (.string ⟨#[]⟩) 1 16 Tryz.underlying70 info_string rfl (by decide) (by decide) w2.heap.size _ 1 _ rfl own4 _ _ rfl (by first | rfl | simp) rfl (by simp [Value.oneCell']) (by omega) hz4 ?_; intro v1 w5 own5 hx5 hb5; simp only [Nat.zero_add, Nat.reduceAdd, List.nil_append, List.cons_append] at own5; (obtain ⟨g5, c5, hv5, _, _, _, _⟩ := own_form own5 (by omega)); subst hv5; have hE5 := hx5 _ hE4 hE2.size)
      have hL : w5.ownsRow w2.heap.size 9 1 (.slice (some ⟨g5, 0, none⟩) 2 c5) 2 ([62 :: 61 :: F, 60 :: T].map S) := by
          have e1 : Value.string (⟨#[62, 61]⟩ ++ ⟨F.toArray⟩) = S (62 :: 61 :: F) := str_S (by rw [bs_append, bs_mk]; rfl)
          have e2 : Value.string (⟨#[60]⟩ ++ ⟨T.toArray⟩) = S (60 :: T) := str_S (by rw [bs_append, bs_mk]; rfl)
          rw [List.map_cons, List.map_cons, List.map_nil, ← e1, ← e2]
          exact own5
      go_wp2_with fail
      refine (join_own ⟨#[32]⟩ w5 (L := [62 :: 61 :: F, 60 :: T]) hL rfl (by decide) (by decide) (by rw [show Lib.join [62 :: 61 :: F, 60 :: T] (bs ⟨#[32]⟩) = _ from sp_both F T]; first | (simp; done) | (simp; omega))).mono ?_
      rintro e w8 ⟨rfl, hx8⟩
      have hx9 : Ext wr w8 := (hE5).trans hx8
      have hown8 := own_ext hown hx9
      have hTX : Lib.join [62 :: 61 :: F, 60 :: T] (bs ⟨#[32]⟩) = TX := by rw [HXX.out]; exact sp_both F T
      rw [hTX]
      clear hTX
      have hb8 : w.heap.size + 1 ≤ w8.heap.size := Nat.le_trans hbase hx9.size
      go_wp2_with (at_builtin; refine wpList_app1g _ _ _ rfl _ _ 70 rfl (.string ⟨#[]⟩) 1 16 Tryz.underlying70 info_string rfl (by decide) (by decide) (w.heap.size + 1) _ k _ rfl hown8 _ _ rfl (by first | rfl | simp) rfl (by simp [Value.oneCell']) (by omega) hb8 ?_; intro v' w9 hown9 hx10 _)
      go_roundg (n - (k + 1))
      case rel => exact ⟨k + 1, by omega, Nat.le_refl _, by go_num, by rw [← HNX.out]; exact hown9, hx10 _ (hxr.trans hx9) (by simp)⟩
      case measure => omega
end Go.Proofs.YtncagihilplliaaGreatDoor
