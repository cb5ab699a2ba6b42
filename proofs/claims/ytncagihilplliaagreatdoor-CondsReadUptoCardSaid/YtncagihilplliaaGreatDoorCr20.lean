/- Contract of ver.PrintRange. -/
import Derived.Test.YtncagihilplliaaGreatDoorCr19
import Derived.Deep.LoopGhost

namespace Go.Proofs.YtncagihilplliaaGreatDoor
open Go.RowKit

/-- ver.PrintRange's text -/
def prR (l : List Sp) : Str := if rngErr l = 0 then rngText l else []
theorem sps_ok {l : List Sp} (h : rngErr l = 0) : ∀ s ∈ l, s.f.err = 0 ∧ s.t.err = 0 := fun s hs => by
  obtain ⟨_, hall⟩ := rng_ok h
  obtain ⟨k, hk, rfl⟩ := List.getElem_of_mem hs
  obtain ⟨_, _, a, b⟩ := sp_ok (err_sp hk (hall k hk))
  exact ⟨a, b⟩
theorem join_sp_len {l : List Sp} (h : rngErr l = 0) : (Lib.join (l.map spText) [44, 32]).length ≤ 3000 := by
  have h1 := join_len (l.map spText) [44, 32] 224 (fun p hp => by
    obtain ⟨s, hs, rfl⟩ := List.mem_map.1 hp
    obtain ⟨a, b⟩ := sps_ok h s hs
    exact spText_len a b)
  have h2 := (rng_ok h).1
  rw [List.length_map] at h1
  have h3 : l.length * (224 + ([44, 32] : Str).length) ≤ 10 * 226 := Nat.mul_le_mul h2 (by decide)
  omega
theorem map_take_succ {α β : Type} (f : α → β) (l : List α) (k : Nat) (h : k < l.length) : (l.take k).map f ++ [f l[k]] = (l.take (k + 1)).map f := by
  rw [List.take_succ_eq_append_getElem h, List.map_append]; rfl
set_option maxHeartbeats 8000000 in
theorem PrintRange_any (A : Option Addr) (n c : Nat) (l : List Sp) (w : World) (hg : GoodN w) (hn : l.length = n) (hr : RdS w A l) (hs : SmallS l) (hl : n ≤ 2097152) :
    Calls Tryz.prog 34 #[.agg #[.slice A n c]] w fun e w' => e = .returned (.tuple #[S (prR l), .int .i64 (rngErr l)]) ∧ Ext w w' := by
  go_enter Tryz.func34, Tryz.ntmps34
  go_wp2_with fail
  refine (CheckRange_any A n c l _ (hg.toGood.ext (by repeat (first | with_reducible exact Ext.refl _ | with_reducible assumption | with_reducible apply Ext.drewN | with_reducible apply Ext.drew | with_reducible apply Ext.alloc | exact Ext.refl _ | assumption | apply Ext.drewN | apply Ext.drew | apply Ext.alloc))) hn (hr.ext (by repeat (first | with_reducible exact Ext.refl _ | with_reducible assumption | with_reducible apply Ext.drewN | with_reducible apply Ext.drew | with_reducible apply Ext.alloc | exact Ext.refl _ | assumption | apply Ext.drewN | apply Ext.drew | apply Ext.alloc))) hs hl).mono ?_
  rintro e w1 ⟨rfl, hx1⟩
  have hxw : Ext w w1 := Ext.trans (by repeat (first | with_reducible exact Ext.refl _ | with_reducible assumption | with_reducible apply Ext.drewN | with_reducible apply Ext.drew | with_reducible apply Ext.alloc | exact Ext.refl _ | assumption | apply Ext.drewN | apply Ext.drew | apply Ext.alloc)) hx1
  have hB := (Blk.new w 51 #[.slice A n c]).ext hx1
  have bc := hB.cell
  by_cases h0 : rngErr l = 0
  rotate_left
  · have hbn : (rngErr l != 0) = true := by rw [bne_iff_ne]; exact h0
    have H0 := Lib.hid h0
    clear h0
    go_wp2
    go_ret2
    exact ⟨by rw [prR, if_neg H0.out]; rfl, hxw⟩
  have hP : prR l = rngText l := by rw [prR, if_pos h0]
  have HP := Lib.hid hP
  have H0 := Lib.hid h0
  have hj := join_sp_len h0
  rw [h0]
  clear h0 hP
  rcases Nat.eq_zero_or_pos n with hz | hz
  · subst hz
    have he : l = [] := List.eq_nil_of_length_eq_zero hn
    have HE := Lib.hid he
    clear he hn
    go_wp2
    go_ret2
    exact ⟨by rw [HP.out, H0.out, HE.out, rngText, if_pos rfl]; rfl, hxw⟩
  have hne : ¬ l = [] := fun e => by rw [e] at hn; simp at hn; omega
  obtain ⟨b, o, rfl, hX⟩ := hr hne
  have hT : rngText l = Lib.join (l.map spText) [44, 32] := by rw [rngText, if_neg hne]
  have HT := Lib.hid hT
  have HN := Lib.hid hn
  clear hT hn hne hr
  have hnn : ((n : Int) == 0) = false := by rw [beq_eq_false_iff_ne]; omega
  go_wp2
  go_loopg [5, 20] n (fun g v i wr => ∃ k : Nat, k ≤ n ∧ n - k ≤ g ∧ i = .int .i64 k ∧ wr.ownsRow w1.heap.size 9 1 v k ((l.take k).map fun s => S (spText s)) ∧ Ext w1 wr)
  case atStart => exact ⟨0, Nat.zero_le _, by omega, rfl, World.ownsRow_nil _ _ _ _, Ext.refl _⟩
  case round =>
    obtain ⟨k, hk, hgk, rfl, hown, hxr⟩ := hrel
    by_cases hlt : k < n
    · have hk1 : k < l.length := by rw [HN.out]; exact hlt
      have X := hX.ext (hxw.trans hxr)
      have x0 := X.c0 k hk1; have x1 := X.c1 k hk1; have x2 := X.c2 k hk1; have x3 := X.c3 k hk1; have x4 := X.c4 k hk1
      have x5 := X.c5 k hk1; have x6 := X.c6 k hk1; have x7 := X.c7 k hk1; have x8 := X.c8 k hk1; have x9 := X.c9 k hk1
      have hz1 := hs l[k] (List.getElem_mem hk1)
      have hok := sps_ok H0.out l[k] (List.getElem_mem hk1)
      have HNX := Lib.hid (map_take_succ (fun s => S (spText s)) l k hk1)
      clear X
      generalize l[k] = s at *
      obtain ⟨hf, ht, ⟨f1, f2, f3, fa⟩, ⟨t1, t2, t3, ta⟩⟩ := s
      dsimp only at x0 x1 x2 x3 x4 x5 x6 x7 x8 x9 hz1 hok
      have HOK := Lib.hid hok
      clear hok
      go_wp2_with fail
      refine (spanText_any ⟨hf, ht, ⟨f1, f2, f3, fa⟩, ⟨t1, t2, t3, ta⟩⟩ _ (hg.ext ((hxw.trans hxr).trans (by repeat (first | with_reducible exact Ext.refl _ | with_reducible assumption | with_reducible apply Ext.drewN | with_reducible apply Ext.drew | with_reducible apply Ext.alloc | exact Ext.refl _ | assumption | apply Ext.drewN | apply Ext.drew | apply Ext.alloc)))) hz1.1 hz1.2 HOK.out.1 HOK.out.2).mono ?_
      rintro e w2 ⟨rfl, hx2⟩
      have hxq : Ext wr w2 := Ext.trans (by repeat (first | with_reducible exact Ext.refl _ | with_reducible assumption | with_reducible apply Ext.drewN | with_reducible apply Ext.drew | with_reducible apply Ext.alloc | exact Ext.refl _ | assumption | apply Ext.drewN | apply Ext.drew | apply Ext.alloc)) hx2
      have hown2 := own_ext hown hxq
      generalize spText ⟨hf, ht, ⟨f1, f2, f3, fa⟩, ⟨t1, t2, t3, ta⟩⟩ = T at *
      clear hx2 x0 x1 x2 x3 x4 x5 x6 x7 x8 x9 hown
      have hsz := (hxr.trans hxq).size
      go_wp2_with (at_builtin; refine wpList_app1 _ _ _ rfl _ _ 70 rfl (.string ⟨#[]⟩) 1 16 Tryz.underlying70 info_string rfl (by decide) (by decide) w1.heap.size _ k _ rfl hown2 _ rfl rfl (by simp [Value.oneCell']) (by omega) hsz ?_; intro v' w3 hown3 hx3 _)
      go_roundg (n - (k + 1))
      case rel => exact ⟨k + 1, by omega, Nat.le_refl _, by go_num, by rw [← HNX.out]; exact hown3, hx3 _ (hxr.trans hxq) (Nat.le_refl _)⟩
      case measure => omega
    · obtain rfl : k = n := by omega
      have hL : wr.ownsRow w1.heap.size 9 1 u5 k ((l.map spText).map S) := by
        rw [List.map_map]
        rw [← HN.out, List.take_length, HN.out] at hown
        exact hown
      go_wp2_with fail
      refine (join_own ⟨#[44, 32]⟩ wr hL (by rw [List.length_map]; exact HN.out) hz (by omega) (by have := hj; exact Nat.le_trans this (by decide))).mono ?_
      rintro e w2 ⟨rfl, hx2⟩
      go_wp2
      go_ret2
      exact ⟨by rw [HP.out, H0.out, HT.out]; rfl, (hxw.trans hxr).trans hx2⟩
end Go.Proofs.YtncagihilplliaaGreatDoor
