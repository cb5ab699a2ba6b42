/- Contracts of ver.text. -/
import Derived.Test.YtncagihilplliaaGreatDoorVerC
namespace Go.Proofs.YtncagihilplliaaGreatDoor
open Go.RowKit

def inNum (n : Int) : Bool := decide (0 ≤ n ∧ n ≤ 999999)
def textL (ma mi pa : Int) (e : Str) : Str := Lib.itoa ma ++ [46] ++ Lib.itoa mi ++ [46] ++ Lib.itoa pa ++ (if e = [] then [] else 45 :: e)
set_option maxHeartbeats 1000000 in
theorem text_any (ma mi pa : Int) (ea : ByteArray) (w : World) (hg : GoodN w) (hs : ea.size ≤ 2097152) (h1 : 0 ≤ ma) (h2 : ma ≤ 999999) (h3 : 0 ≤ mi) (h4 : mi ≤ 999999) (h5 : 0 ≤ pa) (h6 : pa ≤ 999999) :
    Calls Tryz.prog 59 #[.agg #[.int .i64 ma, .int .i64 mi, .int .i64 pa, .string ea]] w fun e w' => e = .returned (S (textL ma mi pa (bs ea))) ∧ Ext w w' := by
  have la := Lib.itoa_length_le ma (by omega) (by omega)
  have li := Lib.itoa_length_le mi (by omega) (by omega)
  have lp := Lib.itoa_length_le pa (by omega) (by omega)
  go_enter Tryz.func59, Tryz.ntmps59
  go_wp2_with fail
  refine wp_region_ext (by kernel_rfl) (by kernel_rfl) ?_
  repeat (first | go_big_quiet_skip | (refine wpQuiet_step (fun K hK => ?_); go_simp; first | (refine hK _ ?_; clear hK K) | (apply Exists.intro; refine ⟨fun wq hwq => ?_, hK _ ?_⟩; (obtain ⟨hqc, hqf⟩ := hwq.cells; have hqs := hwq.size; (try go_simp); first | rfl | ((first | rw [if_neg (by omega)] | rw [if_pos (by omega)]); (try go_simp); rfl) | ((go_at_call 70; refine (itoa_any _ _ (hg.ext (Ext.trans (by repeat (first | with_reducible exact Ext.refl _ | with_reducible assumption | with_reducible apply Ext.drewN | with_reducible apply Ext.drew | with_reducible apply Ext.alloc | exact Ext.refl _ | assumption | apply Ext.drewN | apply Ext.drew | apply Ext.alloc)) hwq)) (by omega) (by omega)).mono (fun e w'' h => ⟨h.1, hwq.trans h.2⟩)))); clear hK K)))
  refine wpQuiet_nil ?_
  intro wN hxN
  obtain ⟨hcN, hfN⟩ := hxN.cells
  have hsN := hxN.size
  rcases Nat.eq_zero_or_pos ea.size with h0 | h0
  · have he := emp_of_size h0
    go_wp2
    go_ret
    refine ⟨ret_strS ?_, Ext.trans (by repeat (first | with_reducible exact Ext.refl _ | with_reducible assumption | with_reducible apply Ext.drewN | with_reducible apply Ext.drew | with_reducible apply Ext.alloc | exact Ext.refl _ | assumption | apply Ext.drewN | apply Ext.drew | apply Ext.alloc)) hxN⟩
    simp [bs_append, textL, bs_nil h0]
  · have he := nemp_of_size h0
    have hi := nemp_bool h0
    have he2 : ¬ bs ea = [] := fun e => by have := bs_length ea; rw [e] at this; simp at this; omega
    go_wp2
    go_ret
    refine ⟨ret_strS ?_, Ext.trans (by repeat (first | with_reducible exact Ext.refl _ | with_reducible assumption | with_reducible apply Ext.drewN | with_reducible apply Ext.drew | with_reducible apply Ext.alloc | exact Ext.refl _ | assumption | apply Ext.drewN | apply Ext.drew | apply Ext.alloc)) hxN⟩
    simp [bs_append, textL, he2]
end Go.Proofs.YtncagihilplliaaGreatDoor
