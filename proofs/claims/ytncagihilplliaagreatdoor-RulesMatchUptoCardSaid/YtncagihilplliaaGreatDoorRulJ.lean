/- Rules compared; a right rule's text is read back; the set's example (migrates). -/
import Derived.Test.YtncagihilplliaaGreatDoorRulH
namespace Go.Proofs.YtncagihilplliaaGreatDoor
open Go.RowKit

/-! ### Rules compared -/
theorem run_eqr (k : Int) (a b c d : ByteArray) (w : World) : (Op.equalIn 10000 23 (.agg #[.int .i64 k, .string a, .string b, .string c, .string d]) (.agg #[.int .i64 k, .string a, .string b, .string c, .string d])).run Tryz.prog w = .ok true w := by
  rw [run_equalIn_agg w 9999 23 _ _ (by kernel_rfl) (by kernel_rfl)]
  go_simp
theorem run_eqlr (k : Int) (a b c d : ByteArray) (w : World) : (binOp .eql 23 (.agg #[.int .i64 k, .string a, .string b, .string c, .string d]) (.agg #[.int .i64 k, .string a, .string b, .string c, .string d])).run Tryz.prog w = .ok (.bool true) w := by
  rw [run_eql_struct, run_eqr]
  rfl
theorem run_neqr (k : Int) (a b c d : ByteArray) (w : World) : (binOp .neq 23 (.agg #[.int .i64 k, .string a, .string b, .string c, .string d]) (.agg #[.int .i64 k, .string a, .string b, .string c, .string d])).run Tryz.prog w = .ok (.bool false) w := by
  rw [run_neq_struct, run_eqr]
  rfl
/-! ### The text of a right rule is short, and is read back -/
theorem esc_le3 (l : Str) : (esc l).length ≤ 3 * l.length := by
  have h1 := List.count_le_length (a := (34 : UInt8)) (l := l)
  have h2 := List.count_le_length (a := (92 : UInt8)) (l := l)
  rw [esc_len]; omega
theorem word_len (k : Int) : (ruWord k).length ≤ 40 := by
  unfold ruWord
  repeat' split
  all_goals decide
theorem quote_le (l : Str) (h : l.length ≤ 1000) : (quoteL l).length ≤ 3002 := by
  have := esc_le3 l
  simp only [quoteL, List.length_append, List.length_cons, List.length_nil]
  omega
theorem path_len {l : Str} (h : pathL l = true) : l.length ≤ 200 := by
  unfold pathL at h
  simp only [Bool.and_eq_true, decide_eq_true_eq] at h
  exact h.2
theorem ite_len (c : Bool) (l : Str) (n : Nat) (h : c = true → l.length ≤ n) : (if c = true then 32 :: l else []).length ≤ n + 1 := by
  cases c
  · exact Nat.zero_le _
  · have := h rfl
    simpa using this
theorem ruText_len {r : Ru} (h : ruErr r = 0) : (ruText r).length ≤ 7000 := by
  have hR := right_of h
  have ho := old_len h
  have h1 := word_len r.kind
  have h2 := path_len hR.key
  have h3 := ite_len (useTo r.kind) r.tt 200 fun e => path_len (hR.to1 e)
  have h4 := ite_len (useOld r.kind) (quoteL r.old) 3002 fun _ => quote_le _ ho.1
  have h5 := ite_len (useNew r.kind) (quoteL r.new) 3002 fun _ => quote_le _ ho.2
  unfold ruText
  simp only [List.length_append, List.length_cons]
  omega
theorem parse_ruText {r : Ru} (h : ruErr r = 0) (hl : (ruText r).length ≤ 4000) : parseRu (ruText r) = (r, 0) := by
  rw [parse_stage (by omega), cand_text (shape_of h)]
  dsimp only
  rw [if_neg (by rw [h]; decide)]
/-! ### The set's own example -/
theorem drop_ok : parseRu [100, 114, 111, 112, 32, 97, 47, 98] = (⟨6, [97, 47, 98], [], [], []⟩, 0) := by
  have h : ruErr ⟨6, [97, 47, 98], [], [], []⟩ = 0 := by decide
  exact parse_ruText (r := ⟨6, [97, 47, 98], [], [], []⟩) h (by decide)
set_option maxRecDepth 100000 in
set_option maxHeartbeats 4000000 in
theorem migrates_any (w : World) (hg : Good w) : Calls Tryz.prog 11 #[] w fun e w' => e = .returned (.bool true) ∧ Ext w w' := by
  have hp := fun W (h : Ext w W) => ParseRule_any ⟨#[100, 114, 111, 112, 32, 97, 47, 98]⟩ W (hg.ext h) (by decide)
  rw [show bs (⟨#[100, 114, 111, 112, 32, 97, 47, 98]⟩ : ByteArray) = [100, 114, 111, 112, 32, 97, 47, 98] from rfl, drop_ok] at hp
  have hq := run_eqlr 6 ⟨#[97, 47, 98]⟩ ⟨#[]⟩ ⟨#[]⟩ ⟨#[]⟩
  go_enter Tryz.func11, Tryz.ntmps11
  go_wp2_with fail
  refine (hp _ (by repeat (first | with_reducible exact Ext.refl _ | with_reducible assumption | with_reducible apply Ext.drewN | with_reducible apply Ext.drew | with_reducible apply Ext.alloc | exact Ext.refl _ | assumption | apply Ext.drewN | apply Ext.drew | apply Ext.alloc))).mono ?_
  rintro e w1 ⟨rfl, hx1⟩
  clear hp
  go_wp2
  go_ret
  exact ⟨rfl, (by repeat (first | with_reducible exact Ext.refl _ | with_reducible assumption | with_reducible apply Ext.drewN | with_reducible apply Ext.drew | with_reducible apply Ext.alloc | ((with_reducible refine Ext.setCell ?_ ?_ _); rotate_left; (first | (dsimp only; omega) | (simp; omega) | skip)) | exact Ext.refl _ | assumption | apply Ext.drewN | apply Ext.drew | apply Ext.alloc | refine Ext.setCell ?_ (by first | (dsimp only; omega) | (simp; omega)) _))⟩
end Go.Proofs.YtncagihilplliaaGreatDoor
