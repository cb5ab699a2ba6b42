/- Contracts of strings.(*Replacer).Replace at quotes, and of ver.Quoted. -/
import Derived.Test.YtncagihilplliaaGreatDoorQuoD
namespace Go.Proofs.YtncagihilplliaaGreatDoor
open Go.RowKit

theorem BSR.mono {w : World} {n m p : Nat} (h : BSR w n p) (hm : m ≤ n) : BSR w m p := by
  obtain ⟨cs, hn, h1, h2, ⟨v, h3, h4⟩, ⟨u, h5, h6⟩, q, c, h7, hq, h8, h9⟩ := h.ex
  exact ⟨cs, Nat.le_trans hm hn, h1, h2, ⟨v, h3, h4.mono hm⟩, ⟨u, h5, h6.mono hm⟩, q, c, h7, Nat.le_trans hm hq, h8, h9⟩
set_option maxHeartbeats 1600000 in
theorem buildOnce_q (g q c : Nat) (w0 W : World) (hx : Ext w0 W) (hg0 : w0.heap.size ≤ g) (hB : Blk W g 172 (rep5 0 1 0 .nilIface (.slice (some ⟨q, 0, none⟩) 4 c))) (ho : OldNew W q) :
    Calls Tryz.prog 139 #[.pointer (some ⟨g, 0, none⟩)] W (Built w0 g) := by
  go_enter Tryz.func139, Tryz.ntmps139
  go_wp2_with fail
  refine (build_q g q c W hB ho).mono ?_
  rintro e w1 ⟨p, rfl, hbs, hx1⟩
  have hlt := hB.lt
  have b1 := hB.ext hx1
  have b2 := b1.set 3 (.iface 229 (.pointer (some ⟨p, 0, none⟩)))
  have b3 := b2.set 4 (.slice none 0 0)
  have d3 : w1.cell? ⟨g, 3, none⟩ = some .nilIface := b1.cell 3
  have f3 := b1.free 3
  have d4 : (w1.setCell ⟨g, 3, none⟩ (.iface 229 (.pointer (some ⟨p, 0, none⟩)))).cell? ⟨g, 4, none⟩ = some (.slice (some ⟨q, 0, none⟩) 4 c) := b2.cell 4
  have f4 := b2.free 4
  have hres : Built w0 g (.returned (.tuple #[])) ((w1.setCell ⟨g, 3, none⟩ (.iface 229 (.pointer (some ⟨p, 0, none⟩)))).setCell ⟨g, 4, none⟩ (.slice none 0 0)) :=
    ⟨p, rfl, b3, ((hbs.mono hlt).far (Nat.lt_succ_self g) _ _).far (Nat.lt_succ_self g) _ _, ((hx.trans hx1).setCell hg0 _).setCell hg0 _⟩
  have HRES := Lib.hid hres
  clear hres b1 b2 b3 hbs hB ho
  go_wp2
  go_end0
  exact HRES.out
set_option maxHeartbeats 1600000 in
set_option maxRecDepth 100000 in
theorem ReplacerReplace_q (g q c : Nat) (s : ByteArray) (w0 w : World) (hx : Ext w0 w) (hg0 : w0.heap.size ≤ g) (hqg : q < g) (hB : Blk w g 172 (rep5 0 0 0 .nilIface (.slice (some ⟨q, 0, none⟩) 4 c))) (ho : OldNew w q) (hs : s.size ≤ 2097152) :
    Calls Tryz.prog 97 #[.pointer (some ⟨g, 0, none⟩), .string s] w fun e w' => e = .returned (S (esc (bs s))) ∧ Ext w0 w' := by
  have hdo := do_q g (.slice (some ⟨q, 0, none⟩) 4 c) w0 w hx hg0 hB (fun W h1 h2 h3 h4 => buildOnce_q g q c w0 W h1 hg0 h4 ⟨by have := ho.lt; omega, (h3 q 0 (by omega)).trans ho.s0, (h3 q 1 (by omega)).trans ho.s1, (h3 q 2 (by omega)).trans ho.s2, (h3 q 3 (by omega)).trans ho.s3⟩)
  have HDO := Lib.hid hdo
  clear hdo
  have hme : ∀ (a : Addr) w, (method 400 229 (.pointer (some a)) "Replace").run Tryz.prog w = .ok (254, .pointer (some a)) w := fun _ _ => by kernel_rfl
  go_enter Tryz.func97, Tryz.ntmps97
  go_wp2_with fail
  refine HDO.out.mono ?_
  rintro e w1 ⟨rfl, p, b1, hbs, hx1⟩
  have d3 : w1.cell? ⟨g, 3, none⟩ = some (.iface 229 (.pointer (some ⟨p, 0, none⟩))) := b1.cell 3
  clear b1
  go_wp2_with fail
  refine (BSReplace_any p (g + 1) s w1 hbs hs).mono ?_
  rintro e w2 ⟨rfl, hx2⟩
  go_wp2
  go_ret
  exact ⟨rfl, hx1.trans hx2⟩
theorem quoteL_eq (l : Str) : quoteL l = [34] ++ esc l ++ [34] := rfl
set_option maxRecDepth 100000 in
set_option maxHeartbeats 1600000 in
/-- ver.Quoted -/
theorem Quoted_any (s : ByteArray) (w : World) (hs : s.size ≤ 2097152) :
    Calls Tryz.prog 47 #[.string s] w fun e w' => e = .returned (S (quoteL (bs s))) ∧ Ext w w' := by
  have hle := esc_le (bs s)
  rw [bs_length] at hle
  obtain ⟨E, hE⟩ : ∃ E : ByteArray, S (esc (bs s)) = .string E ∧ bs E = esc (bs s) ∧ E.size ≤ 6291456 := ⟨⟨(esc (bs s)).toArray⟩, rfl, by rw [bs_mk], by rw [← bs_length, bs_mk]; omega⟩
  obtain ⟨hE1, hE2, hE3⟩ := hE
  have HQ := Lib.hid (quoteL_eq (bs s))
  have HE2 := Lib.hid hE2
  clear hE2 hle
  have ho : OldNew (w.alloc (.cells #[.string ⟨#[92]⟩, .string ⟨#[92, 92]⟩, .string ⟨#[34]⟩, .string ⟨#[92, 34]⟩] 9)) w.heap.size := ⟨by simp, by rw [(Blk.new w _ _).cell]; rfl, by rw [(Blk.new w _ _).cell]; rfl, by rw [(Blk.new w _ _).cell]; rfl, by rw [(Blk.new w _ _).cell]; rfl⟩
  have HO := Lib.hid ho
  clear ho
  go_enter Tryz.func47, Tryz.ntmps47
  go_wp2_with fail
  refine (NewReplacer_q w.heap.size _ HO.out).mono ?_
  rintro e w1 ⟨g, q, c, rfl, hg, hqg, hB, ho1, hx1⟩
  have hx : Ext w w1 := Ext.trans (by repeat (first | with_reducible exact Ext.refl _ | with_reducible assumption | with_reducible apply Ext.drewN | with_reducible apply Ext.drew | with_reducible apply Ext.alloc | exact Ext.refl _ | assumption | apply Ext.drewN | apply Ext.drew | apply Ext.alloc)) hx1
  have hg2 : w.heap.size ≤ g := Nat.le_trans (by simp) hg
  have HO1 := Lib.hid ho1
  have HB := Lib.hid hB
  clear ho1 hB
  go_wp2_with fail
  refine (ReplacerReplace_q g q c s w w1 hx hg2 hqg HB.out HO1.out hs).mono ?_
  rw [hE1]
  rintro e w2 ⟨rfl, hx2⟩
  clear hE1
  go_wp2
  go_ret
  refine ⟨ret_strS ?_, hx2⟩
  rw [HQ.out, bs_append, bs_append, HE2.out]
end Go.Proofs.YtncagihilplliaaGreatDoor
