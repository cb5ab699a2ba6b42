/- The law outlaw2.RunsMatch: its walk. Rules among the arguments. -/
import Derived.Test.YtghhjlcbcojcnaaGreatDoorRn40
import Derived.Test.YtghhjlcbcojcnaaGreatDoorRn35
import Derived.Test.YtghhjlcbcojcnaaGreatDoorRn26
import Derived.Test.YtghhjlcbcojcnaaGreatDoorRn20
import Derived.Test.YtghhjlcbcojcnaaGreatDoorRn27

namespace Go.Proofs.YtghhjlcbcojcnaaGreatDoor
open Go.RowKit

theorem SeOwn.eq {w : World} {B1 B2 : Nat} {l : List Se} {v1 v2 : Value} (h1 : SeOwn B1 l v1 w) (h2 : SeOwn B2 l v2 w) (hl : l.length ≤ 2097152) :
    Calls Tryz.prog 65 #[v1, v2] w fun e w' => e = .returned (.bool true) ∧ Ext w w' := by
  obtain ⟨A1, c1, rfl, _, r1⟩ := h1.rd
  obtain ⟨A2, c2, rfl, _, r2⟩ := h2.rd
  exact EqualSe_any A1 A2 c1 c2 l.length l w rfl r1 r2 hl
set_option maxHeartbeats 16000000 in
set_option maxRecDepth 100000 in
theorem RunsMatch_any (A A2 : Option Addr) (n m c c2 : Nat) (es : List Se) (rs : List RB) (w : World) (hg : GoodN w) (hn : es.length = n) (hm : rs.length = m) (hr : RdE w A es) (hr2 : RdU w A2 rs) (hs : SmallE es) (hs2 : SmallU rs) (hl : n ≤ 1048576) (hl2 : m ≤ 1048576) :
    Calls Tryz.prog 10 #[.slice A n c, .slice A2 m c2] w fun e w' => e = .returned (.bool true) ∧ Ext w w' := by
  obtain ⟨o1, o2, o3⟩ := run_out es (rs.map RB.l)
  have C1 := Lib.hid (fun W (h : Ext w W) => Run_any A A2 n m c c2 es rs W (hg.ext h) hn hm (hr.ext h) (hr2.ext h) hs hs2 (by omega) (by omega))
  have C2 := Lib.hid (fun W (h : Ext w W) => RunOf_any A A2 n m c c2 es rs W (hg.ext h) hn hm (hr.ext h) (hr2.ext h) hs hs2 (by omega) (by omega))
  have C3 := Lib.hid (fun W (h : Ext w W) => InverseAll_any A2 m c2 rs W (hg.toGood.ext h) hm (hr2.ext h) hs2 (by omega))
  have C4 := Lib.hid (fun W (h : Ext w W) => InverseAllOf_any A2 m c2 rs W (hg.toGood.ext h) hm (hr2.ext h) hs2 (by omega))
  have C5 := Lib.hid (fun W (h : Ext w W) => Clean_any A A2 n m c c2 es rs W (hg.ext h) hn hm (hr.ext h) (hr2.ext h) hs hs2 (by omega) (by omega))
  have C6 := Lib.hid (fun W (h : Ext w W) (h0 : runR es (rs.map RB.l) = 0) => CleanOf_any A A2 n m c c2 es rs W (hg.toGood.ext h) hn hm (hr.ext h) (hr2.ext h) hs (by omega) h0)
  have C7 := Lib.hid (fun W (h : Ext w W) A3 c3 N (hN : (runS es (rs.map RB.l)).length = N) (hq : RdE W A3 (runS es (rs.map RB.l))) => Changes_any A A3 n N c c3 es (runS es (rs.map RB.l)) W (hg.ext h) hn hN (hr.ext h) hq hs o2 (by omega) (by omega))
  have C8 := Lib.hid (fun W (h : Ext w W) A3 c3 N (hN : (runS es (rs.map RB.l)).length = N) (hq : RdE W A3 (runS es (rs.map RB.l))) => ChangesOf_any A A3 n N c c3 es (runS es (rs.map RB.l)) W hn hN (hr.ext h) hq hs o2 (by omega) (by omega))
  have CM := Lib.hid (fun W (h : Ext w W) => migrates_any W (hg.toGood.ext h))
  have HLC := Lib.hid (show (chgL es (runS es (rs.map RB.l))).length ≤ 2097152 from by
    have h1 := goneL_length (tbl (runS es (rs.map RB.l))) es
    have h2 := putL_length (tbl es) (runS es (rs.map RB.l))
    rw [chgL, List.length_append]
    omega)
  have HCE := Lib.hid (show firstI [runR es (rs.map RB.l), invE (rs.map RB.l)] = cleanE es (rs.map RB.l) from by
    rw [cleanE, firstI, firstI, firstI]
    by_cases h : runR es (rs.map RB.l) = 0
    · rw [if_pos h, if_pos h]
      by_cases h2 : invE (rs.map RB.l) = 0
      · rw [if_pos h2, h2]
      · rw [if_neg h2]
    · rw [if_neg h, if_neg h])
  have HCV := Lib.hid (show cleanE es (rs.map RB.l) = 0 → runR es (rs.map RB.l) = 0 ∧ cleanV es (rs.map RB.l) = clnT rs (tbl es) 0 from fun h => by
    by_cases h1 : runR es (rs.map RB.l) = 0
    · exact ⟨h1, cleanV_ok h1 (by rw [← cleanE_inv h1]; exact h)⟩
    · rw [(cleanE_run h1).1] at h; exact absurd h h1)
  have HCF := Lib.hid (show ¬ cleanE es (rs.map RB.l) = 0 → cleanV es (rs.map RB.l) = false from fun h => by rw [cleanV, if_neg h])
  have HCG := Lib.hid (show runR es (rs.map RB.l) = 0 → chgE es (runS es (rs.map RB.l)) = 0 ∧ chgR es (runS es (rs.map RB.l)) = chgL es (runS es (rs.map RB.l)) from fun h => by
    have h0 : chgE es (runS es (rs.map RB.l)) = 0 := by rw [chgE_b (runErr_parts (runR_parts h).1).1, o3]
    exact ⟨h0, chgR_ok h0⟩)
  have HSL := Lib.hid o1
  have HIL := Lib.hid (show (invS (rs.map RB.l)).length ≤ 2097152 from by
    unfold invS
    split
    · simp; omega
    · exact Nat.zero_le _)
  clear o1 o2 o3 hg hn hm hr hr2 hs hs2
  generalize runR es (rs.map RB.l) = R at *
  generalize runS es (rs.map RB.l) = S' at *
  generalize invE (rs.map RB.l) = E at *
  generalize invS (rs.map RB.l) = I at *
  generalize cleanV es (rs.map RB.l) = V at *
  generalize cleanE es (rs.map RB.l) = F at *
  generalize clnT rs (tbl es) 0 = V2 at *
  generalize chgL es S' = CL at *
  generalize chgR es S' = CR at *
  generalize chgE es S' = CE at *
  have hRR : (R != R) = false := by simp
  have hEE : (E != E) = false := by simp
  have hFF : (F != F) = false := by simp
  go_enter Tryz.func10, Tryz.ntmps10
  go_wp2_with fail
  refine (C1.out _ (Ext.refl _)).mono ?_
  rintro e w1 ⟨v1, rfl, hown1, hx1⟩
  go_wp2_with fail
  refine (C2.out _ hx1).mono ?_
  rintro e w2 ⟨v2, rfl, hown2, hx2⟩
  have hxa := hx1.trans hx2
  go_wp2_with fail
  refine (CM.out _ hxa).mono ?_
  rintro e w3 ⟨rfl, hx3⟩
  have hxb := hxa.trans hx3
  have hown1 := hown1.ext (hx2.trans hx3)
  have hown2 := hown2.ext hx3
  have HO2 := Lib.hid hown2
  have HEQ := Lib.hid (SeOwn.eq hown1 hown2 (by have := HSL.out; omega))
  clear hown1 hown2
  go_wp2_with fail
  refine HEQ.out.mono ?_
  rintro e w4 ⟨rfl, hx4⟩
  have hxc := hxb.trans hx4
  go_wp2_with fail
  refine (C3.out _ hxc).mono ?_
  rintro e w5 ⟨A5, c5, rfl, hr5, hx5⟩
  have hxd := hxc.trans hx5
  go_wp2_with fail
  refine (C4.out _ hxd).mono ?_
  rintro e w6 ⟨A6, c6, rfl, hr6, hx6⟩
  have hxe := hxd.trans hx6
  have HEU := Lib.hid (EqualRu_any A5 A6 c5 c6 I.length (I.map Ru.b) w6 (by simp) (hr5.ext hx6) hr6 HIL.out)
  clear hr5 hr6
  go_wp2_with fail
  refine HEU.out.mono ?_
  rintro e w7 ⟨rfl, hx7⟩
  have hxf := hxe.trans hx7
  go_wp2_with fail
  refine (C5.out _ hxf).mono ?_
  rintro e w8 ⟨rfl, hx8⟩
  have hxg := hxf.trans hx8
  go_wp2_with fail
  refine (First_any _ _ [R, E] _ ?_ (by simp)).mono ?_
  · intro k hk
    rw [World.cell?_alloc_at _ _ _ _ rfl]
    match k, hk with
    | 0, _ => rfl
    | 1, _ => rfl
  rw [HCE.out]
  rintro e w' ⟨rfl, rfl⟩
  have hxh := hxg.alloc (.cells #[.int .i64 R, .int .i64 E] 24)
  have hx38 := ((((hx4.trans hx5).trans hx6).trans hx7).trans hx8).alloc (.cells #[.int .i64 R, .int .i64 E] 24)
  by_cases hF : F = 0
  · obtain ⟨hR, hV⟩ := HCV.out hF
    obtain ⟨hce, hcr⟩ := HCG.out hR
    subst hF hR hV hce
    have HCR := Lib.hid hcr
    clear hcr
    have hVV : (V != V) = false := by simp
    go_wp2_with fail
    refine (C6.out _ hxh (by trivial)).mono ?_
    rintro e w9 ⟨rfl, hx9⟩
    have hxi := hxh.trans hx9
    have hown9 := (HO2.out.ext (hx38.trans hx9))
    obtain ⟨A9, c9, rfl, hcap9, hr9⟩ := hown9.rd
    obtain ⟨N, hN⟩ : ∃ N, S'.length = N := ⟨_, rfl⟩
    rw [hN]
    have HN := Lib.hid hN
    clear hown9 hcap9 hN
    have HR9 := Lib.hid hr9
    clear hr9
    go_wp2_with fail
    refine (C7.out _ hxi A9 c9 N HN.out HR9.out).mono ?_
    rintro e w10 ⟨v10, rfl, hown10, hx10⟩
    have hxj := hxi.trans hx10
    go_wp2_with fail
    refine (C8.out _ hxj A9 c9 N HN.out (HR9.out.ext hx10)).mono ?_
    rintro e w11 ⟨v11, rfl, hown11, hx11⟩
    rw [HCR.out] at hown10
    have HEC := Lib.hid (EqualCh_any _ _ _ _ CL _ (hown10.ext hx11) hown11 HLC.out)
    clear hown10 hown11
    go_wp2_with fail
    refine HEC.out.mono ?_
    rintro e w12 ⟨rfl, hx12⟩
    go_wp2
    go_ret
    exact ⟨rfl, (hxj.trans hx11).trans hx12⟩
  · have hne : (F != 0) = true := by rw [bne_iff_ne]; exact hF
    have hne2 : (F == 0) = false := by rw [beq_eq_false_iff_ne]; exact hF
    have hV := HCF.out hF
    subst hV
    by_cases hR : R = 0
    · obtain ⟨hce, hcr⟩ := HCG.out hR
      subst hR hce
      have HCR := Lib.hid hcr
      clear hcr hF
      have hown9 := (HO2.out.ext hx38)
      obtain ⟨A9, c9, rfl, hcap9, hr9⟩ := hown9.rd
      obtain ⟨N, hN⟩ : ∃ N, S'.length = N := ⟨_, rfl⟩
      rw [hN]
      have HN := Lib.hid hN
      clear hown9 hcap9 hN
      have HR9 := Lib.hid hr9
      clear hr9
      go_wp2_with fail
      refine (C7.out _ hxh A9 c9 N HN.out HR9.out).mono ?_
      rintro e w10 ⟨v10, rfl, hown10, hx10⟩
      have hxj := hxh.trans hx10
      go_wp2_with fail
      refine (C8.out _ hxj A9 c9 N HN.out (HR9.out.ext hx10)).mono ?_
      rintro e w11 ⟨v11, rfl, hown11, hx11⟩
      rw [HCR.out] at hown10
      have HEC := Lib.hid (EqualCh_any _ _ _ _ CL _ (hown10.ext hx11) hown11 HLC.out)
      clear hown10 hown11
      go_wp2_with fail
      refine HEC.out.mono ?_
      rintro e w12 ⟨rfl, hx12⟩
      go_wp2
      go_ret
      exact ⟨rfl, (hxj.trans hx11).trans hx12⟩
    · have hneR : (R != 0) = true := by rw [bne_iff_ne]; exact hR
      clear hR hF
      go_wp2
      go_ret
      exact ⟨rfl, hxh⟩
end Go.Proofs.YtghhjlcbcojcnaaGreatDoor

namespace Go.Proofs.YtghhjlcbcojcnaaGreatDoor
open Go.ChangeShapes Go.WideShapes Go.ChangeAt Go.RowKit Go.WideElems Go.Joins

instance : Inhabited RB := ⟨⟨0, ⟨#[]⟩, ⟨#[]⟩, ⟨#[]⟩, ⟨#[]⟩⟩⟩
theorem rowOf_rules {W : World} {A : Option Addr} {l : List RB} (h : RowOf (fun _ (r : RB) cs => cs = [.int .i64 r.kind, .string r.key, .string r.tt, .string r.old, .string r.new]) 5 W A l) : RdU W A l := fun hne => by
  obtain ⟨b, o, rfl, hc⟩ := h hne
  refine ⟨b, o, rfl, ?_, ?_, ?_, ?_, ?_⟩ <;> intro k hk <;> obtain ⟨ecs, rfl, _, hj⟩ := hc k hk
  · exact hj 0 (by omega)
  · exact hj 1 (by omega)
  · exact hj 2 (by omega)
  · exact hj 3 (by omega)
  · exact hj 4 (by omega)
set_option maxRecDepth 100000 in
/-- rules, of a bulk -/
theorem open_rules {H : Type} {enc : TypeId × Value → H} {W : World} {base : Nat} {v : Value} {d : DataW H} {p : List MemPlace} (hv : Value.okWide Tryz.prog W .any base 91 v) (h : DataW.Trod enc Tryz.prog W 0 (fun _ => true) true 91 v d p) :
    ∃ A c l, v = .slice A l.length c ∧ RdU W A l ∧ (∀ r ∈ l, r.key.size + r.tt.size + r.old.size + r.new.size ≤ Rows.uptoBulk d) ∧ l.length * 5 ≤ Rows.uptoBulk d := by
  obtain ⟨a, len, cap, rfl⟩ := okWide_slice Tryz.underlying91 hv
  obtain ⟨fuel, hf⟩ := h
  obtain ⟨l, ⟨A, c, e, hr⟩, hb⟩ := opens_slice (sz := 5) Tryz.underlying91 (by kernel_rfl) (by decide) opens_rule H enc W fuel _ _ hf
  refine ⟨A, c, l, ?_, rowOf_rules hr, fun s hs => ?_, ?_⟩
  · have e : [Value.slice a len cap] = [.slice A l.length c] := e
    injection e
  · have := sum_mem (bk := fun r : RB => r.key.size + r.tt.size + r.old.size + r.new.size + 5) hs
    dsimp only at this hb
    omega
  · have := sum_len (bk := fun r : RB => r.key.size + r.tt.size + r.old.size + r.new.size + 5) (c := 5) (fun a => by omega) l
    dsimp only at this hb
    omega
end Go.Proofs.YtghhjlcbcojcnaaGreatDoor
