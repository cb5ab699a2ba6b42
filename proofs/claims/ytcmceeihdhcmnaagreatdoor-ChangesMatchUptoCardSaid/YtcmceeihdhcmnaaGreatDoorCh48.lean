/- Settings among the arguments. The law outlaw2.ChangesMatch: its walk. -/
import Derived.Test.YtcmceeihdhcmnaaGreatDoorCh24
import Derived.Test.YtcmceeihdhcmnaaGreatDoorCh43
import Derived.Test.YtcmceeihdhcmnaaGreatDoorCh47
import Derived.Test.YtcmceeihdhcmnaaGreatDoorCh32

namespace Go.Proofs.YtcmceeihdhcmnaaGreatDoor
open Go.ChangeShapes Go.WideShapes Go.ChangeAt Go.RowKit Go.WideElems Go.Joins

instance : Inhabited Se := ⟨zeroSe⟩
set_option maxRecDepth 100000 in
theorem opens_setting : Opens 74 (fun _ (s : Se) cs => cs = [.string s.k, .string s.v]) (fun s => s.k.size + s.v.size + 2) := fun H enc W fuel cs x h => by
  obtain ⟨y0, y1, n, rfl, hl, h0, h1⟩ := trod_struct2 Tryz.underlying74 h
  have hc : Tryz.prog.cellsOf 74 = 2 := by kernel_rfl
  have cst : Tryz.prog.cellsOf 9 = 1 := by kernel_rfl
  rw [hc] at hl
  match cs, hl with
  | [c0, c1], _ =>
    dsimp only at h0 h1
    rw [cst] at h0 h1
    obtain ⟨a, e1, b1⟩ := opens_string Tryz.underlying9 H enc W n _ _ h0
    obtain ⟨b, e2, b2⟩ := opens_string Tryz.underlying9 H enc W n _ _ h1
    simp at e1 e2
    subst e1 e2
    exact ⟨⟨a, b⟩, rfl, by dsimp only at b1 b2 ⊢; simp only [Rows.uptoBulk, Rows.uptoBulkAll]; omega⟩
theorem rowOf_settings {W : World} {A : Option Addr} {l : List Se} (h : RowOf (fun _ (s : Se) cs => cs = [.string s.k, .string s.v]) 2 W A l) : RdE W A l := fun hne => by
  obtain ⟨b, o, rfl, hc⟩ := h hne
  refine ⟨b, o, rfl, ?_, ?_⟩ <;> intro k hk <;> obtain ⟨ecs, rfl, _, hj⟩ := hc k hk
  · exact hj 0 (by omega)
  · exact hj 1 (by omega)
set_option maxRecDepth 100000 in
/-- settings, of a bulk -/
theorem open_settings {H : Type} {enc : TypeId × Value → H} {W : World} {base : Nat} {v : Value} {d : DataW H} {p : List MemPlace} (hv : Value.okWide Tryz.prog W .any base 65 v) (h : DataW.Trod enc Tryz.prog W 0 (fun _ => true) true 65 v d p) :
    ∃ A c l, v = .slice A l.length c ∧ RdE W A l ∧ (∀ s ∈ l, s.k.size + s.v.size ≤ Rows.uptoBulk d) ∧ l.length * 2 ≤ Rows.uptoBulk d := by
  obtain ⟨a, len, cap, rfl⟩ := okWide_slice Tryz.underlying65 hv
  obtain ⟨fuel, hf⟩ := h
  obtain ⟨l, ⟨A, c, e, hr⟩, hb⟩ := opens_slice (sz := 2) Tryz.underlying65 (by kernel_rfl) (by decide) opens_setting H enc W fuel _ _ hf
  refine ⟨A, c, l, ?_, rowOf_settings hr, fun s hs => ?_, ?_⟩
  · have e : [Value.slice a len cap] = [.slice A l.length c] := e
    injection e
  · have := sum_mem (bk := fun s : Se => s.k.size + s.v.size + 2) hs
    dsimp only at this hb
    omega
  · have := sum_len (bk := fun s : Se => s.k.size + s.v.size + 2) (c := 2) (fun a => by omega) l
    dsimp only at this hb
    omega
end Go.Proofs.YtcmceeihdhcmnaaGreatDoor

namespace Go.Proofs.YtcmceeihdhcmnaaGreatDoor
open Go.RowKit

set_option maxHeartbeats 8000000 in
set_option maxRecDepth 100000 in
theorem ChangesMatch_any (A A2 : Option Addr) (n m c c2 : Nat) (old new : List Se) (w : World) (hg : GoodN w) (hn : old.length = n) (hm : new.length = m) (hr : RdE w A old) (hr2 : RdE w A2 new) (hs : SmallE old) (hs2 : SmallE new) (hl : n ≤ 1048576) (hl2 : m ≤ 1048576) :
    Calls Tryz.prog 7 #[.slice A n c, .slice A2 m c2] w fun e w' => e = .returned (.bool true) ∧ Ext w w' := by
  have cC := fun W (hx : Ext w W) => Changes_any A A2 n m c c2 old new W (hg.ext hx) hn hm (hr.ext hx) (hr2.ext hx) hs hs2 hl hl2
  have cO := fun W (hx : Ext w W) => ChangesOf_any A A2 n m c c2 old new W hn hm (hr.ext hx) (hr2.ext hx) hs hs2 hl hl2
  have cE1 := fun W (hx : Ext w W) => ListErrorS_any A n c old W (hg.toGood.ext hx) hn (hr.ext hx) hs (by omega)
  have cE2 := fun W (hx : Ext w W) => ListErrorS_any A2 m c2 new W (hg.toGood.ext hx) hm (hr2.ext hx) hs2 (by omega)
  have hF : firstI [seErr pathL old, seErr pathL new] = chgE old new := rfl
  have hERR := chgR_err (old := old) (new := new)
  have hOK := chgR_ok (old := old) (new := new)
  have hlen : (chgL old new).length ≤ 2097152 := by
    have h1 := goneL_length (tbl new) old
    have h2 := putL_length (tbl old) new
    rw [chgL, List.length_append]
    omega
  generalize seErr pathL old = E1 at *
  generalize seErr pathL new = E2 at *
  generalize chgE old new = E at *
  generalize chgR old new = R at *
  generalize chgL old new = L at *
  have CC := Lib.hid cC; have CO := Lib.hid cO; have CE1 := Lib.hid cE1; have CE2 := Lib.hid cE2
  have HF := Lib.hid hF; have HERR := Lib.hid hERR; have HOK := Lib.hid hOK
  clear cC cO cE1 cE2 hF hERR hOK hn hm hr hr2 hs hs2
  go_enter Tryz.func7, Tryz.ntmps7
  go_wp2_with fail
  refine (CC.out _ (Ext.refl _)).mono ?_
  rintro e w1 ⟨v, rfl, hown, hx1⟩
  obtain ⟨A3, c3, rfl, _⟩ := own_slice hown
  go_wp2_with fail
  refine (CE1.out _ hx1).mono ?_
  rintro e w2 ⟨rfl, hx2⟩
  go_wp2_with fail
  refine (CE2.out _ (hx1.trans hx2)).mono ?_
  rintro e w3 ⟨rfl, hx3⟩
  have hxa := (hx1.trans hx2).trans hx3
  have hx13 := hx2.trans hx3
  go_wp2_with fail
  refine (First_any _ _ [E1, E2] _ ?_ (by simp)).mono ?_
  · intro k hk
    rw [World.cell?_alloc_at _ _ _ _ rfl]
    match k, hk with
    | 0, _ => rfl
    | 1, _ => rfl
  rw [HF.out]
  rintro e w4 ⟨rfl, rfl⟩
  have hxb := hxa.alloc (.cells #[.int .i64 E1, .int .i64 E2] 24)
  have hx14 := hx13.alloc (.cells #[.int .i64 E1, .int .i64 E2] 24)
  go_wp2_with fail
  refine (migrates_any _ (hg.toGood.ext hxb)).mono ?_
  rintro e w5 ⟨rfl, hx5⟩
  have hxc := hxb.trans hx5
  have hx15 := hx14.trans hx5
  by_cases hE : E = 0
  · have hown := hown.ext hx15
    rw [HOK.out hE] at hown ⊢
    subst hE
    go_wp2_with fail
    refine (CO.out _ hxc).mono ?_
    rintro e w6 ⟨v2, rfl, hown2, hx6⟩
    have hown := hown.ext hx6
    go_wp2_with fail
    refine (EqualCh_any _ _ _ _ L _ hown hown2 hlen).mono ?_
    rintro e w7 ⟨rfl, hx7⟩
    go_wp2
    go_ret
    exact ⟨rfl, (hxc.trans hx6).trans hx7⟩
  · have hne : (E != 0) = true := by rw [bne_iff_ne]; exact hE
    rw [HERR.out hE]
    go_wp2_with fail
    refine (migrates_any _ (hg.toGood.ext hxc)).mono ?_
    rintro e w6 ⟨rfl, hx6⟩
    go_wp2
    go_ret
    exact ⟨by simp, hxc.trans hx6⟩
end Go.Proofs.YtcmceeihdhcmnaaGreatDoor
