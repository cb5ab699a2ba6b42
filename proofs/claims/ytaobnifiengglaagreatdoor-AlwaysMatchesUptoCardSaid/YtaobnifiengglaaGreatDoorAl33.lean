/- Contract of ver.walk with a visitor that fills a set; ver.Names. (Printed by gen/nama.py.) Contract of ver.Names. Contract of outref2.Uses. Contracts of slices.IndexFunc and slices.ContainsFunc over conditions. Contracts of slices.BinarySearchFunc over settings, and of ver.valueOf. Contracts of ver.holds and its closures. -/
import Derived.Test.YtaobnifiengglaaGreatDoorAl32
import Derived.Test.YtaobnifiengglaaGreatDoorAl27
import Derived.Test.YtaobnifiengglaaGreatDoorAl28
import Derived.Test.YtaobnifiengglaaGreatDoorAl29
import Derived.Test.YtaobnifiengglaaGreatDoorAl31
import Derived.Test.YtaobnifiengglaaGreatDoorAl30
import Derived.Test.YtaobnifiengglaaGreatDoorAl20
import Derived.Test.YtaobnifiengglaaGreatDoorAl23

namespace Go.Proofs.YtaobnifiengglaaGreatDoor
open Go.RowKit

set_option maxRecDepth 100000 in
set_option maxHeartbeats 8000000 in
theorem walkT_any (f : FuncId) (caps : Array Value) (hen : ∀ xs w, Sem.run Tryz.prog (callFunc f xs) w = .ok (.enter f xs) w) (P : Nat → Prop) (B V : Nat) (Inv : List Str → World → Prop)
    (hal : ∀ st w w', Inv st w → Ext w w' → Inv st w') (hV : ∀ st w, Inv st w → V < w.heap.size) (hP : ∀ k, P k → k < B ∧ k ≠ V) (M : Nat)
    (hf : ∀ c v (lev : Nat) st w, lev ≤ 1000000000 → SmallC c → CdIn P w c v → Inv st w → st.length ≤ M → Calls Tryz.prog f (#[v, .int .i64 lev] ++ caps) w fun e w' => e = .returned (.bool true) ∧ Inv (st ++ useOf c) w' ∧ ExtT B V w w') :
    ∀ (N : Nat) (c : Cd), cnt c ≤ N → ∀ (lev : Nat) (v : Value) (st : List Str) (w : World), lev + N ≤ 1000000000 → st.length + cnt c ≤ M → SmallC c → CdIn P w c v → Inv st w →
      Calls Tryz.prog 146 #[v, .int .i64 lev, .func (.func f) #[] caps] w fun e w' => e = .returned (.bool true) ∧ Inv (st ++ uses (prt lev c)) w' ∧ ExtT B V w w' := by
  intro N
  induction N with
  | zero => intro c hc; have := cnt_pos c; omega
  | succ N ih =>
    intro c hc lev v st w hlev hlen hsm hcd hinv
    have hc0 := hcd
    cases hcd with
    | mk k n x l A cp b o u0 u1 u2 u3 hA hb h0 h1 h2 h3 hr =>
      obtain ⟨_, _, _, _, hsn, hsx, hsl, hsr⟩ := hsm
      have hnw : w.heap.size ≤ w.heap.size := Nat.le_refl _
      have hVw := hV _ _ hinv
      have hnV : w.heap.size ≠ V := by omega
      have hxb : Ext w (w.alloc (.cells #[.int .i64 k, .string n, .string x, .slice A l.length cp] 61)) := (Ext.refl w).alloc _
      have hlen0 : st.length ≤ M := by omega
      have hfb := hf (.mk k n x l) _ lev st _ (by omega) ⟨k, n, x, l, hsn, hsx, hsl, hsr⟩ (hc0.ext hxb) (hal _ _ _ hinv hxb) hlen0
      have bx := Blk.new w 61 #[.int .i64 k, .string n, .string x, .slice A l.length cp]
      have hrun : st ++ uses (prt lev (.mk k n x l)) = (st ++ useOf (.mk k n x l)) ++ uses (prts (lev + 1) l) := by rw [List.append_assoc]; rfl
      rw [hrun]
      have hcl : cnts l ≤ N := by unfold cnt at hc; omega
      have hlw : IntKind.i64.wrap ((lev : Int) + 1) = (lev : Int) + 1 := by rw [IntKind.wrap_i64]; omega
      have hll := cnts_len l
      have hul : (useOf (.mk k n x l)).length ≤ 1 := use_one _
      have hlen1 : (st ++ useOf (.mk k n x l)).length + cnts l ≤ M := by
        rw [List.length_append]
        have : cnt (.mk k n x l) = 1 + cnts l := rfl
        omega
      generalize st ++ useOf (.mk k n x l) = st1 at *
      obtain ⟨R, hR⟩ : ∃ R, st1 ++ uses (prts (lev + 1) l) = R := ⟨_, rfl⟩
      rw [hR]
      clear hul hlen hlen0
      have HF := Lib.hid hfb
      have HEN := hen
      clear hfb hrun hc hinv
      have HR := Lib.hid hR
      have HIHs := Lib.hid ih
      have HSR := Lib.hid hsr
      have HH0 := Lib.hid h0; have HH1 := Lib.hid h1; have HH2 := Lib.hid h2; have HH3 := Lib.hid h3; have HHR := Lib.hid hr
      have HP := Lib.hid hP; have HA := Lib.hid hA; have HBB := Lib.hid hb; have HAL := Lib.hid hal
      clear hR ih hf hV h0 h1 h2 h3 hr hsr hP hA hb hc0 hal
      go_enter Tryz.func146, Tryz.ntmps146
      go_wp2_with fail
      refine HF.out.mono ?_
      rintro e w1 ⟨rfl, hinv1, hx1⟩
      have bx1 := bx.extT hx1 (by decide) hnV
      have bc := bx1.cell; have bf := bx1.free; have bz := bx1.lt
      have hxa := (ExtT.ofExt hxb).trans hx1
      clear bx
      go_wp2
      go_loopw [17] (fun t wr => ∃ (j : Nat) (sj : List Str), t = .int .i64 j ∧ j ≤ l.length ∧ Inv sj wr ∧ ExtT B V w wr ∧ st1 ++ uses (prts (lev + 1) (l.take j)) = sj) (fun t _ => l.length - (intOf t).toNat)
      case atStart => exact ⟨0, st1, by go_num, Nat.zero_le _, hinv1, hxa, by simp [prts, uses]⟩
      case round =>
        obtain ⟨j, sj, rfl, hj, hinvr, hxr, hdone⟩ := hrel
        have HXR := Lib.hid hxr
        clear bc bf bz bx1 hx1 hinv1 HF hxa
        by_cases hlt : j < l.length
        · obtain rfl := HA.out (by omega)
          have hPb := HBB.out (by omega)
          have hnb := HP.out b hPb
          have g0 := hxr.cell hnb (HH0.out j hlt)
          have g1 := hxr.cell hnb (HH1.out j hlt)
          have g2 := hxr.cell hnb (HH2.out j hlt)
          have g3 := hxr.cell hnb (HH3.out j hlt)
          have hcj := HHR.out j hlt
          obtain ⟨ck, cn, cx, cA, cm, ccp, hcc⟩ := hcj.cells
          have hcc2 := hcc
          simp only [Value.agg.injEq, Array.mk.injEq, List.cons.injEq, and_true] at hcc2
          obtain ⟨q0, q1, q2, q3⟩ := hcc2
          rw [hcc] at hcj
          rw [q0] at g0; rw [q1] at g1; rw [q2] at g2; rw [q3] at g3
          clear hcc q0 q1 q2 q3
          have hxc : Ext wr (wr.alloc (.cells #[.int .i64 ck, .string cn, .string cx, .slice cA cm ccp] 61)) := (Ext.refl wr).alloc _
          have hih := HIHs.out l[j] (Nat.le_trans (cnts_at l j hlt) hcl) (lev + 1) _ sj _ (by omega) (use_len (hsj := hdone) hlt hlen1) (HSR.out _ (List.getElem_mem hlt)) ((hcj.extT hxr HP.out).ext hxc) (HAL.out _ _ _ hinvr hxc)
          rw [show ((lev + 1 : Nat) : Int) = (lev : Int) + 1 by omega] at hih
          have hq0 : (0 : Int) ≤ (j : Int) := by omega
          clear hxr hxc hcj
          have hnx : st1 ++ uses (prts (lev + 1) (l.take (j + 1))) = sj ++ uses (prt (lev + 1) l[j]) := by rw [prts_take (lev + 1) l j hlt, uses_append, ← List.append_assoc, hdone]
          generalize sj ++ uses (prt (lev + 1) l[j]) = s2 at *
          have HIH := Lib.hid hih
          have HNX := Lib.hid hnx
          clear hdone hnx hih
          go_wp2_with fail
          refine HIH.out.mono ?_
          rintro e w3 ⟨rfl, hinv3, hx3⟩
          go_wp2
          go_roundw
          case rel => exact ⟨j + 1, s2, by go_num, hlt, hinv3, (HXR.out.trans (ExtT.ofExt ((Ext.refl wr).alloc _))).trans hx3, HNX.out⟩
          case measure => simp [intOf]; omega
        · have hjl : l.take j = l := List.take_of_length_le (by omega)
          rw [hjl, HR.out] at hdone
          subst hdone
          go_wp2
          go_ret
          exact ⟨rfl, hinvr, HXR.out⟩
/-- the set of Names: map b, in its variable q -/
def SetInv (b q : Nat) (st : List Str) (w : World) : Prop := StrSet w b st.length st ∧ Blk w q 206 #[.map (some b)] ∧ b ≠ q
theorem SetInv.ext {b q : Nat} {st : List Str} {w w' : World} (h : SetInv b q st w) (hx : Ext w w') : SetInv b q st w' := ⟨h.1.ext hx, h.2.1.ext hx, h.2.2⟩
theorem ExtT.grownB {B V : Nat} {w w' : World} (hg : w.grownBy w' (some V)) : ExtT B V w w' :=
  ⟨hg.os, hg.tape, hg.output, hg.size, fun k hk hne _ => hg.block k hk fun e => hne (Option.some.inj e)⟩
set_option maxRecDepth 100000 in
set_option maxHeartbeats 8000000 in
theorem visitN_any (b q B : Nat) (P : Nat → Prop) (c : Cd) (v : Value) (lev : Nat) (st : List Str) (w : World) (hsm : SmallC c) (hcd : CdIn P w c v) (hinv : SetInv b q st w) (hl : st.length ≤ 1000000) :
    Calls Tryz.prog 147 #[v, .int .i64 lev, .pointer (some ⟨q, 0, none⟩)] w fun e w' => e = .returned (.bool true) ∧ SetInv b q (st ++ useOf c) w' ∧ ExtT B b w w' := by
  obtain ⟨k, n, x, l⟩ := c
  obtain ⟨_, _, _, _, hsn, hsx, hsl, hsr⟩ := hsm
  obtain ⟨A, cp, b', o, rfl, _, _⟩ := hcd.arg
  obtain ⟨hS, hb, hbq⟩ := hinv
  have hxb : Ext w (w.alloc (.cells #[.int .i64 k, .string n, .string x, .slice A l.length cp] 61)) := (Ext.refl w).alloc _
  have hb1 := hb.ext hxb
  have hS1 := hS.ext hxb
  have hbl := hS.lt
  have bX := Blk.new w 61 #[.int .i64 k, .string n, .string x, .slice A l.length cp]
  have cX := bX.cell; have fX := bX.free; have lX := bX.lt
  have cV := hb1.cell; have lV := hb1.lt
  clear hcd hsr hS hb
  rcases use_kind k n x l with ⟨hk, hu⟩ | ⟨hk, hu⟩ | ⟨⟨n2, n5, n3, n4⟩, hu⟩
  rotate_left 2
  · rw [hu, List.append_nil]
    have e2 : (k == 2) = false := beq_eq_false_iff_ne.2 n2
    have e3 : (k == 3) = false := beq_eq_false_iff_ne.2 n3
    have e4 : (k == 4) = false := beq_eq_false_iff_ne.2 n4
    have e5 : (k == 5) = false := beq_eq_false_iff_ne.2 n5
    have HS := Lib.hid hS1
    clear hu hS1
    go_enter Tryz.func147, Tryz.ntmps147
    go_wp2
    go_ret
    exact ⟨rfl, ⟨HS.out, hb1, hbq⟩, ExtT.ofExt hxb⟩
  · rw [hu]
    obtain ⟨w', hrun, hS', hg⟩ := hS1.upd (t := 206) Tryz.underlying206 (⟨#[102, 97, 99, 116, 32]⟩ ++ n) (by rw [ByteArray.size_append]; show 5 + n.size ≤ _; omega) (by omega)
    have HS := Lib.hid (show StrSet w' b (st ++ [wFactS ++ bs n]).length (st ++ [wFactS ++ bs n]) by rw [List.length_append]; rw [bs_append] at hS'; exact hS')
    have HB := Lib.hid (show Blk w' q 206 #[.map (some b)] from (hg.block q hb1.lt (fun e => hbq (Option.some.inj e).symm)).trans hb1)
    have HX := Lib.hid ((ExtT.ofExt (B := B) (V := b) hxb).trans (ExtT.grownB hg))
    clear hu hS1 hS' hg
    rcases hk with rfl | rfl
    all_goals
      go_enter Tryz.func147, Tryz.ntmps147
      go_wp2
      go_ret
      exact ⟨rfl, ⟨HS.out, HB.out, hbq⟩, HX.out⟩
  · rw [hu]
    obtain ⟨w', hrun, hS', hg⟩ := hS1.upd (t := 206) Tryz.underlying206 (⟨#[115, 101, 116, 116, 105, 110, 103, 32]⟩ ++ n) (by rw [ByteArray.size_append]; show 8 + n.size ≤ _; omega) (by omega)
    have HS := Lib.hid (show StrSet w' b (st ++ [wSettingS ++ bs n]).length (st ++ [wSettingS ++ bs n]) by rw [List.length_append]; rw [bs_append] at hS'; exact hS')
    have HB := Lib.hid (show Blk w' q 206 #[.map (some b)] from (hg.block q hb1.lt (fun e => hbq (Option.some.inj e).symm)).trans hb1)
    have HX := Lib.hid ((ExtT.ofExt (B := B) (V := b) hxb).trans (ExtT.grownB hg))
    clear hu hS1 hS' hg
    rcases hk with rfl | rfl
    all_goals
      go_enter Tryz.func147, Tryz.ntmps147
      go_wp2
      go_ret
      exact ⟨rfl, ⟨HS.out, HB.out, hbq⟩, HX.out⟩
end Go.Proofs.YtaobnifiengglaaGreatDoor

namespace Go.Proofs.YtaobnifiengglaaGreatDoor
open Go.RowKit

/-- what ver.Names gives -/
def namesC (c : Cd) : List Str := if checkC c = 0 then inOrder (useAll c) else []
set_option maxRecDepth 100000 in
set_option maxHeartbeats 8000000 in
theorem Names_any (c : Cd) (v : Value) (P : Nat → Prop) (w : World) (hg : GoodN w) (hc : CdIn P w c v) (hsm : SmallC c) (hcnt : cnt c ≤ 100000000) :
    Calls Tryz.prog 65 #[v] w fun e w' => ∃ A n cp, e = .returned (.tuple #[.slice A n cp, .int .i64 (checkC c)]) ∧ (namesC c).length = n ∧ RdT w' A (namesC c) ∧ Ext w w' := by
  have hcd : CdIn (fun k => k < w.heap.size) w c v := hc.imp fun b hb _ => hb
  obtain ⟨k, n, x, A, m, cp, rfl⟩ := hc.cells
  clear hc
  have hx0 : Ext w (w.alloc (.cells #[.int .i64 k, .string n, .string x, .slice A m cp] 61)) := (Ext.refl w).alloc _
  have bX := Blk.new w 61 #[.int .i64 k, .string n, .string x, .slice A m cp]
  have CC := Lib.hid (CheckCond_any c _ _ _ (hg.ext hx0) (hcd.ext hx0) hsm hcnt)
  have hmm := @run_makeMap Tryz.prog
  unfold namesC
  by_cases h0 : checkC c = 0
  rotate_left
  · rw [if_neg h0]
    have hne : (checkC c != 0) = true := by rw [bne_iff_ne]; exact h0
    clear hcd
    generalize checkC c = E at *
    go_enter Tryz.func65, Tryz.ntmps65
    go_wp2_with fail
    refine CC.out.mono ?_
    rintro e w1 ⟨rfl, hx1⟩
    go_wp2
    go_ret2
    exact ⟨none, 0, 0, rfl, rfl, RdT.nil _ _, hx0.trans hx1⟩
  rw [if_pos h0]
  have hcl : cnt c ≤ 100 := by
    unfold checkC at h0
    by_cases h1 : 100 < cnt c
    · rw [if_pos h1] at h0; cases h0
    · omega
  rw [h0] at CC ⊢
  have hul : (useAll c).length ≤ cnt c := by
    have := uses_len (prt 0 c)
    rw [prt_len] at this
    exact this
  have WK := Lib.hid (fun (w1 : World) (hx : Ext w w1) (bb qq : Nat) (hq : bb + 1 = qq) (hw : w.heap.size ≤ bb) (hinv : SetInv bb qq [] w1) => walkT_any 147 #[.pointer (some ⟨qq, 0, none⟩)] (enters_of Tryz.func147 (by kernel_rfl) rfl) (fun k => k < w.heap.size) (qq + 1) bb (SetInv bb qq)
    (fun st w w' h hx => h.ext hx) (fun st w h => h.1.lt) (fun k hk => by omega) 1000000
    (fun c v lev st w _ hsm hcd hinv hl => visitN_any _ _ _ _ c v lev st w hsm hcd hinv hl)
    (cnt c) c (Nat.le_refl _) 0 _ [] w1 (by omega) (by rw [List.length_nil]; omega) hsm (hcd.ext hx) hinv)
  simp only [List.nil_append, show uses (prt 0 c) = useAll c from rfl, Int.cast_ofNat_Int] at WK
  clear hcd h0
  generalize useAll c = L at *
  go_enter Tryz.func65, Tryz.ntmps65
  go_wp2_with fail
  refine CC.out.mono ?_
  rintro e w1 ⟨rfl, hx1⟩
  have bX1 := bX.ext hx1
  have cX := bX1.cell; have lX := bX1.lt
  have hxa : Ext w w1 := hx0.trans hx1
  clear CC
  go_wp2_with fail
  have hmade := StrSet.made w1
  have hinv : SetInv w1.heap.size (w1.heap.size + 1) [] ((w1.alloc (.map #[] 0)).alloc (.cells #[.map (some w1.heap.size)] 206)) := ⟨hmade.ext ((Ext.refl _).alloc _), by
    have := Blk.new (w1.alloc (.map #[] 0)) 206 #[.map (some w1.heap.size)]
    rwa [World.size_alloc] at this, by omega⟩
  refine (WK.out _ ((hxa.alloc _).alloc _) w1.heap.size (w1.heap.size + 1) rfl hxa.size hinv).mono ?_
  rintro e w2 ⟨rfl, ⟨hS2, hb2, _⟩, hx2⟩
  have c2 := hb2.cell; have l2 := hb2.lt
  have hxb : Ext w w2 := ExtT.ext ((hxa.alloc _).alloc _) hx2 (by have := hxa.size; omega) hxa.size
  clear hinv hmade WK cX lX hb2
  have KS := Lib.hid (Keys_any (some w1.heap.size) w2)
  have SS := Lib.hid (SortedSet_any w1.heap.size L.length L w2 hS2 (by omega))
  go_wp2_with fail
  refine KS.out.mono ?_
  rintro e w3 ⟨rfl, rfl⟩
  go_wp2_with fail
  refine SS.out.mono ?_
  rintro e w4 ⟨A4, n4, c4, rfl, hl4, hr4, hx4⟩
  go_wp2
  go_ret2
  exact ⟨A4, n4, c4, rfl, hl4, hr4, (hxb.alloc _).trans hx4⟩
end Go.Proofs.YtaobnifiengglaaGreatDoor

namespace Go.Proofs.YtaobnifiengglaaGreatDoor
open Go.RowKit Go.Sort

theorem inOrder_nil : inOrder [] = [] := by simp [inOrder, oneEach]
set_option maxRecDepth 100000 in
set_option maxHeartbeats 8000000 in
theorem Uses_any (c : Cd) (v : Value) (P : Nat → Prop) (w : World) (hc : CdIn P w c v) (hsm : SmallC c) (hcnt : cnt c ≤ 2000000) :
    Calls Tryz.prog 70 #[v] w fun e w' => ∃ A n cp, e = .returned (.slice A n cp) ∧ (inOrder (useAll c)).length = n ∧ RdT w' A (inOrder (useAll c)) ∧ Ext w w' := by
  have hcd : CdIn (fun k => k < w.heap.size) w c v := hc.imp fun b hb _ => hb
  obtain ⟨k, n, x, A, m, cp, rfl⟩ := hc.cells
  clear hc
  obtain ⟨W, hW⟩ : ∃ W, (w.alloc (.cells #[.int .i64 k, .string n, .string x, .slice A m cp] 61)).alloc (.cells #[.slice none 0 0] 100) = W := ⟨_, rfl⟩
  have hxW : Ext w W := by rw [← hW]; exact ((Ext.refl w).alloc _).alloc _
  have hsW : W.heap.size = w.heap.size + 1 + 1 := by rw [← hW, World.size_alloc, World.size_alloc]
  have bV : Blk W (w.heap.size + 1) 100 #[.slice none 0 0] := by
    rw [← hW]
    have := Blk.new (w.alloc (.cells #[.int .i64 k, .string n, .string x, .slice A m cp] 61)) 100 #[.slice none 0 0]
    rwa [World.size_alloc] at this
  have hinv : UseInv (w.heap.size + 1) (w.heap.size + 1 + 1) [] W := ⟨_, bV, World.ownsRow_nil _ _ _ _, by omega, by omega⟩
  have hcp := CondPartsT_any 157 #[.pointer (some ⟨w.heap.size + 1, 0, none⟩)] (enters_of Tryz.func157 (by kernel_rfl) rfl) (fun k => k < w.heap.size) (w.heap.size + 1 + 1) (w.heap.size + 1) (UseInv (w.heap.size + 1) (w.heap.size + 1 + 1))
    (fun st w w' h hx => h.ext hx) (fun st w h => by obtain ⟨v, hb, _⟩ := h; exact hb.lt) (fun k hk => by omega) 2000000
    (fun c v lev st w _ hsm hcd hinv hl => visitU_any _ _ _ c v lev st w hsm hcd hinv hl)
    (cnt c) c (Nat.le_refl _) 0 _ [] W (by omega) (by rw [List.length_nil]; omega) hsm (hcd.ext hxW) hinv
  rw [List.nil_append, show uses (prt 0 c) = useAll c from rfl, show ((0 : Nat) : Int) = 0 from rfl] at hcp
  have hul : (useAll c).length ≤ cnt c := by
    have := uses_len (prt 0 c)
    rw [prt_len] at this
    exact this
  have HCP := Lib.hid hcp
  have HW := Lib.hid hW
  clear hcp hcd hinv hW
  generalize useAll c = L at *
  have bX : Blk (w.alloc (.cells #[.int .i64 k, .string n, .string x, .slice A m cp] 61)) w.heap.size 61 #[.int .i64 k, .string n, .string x, .slice A m cp] := Blk.new w _ _
  go_enter Tryz.func70, Tryz.ntmps70
  go_wp2_with fail
  rw [HW.out]
  refine HCP.out.mono ?_
  rintro e w1 ⟨rfl, ⟨vv, hb1, hown, hB1, _⟩, hx1⟩
  have hxa : Ext w w1 := ExtT.ext hxW hx1 (by omega) (by omega)
  clear HCP bV bX
  have c1 := hb1.cell; have l1 := hb1.lt
  rcases Nat.eq_zero_or_pos L.length with hz | hz
  · obtain rfl : L = [] := List.eq_nil_of_length_eq_zero hz
    obtain ⟨A1, cc, rfl, _⟩ := RdT.own hown rfl
    have HS := Lib.hid (SortT_none A1 cc w1)
    have HC := Lib.hid (CompactT_none A1 cc w1)
    clear hown hb1
    go_wp2_with fail
    refine HS.out.mono ?_
    rintro e w2 ⟨rfl, rfl⟩
    go_wp2_with fail
    refine HC.out.mono ?_
    rintro e w3 ⟨rfl, rfl⟩
    go_wp2
    go_ret
    exact ⟨A1, 0, cc, rfl, by rw [inOrder_nil]; rfl, by rw [inOrder_nil]; exact RdT.nil _ _, hxa⟩
  · obtain ⟨g, cc, rfl, _, _, _, _⟩ := own_form hown hz
    obtain ⟨hh, hBg, hgl, hnc⟩ := own_holds hown rfl
    have hgV : ¬ w.heap.size + 1 = g := by omega
    have HS := Lib.hid (SortT_any g cc L w1 hh hgl (by omega))
    have HB1 := Lib.hid hb1
    clear hown hh hb1
    go_wp2_with fail
    refine HS.out.mono ?_
    rintro e w2 ⟨rfl, hh2, hx2⟩
    have hb2 := HB1.out.extC hx2 hgV
    have c2 := hb2.cell; have l2 := hb2.lt
    have hls : (L.mergeSort Go.leB).length = L.length := List.length_mergeSort _
    have hcm := CompactT_any g cc (L.mergeSort Go.leB) w2 hh2 (by omega) (by omega)
    rw [hls, compact_inOrder] at hcm
    have HC := Lib.hid hcm
    clear hcm hh2 hb2 c1 l1
    have hxb : Ext w w2 := ExtC.ext hxa hx2 (fun i e => by omega)
    go_wp2_with fail
    refine HC.out.mono ?_
    rintro e w3 ⟨rfl, hr3, hx3⟩
    go_wp2
    go_ret
    exact ⟨_, _, _, rfl, rfl, hr3, ExtC.ext hxb hx3 (fun i e => by omega)⟩
end Go.Proofs.YtaobnifiengglaaGreatDoor

namespace Go.Proofs.YtaobnifiengglaaGreatDoor
open Go.RowKit

set_option maxHeartbeats 4000000 in
theorem IndexFuncC_any (A : Option Addr) (c b o : Nat) (P : Nat → Prop) (l : List Cd) (f : FuncId) (lb : Array Value) (p : Cd → Bool) (w : World) (hA : 0 < l.length → A = some ⟨b, o, none⟩) (hr : ArgAt P w l b o) (hl : l.length ≤ 100000000)
    (hen : ∀ xs w, Sem.run Tryz.prog (callFunc f xs) w = .ok (.enter f xs) w)
    (hp : ∀ k (hk : k < l.length) v W, CdIn P W l[k] v → Ext w W → Calls Tryz.prog f (#[v] ++ lb) W fun e w' => e = .returned (.bool (p l[k])) ∧ Ext W w') :
    Calls Tryz.prog 218 #[.slice A l.length c, .func (.func f) #[] lb] w fun e w' => ∃ z : Int, e = .returned (.int .i64 z) ∧ (0 ≤ z ↔ l.any p = true) ∧ Ext w w' := by
  have HP := Lib.hid hp
  have HA := Lib.hid hA
  have HR := Lib.hid hr
  clear hp hA hr
  go_enter Tryz.func218, Tryz.ntmps218
  go_wp2
  go_loopw [8] (fun i wr => ∃ k : Nat, k ≤ l.length ∧ i = .int .i64 k ∧ Hid (∀ j (hj : j < l.length), j < k → p l[j] = false) ∧ Ext w wr) (fun i _ => l.length - (intOf i).toNat)
  case atStart => exact ⟨0, Nat.zero_le _, rfl, fun j _ h => absurd h (Nat.not_lt_zero _), Ext.refl _⟩
  case round =>
    obtain ⟨k, hk, rfl, HALL, hxr⟩ := hrel
    by_cases hlt : k < l.length
    · obtain rfl := HA.out (by omega)
      obtain ⟨ck, cn, cx, cA, cm, ccp, x0, x1, x2, x3, hcd⟩ := HR.out.ext hxr k hlt
      have HNX := Lib.hid (show p l[k] = false → ∀ j (hj : j < l.length), j < k + 1 → p l[j] = false from fun e j hj h => by
        by_cases hjk : j = k
        · subst hjk; exact e
        · exact HALL.out j hj (by omega))
      have HYES := Lib.hid (fun e => any_at (p := p) hlt e)
      have hc := HP.out k hlt _ _ hcd hxr
      have hlb := lt_of_cell x0
      clear hcd
      generalize p l[k] = r at *
      have HC := Lib.hid hc
      clear hc
      go_wp2_with fail
      refine HC.out.mono ?_
      rintro e w1 ⟨rfl, hx1⟩
      cases r
      · have HF := Lib.hid (HNX.out rfl)
        go_wp2
        go_roundw
        case rel => exact ⟨k + 1, by omega, by go_num, HF.out, hxr.trans hx1⟩
        case measure => simp [intOf]; omega
      · have HF := Lib.hid (HYES.out rfl)
        go_wp2
        go_ret
        exact ⟨(k : Int), rfl, ⟨fun _ => HF.out, fun _ => by omega⟩, hxr.trans hx1⟩
    · obtain rfl : k = l.length := by omega
      have HF := Lib.hid (any_none (p := p) fun j hj => HALL.out j hj hj)
      go_wp2
      go_ret
      exact ⟨-1, rfl, ⟨fun h => by omega, fun h => by rw [HF.out] at h; cases h⟩, hxr⟩
set_option maxHeartbeats 4000000 in
theorem ContainsFuncC_any (A : Option Addr) (c b o : Nat) (P : Nat → Prop) (l : List Cd) (f : FuncId) (lb : Array Value) (p : Cd → Bool) (w : World) (hA : 0 < l.length → A = some ⟨b, o, none⟩) (hr : ArgAt P w l b o) (hl : l.length ≤ 100000000)
    (hen : ∀ xs w, Sem.run Tryz.prog (callFunc f xs) w = .ok (.enter f xs) w)
    (hp : ∀ k (hk : k < l.length) v W, CdIn P W l[k] v → Ext w W → Calls Tryz.prog f (#[v] ++ lb) W fun e w' => e = .returned (.bool (p l[k])) ∧ Ext W w') :
    Calls Tryz.prog 160 #[.slice A l.length c, .func (.func f) #[] lb] w fun e w' => e = .returned (.bool (l.any p)) ∧ Ext w w' := by
  have CI := Lib.hid (IndexFuncC_any A c b o P l f lb p w hA hr hl hen hp)
  clear hA hr hp
  generalize l.any p = r at *
  go_enter Tryz.func160, Tryz.ntmps160
  go_wp2_with fail
  refine CI.out.mono ?_
  rintro e w1 ⟨z, rfl, hz, hx1⟩
  have HZ := Lib.hid hz
  clear hz
  go_wp2
  go_ret
  refine ⟨ret_bool ?_, hx1⟩
  have h := HZ.out
  cases r
  · have : ¬ 0 ≤ z := fun e => by have := h.1 e; cases this
    simp; omega
  · have := h.2 rfl
    simp; omega
end Go.Proofs.YtaobnifiengglaaGreatDoor

namespace Go.Proofs.YtaobnifiengglaaGreatDoor
open Go.RowKit

end Go.Proofs.YtaobnifiengglaaGreatDoor

namespace Go.Proofs.YtaobnifiengglaaGreatDoor
open Go.RowKit

theorem S_inj {a b : Str} (h : S a = S b) : a = b := by
  unfold S at h
  injection h with h
  rw [← bs_mk a, h, bs_mk]
/-- block g is the variable of a function that tells the values of l -/
def Tells (w : World) (g : Nat) (l : List Se) : Prop := ∃ A n c, Blk w g 65 #[.slice A n c] ∧ l.length = n ∧ RdE w A l ∧ n ≤ 2097152 ∧ Asc l
theorem Tells.ext {w w' : World} {g : Nat} {l : List Se} (h : Tells w g l) (hx : Ext w w') : Tells w' g l := by
  obtain ⟨A, n, c, h1, h2, h3, h4, h5⟩ := h
  exact ⟨A, n, c, h1.ext hx, h2, h3.ext hx, h4, h5⟩
theorem enters_one : ∀ xs w, Sem.run Tryz.prog (callFunc 210 xs) w = .ok (.enter 210 xs) w := enters_of Tryz.func210 (by kernel_rfl) rfl
theorem enters_not : ∀ xs w, Sem.run Tryz.prog (callFunc 211 xs) w = .ok (.enter 211 xs) w := enters_of Tryz.func211 (by kernel_rfl) rfl
end Go.Proofs.YtaobnifiengglaaGreatDoor
