/- Contract of ver.ParseRange: the walk. Contracts of outref2.upTo, shortSpan. Contract of outref2.ReadRange. What the rows of this seat share that list the library's tables and errors: their variables at the start, and a world for the witness. Arguments opened: what a reading of cells at a type says of memory, and of the reading's bulk. One law a kind of type: numbers, texts, structs of one field, slices. -/
import Derived.Test.YtghhjlcbcojcnaaGreatDoorMt11
import Derived.Test.YtghhjlcbcojcnaaGreatDoorMt09
import Derived.Deep.RegionHeld3
import Derived.Deep.DeepCutAuto
import Derived.Test.YtghhjlcbcojcnaaGreatDoorMt10
import Derived.Test.YtghhjlcbcojcnaaGreatDoorMt07
import Derived.Deep.Slices

namespace Go.Proofs.YtghhjlcbcojcnaaGreatDoor
open Go.RowKit

/-- one piece is read, no error as to its form -/
def Form (x : ByteArray) : Prop := synL (bs x) = false
theorem forms_succ {xs : List ByteArray} {k : Nat} (h : k < xs.length) (h0 : ∀ x ∈ xs.take k, Form x) (h1 : Form xs[k]) : ∀ x ∈ xs.take (k + 1), Form x := by
  intro x hx
  rw [List.take_succ_eq_append_getElem h, List.mem_append] at hx
  rcases hx with hx | hx
  · exact h0 x hx
  · rw [List.mem_singleton] at hx; rw [hx]; exact h1
theorem fine_succ {xs : List ByteArray} {k : Nat} (h : k < xs.length) (h0 : ∀ x ∈ xs.take k, Fine (spO x)) (h1 : Fine (spO xs[k])) : ∀ x ∈ xs.take (k + 1), Fine (spO x) := by
  intro x hx
  rw [List.take_succ_eq_append_getElem h, List.mem_append] at hx
  rcases hx with hx | hx
  · exact h0 x hx
  · rw [List.mem_singleton] at hx; rw [hx]; exact h1
abbrev itB (x : ByteArray) : List Value := itC (itemL (bs x)).1
theorem itB_of {x a b : ByteArray} {sg : UInt8} (h : (itemL (bs x)).1 = ⟨sg, bs a, bs b⟩) : itB x = [.int .u8 sg.toNat, .string a, .string b] := by
  show itC (itemL (bs x)).1 = _
  rw [h, itC, S_bs, S_bs]
theorem itB_eq {x a b : ByteArray} {sg : UInt8} {ok : Bool} (h : itemL (bs x) = (⟨sg, bs a, bs b⟩, ok)) : itB x = [.int .u8 sg.toNat, .string a, .string b] := itB_of (by rw [h])
set_option maxHeartbeats 16000000 in
set_option maxRecDepth 100000 in
theorem ParseRange_own (s : ByteArray) (w : World) (hg : GoodN w) (hs : s.size ≤ 2097152) :
    Calls Tryz.prog 42 #[.string s] w (RangePostB (parseR (bs s)) w) := by
  go_enter Tryz.func42, Tryz.ntmps42
  by_cases h1 : 1000 < s.size
  · have HP := Lib.hid (parse_large (s := bs s) (by rw [bs_length]; exact h1))
    go_wp2
    refine bodyPost_ret (v := .tuple #[.agg #[.slice none 0 0], .int .i64 4]) (by simp [results, Tryz.results42, go_sem]) rfl ?_
    rw [HP.out]
    exact range_noneB (by repeat (first | with_reducible exact Ext.refl _ | with_reducible assumption | with_reducible apply Ext.drewN | with_reducible apply Ext.drew | with_reducible apply Ext.alloc | exact Ext.refl _ | assumption | apply Ext.drewN | apply Ext.drew | apply Ext.alloc))
  have H1 : Hid (¬ 1000 < (bs s).length) := Lib.hid (by rw [bs_length]; exact h1)
  by_cases h2 : bs s = [110, 111, 110, 101]
  · have he : (s.toList == [110, 111, 110, 101]) = true := by rw [lit_beq, beq_iff_eq]; exact h2
    have HP := Lib.hid (parse_none H1.out h2)
    clear h2
    go_wp2
    refine bodyPost_ret (v := .tuple #[.agg #[.slice none 0 0], .int .i64 0]) (by simp [results, Tryz.results42, go_sem]) rfl ?_
    rw [HP.out]
    exact range_noneB (by repeat (first | with_reducible exact Ext.refl _ | with_reducible assumption | with_reducible apply Ext.drewN | with_reducible apply Ext.drew | with_reducible apply Ext.alloc | exact Ext.refl _ | assumption | apply Ext.drewN | apply Ext.drew | apply Ext.alloc))
  have he : (s.toList == [110, 111, 110, 101]) = false := by rw [lit_beq, beq_eq_false_iff_ne]; exact h2
  have H2 := Lib.hid h2
  clear h2
  go_wp2_with fail
  refine (split_g s ⟨#[44, 32]⟩ _ (hg.toGood.ext (by repeat (first | with_reducible exact Ext.refl _ | with_reducible assumption | with_reducible apply Ext.drewN | with_reducible apply Ext.drew | with_reducible apply Ext.alloc | exact Ext.refl _ | assumption | apply Ext.drewN | apply Ext.drew | apply Ext.alloc))) (by omega) (by decide)).mono ?_
  rintro e w1 ⟨b, xs, rfl, hst, hxs, hx0, hxl, hxz, hx1⟩
  have hxw : Ext w w1 := Ext.trans (by repeat (first | with_reducible exact Ext.refl _ | with_reducible assumption | with_reducible apply Ext.drewN | with_reducible apply Ext.drew | with_reducible apply Ext.alloc | exact Ext.refl _ | assumption | apply Ext.drewN | apply Ext.drew | apply Ext.alloc)) hx1
  have bR := (Blk.new w 51 #[.slice none 0 0]).ext hx1
  have HXS := Lib.hid hxs
  have HC := Lib.hid hst.cell
  have HSYN := Lib.hid (fun k hk hs => parse_syn (k := k) H1.out H2.out hxs hk hs)
  clear hxs hst hx1
  go_wp2
  go_loopg [4, 25] xs.length (fun g v i wr => ∃ k : Nat, k ≤ xs.length ∧ xs.length - k ≤ g ∧ i = .int .i64 k ∧ wr.ownsRow w1.heap.size 150 3 v k ((xs.take k).flatMap itB) ∧ (∀ x ∈ xs.take k, Form x) ∧ Ext w1 wr)
  case atStart => exact ⟨0, Nat.zero_le _, by omega, rfl, World.ownsRow_nil _ _ _ _, by simp, Ext.refl _⟩
  case round =>
    obtain ⟨k, hk, hgk, rfl, hown, hform, hxr⟩ := hrel
    have HFORM := Lib.hid hform
    clear hform
    by_cases hlt : k < xs.length
    · have hk1 := hxr.cell (HC.out k hlt)
      have hsz := hxz xs[k] (List.getElem_mem hlt)
      have HNX := Lib.hid (flat_take_succ itB xs k hlt)
      have HFX := Lib.hid (forms_succ hlt HFORM.out)
      have HSK := Lib.hid (HSYN.out k hlt)
      generalize xs[k] = x at *
      go_wp2_with fail
      refine (itemOf_any x _ (hg.toGood.ext (hxw.trans hxr)) (by omega)).mono ?_
      rintro e w2 ⟨sg, a, c, ok, hit, rfl, hsa, hsc, hx2⟩
      have HSY := Lib.hid (syn_of hit)
      have HIT := Lib.hid (itB_eq hit)
      clear hit
      have hxr2 := hxr.trans hx2
      have bR2 := bR.ext hxr2
      have cR2 := bR2.cell; have fR2 := bR2.free; have zR2 := bR2.lt
      have hwl : w1.heap.size ≤ w2.heap.size := hxr2.size
      have hown2 := own_ext hown hx2
      clear hown hk1
      cases ok
      · have HP := Lib.hid (HSK.out (by rw [HSY.out]; rfl))
        go_wp2
        refine bodyPost_ret (v := .tuple #[.agg #[.slice none 0 0], .int .i64 8]) (by simp [results, Tryz.results42, go_sem, cR2, zR2]) rfl ?_
        rw [HP.out]
        have hxx := hxw.trans hxr2
        exact range_noneB (by repeat (first | with_reducible exact Ext.refl _ | with_reducible assumption | with_reducible apply Ext.drewN | with_reducible apply Ext.drew | with_reducible apply Ext.alloc | ((with_reducible refine Ext.setCell ?_ ?_ _); rotate_left; (first | (dsimp only; omega) | (simp; omega) | skip)) | exact Ext.refl _ | assumption | apply Ext.drewN | apply Ext.drew | apply Ext.alloc | refine Ext.setCell ?_ (by first | (dsimp only; omega) | (simp; omega)) _))
      -- MORE
      have bI := Blk.new w2 150 #[.int .u8 sg.toNat, .string a, .string c]
      have hxr3 := hxr2.alloc (.cells #[.int .u8 sg.toNat, .string a, .string c] 150)
      have hown3 := hown2.alloc (.cells #[.int .u8 sg.toNat, .string a, .string c] 150)
      by_cases h42 : sg = 42
      · have n42 : (((sg.toNat : Nat) : Int) == 42) = true := u8_true 42 (by decide) h42
        have n98 : (((sg.toNat : Nat) : Int) == 98) = false := u8_false 98 (by decide) (by rw [h42]; decide)
        have HF : Hid (Form x) := Lib.hid (by unfold Form; rw [HSY.out, h42]; rfl)
        have HN : Hid (((sg.toNat : Nat) : Int) = 42) := Lib.hid (beq_iff_eq.1 n42)
        clear h42
        go_wp2_with (at_builtin; refine wpList_app1g _ _ _ rfl _ _ 148 rfl (.agg #[.int .u8 0, .string ⟨#[]⟩, .string ⟨#[]⟩]) 3 40 Tryz.underlying148 info_item rfl (by decide) (by decide) w1.heap.size _ k _ rfl (hown2.alloc _) _ _ rfl (by simp) rfl (by simp [Value.oneCell']) (by omega) (Ext.size (hxr2.alloc _)) ?_; intro v' w5 hown5 hx5 _)
        go_roundg (xs.length - (k + 1))
        case rel => exact ⟨k + 1, by omega, Nat.le_refl _, by go_num, by rw [← HNX.out, HIT.out]; first | exact hown5 | (rw [HN.out]; exact hown5), HFX.out HF.out, hx5 _ (hxr2.alloc _) (Nat.le_refl _)⟩
        case measure => omega
      have n42 : (((sg.toNat : Nat) : Int) == 42) = false := u8_false 42 (by decide) h42
      have m42 : (((sg.toNat : Nat) : Int) != 42) = true := by rw [bne, n42]; rfl
      have e42 : ¬ ((sg.toNat : Nat) : Int) = 42 := beq_eq_false_iff_ne.1 n42
      have s42 : (sg != 42) = true := by simpa using h42
      have S42 := Lib.hid s42
      clear h42 s42
      go_wp2_with fail
      refine (wrong_any a _ (hg.ext (hxw.trans hxr3)) (by omega)).mono ?_
      rintro e w3 ⟨rfl, hx3⟩
      have bI3 := bI.ext hx3
      have cI := bI3.cell; have zI := bI3.lt
      have hxr4 := hxr3.trans hx3
      have hown4 := own_ext hown3 hx3
      have bR3 := bR.ext hxr4
      have cR := bR3.cell; have fR := bR3.free; have zR := bR3.lt
      clear cR2 fR2 zR2
      cases hw1 : wrongL (bs a)
      rotate_left
      · have HP := Lib.hid (HSK.out (by rw [HSY.out, S42.out]; (try dsimp only); rw [hw1]; rfl))
        clear hw1
        go_wp2
        refine bodyPost_ret (v := .tuple #[.agg #[.slice none 0 0], .int .i64 8]) (by simp [results, Tryz.results42, go_sem, cR]) rfl ?_
        rw [HP.out]
        have hxx := hxw.trans hxr4
        exact range_noneB (by repeat (first | with_reducible exact Ext.refl _ | with_reducible assumption | with_reducible apply Ext.drewN | with_reducible apply Ext.drew | with_reducible apply Ext.alloc | ((with_reducible refine Ext.setCell ?_ ?_ _); rotate_left; (first | (dsimp only; omega) | (simp; omega) | skip)) | exact Ext.refl _ | assumption | apply Ext.drewN | apply Ext.drew | apply Ext.alloc | refine Ext.setCell ?_ (by first | (dsimp only; omega) | (simp; omega)) _))
      by_cases h98 : sg = 98
      rotate_left
      · have n98 : (((sg.toNat : Nat) : Int) == 98) = false := u8_false 98 (by decide) h98
        have HF : Hid (Form x) := Lib.hid (by
          have s98 : (sg == 98) = false := by simpa using h98
          unfold Form; rw [HSY.out]; (try dsimp only); rw [hw1, s98]; simp)
        clear h98 hw1
        go_wp2_with (at_builtin; refine wpList_app1g _ _ _ rfl _ _ 148 rfl (.agg #[.int .u8 0, .string ⟨#[]⟩, .string ⟨#[]⟩]) 3 40 Tryz.underlying148 info_item rfl (by decide) (by decide) w1.heap.size _ k _ rfl hown4 _ _ rfl (by simp) rfl (by simp [Value.oneCell']) (by omega) (Ext.size hxr4) ?_; intro v' w5 hown5 hx5 _)
        go_roundg (xs.length - (k + 1))
        case rel => exact ⟨k + 1, by omega, Nat.le_refl _, by go_num, by rw [← HNX.out, HIT.out]; exact hown5, HFX.out HF.out, hx5 _ hxr4 (Nat.le_refl _)⟩
        case measure => omega
      have n98 : (((sg.toNat : Nat) : Int) == 98) = true := u8_true 98 (by decide) h98
      have s98 : (sg == 98) = true := by simpa using h98
      have HN : Hid (((sg.toNat : Nat) : Int) = 98) := Lib.hid (beq_iff_eq.1 n98)
      have HW1 := Lib.hid hw1
      have S98 := Lib.hid s98
      clear h98 s98 hw1
      go_wp2_with fail
      refine (wrong_any c _ (hg.ext (hxw.trans hxr4)) (by omega)).mono ?_
      rintro e w4 ⟨rfl, hx4⟩
      have bI4 := bI3.ext hx4
      have hxr5 := hxr4.trans hx4
      have hown5 := own_ext hown4 hx4
      have bR4 := bR3.ext hx4
      clear cI zI cR fR zR
      have cI := bI4.cell; have zI := bI4.lt
      have cR := bR4.cell; have fR := bR4.free; have zR := bR4.lt
      cases hw2 : wrongL (bs c)
      rotate_left
      · have HP := Lib.hid (HSK.out (by rw [HSY.out, S98.out]; (try dsimp only); rw [hw2]; simp))
        clear hw2
        go_wp2
        refine bodyPost_ret (v := .tuple #[.agg #[.slice none 0 0], .int .i64 8]) (by simp [results, Tryz.results42, go_sem, cR]) rfl ?_
        rw [HP.out]
        have hxx := hxw.trans hxr5
        exact range_noneB (by repeat (first | with_reducible exact Ext.refl _ | with_reducible assumption | with_reducible apply Ext.drewN | with_reducible apply Ext.drew | with_reducible apply Ext.alloc | ((with_reducible refine Ext.setCell ?_ ?_ _); rotate_left; (first | (dsimp only; omega) | (simp; omega) | skip)) | exact Ext.refl _ | assumption | apply Ext.drewN | apply Ext.drew | apply Ext.alloc | refine Ext.setCell ?_ (by first | (dsimp only; omega) | (simp; omega)) _))
      have HF : Hid (Form x) := Lib.hid (by unfold Form; rw [HSY.out, S98.out]; (try dsimp only); rw [hw2, HW1.out]; simp)
      clear hw2
      go_wp2_with (at_builtin; refine wpList_app1g _ _ _ rfl _ _ 148 rfl (.agg #[.int .u8 0, .string ⟨#[]⟩, .string ⟨#[]⟩]) 3 40 Tryz.underlying148 info_item rfl (by decide) (by decide) w1.heap.size _ k _ rfl hown5 _ _ rfl (by simp) rfl (by simp [Value.oneCell']) (by omega) (Ext.size hxr5) ?_; intro v' w5 hown5 hx5 _)
      go_roundg (xs.length - (k + 1))
      case rel => exact ⟨k + 1, by omega, Nat.le_refl _, by go_num, by rw [← HNX.out, HIT.out]; first | exact hown5 | (rw [HN.out]; exact hown5), HFX.out HF.out, hx5 _ hxr5 (Nat.le_refl _)⟩
      case measure => omega
    · obtain rfl : k = xs.length := by omega
      rw [List.take_length] at hown
      have HALLF : ∀ x ∈ xs, Form x := by have := HFORM.out; rwa [List.take_length] at this
      obtain ⟨g, cc, rfl, hgl, hgB, hgc, hgcell⟩ := own_form hown hx0
      have HPS := Lib.hid (parse_spans H1.out H2.out HXS.out HALLF)
      have HGC := Lib.hid hgcell
      clear hgcell HALLF hown HSYN
      have bR1 := bR.ext hxr
      have hxwr := hxw.trans hxr
      obtain ⟨wo, rfl⟩ : ∃ wo : World, wo = wr := ⟨_, rfl⟩
      go_wp2
      go_loopg [65] xs.length (fun gg i wr => ∃ (k : Nat) (sv : Value), k ≤ xs.length ∧ xs.length - k ≤ gg ∧ i = .int .i64 k ∧ Blk wr wo.heap.size 51 #[sv] ∧ wr.ownsRow (wo.heap.size + 1) 145 10 sv k ((xs.take k).flatMap fun x => spC (spO x).1) ∧ (∀ x ∈ xs.take k, Fine (spO x)) ∧ Ext wo wr)
      case atStart => exact ⟨0, .slice none 0 0, Nat.zero_le _, by omega, rfl, Blk.new wo _ _, World.ownsRow_nil _ _ _ _, by simp, (Ext.refl wo).alloc _⟩
      case round =>
        obtain ⟨k, sv, hk, hgk2, rfl, hB9, hown, hfine, hxq⟩ := hrel
        have HFINE := Lib.hid hfine
        clear hfine
        have bRq := bR1.ext hxq
        have b9c := hB9.cell; have b9f := hB9.free; have b9l := hB9.lt
        by_cases hlt : k < xs.length
        · have hsz := hxz xs[k] (List.getElem_mem hlt)
          have hcell : ∀ (j : Nat) (u : Value), j < 3 → (itB xs[k])[j]? = some u → wr.cell? ⟨g, k * 3 + j, none⟩ = some u := fun j u hj hu => hxq.cell (HGC.out _ u (by rw [flat_get (f := itB) (m := 3) (fun _ => rfl) xs k j hlt hj]; exact hu))
          have HNX := Lib.hid (flat_take_succ (fun x => spC (spO x).1) xs k hlt)
          have HFX := Lib.hid (fine_succ hlt HFINE.out)
          have hbad : ¬ (spO xs[k]).2 = 0 → parseR (bs s) = ([], (spO xs[k]).2) := fun h => by
            rw [HPS.out, spans_err (q := xs.map spO) (k := k) (by simpa using hlt) (fun y hy => by
              rw [← List.map_take] at hy
              obtain ⟨z, hz, rfl⟩ := List.mem_map.1 hy
              exact (HFINE.out z hz).1) (by simpa using h)]
            simp
          have HBAD := Lib.hid hbad
          clear hbad
          generalize xs[k] = x at *
          obtain ⟨sg, a, c, hit⟩ : ∃ (sg : UInt8) (a c : ByteArray), (itemL (bs x)).1 = ⟨sg, bs a, bs c⟩ := ⟨(itemL (bs x)).1.sign, ⟨(itemL (bs x)).1.first.toArray⟩, ⟨(itemL (bs x)).1.last.toArray⟩, by rw [bs_mk, bs_mk]⟩
          have hil := item_len (bs x)
          rw [hit, bs_length, bs_length, bs_length] at hil
          obtain ⟨hsa, hsc⟩ := hil
          have hitb : itB x = [.int .u8 sg.toNat, .string a, .string c] := itB_of hit
          rw [hitb] at hcell
          have i0 := hcell 0 _ (by decide) rfl
          have i1 := hcell 1 _ (by decide) rfl
          have i2 := hcell 2 _ (by decide) rfl
          rw [Nat.add_zero] at i0
          have HSO : Hid (spO x = spanL ⟨sg, bs a, bs c⟩) := Lib.hid (by unfold spO; rw [hit])
          clear hcell hit hitb
          go_wp2_with fail
          refine (spanOf_any sg a c _ (hg.ext ((hxwr.trans hxq).trans (by repeat (first | with_reducible exact Ext.refl _ | with_reducible assumption | with_reducible apply Ext.drewN | with_reducible apply Ext.drew | with_reducible apply Ext.alloc | exact Ext.refl _ | assumption | apply Ext.drewN | apply Ext.drew | apply Ext.alloc)))) (by omega) (by omega)).mono ?_
          rintro e w3 ⟨sp, r, hsp, rfl, hz1, hz2, hx3⟩
          have hxq3 : Ext wr w3 := Ext.trans (by repeat (first | with_reducible exact Ext.refl _ | with_reducible assumption | with_reducible apply Ext.drewN | with_reducible apply Ext.drew | with_reducible apply Ext.alloc | exact Ext.refl _ | assumption | apply Ext.drewN | apply Ext.drew | apply Ext.alloc)) hx3
          have HSP : Hid (spO x = (sp, r)) := Lib.hid (HSO.out.trans hsp)
          clear hsp i0 i1 i2
          have hB93 := hB9.ext hxq3
          have hown3 := own_ext hown hxq3
          have bR3 := bRq.ext hxq3
          have cR := bR3.cell; have fR := bR3.free; have zR := bR3.lt
          clear b9c b9f b9l
          have b9c := hB93.cell; have b9f := hB93.free; have b9l := hB93.lt
          by_cases hr : r = 0
          rotate_left
          · have HP := Lib.hid (HBAD.out (by rw [HSP.out]; exact hr))
            have hbn : (r != 0) = true := by rw [bne_iff_ne]; exact hr
            clear hr
            go_wp2
            refine bodyPost_ret (v := .tuple #[.agg #[.slice none 0 0], .int .i64 r]) (by simp [results, Tryz.results42, go_sem, cR, zR]) rfl ?_
            rw [HP.out, HSP.out]
            have hxx := (hxwr.trans hxq).trans hxq3
            exact range_noneB (by repeat (first | with_reducible exact Ext.refl _ | with_reducible assumption | with_reducible apply Ext.drewN | with_reducible apply Ext.drew | with_reducible apply Ext.alloc | ((with_reducible refine Ext.setCell ?_ ?_ _); rotate_left; (first | (dsimp only; omega) | (simp; omega) | skip)) | exact Ext.refl _ | assumption | apply Ext.drewN | apply Ext.drew | apply Ext.alloc | refine Ext.setCell ?_ (by first | (dsimp only; omega) | (simp; omega)) _))
          subst hr
          have HFI : Hid (Fine (spO x)) := Lib.hid (by rw [HSP.out]; exact ⟨rfl, by dsimp only; omega, by dsimp only; omega⟩)
          have HCL : Hid (spC (spO x).1 = spC sp) := Lib.hid (by rw [HSP.out])
          clear hz1 hz2
          obtain ⟨hf, ht, ⟨f1, f2, f3, fa⟩, ⟨t1, t2, t3, ta⟩⟩ := sp
          have hB94 := hB93.alloc (.cells #[.bool hf, .bool ht, .int .i64 f1, .int .i64 f2, .int .i64 f3, .string fa, .int .i64 t1, .int .i64 t2, .int .i64 t3, .string ta] 145)
          have hown4 := hown3.alloc (.cells #[.bool hf, .bool ht, .int .i64 f1, .int .i64 f2, .int .i64 f3, .string fa, .int .i64 t1, .int .i64 t2, .int .i64 t3, .string ta] 145)
          have hx4 := (hxq.trans hxq3).alloc (.cells #[.bool hf, .bool ht, .int .i64 f1, .int .i64 f2, .int .i64 f3, .string fa, .int .i64 t1, .int .i64 t2, .int .i64 t3, .string ta] 145)
          have hsz4 : wo.heap.size + 1 ≤ (w3.alloc (.cells #[.bool hf, .bool ht, .int .i64 f1, .int .i64 f2, .int .i64 f3, .string fa, .int .i64 t1, .int .i64 t2, .int .i64 t3, .string ta] 145)).heap.size := by
            have := hB94.lt; omega
          go_wp2_with (at_builtin; refine wpList_app1g _ _ _ rfl _ _ 49 rfl (.agg #[.bool false, .bool false, .int .i64 0, .int .i64 0, .int .i64 0, .string ⟨#[]⟩, .int .i64 0, .int .i64 0, .int .i64 0, .string ⟨#[]⟩]) 10 88 Tryz.underlying49 info_span rfl (by decide) (by decide) (wo.heap.size + 1) _ k _ rfl hown4 _ _ rfl (by simp) rfl (by simp [Value.oneCell']) (by omega) hsz4 ?_; intro v' w5 hown5 hx5 hb5; (obtain ⟨g5, c5, hv5, _, _, _, _⟩ := own_form hown5 (by omega)); subst hv5; have hB95 := hb5 _ _ _ hB94 (by omega); have b5c := hB95.cell; have b5f := hB95.free; have b5l := hB95.lt)
          go_roundg (xs.length - (k + 1))
          case rel => exact ⟨k + 1, _, by omega, Nat.le_refl _, by go_num, hB95.set 0 _, by rw [← HNX.out, HCL.out]; exact ownsRow_setCell_below hown5 (by simp) _, HFX.out HFI.out, (hx5 _ hx4 (by omega)).setCell (Nat.le_refl _) _⟩
          case measure => omega
        · obtain rfl : k = xs.length := by omega
          have hl : wr.ownsRow (wo.heap.size + 1) 145 10 sv xs.length ((xs.map fun x => (spO x).1).flatMap spC) := by
            rw [List.take_length] at hown
            rw [List.flatMap_map]
            exact hown
          obtain ⟨A, c2, rfl, hrd⟩ := rds_own hl (by simp)
          have HFA : ∀ x ∈ xs, Fine (spO x) := by have := HFINE.out; rwa [List.take_length] at this
          have hsm : SmallS (xs.map fun x => (spO x).1) := fun q hq => by
            obtain ⟨x, hx, rfl⟩ := List.mem_map.1 hq
            exact (HFA x hx).2
          have hq0 : ∀ q ∈ xs.map spO, q.2 = 0 := fun q hq => by
            obtain ⟨x, hx, rfl⟩ := List.mem_map.1 hq
            exact (HFA x hx).1
          have hmm : (xs.map spO).map (·.1) = xs.map fun x => (spO x).1 := by rw [List.map_map]; rfl
          have hbad : ¬ rngErr (xs.map fun x => (spO x).1) = 0 → parseR (bs s) = ([], rngErr (xs.map fun x => (spO x).1)) := fun h => by
            rw [HPS.out, spans_rng hq0 (by rw [hmm]; exact h), hmm]
          have hgood : rngErr (xs.map fun x => (spO x).1) = 0 → parseR (bs s) = (xs.map fun x => (spO x).1, 0) := fun h => by
            rw [HPS.out, spans_ok hq0 (by rw [hmm]; exact h), hmm]
          have hll : (xs.map fun x => (spO x).1).length = xs.length := by simp
          generalize (xs.map fun x => (spO x).1) = l at *
          have HBAD := Lib.hid hbad
          have HGOOD := Lib.hid hgood
          have HLL := Lib.hid hll
          have HL := Lib.hid hl
          clear hbad hgood hmm hq0 HFA hl hown hll
          go_wp2_with fail
          refine (CheckRange_any A xs.length c2 l _ (hg.toGood.ext (hxwr.trans hxq)) HLL.out hrd hsm (by omega)).mono ?_
          rintro e w3 ⟨rfl, hx3⟩
          have hB93 := hB9.ext hx3
          have bR3 := bRq.ext hx3
          clear b9c b9f b9l
          have b9c := hB93.cell; have b9f := hB93.free; have b9l := hB93.lt
          have cR := bR3.cell; have fR := bR3.free; have zR := bR3.lt
          have hxx := (hxwr.trans hxq).trans hx3
          by_cases hr : rngErr l = 0
          · have HP := Lib.hid (HGOOD.out hr)
            rw [hr]
            clear hr
            go_wp2
            refine bodyPost_ret (v := .tuple #[.agg #[.slice A xs.length c2], .int .i64 0]) (by simp [results, Tryz.results42, go_sem, cR]) rfl ?_
            rw [HP.out]
            have hwl : w.heap.size < wo.heap.size + 1 := by have := bR1.lt; omega
            refine ⟨A, c2, by rw [← HLL.out], ?_, hsm, (by repeat (first | with_reducible exact Ext.refl _ | with_reducible assumption | with_reducible apply Ext.drewN | with_reducible apply Ext.drew | with_reducible apply Ext.alloc | ((with_reducible refine Ext.setCell ?_ ?_ _); rotate_left; (first | (dsimp only; omega) | (simp; omega) | skip)) | exact Ext.refl _ | assumption | apply Ext.drewN | apply Ext.drew | apply Ext.alloc | refine Ext.setCell ?_ (by first | (dsimp only; omega) | (simp; omega)) _))⟩
            obtain ⟨A', c', e, hrd'⟩ := rdp_own (ownsRow_setCell_below (own_ext HL.out hx3) (a := ⟨w.heap.size, 0, none⟩) hwl (.slice A xs.length c2)) HLL.out
            injection e with e
            rw [← e] at hrd'
            exact fun hne => by
              obtain ⟨b, o, h1, h2, h3⟩ := hrd' hne
              exact ⟨b, o, h1, by omega, h3⟩
          · have HP := Lib.hid (HBAD.out hr)
            have hbn : (rngErr l != 0) = true := by rw [bne_iff_ne]; exact hr
            clear hr
            go_wp2
            refine bodyPost_ret (v := .tuple #[.agg #[.slice none 0 0], .int .i64 (rngErr l)]) (by simp [results, Tryz.results42, go_sem, cR]) rfl ?_
            rw [HP.out]
            exact range_noneB (by repeat (first | with_reducible exact Ext.refl _ | with_reducible assumption | with_reducible apply Ext.drewN | with_reducible apply Ext.drew | with_reducible apply Ext.alloc | ((with_reducible refine Ext.setCell ?_ ?_ _); rotate_left; (first | (dsimp only; omega) | (simp; omega) | skip)) | exact Ext.refl _ | assumption | apply Ext.drewN | apply Ext.drew | apply Ext.alloc | refine Ext.setCell ?_ (by first | (dsimp only; omega) | (simp; omega)) _))
theorem ParseRange_any (s : ByteArray) (w : World) (hg : GoodN w) (hs : s.size ≤ 2097152) :
    Calls Tryz.prog 42 #[.string s] w (RangePost (parseR (bs s)) w) := (ParseRange_own s w hg hs).mono fun _ _ h => h.weak
end Go.Proofs.YtghhjlcbcojcnaaGreatDoor

namespace Go.Proofs.YtghhjlcbcojcnaaGreatDoor
open Go.RowKit

end Go.Proofs.YtghhjlcbcojcnaaGreatDoor

namespace Go.Proofs.YtghhjlcbcojcnaaGreatDoor
open Go.RowKit

end Go.Proofs.YtghhjlcbcojcnaaGreatDoor

namespace Go.Proofs.YtghhjlcbcojcnaaGreatDoor.listed
open Go.ChangeShapes Go.WideShapes Go.ChangeAt Go.RowKit Go.WideElems Go.Joins

theorem star : "*" ++ "errors.errorString" = "*errors.errorString" := by decide
theorem rowErr (u : TypeId) (h : Tryz.prog.typeName? 3 u = some "*errors.errorString") : u = 356 :=
  typeName_ptr_named (nm := "errors.errorString") (by rw [star]; kernel_rfl) (by kernel_rfl) (by decide) u (by rw [star]; exact h)

/-- what the row's list and the world's shape give -/
theorem good {W : World} (hL : laidMetH Tryz.prog Rows.versionsMatchUptoRow.laid W) (hS : W.ShapedOpen Tryz.prog) : GoodN W := by
  have hL' : laidMet Tryz.prog Rows.versionsMatchUptoRow.laid W := hL
  have h1 : laidMet Tryz.prog [("internal/strconv.uint64pow10", Rows.laid_internal_strconv_uint64pow10)] W := hL'.filter (fun x => x.1 == "internal/strconv.uint64pow10")
  have h2 : laidMet Tryz.prog [("strconv.ErrSyntax", Rows.laid_strconv_ErrSyntax)] W := hL'.filter (fun x => x.1 == "strconv.ErrSyntax")
  have h3 : laidMet Tryz.prog [("strconv.ErrRange", Rows.laid_strconv_ErrRange)] W := hL'.filter (fun x => x.1 == "strconv.ErrRange")
  refine ⟨⟨Tryz.laysM146.s1_3 W hS⟩, ?_, ?_, ?_⟩
  · exact Lib.tabIs_of_head (rest := []) (g := 3) (by kernel_rfl) (by kernel_rfl) Tryz.underlying353 Tryz.underlying307 (by kernel_rfl) (by kernel_rfl) h1
  · obtain ⟨a, s, hv, _⟩ := laid_sentinel (g := 1) h2 (by kernel_rfl) (by kernel_rfl) Tryz.underlying137 rowErr Tryz.underlying356 Tryz.underlying358 rfl rfl Tryz.underlying9 (by kernel_rfl) (by kernel_rfl)
    exact ⟨_, _, hv⟩
  · obtain ⟨a, s, hv, _⟩ := laid_sentinel (g := 2) h3 (by kernel_rfl) (by kernel_rfl) Tryz.underlying137 rowErr Tryz.underlying356 Tryz.underlying358 rfl rfl Tryz.underlying9 (by kernel_rfl) (by kernel_rfl)
    exact ⟨_, _, hv⟩

/-- A WORLD FOR THE WITNESS: the settled one, two blocks more (the two errors' structs), the listed variables holding what their initialisers lay. -/
noncomputable def laidWorld (os : Os) : World :=
  let N := (World.settled Tryz.prog os).heap.size
  let w0 := World.holding Tryz.prog os ⟨#[.cells #[.string ⟨#[118, 97, 108, 117, 101, 32, 111, 117, 116, 32, 111, 102, 32, 114, 97, 110, 103, 101]⟩] 358, .cells #[.string ⟨#[105, 110, 118, 97, 108, 105, 100, 32, 115, 121, 110, 116, 97, 120]⟩] 358], #[], []⟩
  let put (h : Array Obj) (g : Nat) (cs : Array Value) : Array Obj := h.modify g fun
    | .cells _ t frozen => .cells cs t frozen
    | o => o
  let h0 := put (put w0.heap 2 #[.iface 356 (.pointer (some ⟨N, 0, none⟩))]) 1 #[.iface 356 (.pointer (some ⟨N + 1, 0, none⟩))]
  let h1 := put h0 4 (Go.Pinned.utf8FirstZ.map fun z : Nat => Value.int .u8 (z : Int)).toArray
  let h2 := put h1 5 #[.int .u8 128, .int .u8 191, .int .u8 160, .int .u8 191, .int .u8 128, .int .u8 159, .int .u8 144, .int .u8 191, .int .u8 128, .int .u8 143, .int .u8 0, .int .u8 0, .int .u8 0, .int .u8 0, .int .u8 0, .int .u8 0, .int .u8 0, .int .u8 0, .int .u8 0, .int .u8 0, .int .u8 0, .int .u8 0, .int .u8 0, .int .u8 0, .int .u8 0, .int .u8 0, .int .u8 0, .int .u8 0, .int .u8 0, .int .u8 0, .int .u8 0, .int .u8 0]
  let h3 := put h2 6 #[.int .u8 0, .int .u8 1, .int .u8 28, .int .u8 2, .int .u8 29, .int .u8 14, .int .u8 24, .int .u8 3, .int .u8 30, .int .u8 22, .int .u8 20, .int .u8 15, .int .u8 25, .int .u8 17, .int .u8 4, .int .u8 8, .int .u8 31, .int .u8 27, .int .u8 13, .int .u8 23, .int .u8 21, .int .u8 19, .int .u8 16, .int .u8 7, .int .u8 26, .int .u8 12, .int .u8 18, .int .u8 6, .int .u8 11, .int .u8 5, .int .u8 10, .int .u8 9]
  let h4 := put h3 7 #[.int .u8 0, .int .u8 1, .int .u8 56, .int .u8 2, .int .u8 57, .int .u8 49, .int .u8 28, .int .u8 3, .int .u8 61, .int .u8 58, .int .u8 42, .int .u8 50, .int .u8 38, .int .u8 29, .int .u8 17, .int .u8 4, .int .u8 62, .int .u8 47, .int .u8 59, .int .u8 36, .int .u8 45, .int .u8 43, .int .u8 51, .int .u8 22, .int .u8 53, .int .u8 39, .int .u8 33, .int .u8 30, .int .u8 24, .int .u8 18, .int .u8 12, .int .u8 5, .int .u8 63, .int .u8 55, .int .u8 48, .int .u8 27, .int .u8 60, .int .u8 41, .int .u8 37, .int .u8 16, .int .u8 46, .int .u8 35, .int .u8 44, .int .u8 21, .int .u8 52, .int .u8 32, .int .u8 23, .int .u8 11, .int .u8 54, .int .u8 26, .int .u8 40, .int .u8 15, .int .u8 34, .int .u8 20, .int .u8 31, .int .u8 10, .int .u8 25, .int .u8 14, .int .u8 19, .int .u8 9, .int .u8 13, .int .u8 8, .int .u8 7, .int .u8 6]
  let h5 := put h4 3 #[.int .u64 1, .int .u64 10, .int .u64 100, .int .u64 1000, .int .u64 10000, .int .u64 100000, .int .u64 1000000, .int .u64 10000000, .int .u64 100000000, .int .u64 1000000000, .int .u64 10000000000, .int .u64 100000000000, .int .u64 1000000000000, .int .u64 10000000000000, .int .u64 100000000000000, .int .u64 1000000000000000, .int .u64 10000000000000000, .int .u64 100000000000000000, .int .u64 1000000000000000000, .int .u64 10000000000000000000]
  { w0 with heap := h5 }
end Go.Proofs.YtghhjlcbcojcnaaGreatDoor.listed

namespace Go.Proofs.YtghhjlcbcojcnaaGreatDoor
open Go.ChangeShapes Go.WideShapes Go.ChangeAt Go.RowKit Go.WideElems Go.Joins

/-- what cells of a type say: a value with memory around it, and the bulk it has at least -/
def Opens (T : TypeId) {α : Type} (R : World → α → List Value → Prop) (bk : α → Nat) : Prop :=
  ∀ (H : Type) (enc : TypeId × Value → H) (W : World) (fuel : Nat) (cs : List Value) (x : DataW H × List MemPlace), DataW.trod enc Tryz.prog W 0 (fun _ => true) true fuel T cs = some x → ∃ v, R W v cs ∧ bk v ≤ Rows.uptoBulk x.1

theorem opens_string {T : TypeId} (hT : Tryz.prog.underlying T = some .string) : Opens T (fun _ (s : ByteArray) cs => cs = [.string s]) (fun s => s.size + 1) := fun H enc W fuel cs x h => by
  obtain ⟨s, rfl, rfl, _⟩ := DataW.trod_string hT h
  exact ⟨s, rfl, by simp only [Rows.uptoBulk, Array.length_toList]; exact Nat.le_refl _⟩
theorem opens_int {T : TypeId} (hT : Tryz.prog.underlying T = some (.int .i64)) : Opens T (fun _ (n : Int) cs => cs = [.int .i64 n]) (fun _ => 1) := fun H enc W fuel cs x h => by
  obtain ⟨n, rfl, rfl, _⟩ := DataW.trod_int hT h
  exact ⟨n, rfl, by simp [Rows.uptoBulk]⟩
theorem opens_bool {T : TypeId} (hT : Tryz.prog.underlying T = some .bool) : Opens T (fun _ (b : Bool) cs => cs = [.bool b]) (fun _ => 1) := fun H enc W fuel cs x h => by
  obtain ⟨n, rfl, rfl⟩ := DataW.trod_bool hT h
  exact ⟨n, rfl, by simp [Rows.uptoBulk]⟩
theorem bulkAll_le {H : Type} {n : Nat} {D : Nat → DataW H} {bk : Nat → Nat} (h : ∀ i, i < n → bk i ≤ Rows.uptoBulk (D i)) : ((List.range n).map bk).sum ≤ Rows.uptoBulkAll ((List.range n).map D) := by
  suffices ∀ l : List Nat, (∀ i ∈ l, i < n) → (l.map bk).sum ≤ Rows.uptoBulkAll (l.map D) from this _ fun i hi => List.mem_range.1 hi
  intro l
  induction l with
  | nil => intro _; exact Nat.zero_le _
  | cons a l ih =>
    intro hl
    have h1 := h a (hl a (by simp))
    have h2 := ih fun i hi => hl i (by simp [hi])
    simp only [List.map_cons, List.sum_cons, Rows.uptoBulkAll]
    omega
/-- elements of a slice in memory, by whatever an element's cells say -/
def RowOf {α : Type} (R : World → α → List Value → Prop) (sz : Nat) (W : World) (A : Option Addr) (l : List α) : Prop :=
  l ≠ [] → ∃ b o, A = some ⟨b, o, none⟩ ∧ ∀ k (h : k < l.length), ∃ ecs, R W l[k] ecs ∧ ecs.length = sz ∧ ∀ j, j < sz → W.cell? ⟨b, o + k * sz + j, none⟩ = ecs[j]?
theorem opens_slice {T E : TypeId} {α : Type} [Inhabited α] {R : World → α → List Value → Prop} {bk : α → Nat} {sz : Nat} (hT : Tryz.prog.underlying T = some (.slice E)) (hsz : Tryz.prog.cellsOf E = sz) (h0 : 0 < sz) (hE : Opens E R bk) :
    Opens T (fun W (l : List α) cs => ∃ A c, cs = [.slice A l.length c] ∧ RowOf R sz W A l) (fun l => (l.map bk).sum + 1) := fun H enc W fuel cs x h => by
  rcases Deep.open_slice hT h with ⟨rfl, rfl⟩ | ⟨a, len, cap, m, n, D, Pl, rfl, _, hl, _, hm, rfl, hx⟩
  · exact ⟨[], ⟨none, 0, rfl, fun h => absurd rfl h⟩, by simp [Rows.uptoBulk]⟩
  · have hlm : len ≤ m := by rw [hm]; split <;> omega
    have each : ∀ i, i < len → ∃ v : α, bk v ≤ Rows.uptoBulk (D i) ∧ ∃ ecs, R W v ecs ∧ W.cells? 0 (a.add (i * sz)) sz = some ecs := fun i hi => by
      obtain ⟨cs', h1, h2⟩ := hx i (by omega)
      obtain ⟨v, h3, h4⟩ := hE H enc W n cs' _ h2
      rw [hsz] at h1
      exact ⟨v, h4, cs', h3, h1⟩
    obtain ⟨F, hF⟩ := Deep.choose_lt each
    refine ⟨(List.range len).map F, ⟨some a, cap, by simp, ?_⟩, ?_⟩
    · intro hne
      have hpos : 0 < len := by
        rcases Nat.eq_zero_or_pos len with h | h
        · subst h; exact absurd rfl hne
        · exact h
      obtain ⟨_, ecs0, _, hc0⟩ := hF 0 hpos
      obtain ⟨_, hl0, hcell0⟩ := World.cells?_some hc0
      obtain ⟨b, off, spot⟩ := a
      have g0 := hcell0 0 h0
      have hsome : ∃ v, ecs0[0]? = some v := ⟨ecs0[0], List.getElem?_eq_getElem (by omega)⟩
      obtain ⟨v0, hv0⟩ := hsome
      rw [hv0] at g0
      have hspot : spot = none := by
        have := World.cell?_spot g0
        simpa [Addr.add] using this
      subst hspot
      refine ⟨b, off, rfl, fun k hk => ?_⟩
      have hk' : k < len := by simpa using hk
      obtain ⟨_, ecs, hR, hc⟩ := hF k hk'
      obtain ⟨_, hl1, hcell⟩ := World.cells?_some hc
      refine ⟨ecs, by simpa using hR, hl1, fun j hj => ?_⟩
      have := hcell j hj
      rwa [Deep.add_add, add_plain, ← Nat.add_assoc] at this
    · have := bulkAll_le (H := H) (n := len) (D := D) (bk := fun i => bk (F i)) fun i hi => (hF i hi).1
      simp only [List.map_map, Rows.uptoBulk]
      have e : (bk ∘ F) = fun i => bk (F i) := rfl
      rw [e]
      omega
theorem opens_struct1 {T : TypeId} {f0 : Field} {α : Type} {R : World → α → List Value → Prop} {bk : α → Nat} (hT : Tryz.prog.underlying T = some (.struct #[f0])) (ho : f0.offset = 0) (hs : Tryz.prog.cellsOf T = Tryz.prog.cellsOf f0.type) (hE : Opens f0.type R bk) :
    Opens T R bk := fun H enc W fuel cs x h => by
  obtain ⟨y0, n, rfl, hl, h0⟩ := trod_struct1 hT h
  obtain ⟨v, h1, h2⟩ := hE H enc W n _ _ h0
  rw [ho, List.drop_zero, List.take_of_length_le (by omega)] at h1
  exact ⟨v, h1, by simp only [Rows.uptoBulk, Rows.uptoBulkAll]; omega⟩

theorem sum_mem {α : Type} {bk : α → Nat} : ∀ {l : List α} {a : α}, a ∈ l → bk a ≤ (l.map bk).sum
  | b :: l, a, h => by
    rcases List.mem_cons.1 h with rfl | h
    · simp only [List.map_cons, List.sum_cons]; omega
    · have := sum_mem (bk := bk) h
      simp only [List.map_cons, List.sum_cons]; omega
theorem sum_len {α : Type} {bk : α → Nat} {c : Nat} (h : ∀ a, c ≤ bk a) : ∀ l : List α, l.length * c ≤ (l.map bk).sum
  | [] => by simp
  | a :: l => by
    have := sum_len h l
    have := h a
    simp only [List.map_cons, List.sum_cons, List.length_cons, Nat.succ_mul]; omega
end Go.Proofs.YtghhjlcbcojcnaaGreatDoor
