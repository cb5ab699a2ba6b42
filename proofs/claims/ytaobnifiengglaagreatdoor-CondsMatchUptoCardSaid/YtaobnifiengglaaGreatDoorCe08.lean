/- Contract of outref2.ReadVersion. Plain law: the reference's order of words is the program's. -/
import Derived.Test.YtaobnifiengglaaGreatDoorCe05
import Derived.Test.YtaobnifiengglaaGreatDoorCe06
import Derived.Test.YtaobnifiengglaaGreatDoorCe07
import Derived.Test.YtaobnifiengglaaGreatDoorCe03

namespace Go.Proofs.YtaobnifiengglaaGreatDoor
open Go.RowKit

theorem VerS.one {w : World} {b : Nat} {a1 a2 a3 : Int} {a : ByteArray} (h0 : w.cell? ⟨b, 0, none⟩ = some (.int .i64 a1)) (h1 : w.cell? ⟨b, 1, none⟩ = some (.int .i64 a2)) (h2 : w.cell? ⟨b, 2, none⟩ = some (.int .i64 a3)) (h3 : w.cell? ⟨b, 3, none⟩ = some (.string a)) : VerS w b [⟨a1, a2, a3, a⟩] := by
  constructor
  all_goals intro k hk
  all_goals obtain rfl : k = 0 := by simpa using hk
  · exact h0
  · exact h1
  · exact h2
  · exact h3
theorem err_one (a1 a2 a3 : Int) (a : ByteArray) : firstI ([(⟨a1, a2, a3, a⟩ : V4)].map V4.err) = checkV a1 a2 a3 (bs a) := by
  show firstI [checkV a1 a2 a3 (bs a)] = _
  unfold firstI
  split
  · rename_i h; rw [h]; rfl
  · rfl
set_option maxHeartbeats 2000000 in
theorem ReadVersion_any (s : ByteArray) (w : World) (hg : GoodN w) (hs : s.size ≤ 2097152) :
    Calls Tryz.prog 37 #[.string s] w (ParsePost (bs s) w) := by
  go_enter Tryz.func37, Tryz.ntmps37
  go_wp2_with fail
  refine (cut_ex 45 s _ (hg.toGood.ext (by repeat (first | with_reducible exact Ext.refl _ | with_reducible assumption | with_reducible apply Ext.drewN | with_reducible apply Ext.drew | with_reducible apply Ext.alloc | exact Ext.refl _ | assumption | apply Ext.drewN | apply Ext.drew | apply Ext.alloc))) hs).mono ?_
  rintro e w1 ⟨nb, eb, fl, rfl, hcut, hsn, hse, hx1⟩
  have HCUT := Lib.hid hcut
  clear hcut
  go_wp2_with fail
  refine (split_any 46 nb _ ((hg.toGood.ext (by repeat (first | with_reducible exact Ext.refl _ | with_reducible assumption | with_reducible apply Ext.drewN | with_reducible apply Ext.drew | with_reducible apply Ext.alloc | exact Ext.refl _ | assumption | apply Ext.drewN | apply Ext.drew | apply Ext.alloc))).ext hx1) (by omega)).mono ?_
  rintro e w2 ⟨b, xs, rfl, hb0, hst, hxs, hx2⟩
  have hxx : Ext w w2 := (Ext.trans (by repeat (first | with_reducible exact Ext.refl _ | with_reducible assumption | with_reducible apply Ext.drewN | with_reducible apply Ext.drew | with_reducible apply Ext.alloc | exact Ext.refl _ | assumption | apply Ext.drewN | apply Ext.drew | apply Ext.alloc)) hx1).trans hx2
  have hR := ((Blk.new w 35 #[.int .i64 0, .int .i64 0, .int .i64 0, .string ⟨#[]⟩]).ext hx1).ext hx2
  have rc := hR.cell
  have rf := hR.free
  have rl := hR.lt
  by_cases h3 : xs.length = 3
  · obtain ⟨x, y, z, rfl⟩ := three h3
    have hsp : splitC 46 (cutC 45 (bs s)).1 = [bs x, bs y, bs z] := by rw [HCUT.out, ← hxs]; rfl
    have HSP := Lib.hid hsp
    have c0 : w2.cell? ⟨b, 0, none⟩ = some (.string x) := hst.cell 0 (by simp)
    have c1 : w2.cell? ⟨b, 1, none⟩ = some (.string y) := hst.cell 1 (by simp)
    have c2 : w2.cell? ⟨b, 2, none⟩ = some (.string z) := hst.cell 2 (by simp)
    have sx : x.size ≤ nb.size := piece_le hxs (k := 0) (by simp)
    have sy : y.size ≤ nb.size := piece_le hxs (k := 1) (by simp)
    have sz : z.size ≤ nb.size := piece_le hxs (k := 2) (by simp)
    have hbl := hst.lt
    clear h3 hxs hst hsp
    have htail : (cutC 45 (bs s)).2.2 = fl ∧ (cutC 45 (bs s)).2.1 = bs eb := by rw [HCUT.out]; exact ⟨rfl, rfl⟩
    have HT := Lib.hid htail
    clear htail
    by_cases ht : fl = true ∧ eb.size = 0
    · obtain ⟨rfl, he0⟩ := ht
      have hi := emp_bool he0
      have hp : parseV (bs s) = ((0, 0, 0, []), 8) := parse_tail HSP.out (by rw [HT.out.1, HT.out.2, bs_nil he0]; rfl)
      have HP := Lib.hid hp
      clear hp
      go_wp2
      refine bodyPost_ret (v := .tuple #[verVal' 0 0 0 ⟨#[]⟩, .int .i64 8]) (by simp [results, Tryz.results37, go_sem, rc]) rfl (post_parse0 HP.out ?_)
      exact (by repeat (first | with_reducible exact Ext.refl _ | with_reducible assumption | with_reducible apply Ext.drewN | with_reducible apply Ext.drew | with_reducible apply Ext.alloc | ((with_reducible refine Ext.setCell ?_ ?_ _); rotate_left; (first | (dsimp only; omega) | (simp; omega) | skip)) | exact Ext.refl _ | assumption | apply Ext.drewN | apply Ext.drew | apply Ext.alloc | refine Ext.setCell ?_ (by first | (dsimp only; omega) | (simp; omega)) _))
    have hT2 : ((cutC 45 (bs s)).2.2 && (cutC 45 (bs s)).2.1.isEmpty) = false := by
      rw [HT.out.1, HT.out.2]
      cases fl
      · rfl
      · rcases Nat.eq_zero_or_pos eb.size with h0 | h0
        · exact absurd ⟨rfl, h0⟩ ht
        · have := nemp_bool h0
          rw [ByteArray.toList_eq] at this
          rw [this]; rfl
    have HT2 := Lib.hid hT2
    clear hT2
    have hq : fl = false ∨ (fl = true ∧ 0 < eb.size) := by
      cases fl
      · exact .inl rfl
      · exact .inr ⟨rfl, Nat.pos_of_ne_zero fun h0 => ht ⟨rfl, h0⟩⟩
    clear ht
    rcases hq with rfl | ⟨rfl, hq0⟩
    rotate_left
    · have hi := nemp_bool hq0
      go_wp2
      go_loopw [33] (fun i wr => ((i = .int .i64 0 ∧ Blk wr w2.heap.size 131 #[.int .i64 0, .int .i64 0, .int .i64 0]) ∨ (i = .int .i64 1 ∧ numOk (bs x) = true ∧ Blk wr w2.heap.size 131 #[.int .i64 (numV (bs x)), .int .i64 0, .int .i64 0]) ∨ (i = .int .i64 2 ∧ numOk (bs x) = true ∧ numOk (bs y) = true ∧ Blk wr w2.heap.size 131 #[.int .i64 (numV (bs x)), .int .i64 (numV (bs y)), .int .i64 0]) ∨ (i = .int .i64 3 ∧ numOk (bs x) = true ∧ numOk (bs y) = true ∧ numOk (bs z) = true ∧ Blk wr w2.heap.size 131 #[.int .i64 (numV (bs x)), .int .i64 (numV (bs y)), .int .i64 (numV (bs z))])) ∧ Ext w2 wr) (fun i _ => 3 - (intOf i).toNat)
      case atStart => exact ⟨.inl ⟨rfl, Blk.new w2 _ _⟩, (Ext.refl w2).alloc _⟩
      case round =>
        obtain ⟨hi, hxr⟩ := hrel
        have rr := hR.ext hxr
        have d0 := hxr.cell c0
        have d1 := hxr.cell c1
        have d2 := hxr.cell c2
        have gr := ((hg.ext (by repeat (first | with_reducible exact Ext.refl _ | with_reducible assumption | with_reducible apply Ext.drewN | with_reducible apply Ext.drew | with_reducible apply Ext.alloc | exact Ext.refl _ | assumption | apply Ext.drewN | apply Ext.drew | apply Ext.alloc))).ext hx1).ext (hx2.trans hxr)
        clear rc rf rl c0 c1 c2
        rcases hi with ⟨rfl, hA⟩ | ⟨rfl, o0, hA⟩ | ⟨rfl, o0, o1, hA⟩ | ⟨rfl, o0, o1, o2, hA⟩
        · skip
          go_wp2_with fail
          refine (Number_any x _ gr (by omega)).mono ?_
          rintro e w3 ⟨rfl, hx3⟩
          have hA3 := hA.ext hx3
          have ac := hA3.cell
          have af := hA3.free
          have rr3 := rr.ext hx3
          have rc := rr3.cell
          have rf := rr3.free
          cases hk : numOk (bs x)
          · have HP := Lib.hid (parse_num HSP.out HT2.out (by rw [hk]; simp))
            clear hk ac af
            go_wp2
            refine bodyPost_ret (v := .tuple #[verVal' 0 0 0 ⟨#[]⟩, .int .i64 8]) (by simp [results, Tryz.results37, go_sem, rc]) rfl (post_parse0 HP.out ?_)
            have hx4 : Ext w w3 := (hxx.trans hxr).trans hx3
            exact (by repeat (first | with_reducible exact Ext.refl _ | with_reducible assumption | with_reducible apply Ext.drewN | with_reducible apply Ext.drew | with_reducible apply Ext.alloc | ((with_reducible refine Ext.setCell ?_ ?_ _); rotate_left; (first | (dsimp only; omega) | (simp; omega) | skip)) | exact Ext.refl _ | assumption | apply Ext.drewN | apply Ext.drew | apply Ext.alloc | refine Ext.setCell ?_ (by first | (dsimp only; omega) | (simp; omega)) _))
          · have OK := Lib.hid hk
            clear hk rc rf
            go_wp2
            go_roundw
            case rel => exact ⟨.inr (.inl ⟨rfl, OK.out, hA3.set 0 _⟩), Ext.setCell (hxr.trans hx3) (Nat.le_refl _) _⟩
            case measure => decide
        · have O0 := Lib.hid o0; clear o0
          go_wp2_with fail
          refine (Number_any y _ gr (by omega)).mono ?_
          rintro e w3 ⟨rfl, hx3⟩
          have hA3 := hA.ext hx3
          have ac := hA3.cell
          have af := hA3.free
          have rr3 := rr.ext hx3
          have rc := rr3.cell
          have rf := rr3.free
          cases hk : numOk (bs y)
          · have HP := Lib.hid (parse_num HSP.out HT2.out (by rw [hk, O0.out]; simp))
            clear hk ac af
            go_wp2
            refine bodyPost_ret (v := .tuple #[verVal' 0 0 0 ⟨#[]⟩, .int .i64 8]) (by simp [results, Tryz.results37, go_sem, rc]) rfl (post_parse0 HP.out ?_)
            have hx4 : Ext w w3 := (hxx.trans hxr).trans hx3
            exact (by repeat (first | with_reducible exact Ext.refl _ | with_reducible assumption | with_reducible apply Ext.drewN | with_reducible apply Ext.drew | with_reducible apply Ext.alloc | ((with_reducible refine Ext.setCell ?_ ?_ _); rotate_left; (first | (dsimp only; omega) | (simp; omega) | skip)) | exact Ext.refl _ | assumption | apply Ext.drewN | apply Ext.drew | apply Ext.alloc | refine Ext.setCell ?_ (by first | (dsimp only; omega) | (simp; omega)) _))
          · have OK := Lib.hid hk
            clear hk rc rf
            go_wp2
            go_roundw
            case rel => exact ⟨.inr (.inr (.inl ⟨rfl, O0.out, OK.out, hA3.set 1 _⟩)), Ext.setCell (hxr.trans hx3) (Nat.le_refl _) _⟩
            case measure => decide
        · have O0 := Lib.hid o0; have O1 := Lib.hid o1; clear o0 o1
          go_wp2_with fail
          refine (Number_any z _ gr (by omega)).mono ?_
          rintro e w3 ⟨rfl, hx3⟩
          have hA3 := hA.ext hx3
          have ac := hA3.cell
          have af := hA3.free
          have rr3 := rr.ext hx3
          have rc := rr3.cell
          have rf := rr3.free
          cases hk : numOk (bs z)
          · have HP := Lib.hid (parse_num HSP.out HT2.out (by rw [hk, O0.out, O1.out]; simp))
            clear hk ac af
            go_wp2
            refine bodyPost_ret (v := .tuple #[verVal' 0 0 0 ⟨#[]⟩, .int .i64 8]) (by simp [results, Tryz.results37, go_sem, rc]) rfl (post_parse0 HP.out ?_)
            have hx4 : Ext w w3 := (hxx.trans hxr).trans hx3
            exact (by repeat (first | with_reducible exact Ext.refl _ | with_reducible assumption | with_reducible apply Ext.drewN | with_reducible apply Ext.drew | with_reducible apply Ext.alloc | ((with_reducible refine Ext.setCell ?_ ?_ _); rotate_left; (first | (dsimp only; omega) | (simp; omega) | skip)) | exact Ext.refl _ | assumption | apply Ext.drewN | apply Ext.drew | apply Ext.alloc | refine Ext.setCell ?_ (by first | (dsimp only; omega) | (simp; omega)) _))
          · have OK := Lib.hid hk
            clear hk rc rf
            go_wp2
            go_roundw
            case rel => exact ⟨.inr (.inr (.inr (⟨rfl, O0.out, O1.out, OK.out, hA3.set 2 _⟩))), Ext.setCell (hxr.trans hx3) (Nat.le_refl _) _⟩
            case measure => decide
        · have O0 := Lib.hid o0; have O1 := Lib.hid o1; have O2 := Lib.hid o2; clear o0 o1 o2
          have ac := hA.cell
          have rc := rr.cell
          have rf := rr.free
          have rl := rr.lt
          have hp := parse_ok HSP.out HT2.out O0.out O1.out O2.out
          rw [HT.out.2] at hp
          have HP := Lib.hid hp
          clear hp
          go_wp2_with fail
          refine (VersionError_any _ _ [⟨numV (bs x), numV (bs y), numV (bs z), eb⟩] _ (gr.toGood.ext (by repeat (first | with_reducible exact Ext.refl _ | with_reducible assumption | with_reducible apply Ext.drewN | with_reducible apply Ext.drew | with_reducible apply Ext.alloc | exact Ext.refl _ | assumption | apply Ext.drewN | apply Ext.drew | apply Ext.alloc))) ?_ ?_ (by simp)).mono ?_
          · exact VerS.one (by rw [World.cell?_alloc_at _ _ _ _ (by simp)]; rfl) (by rw [World.cell?_alloc_at _ _ _ _ (by simp)]; rfl) (by rw [World.cell?_alloc_at _ _ _ _ (by simp)]; rfl) (by rw [World.cell?_alloc_at _ _ _ _ (by simp)]; rfl)
          · intro v hv
            rw [List.mem_singleton] at hv
            subst hv
            show eb.size ≤ 2097152
            omega
          rw [err_one]
          rintro e w3 ⟨rfl, hx3⟩
          have hx4 : Ext w w3 := Ext.trans (Ext.trans (hxx.trans hxr) (by repeat (first | with_reducible exact Ext.refl _ | with_reducible assumption | with_reducible apply Ext.drewN | with_reducible apply Ext.drew | with_reducible apply Ext.alloc | exact Ext.refl _ | assumption | apply Ext.drewN | apply Ext.drew | apply Ext.alloc))) hx3
          have rr3 := ((rr.alloc _).alloc _).ext hx3
          have rc3 := rr3.cell
          have rf3 := rr3.free
          obtain ⟨hc3, hf3⟩ := hx3.cells
          clear ac rc rf
          have vb := ((Blk.new wr 35 #[.int .i64 (numV (bs x)), .int .i64 (numV (bs y)), .int .i64 (numV (bs z)), .string eb]).alloc _).ext hx3
          have vc := vb.cell
          by_cases h5 : checkV (numV (bs x)) (numV (bs y)) (numV (bs z)) (bs eb) = 0
          · have H5 := Lib.hid h5
            rw [h5]
            clear h5
            go_wp2
            refine bodyPost_ret (v := .tuple #[verVal' (numV (bs x)) (numV (bs y)) (numV (bs z)) eb, .int .i64 0]) (by simp [results, Tryz.results37, go_sem, rc3]) rfl (post_parse1 (by rw [HP.out, if_pos H5.out]) (by rw [bs_length]; exact hse) ?_)
            exact (by repeat (first | with_reducible exact Ext.refl _ | with_reducible assumption | with_reducible apply Ext.drewN | with_reducible apply Ext.drew | with_reducible apply Ext.alloc | ((with_reducible refine Ext.setCell ?_ ?_ _); rotate_left; (first | (dsimp only; omega) | (simp; omega) | skip)) | exact Ext.refl _ | assumption | apply Ext.drewN | apply Ext.drew | apply Ext.alloc | refine Ext.setCell ?_ (by first | (dsimp only; omega) | (simp; omega)) _))
          · have H5 := Lib.hid h5
            go_wp2
            refine bodyPost_ret (v := .tuple #[verVal' 0 0 0 ⟨#[]⟩, .int .i64 (checkV (numV (bs x)) (numV (bs y)) (numV (bs z)) (bs eb))]) (by simp [results, Tryz.results37, go_sem, rc3]) rfl (post_parse0 (by rw [HP.out, if_neg H5.out]) ?_)
            exact (by repeat (first | with_reducible exact Ext.refl _ | with_reducible assumption | with_reducible apply Ext.drewN | with_reducible apply Ext.drew | with_reducible apply Ext.alloc | ((with_reducible refine Ext.setCell ?_ ?_ _); rotate_left; (first | (dsimp only; omega) | (simp; omega) | skip)) | exact Ext.refl _ | assumption | apply Ext.drewN | apply Ext.drew | apply Ext.alloc | refine Ext.setCell ?_ (by first | (dsimp only; omega) | (simp; omega)) _))
    · go_wp2
      go_loopw [33] (fun i wr => ((i = .int .i64 0 ∧ Blk wr w2.heap.size 131 #[.int .i64 0, .int .i64 0, .int .i64 0]) ∨ (i = .int .i64 1 ∧ numOk (bs x) = true ∧ Blk wr w2.heap.size 131 #[.int .i64 (numV (bs x)), .int .i64 0, .int .i64 0]) ∨ (i = .int .i64 2 ∧ numOk (bs x) = true ∧ numOk (bs y) = true ∧ Blk wr w2.heap.size 131 #[.int .i64 (numV (bs x)), .int .i64 (numV (bs y)), .int .i64 0]) ∨ (i = .int .i64 3 ∧ numOk (bs x) = true ∧ numOk (bs y) = true ∧ numOk (bs z) = true ∧ Blk wr w2.heap.size 131 #[.int .i64 (numV (bs x)), .int .i64 (numV (bs y)), .int .i64 (numV (bs z))])) ∧ Ext w2 wr) (fun i _ => 3 - (intOf i).toNat)
      case atStart => exact ⟨.inl ⟨rfl, Blk.new w2 _ _⟩, (Ext.refl w2).alloc _⟩
      case round =>
        obtain ⟨hi, hxr⟩ := hrel
        have rr := hR.ext hxr
        have d0 := hxr.cell c0
        have d1 := hxr.cell c1
        have d2 := hxr.cell c2
        have gr := ((hg.ext (by repeat (first | with_reducible exact Ext.refl _ | with_reducible assumption | with_reducible apply Ext.drewN | with_reducible apply Ext.drew | with_reducible apply Ext.alloc | exact Ext.refl _ | assumption | apply Ext.drewN | apply Ext.drew | apply Ext.alloc))).ext hx1).ext (hx2.trans hxr)
        clear rc rf rl c0 c1 c2
        rcases hi with ⟨rfl, hA⟩ | ⟨rfl, o0, hA⟩ | ⟨rfl, o0, o1, hA⟩ | ⟨rfl, o0, o1, o2, hA⟩
        · skip
          go_wp2_with fail
          refine (Number_any x _ gr (by omega)).mono ?_
          rintro e w3 ⟨rfl, hx3⟩
          have hA3 := hA.ext hx3
          have ac := hA3.cell
          have af := hA3.free
          have rr3 := rr.ext hx3
          have rc := rr3.cell
          have rf := rr3.free
          cases hk : numOk (bs x)
          · have HP := Lib.hid (parse_num HSP.out HT2.out (by rw [hk]; simp))
            clear hk ac af
            go_wp2
            refine bodyPost_ret (v := .tuple #[verVal' 0 0 0 ⟨#[]⟩, .int .i64 8]) (by simp [results, Tryz.results37, go_sem, rc]) rfl (post_parse0 HP.out ?_)
            have hx4 : Ext w w3 := (hxx.trans hxr).trans hx3
            exact (by repeat (first | with_reducible exact Ext.refl _ | with_reducible assumption | with_reducible apply Ext.drewN | with_reducible apply Ext.drew | with_reducible apply Ext.alloc | ((with_reducible refine Ext.setCell ?_ ?_ _); rotate_left; (first | (dsimp only; omega) | (simp; omega) | skip)) | exact Ext.refl _ | assumption | apply Ext.drewN | apply Ext.drew | apply Ext.alloc | refine Ext.setCell ?_ (by first | (dsimp only; omega) | (simp; omega)) _))
          · have OK := Lib.hid hk
            clear hk rc rf
            go_wp2
            go_roundw
            case rel => exact ⟨.inr (.inl ⟨rfl, OK.out, hA3.set 0 _⟩), Ext.setCell (hxr.trans hx3) (Nat.le_refl _) _⟩
            case measure => decide
        · have O0 := Lib.hid o0; clear o0
          go_wp2_with fail
          refine (Number_any y _ gr (by omega)).mono ?_
          rintro e w3 ⟨rfl, hx3⟩
          have hA3 := hA.ext hx3
          have ac := hA3.cell
          have af := hA3.free
          have rr3 := rr.ext hx3
          have rc := rr3.cell
          have rf := rr3.free
          cases hk : numOk (bs y)
          · have HP := Lib.hid (parse_num HSP.out HT2.out (by rw [hk, O0.out]; simp))
            clear hk ac af
            go_wp2
            refine bodyPost_ret (v := .tuple #[verVal' 0 0 0 ⟨#[]⟩, .int .i64 8]) (by simp [results, Tryz.results37, go_sem, rc]) rfl (post_parse0 HP.out ?_)
            have hx4 : Ext w w3 := (hxx.trans hxr).trans hx3
            exact (by repeat (first | with_reducible exact Ext.refl _ | with_reducible assumption | with_reducible apply Ext.drewN | with_reducible apply Ext.drew | with_reducible apply Ext.alloc | ((with_reducible refine Ext.setCell ?_ ?_ _); rotate_left; (first | (dsimp only; omega) | (simp; omega) | skip)) | exact Ext.refl _ | assumption | apply Ext.drewN | apply Ext.drew | apply Ext.alloc | refine Ext.setCell ?_ (by first | (dsimp only; omega) | (simp; omega)) _))
          · have OK := Lib.hid hk
            clear hk rc rf
            go_wp2
            go_roundw
            case rel => exact ⟨.inr (.inr (.inl ⟨rfl, O0.out, OK.out, hA3.set 1 _⟩)), Ext.setCell (hxr.trans hx3) (Nat.le_refl _) _⟩
            case measure => decide
        · have O0 := Lib.hid o0; have O1 := Lib.hid o1; clear o0 o1
          go_wp2_with fail
          refine (Number_any z _ gr (by omega)).mono ?_
          rintro e w3 ⟨rfl, hx3⟩
          have hA3 := hA.ext hx3
          have ac := hA3.cell
          have af := hA3.free
          have rr3 := rr.ext hx3
          have rc := rr3.cell
          have rf := rr3.free
          cases hk : numOk (bs z)
          · have HP := Lib.hid (parse_num HSP.out HT2.out (by rw [hk, O0.out, O1.out]; simp))
            clear hk ac af
            go_wp2
            refine bodyPost_ret (v := .tuple #[verVal' 0 0 0 ⟨#[]⟩, .int .i64 8]) (by simp [results, Tryz.results37, go_sem, rc]) rfl (post_parse0 HP.out ?_)
            have hx4 : Ext w w3 := (hxx.trans hxr).trans hx3
            exact (by repeat (first | with_reducible exact Ext.refl _ | with_reducible assumption | with_reducible apply Ext.drewN | with_reducible apply Ext.drew | with_reducible apply Ext.alloc | ((with_reducible refine Ext.setCell ?_ ?_ _); rotate_left; (first | (dsimp only; omega) | (simp; omega) | skip)) | exact Ext.refl _ | assumption | apply Ext.drewN | apply Ext.drew | apply Ext.alloc | refine Ext.setCell ?_ (by first | (dsimp only; omega) | (simp; omega)) _))
          · have OK := Lib.hid hk
            clear hk rc rf
            go_wp2
            go_roundw
            case rel => exact ⟨.inr (.inr (.inr (⟨rfl, O0.out, O1.out, OK.out, hA3.set 2 _⟩))), Ext.setCell (hxr.trans hx3) (Nat.le_refl _) _⟩
            case measure => decide
        · have O0 := Lib.hid o0; have O1 := Lib.hid o1; have O2 := Lib.hid o2; clear o0 o1 o2
          have ac := hA.cell
          have rc := rr.cell
          have rf := rr.free
          have rl := rr.lt
          have hp := parse_ok HSP.out HT2.out O0.out O1.out O2.out
          rw [HT.out.2] at hp
          have HP := Lib.hid hp
          clear hp
          go_wp2_with fail
          refine (VersionError_any _ _ [⟨numV (bs x), numV (bs y), numV (bs z), eb⟩] _ (gr.toGood.ext (by repeat (first | with_reducible exact Ext.refl _ | with_reducible assumption | with_reducible apply Ext.drewN | with_reducible apply Ext.drew | with_reducible apply Ext.alloc | exact Ext.refl _ | assumption | apply Ext.drewN | apply Ext.drew | apply Ext.alloc))) ?_ ?_ (by simp)).mono ?_
          · exact VerS.one (by rw [World.cell?_alloc_at _ _ _ _ (by simp)]; rfl) (by rw [World.cell?_alloc_at _ _ _ _ (by simp)]; rfl) (by rw [World.cell?_alloc_at _ _ _ _ (by simp)]; rfl) (by rw [World.cell?_alloc_at _ _ _ _ (by simp)]; rfl)
          · intro v hv
            rw [List.mem_singleton] at hv
            subst hv
            show eb.size ≤ 2097152
            omega
          rw [err_one]
          rintro e w3 ⟨rfl, hx3⟩
          have hx4 : Ext w w3 := Ext.trans (Ext.trans (hxx.trans hxr) (by repeat (first | with_reducible exact Ext.refl _ | with_reducible assumption | with_reducible apply Ext.drewN | with_reducible apply Ext.drew | with_reducible apply Ext.alloc | exact Ext.refl _ | assumption | apply Ext.drewN | apply Ext.drew | apply Ext.alloc))) hx3
          have rr3 := ((rr.alloc _).alloc _).ext hx3
          have rc3 := rr3.cell
          have rf3 := rr3.free
          obtain ⟨hc3, hf3⟩ := hx3.cells
          clear ac rc rf
          have vb := ((Blk.new wr 35 #[.int .i64 (numV (bs x)), .int .i64 (numV (bs y)), .int .i64 (numV (bs z)), .string eb]).alloc _).ext hx3
          have vc := vb.cell
          by_cases h5 : checkV (numV (bs x)) (numV (bs y)) (numV (bs z)) (bs eb) = 0
          · have H5 := Lib.hid h5
            rw [h5]
            clear h5
            go_wp2
            refine bodyPost_ret (v := .tuple #[verVal' (numV (bs x)) (numV (bs y)) (numV (bs z)) eb, .int .i64 0]) (by simp [results, Tryz.results37, go_sem, rc3]) rfl (post_parse1 (by rw [HP.out, if_pos H5.out]) (by rw [bs_length]; exact hse) ?_)
            exact (by repeat (first | with_reducible exact Ext.refl _ | with_reducible assumption | with_reducible apply Ext.drewN | with_reducible apply Ext.drew | with_reducible apply Ext.alloc | ((with_reducible refine Ext.setCell ?_ ?_ _); rotate_left; (first | (dsimp only; omega) | (simp; omega) | skip)) | exact Ext.refl _ | assumption | apply Ext.drewN | apply Ext.drew | apply Ext.alloc | refine Ext.setCell ?_ (by first | (dsimp only; omega) | (simp; omega)) _))
          · have H5 := Lib.hid h5
            go_wp2
            refine bodyPost_ret (v := .tuple #[verVal' 0 0 0 ⟨#[]⟩, .int .i64 (checkV (numV (bs x)) (numV (bs y)) (numV (bs z)) (bs eb))]) (by simp [results, Tryz.results37, go_sem, rc3]) rfl (post_parse0 (by rw [HP.out, if_neg H5.out]) ?_)
            exact (by repeat (first | with_reducible exact Ext.refl _ | with_reducible assumption | with_reducible apply Ext.drewN | with_reducible apply Ext.drew | with_reducible apply Ext.alloc | ((with_reducible refine Ext.setCell ?_ ?_ _); rotate_left; (first | (dsimp only; omega) | (simp; omega) | skip)) | exact Ext.refl _ | assumption | apply Ext.drewN | apply Ext.drew | apply Ext.alloc | refine Ext.setCell ?_ (by first | (dsimp only; omega) | (simp; omega)) _))
  · have b3 : ((xs.length : Int) != 3) = true := by rw [bne_iff_ne]; omega
    have hp : parseV (bs s) = ((0, 0, 0, []), 8) := parse_count (by rw [HCUT.out, ← hxs, List.length_map]; exact h3)
    have HP := Lib.hid hp
    clear hp h3 hxs hst
    go_wp2
    refine bodyPost_ret (v := .tuple #[verVal' 0 0 0 ⟨#[]⟩, .int .i64 8]) (by simp [results, Tryz.results37, go_sem, rc]) rfl (post_parse0 HP.out ?_)
    exact (by repeat (first | with_reducible exact Ext.refl _ | with_reducible assumption | with_reducible apply Ext.drewN | with_reducible apply Ext.drew | with_reducible apply Ext.alloc | ((with_reducible refine Ext.setCell ?_ ?_ _); rotate_left; (first | (dsimp only; omega) | (simp; omega) | skip)) | exact Ext.refl _ | assumption | apply Ext.drewN | apply Ext.drew | apply Ext.alloc | refine Ext.setCell ?_ (by first | (dsimp only; omega) | (simp; omega)) _))
end Go.Proofs.YtaobnifiengglaaGreatDoor

namespace Go.Proofs.YtaobnifiengglaaGreatDoor

theorem compareInt_lt {a b : Nat} (h : a < b) : Lib.compareInt a b = -1 := by unfold Lib.compareInt; rw [if_pos (by omega)]
theorem compareInt_gt {a b : Nat} (h : b < a) : Lib.compareInt a b = 1 := by unfold Lib.compareInt; rw [if_neg (by omega), if_pos (by omega)]
theorem compareInt_self (a : Nat) : Lib.compareInt a a = 0 := by unfold Lib.compareInt; rw [if_neg (by omega), if_neg (by omega)]
theorem compareBytes_self : ∀ l : Str, Lib.compareBytes l l = 0
  | [] => rfl
  | a :: l => by
    unfold Lib.compareBytes
    rw [if_neg (by simp), if_neg (by simp)]
    exact compareBytes_self l
/-- digits of one length are as their numbers -/
theorem cmp_digits : ∀ (x y : Str), x.all digitB = true → y.all digitB = true → x.length = y.length → Lib.compareBytes x y = Lib.compareInt (decVal x) (decVal y)
  | [], [], _, _, _ => rfl
  | a :: x, b :: y, hx, hy, hl => by
    simp only [List.all_cons, Bool.and_eq_true] at hx hy
    simp only [List.length_cons, Nat.add_right_cancel_iff] at hl
    have ha := digit_bounds hx.1
    have hb := digit_bounds hy.1
    have lx := decVal_lt x hx.2
    have ly := decVal_lt y hy.2
    rw [decVal_cons, decVal_cons]
    unfold Lib.compareBytes
    by_cases h1 : a < b
    · rw [if_pos h1]
      have h2 : a.toNat < b.toNat := UInt8.lt_iff_toNat_lt.1 h1
      have h3 : (a.toNat - 48 + 1) * 10 ^ x.length ≤ (b.toNat - 48) * 10 ^ y.length := by rw [← hl]; exact Nat.mul_le_mul_right _ (by omega)
      rw [Nat.add_mul, Nat.one_mul] at h3
      rw [compareInt_lt (by omega)]
    · rw [if_neg h1]
      by_cases h2 : b < a
      · rw [if_pos h2]
        have h2' : b.toNat < a.toNat := UInt8.lt_iff_toNat_lt.1 h2
        have h3 : (b.toNat - 48 + 1) * 10 ^ y.length ≤ (a.toNat - 48) * 10 ^ x.length := by rw [← hl]; exact Nat.mul_le_mul_right _ (by omega)
        rw [Nat.add_mul, Nat.one_mul] at h3
        rw [compareInt_gt (by omega)]
      · rw [if_neg h2, cmp_digits x y hx.2 hy.2 hl]
        have h3 : a = b := by
          apply UInt8.toNat_inj.1
          rw [UInt8.lt_iff_toNat_lt] at h1 h2
          omega
        subst h3
        rw [hl]
        generalize (a.toNat - 48) * 10 ^ y.length = m
        rcases Nat.lt_trichotomy (decVal x) (decVal y) with g | g | g
        · rw [compareInt_lt g, compareInt_lt (by omega)]
        · rw [g, compareInt_self, compareInt_self]
        · rw [compareInt_gt g, compareInt_gt (by omega)]
/-- a number without a 0 ahead is as great as its length says -/
theorem decVal_ge : ∀ (y : Str), y.all digitB = true → 1 < y.length → y.headD 0 ≠ 48 → 10 ^ (y.length - 1) ≤ decVal y
  | [], _, h, _ => by simp at h
  | b :: y, h, hl, h0 => by
    simp only [List.all_cons, Bool.and_eq_true] at h
    have hb := digit_bounds h.1
    have h1 : b.toNat ≠ 48 := fun e => h0 (UInt8.toNat_inj.1 e)
    rw [decVal_cons]
    have : 1 * 10 ^ y.length ≤ (b.toNat - 48) * 10 ^ y.length := Nat.mul_le_mul_right _ (by omega)
    simp only [List.length_cons, Nat.add_sub_cancel]
    omega
/-- the reference's order of two words -/
def refWord (x y : Str) : Int :=
  if (x.all digitB && y.all digitB) = true then Lib.compareInt (decVal x) (decVal y) else if x.all digitB = true then -1 else if y.all digitB = true then 1 else Lib.compareBytes x y
theorem word_parts {x : Str} (h : earlyWordL x = true) : x ≠ [] ∧ x.length ≤ 10 ∧ numeralL x = x.all digitB ∧ (x.all digitB = true → 1 < x.length → x.headD 0 ≠ 48) := by
  rw [earlyWord_eq] at h
  simp only [Bool.not_eq_true', Bool.or_eq_false_iff, beq_eq_false_iff_ne, decide_eq_false_iff_not, Bool.not_eq_false', Bool.and_eq_false_iff] at h
  obtain ⟨⟨⟨h1, h2⟩, h3⟩, h4⟩ := h
  have h5 : 0 < x.length := List.length_pos_iff.2 h1
  refine ⟨h1, by omega, ?_, fun hd hl => ?_⟩
  · unfold numeralL eachL
    rw [decide_eq_true h5, decide_eq_true (by omega : x.length ≤ 10)]; simp
  · rcases h4 with (h4 | h4) | h4
    · rw [hd] at h4; cases h4
    · exact absurd hl h4
    · exact h4
theorem cmp_shorter {x y : Str} (hx : x.all digitB = true) (hy : y.all digitB = true) (h0 : 0 < x.length) (hl : x.length < y.length) (hh : y.headD 0 ≠ 48) : decVal x < decVal y := by
  have h1 := decVal_lt x hx
  have h2 := decVal_ge y hy (by omega) hh
  have h3 : (10 : Nat) ^ x.length ≤ 10 ^ (y.length - 1) := Nat.pow_le_pow_right (by decide) (by omega)
  omega
theorem word_same {x y : Str} (hx : earlyWordL x = true) (hy : earlyWordL y = true) : refWord x y = cmpWordL x y := by
  obtain ⟨x0, x1, x2, x3⟩ := word_parts hx
  obtain ⟨y0, y1, y2, y3⟩ := word_parts hy
  have hx0 : 0 < x.length := List.length_pos_iff.2 x0
  have hy0 : 0 < y.length := List.length_pos_iff.2 y0
  unfold refWord cmpWordL
  rw [x2, y2]
  by_cases h : (x.all digitB && y.all digitB) = true
  · rw [if_pos h, if_pos h]
    simp only [Bool.and_eq_true] at h
    by_cases hl : x.length = y.length
    · rw [if_pos hl, cmp_digits x y h.1 h.2 hl]
    · rw [if_neg hl]
      rcases Nat.lt_or_gt_of_ne hl with hlt | hgt
      · rw [compareInt_lt hlt, compareInt_lt (cmp_shorter h.1 h.2 hx0 hlt (y3 h.2 (by omega)))]
      · rw [compareInt_gt hgt, compareInt_gt (cmp_shorter h.2 h.1 hy0 hgt (x3 h.1 (by omega)))]
  · rw [if_neg h, if_neg h]
theorem cmpWord_self (x : Str) : cmpWordL x x = 0 := by
  unfold cmpWordL
  by_cases h : (numeralL x && numeralL x) = true
  · rw [if_pos h, if_pos rfl, compareBytes_self]
  · rw [if_neg h]
    have h1 : ¬ numeralL x = true := fun e => h (by rw [e]; rfl)
    rw [if_neg h1, if_neg h1, compareBytes_self]
theorem cmpWords_self : ∀ l : List Str, cmpWordsL cmpWordL l l = 0
  | [] => rfl
  | x :: l => by
    unfold cmpWordsL
    rw [if_pos (cmpWord_self x)]
    exact cmpWords_self l
/-- compareEarly where both are there -/
theorem cmpEarly_both {a b : Str} (ha : a ≠ []) (hb : b ≠ []) : cmpEarlyL a b = cmpWordsL cmpWordL (splitC 46 a) (splitC 46 b) := by
  unfold cmpEarlyL
  by_cases h : a = b
  · rw [if_pos h, h, cmpWords_self]
  · rw [if_neg h, if_neg ha, if_neg hb]
theorem cmpEarly_left {a b : Str} (ha : a = []) : cmpEarlyL a b = if b = [] then 0 else 1 := by
  subst ha
  cases b with
  | nil => rfl
  | cons x r => simp [cmpEarlyL]
theorem cmpEarly_right {a b : Str} (ha : a ≠ []) (hb : b = []) : cmpEarlyL a b = -1 := by
  unfold cmpEarlyL
  rw [if_neg (by rw [hb]; exact ha), if_neg ha, if_pos hb]
end Go.Proofs.YtaobnifiengglaaGreatDoor
