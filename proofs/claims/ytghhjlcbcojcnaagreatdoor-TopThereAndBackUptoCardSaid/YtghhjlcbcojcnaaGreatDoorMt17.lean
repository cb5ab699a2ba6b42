/- Contract of migrate.ParseRule. (Printed by gen/rulg.py.) -/
import Derived.Test.YtghhjlcbcojcnaaGreatDoorMt16

namespace Go.Proofs.YtghhjlcbcojcnaaGreatDoor
open Go.RowKit

theorem esc_ge (l : Str) : l.length ≤ (esc l).length := by rw [esc_len]; omega
theorem q_size (l : Str) : (qresR (quotedL l)).1.length ≤ l.length ∧ (qresR (quotedL l)).2.1.length ≤ l.length := by
  cases h : quotedL l with
  | none => exact ⟨Nat.zero_le _, Nat.zero_le _⟩
  | some x =>
    obtain ⟨t, z⟩ := x
    have e := quoted_back h
    have := esc_ge t
    rw [e]
    simp only [qresR, quoteL, List.length_append, List.length_cons, List.length_nil]
    omega
theorem quoted_ex (s : ByteArray) (w : World) (hs : s.size ≤ 2097152) :
    Calls Tryz.prog 86 #[.string s] w fun e w' => ∃ (t z : ByteArray) (ok : Bool), e = .returned (.tuple #[.string t, .string z, .bool ok]) ∧ qresR (quotedL (bs s)) = (bs t, bs z, ok) ∧ t.size ≤ s.size ∧ z.size ≤ s.size ∧ Ext w w' :=
  (quoted_any s w hs).mono fun _ _ ⟨h, k⟩ => by
    have hq := q_size (bs s)
    rw [bs_length] at hq
    exact ⟨_, _, _, h, by rw [bs_mk, bs_mk], by rw [← bs_length, bs_mk]; exact hq.1, by rw [← bs_length, bs_mk]; exact hq.2, k⟩
theorem Blk.far2 {w : World} {g g2 : Nat} {t : TypeId} {cs : Array Value} (h : Blk w g t cs) (hne : g ≠ g2) (o : Nat) (u : Value) : Blk (w.setCell ⟨g2, o, none⟩ u) g t cs := h.far hne u

set_option maxRecDepth 100000 in
set_option maxHeartbeats 16000000 in
theorem ParseRule_any (s : ByteArray) (w : World) (hg : Good w) (hs : s.size ≤ 2097152) :
    Calls Tryz.prog 18 #[.string s] w fun e w' => e = .returned (.tuple #[ruX (parseRu (bs s)).1, .int .i64 (parseRu (bs s)).2]) ∧ Ext w w' := by
  by_cases hbig : 4000 < s.size
  · have hp : parseRu (bs s) = (zeroR, 4) := by rw [parseRu, if_pos (by rw [bs_length]; exact hbig)]
    have hb2 : (4000 : Int) < s.size := by omega
    rw [hp]
    clear hp
    go_enter Tryz.func18, Tryz.ntmps18
    go_wp2
    exact bodyPost_ret (v := .tuple #[ruX zeroR, .int .i64 4]) (by simp [results, Tryz.results18, go_sem, zeroR]) rfl ⟨rfl, (by repeat (first | with_reducible exact Ext.refl _ | with_reducible assumption | with_reducible apply Ext.drewN | with_reducible apply Ext.drew | with_reducible apply Ext.alloc | ((with_reducible refine Ext.setCell ?_ ?_ _); rotate_left; (first | (dsimp only; omega) | (simp; omega) | skip)) | exact Ext.refl _ | assumption | apply Ext.drewN | apply Ext.drew | apply Ext.alloc | refine Ext.setCell ?_ (by first | (dsimp only; omega) | (simp; omega)) _))⟩
  have hb2 : ¬ (4000 : Int) < s.size := by omega
  have hpe := fun a b f key rest more => parse_end (s := bs s) (a := a) (b := b) (f := f) (key := key) (rest := rest) (more := more) (by rw [bs_length]; exact hbig)
  have HPE := Lib.hid hpe
  clear hpe hbig
  have bP0 := Blk.new w 23 #[.int .i64 0, .string ⟨#[]⟩, .string ⟨#[]⟩, .string ⟨#[]⟩, .string ⟨#[]⟩]
  go_enter Tryz.func18, Tryz.ntmps18
  go_wp2_with fail
  refine (cut_ex 32 s _ (hg.ext (by repeat (first | with_reducible exact Ext.refl _ | with_reducible assumption | with_reducible apply Ext.drewN | with_reducible apply Ext.drew | with_reducible apply Ext.alloc | exact Ext.refl _ | assumption | apply Ext.drewN | apply Ext.drew | apply Ext.alloc))) hs).mono ?_
  rintro e w1 ⟨a, b, f, rfl, hcut, hza, hzb, hx1⟩
  have bP1 := bP0.ext hx1
  have hxw1 : Ext w w1 := Ext.trans (by repeat (first | with_reducible exact Ext.refl _ | with_reducible assumption | with_reducible apply Ext.drewN | with_reducible apply Ext.drew | with_reducible apply Ext.alloc | exact Ext.refl _ | assumption | apply Ext.drewN | apply Ext.drew | apply Ext.alloc)) hx1
  have HCUT := Lib.hid hcut
  clear hx1 bP0 hcut
  go_wp2_with fail
  refine (ruleWords_any _).mono ?_
  rintro e w2 ⟨bw, rfl, hbw, hst, hx2⟩
  have bP2 := bP1.ext hx2
  have hxw2 := hxw1.trans hx2
  clear hx2 bP1 hbw
  go_wp2_with fail
  refine (index_words bw a _ hst).mono ?_
  rintro e w' ⟨rfl, rfl⟩
  clear hst
  have hne2 : w.heap.size ≠ w2.heap.size := by have := bP2.lt; omega
  by_cases hf : f = true ∧ ¬ ruKind (bs a) < 1
  rotate_left
  · have hn : parseRu (bs s) = (zeroR, 8) := by
      rw [HPE.out _ _ _ _ _ _ HCUT.out rfl, candB, if_pos]
      · rfl
      · cases f
        · rfl
        · have h1 : ruKind (bs a) < 1 := Classical.not_not.1 fun h => hf ⟨rfl, h⟩
          rw [decide_eq_true h1]; rfl
    have HN := Lib.hid hn
    clear hn
    have bP := bP2.alloc (.cells #[.int .i64 (ruKind (bs a)), .string ⟨#[]⟩, .string ⟨#[]⟩, .string ⟨#[]⟩, .string ⟨#[]⟩] 23)
    have cP := bP.cell; have fP := bP.free; have zP := bP.lt
    cases f
    · go_wp2
      exact bodyPost_ret (v := .tuple #[ruX zeroR, .int .i64 8]) (by simp [results, Tryz.results18, go_sem, cP, zeroR]) rfl ⟨by rw [HN.out], (by repeat (first | with_reducible exact Ext.refl _ | with_reducible assumption | with_reducible apply Ext.drewN | with_reducible apply Ext.drew | with_reducible apply Ext.alloc | ((with_reducible refine Ext.setCell ?_ ?_ _); rotate_left; (first | (dsimp only; omega) | (simp; omega) | skip)) | exact Ext.refl _ | assumption | apply Ext.drewN | apply Ext.drew | apply Ext.alloc | refine Ext.setCell ?_ (by first | (dsimp only; omega) | (simp; omega)) _))⟩
    · have h1 : ruKind (bs a) < 1 := Classical.not_not.1 fun h => hf ⟨rfl, h⟩
      clear hf
      go_wp2
      exact bodyPost_ret (v := .tuple #[ruX zeroR, .int .i64 8]) (by simp [results, Tryz.results18, go_sem, cP, zeroR]) rfl ⟨by rw [HN.out], (by repeat (first | with_reducible exact Ext.refl _ | with_reducible assumption | with_reducible apply Ext.drewN | with_reducible apply Ext.drew | with_reducible apply Ext.alloc | ((with_reducible refine Ext.setCell ?_ ?_ _); rotate_left; (first | (dsimp only; omega) | (simp; omega) | skip)) | exact Ext.refl _ | assumption | apply Ext.drewN | apply Ext.drew | apply Ext.alloc | refine Ext.setCell ?_ (by first | (dsimp only; omega) | (simp; omega)) _))⟩
  obtain ⟨rfl, hk⟩ := hf
  obtain ⟨k1, k8, _⟩ := ruKind_back hk
  have hcls := kind_class k1 k8
  have hu := uses_any (ruKind (bs a))
  have hpe2 := fun key rest more h => HPE.out _ _ _ key rest more HCUT.out h
  have HPE2 := Lib.hid hpe2
  have HU := Lib.hid hu
  clear hpe2 hu HPE HCUT
  generalize ruKind (bs a) = k at *
  generalize useTo k = T at *
  generalize useOld k = O at *
  generalize useNew k = N at *
  go_wp2_with fail
  refine (HU.out _).mono ?_
  rintro e w' ⟨rfl, rfl⟩
  have bR2 := Blk.new w2 23 #[.int .i64 k, .string ⟨#[]⟩, .string ⟨#[]⟩, .string ⟨#[]⟩, .string ⟨#[]⟩]
  go_wp2_with fail
  refine (cut_ex 32 b _ (hg.ext (hxw2.trans (by repeat (first | with_reducible exact Ext.refl _ | with_reducible assumption | with_reducible apply Ext.drewN | with_reducible apply Ext.drew | with_reducible apply Ext.alloc | exact Ext.refl _ | assumption | apply Ext.drewN | apply Ext.drew | apply Ext.alloc)))) (by omega)).mono ?_
  rintro e w3 ⟨key, rest, more, rfl, hcut2, hzk, hzr, hx3⟩
  have HEQ := Lib.hid (HPE2.out _ _ _ hcut2)
  have bP3 := (bP2.alloc _).ext hx3
  have bR3 := bR2.ext hx3
  have hxw3 : Ext w w3 := hxw2.trans (Ext.trans (by repeat (first | with_reducible exact Ext.refl _ | with_reducible assumption | with_reducible apply Ext.drewN | with_reducible apply Ext.drew | with_reducible apply Ext.alloc | exact Ext.refl _ | assumption | apply Ext.drewN | apply Ext.drew | apply Ext.alloc)) hx3)
  have hkd : decide (k < 1) = false := decide_eq_false (by omega)
  clear hx3 bP2 bR2 HPE2 hcut2
  have hgw : w.heap.size ≤ w2.heap.size := hxw2.size
  have b3c := bR3.cell; have b3f := bR3.free; have b3z := bR3.lt
  have bP := bP3.far2 hne2 1 (.string key)
  have bR := bR3.set 1 (.string key)
  have hxw : Ext w (w3.setCell ⟨w2.heap.size, 1, none⟩ (.string key)) := hxw3.setCell hgw _
  clear bP3 bR3 hxw3
  rcases hcls with ⟨rfl, rfl, rfl⟩ | ⟨rfl, rfl, rfl⟩ | ⟨rfl, rfl, rfl⟩ | ⟨rfl, rfl, rfl⟩
  · skip
    have bRc := bR.cell; have bRf := bR.free; have bRz := bR.lt
    rcases Nat.eq_zero_or_pos key.size with hkz | hkz
    · have hke := emp_bool hkz
      have hkl : (bs key).isEmpty = true := by rw [bs_nil hkz]; rfl
      have hn : parseRu (bs s) = (zeroR, 8) := by rw [HEQ.out]; unfold candB; simp only [hkd, hkl, Bool.not_true]; try rfl
      have HN := Lib.hid hn
      clear hn
      have cP := bP.cell; have fP := bP.free; have zP := bP.lt
      go_wp2
      exact bodyPost_ret (v := .tuple #[ruX zeroR, .int .i64 8]) (by simp [results, Tryz.results18, go_sem, cP, zeroR]) rfl ⟨by rw [HN.out], (by repeat (first | with_reducible exact Ext.refl _ | with_reducible assumption | with_reducible apply Ext.drewN | with_reducible apply Ext.drew | with_reducible apply Ext.alloc | ((with_reducible refine Ext.setCell ?_ ?_ _); rotate_left; (first | (dsimp only; omega) | (simp; omega) | skip)) | exact Ext.refl _ | assumption | apply Ext.drewN | apply Ext.drew | apply Ext.alloc | refine Ext.setCell ?_ (by first | (dsimp only; omega) | (simp; omega)) _))⟩
    have hke := nemp_bool hkz
    have hkl : (bs key).isEmpty = false := by rw [← isE]; exact hke
    cases more
    · skip
      have hn : parseRu (bs s) = (zeroR, 8) := by rw [HEQ.out]; unfold candB; simp only [hkd, hkl, Bool.not_true]; try rfl
      have HN := Lib.hid hn
      clear hn
      have cP := bP.cell; have fP := bP.free; have zP := bP.lt
      go_wp2
      exact bodyPost_ret (v := .tuple #[ruX zeroR, .int .i64 8]) (by simp [results, Tryz.results18, go_sem, cP, zeroR]) rfl ⟨by rw [HN.out], (by repeat (first | with_reducible exact Ext.refl _ | with_reducible assumption | with_reducible apply Ext.drewN | with_reducible apply Ext.drew | with_reducible apply Ext.alloc | ((with_reducible refine Ext.setCell ?_ ?_ _); rotate_left; (first | (dsimp only; omega) | (simp; omega) | skip)) | exact Ext.refl _ | assumption | apply Ext.drewN | apply Ext.drew | apply Ext.alloc | refine Ext.setCell ?_ (by first | (dsimp only; omega) | (simp; omega)) _))⟩
    replace bP := bP.far2 hne2 2 (.string rest)
    replace bR := bR.set 2 (.string rest)
    replace hxw := hxw.setCell (p := ⟨w2.heap.size, 2, none⟩) hgw (.string rest)
    rcases Nat.eq_zero_or_pos rest.size with hrz | hrz
    · have hre := emp_bool hrz
      have hrl : (bs rest).isEmpty = true := by rw [bs_nil hrz]; rfl
      have hn : parseRu (bs s) = (zeroR, 8) := by rw [HEQ.out]; unfold candB; simp only [hkd, hkl, hrl, Bool.not_true]; try rfl
      have HN := Lib.hid hn
      clear hn
      have cP := bP.cell; have fP := bP.free; have zP := bP.lt
      go_wp2
      exact bodyPost_ret (v := .tuple #[ruX zeroR, .int .i64 8]) (by simp [results, Tryz.results18, go_sem, cP, zeroR]) rfl ⟨by rw [HN.out], (by repeat (first | with_reducible exact Ext.refl _ | with_reducible assumption | with_reducible apply Ext.drewN | with_reducible apply Ext.drew | with_reducible apply Ext.alloc | ((with_reducible refine Ext.setCell ?_ ?_ _); rotate_left; (first | (dsimp only; omega) | (simp; omega) | skip)) | exact Ext.refl _ | assumption | apply Ext.drewN | apply Ext.drew | apply Ext.alloc | refine Ext.setCell ?_ (by first | (dsimp only; omega) | (simp; omega)) _))⟩
    have hre := nemp_bool hrz
    have hrl : (bs rest).isEmpty = false := by rw [← isE]; exact hre
    go_wp2_with fail
    refine (contains_any 32 rest _ (hg.ext hxw) (by omega)).mono ?_
    rintro e w' ⟨rfl, rfl⟩
    cases hc : (bs rest).contains 32
    rotate_left
    · skip
      have hn : parseRu (bs s) = (zeroR, 8) := by rw [HEQ.out]; unfold candB; simp only [hkd, hkl, hrl, hc, Bool.not_true]; try rfl
      have HN := Lib.hid hn
      clear hn
      have cP := bP.cell; have fP := bP.free; have zP := bP.lt
      go_wp2
      exact bodyPost_ret (v := .tuple #[ruX zeroR, .int .i64 8]) (by simp [results, Tryz.results18, go_sem, cP, zeroR]) rfl ⟨by rw [HN.out], (by repeat (first | with_reducible exact Ext.refl _ | with_reducible assumption | with_reducible apply Ext.drewN | with_reducible apply Ext.drew | with_reducible apply Ext.alloc | ((with_reducible refine Ext.setCell ?_ ?_ _); rotate_left; (first | (dsimp only; omega) | (simp; omega) | skip)) | exact Ext.refl _ | assumption | apply Ext.drewN | apply Ext.drew | apply Ext.alloc | refine Ext.setCell ?_ (by first | (dsimp only; omega) | (simp; omega)) _))⟩
    have hsome : parseRu (bs s) = endRu (some (⟨k, bs key, bs rest, [], []⟩ : Ru)) := by rw [HEQ.out]; unfold candB; simp only [hkd, hkl, hrl, hc]; try rfl
    have HS := Lib.hid hsome
    clear hsome
    have cR := bR.cell; have fR := bR.free; have zR := bR.lt
    have hck := fun W (h : Ext w W) => CheckRule_any ⟨k, key, rest, ⟨#[]⟩, ⟨#[]⟩⟩ W (hg.ext h) ⟨(show key.size ≤ 2097152 by omega), (show rest.size ≤ 2097152 by omega), (show (⟨#[]⟩ : ByteArray).size ≤ 2097152 by decide), (show (⟨#[]⟩ : ByteArray).size ≤ 2097152 by decide)⟩
    have hrl : RB.l ⟨k, key, rest, ⟨#[]⟩, ⟨#[]⟩⟩ = (⟨k, bs key, bs rest, [], []⟩ : Ru) := rfl
    rw [hrl] at hck
    generalize hQ : (⟨k, bs key, bs rest, [], []⟩ : Ru) = Q at *
    have hQv : ruX Q = ruV ⟨k, key, rest, ⟨#[]⟩, ⟨#[]⟩⟩ := by rw [← hQ]
    clear hQ hrl
    go_wp2_with fail
    refine (hck _ hxw).mono ?_
    rintro e wz ⟨rfl, hxz⟩
    replace bP := bP.ext hxz
    replace bR := bR.ext hxz
    replace hxw := hxw.trans hxz
    clear hck cR fR zR hxz
    by_cases h0 : ruErr Q = 0
    · have hres : parseRu (bs s) = (Q, 0) := by rw [HS.out, endRu, if_neg (by rw [h0]; decide)]
      have HRES := Lib.hid hres
      rw [h0]
      clear hres h0
      have cR := bR.cell
      have cP := bP.cell; have fP := bP.free; have zP := bP.lt
      go_wp2
      exact bodyPost_ret (v := .tuple #[ruV ⟨k, key, rest, ⟨#[]⟩, ⟨#[]⟩⟩, .int .i64 0]) (by simp [results, Tryz.results18, go_sem, cP]) rfl ⟨by rw [HRES.out]; dsimp only; rw [hQv], (by repeat (first | with_reducible exact Ext.refl _ | with_reducible assumption | with_reducible apply Ext.drewN | with_reducible apply Ext.drew | with_reducible apply Ext.alloc | ((with_reducible refine Ext.setCell ?_ ?_ _); rotate_left; (first | (dsimp only; omega) | (simp; omega) | skip)) | exact Ext.refl _ | assumption | apply Ext.drewN | apply Ext.drew | apply Ext.alloc | refine Ext.setCell ?_ (by first | (dsimp only; omega) | (simp; omega)) _))⟩
    · have hres : parseRu (bs s) = (zeroR, ruErr Q) := by rw [HS.out, endRu, if_pos h0]
      have HRES := Lib.hid hres
      have hb : (ruErr Q != 0) = true := by rw [bne_iff_ne]; exact h0
      clear hres h0
      have cP := bP.cell; have fP := bP.free; have zP := bP.lt
      go_wp2
      exact bodyPost_ret (v := .tuple #[ruX zeroR, .int .i64 (ruErr Q)]) (by simp [results, Tryz.results18, go_sem, cP, zeroR]) rfl ⟨by rw [HRES.out], (by repeat (first | with_reducible exact Ext.refl _ | with_reducible assumption | with_reducible apply Ext.drewN | with_reducible apply Ext.drew | with_reducible apply Ext.alloc | ((with_reducible refine Ext.setCell ?_ ?_ _); rotate_left; (first | (dsimp only; omega) | (simp; omega) | skip)) | exact Ext.refl _ | assumption | apply Ext.drewN | apply Ext.drew | apply Ext.alloc | refine Ext.setCell ?_ (by first | (dsimp only; omega) | (simp; omega)) _))⟩
  · skip
    have bRc := bR.cell; have bRf := bR.free; have bRz := bR.lt
    rcases Nat.eq_zero_or_pos key.size with hkz | hkz
    · have hke := emp_bool hkz
      have hkl : (bs key).isEmpty = true := by rw [bs_nil hkz]; rfl
      have hn : parseRu (bs s) = (zeroR, 8) := by rw [HEQ.out]; unfold candB; simp only [hkd, hkl, Bool.not_true]; try rfl
      have HN := Lib.hid hn
      clear hn
      have cP := bP.cell; have fP := bP.free; have zP := bP.lt
      go_wp2
      exact bodyPost_ret (v := .tuple #[ruX zeroR, .int .i64 8]) (by simp [results, Tryz.results18, go_sem, cP, zeroR]) rfl ⟨by rw [HN.out], (by repeat (first | with_reducible exact Ext.refl _ | with_reducible assumption | with_reducible apply Ext.drewN | with_reducible apply Ext.drew | with_reducible apply Ext.alloc | ((with_reducible refine Ext.setCell ?_ ?_ _); rotate_left; (first | (dsimp only; omega) | (simp; omega) | skip)) | exact Ext.refl _ | assumption | apply Ext.drewN | apply Ext.drew | apply Ext.alloc | refine Ext.setCell ?_ (by first | (dsimp only; omega) | (simp; omega)) _))⟩
    have hke := nemp_bool hkz
    have hkl : (bs key).isEmpty = false := by rw [← isE]; exact hke
    cases more
    · skip
      have hn : parseRu (bs s) = (zeroR, 8) := by rw [HEQ.out]; unfold candB; simp only [hkd, hkl, Bool.not_true]; try rfl
      have HN := Lib.hid hn
      clear hn
      have cP := bP.cell; have fP := bP.free; have zP := bP.lt
      go_wp2
      exact bodyPost_ret (v := .tuple #[ruX zeroR, .int .i64 8]) (by simp [results, Tryz.results18, go_sem, cP, zeroR]) rfl ⟨by rw [HN.out], (by repeat (first | with_reducible exact Ext.refl _ | with_reducible assumption | with_reducible apply Ext.drewN | with_reducible apply Ext.drew | with_reducible apply Ext.alloc | ((with_reducible refine Ext.setCell ?_ ?_ _); rotate_left; (first | (dsimp only; omega) | (simp; omega) | skip)) | exact Ext.refl _ | assumption | apply Ext.drewN | apply Ext.drew | apply Ext.alloc | refine Ext.setCell ?_ (by first | (dsimp only; omega) | (simp; omega)) _))⟩
    go_wp2_with fail
    refine (quoted_ex rest _ (by omega)).mono ?_
    rintro e w5 ⟨t, z, ok, rfl, hq, htz, hzz, hx5⟩
    replace bP := bP.ext hx5
    replace bR := bR.ext hx5
    replace hxw := hxw.trans hx5
    clear hx5
    clear bRc bRf bRz
    have bRc := bR.cell; have bRf := bR.free; have bRz := bR.lt
    replace bP := bP.far2 hne2 4 (.string t)
    replace bR := bR.set 4 (.string t)
    replace hxw := hxw.setCell (p := ⟨w2.heap.size, 4, none⟩) hgw (.string t)
    cases ok
    · skip
      have hn : parseRu (bs s) = (zeroR, 8) := by rw [HEQ.out]; unfold candB; simp only [hkd, candN, hkl, hq, Bool.not_true]; try rfl
      have HN := Lib.hid hn
      clear hn
      have cP := bP.cell; have fP := bP.free; have zP := bP.lt
      go_wp2
      exact bodyPost_ret (v := .tuple #[ruX zeroR, .int .i64 8]) (by simp [results, Tryz.results18, go_sem, cP, zeroR]) rfl ⟨by rw [HN.out], (by repeat (first | with_reducible exact Ext.refl _ | with_reducible assumption | with_reducible apply Ext.drewN | with_reducible apply Ext.drew | with_reducible apply Ext.alloc | ((with_reducible refine Ext.setCell ?_ ?_ _); rotate_left; (first | (dsimp only; omega) | (simp; omega) | skip)) | exact Ext.refl _ | assumption | apply Ext.drewN | apply Ext.drew | apply Ext.alloc | refine Ext.setCell ?_ (by first | (dsimp only; omega) | (simp; omega)) _))⟩
    rcases Nat.eq_zero_or_pos z.size with hzz2 | hzz2
    rotate_left
    · have hze := nemp_bool hzz2
      have hzl : (bs z).isEmpty = false := by rw [← isE]; exact hze
      have hn : parseRu (bs s) = (zeroR, 8) := by rw [HEQ.out]; unfold candB; simp only [hkd, candN, hkl, hq, hzl, Bool.not_true]; try rfl
      have HN := Lib.hid hn
      clear hn
      have cP := bP.cell; have fP := bP.free; have zP := bP.lt
      go_wp2
      exact bodyPost_ret (v := .tuple #[ruX zeroR, .int .i64 8]) (by simp [results, Tryz.results18, go_sem, cP, zeroR]) rfl ⟨by rw [HN.out], (by repeat (first | with_reducible exact Ext.refl _ | with_reducible assumption | with_reducible apply Ext.drewN | with_reducible apply Ext.drew | with_reducible apply Ext.alloc | ((with_reducible refine Ext.setCell ?_ ?_ _); rotate_left; (first | (dsimp only; omega) | (simp; omega) | skip)) | exact Ext.refl _ | assumption | apply Ext.drewN | apply Ext.drew | apply Ext.alloc | refine Ext.setCell ?_ (by first | (dsimp only; omega) | (simp; omega)) _))⟩
    have hze := emp_bool hzz2
    have hzl : (bs z).isEmpty = true := by rw [bs_nil hzz2]; rfl
    have hsome : parseRu (bs s) = endRu (some (⟨k, bs key, [], [], bs t⟩ : Ru)) := by rw [HEQ.out]; unfold candB; simp only [hkd, candN, hkl, hq, hzl]; try rfl
    have HS := Lib.hid hsome
    clear hsome
    have cR := bR.cell; have fR := bR.free; have zR := bR.lt
    have hck := fun W (h : Ext w W) => CheckRule_any ⟨k, key, ⟨#[]⟩, ⟨#[]⟩, t⟩ W (hg.ext h) ⟨(show key.size ≤ 2097152 by omega), (show (⟨#[]⟩ : ByteArray).size ≤ 2097152 by decide), (show (⟨#[]⟩ : ByteArray).size ≤ 2097152 by decide), (show t.size ≤ 2097152 by omega)⟩
    have hrl : RB.l ⟨k, key, ⟨#[]⟩, ⟨#[]⟩, t⟩ = (⟨k, bs key, [], [], bs t⟩ : Ru) := rfl
    rw [hrl] at hck
    generalize hQ : (⟨k, bs key, [], [], bs t⟩ : Ru) = Q at *
    have hQv : ruX Q = ruV ⟨k, key, ⟨#[]⟩, ⟨#[]⟩, t⟩ := by rw [← hQ]
    clear hQ hrl
    go_wp2_with fail
    refine (hck _ hxw).mono ?_
    rintro e wz ⟨rfl, hxz⟩
    replace bP := bP.ext hxz
    replace bR := bR.ext hxz
    replace hxw := hxw.trans hxz
    clear hck cR fR zR hxz
    by_cases h0 : ruErr Q = 0
    · have hres : parseRu (bs s) = (Q, 0) := by rw [HS.out, endRu, if_neg (by rw [h0]; decide)]
      have HRES := Lib.hid hres
      rw [h0]
      clear hres h0
      have cR := bR.cell
      have cP := bP.cell; have fP := bP.free; have zP := bP.lt
      go_wp2
      exact bodyPost_ret (v := .tuple #[ruV ⟨k, key, ⟨#[]⟩, ⟨#[]⟩, t⟩, .int .i64 0]) (by simp [results, Tryz.results18, go_sem, cP]) rfl ⟨by rw [HRES.out]; dsimp only; rw [hQv], (by repeat (first | with_reducible exact Ext.refl _ | with_reducible assumption | with_reducible apply Ext.drewN | with_reducible apply Ext.drew | with_reducible apply Ext.alloc | ((with_reducible refine Ext.setCell ?_ ?_ _); rotate_left; (first | (dsimp only; omega) | (simp; omega) | skip)) | exact Ext.refl _ | assumption | apply Ext.drewN | apply Ext.drew | apply Ext.alloc | refine Ext.setCell ?_ (by first | (dsimp only; omega) | (simp; omega)) _))⟩
    · have hres : parseRu (bs s) = (zeroR, ruErr Q) := by rw [HS.out, endRu, if_pos h0]
      have HRES := Lib.hid hres
      have hb : (ruErr Q != 0) = true := by rw [bne_iff_ne]; exact h0
      clear hres h0
      have cP := bP.cell; have fP := bP.free; have zP := bP.lt
      go_wp2
      exact bodyPost_ret (v := .tuple #[ruX zeroR, .int .i64 (ruErr Q)]) (by simp [results, Tryz.results18, go_sem, cP, zeroR]) rfl ⟨by rw [HRES.out], (by repeat (first | with_reducible exact Ext.refl _ | with_reducible assumption | with_reducible apply Ext.drewN | with_reducible apply Ext.drew | with_reducible apply Ext.alloc | ((with_reducible refine Ext.setCell ?_ ?_ _); rotate_left; (first | (dsimp only; omega) | (simp; omega) | skip)) | exact Ext.refl _ | assumption | apply Ext.drewN | apply Ext.drew | apply Ext.alloc | refine Ext.setCell ?_ (by first | (dsimp only; omega) | (simp; omega)) _))⟩
  · skip
    have bRc := bR.cell; have bRf := bR.free; have bRz := bR.lt
    rcases Nat.eq_zero_or_pos key.size with hkz | hkz
    · have hke := emp_bool hkz
      have hkl : (bs key).isEmpty = true := by rw [bs_nil hkz]; rfl
      have hn : parseRu (bs s) = (zeroR, 8) := by rw [HEQ.out]; unfold candB; simp only [hkd, hkl, Bool.not_true]; try rfl
      have HN := Lib.hid hn
      clear hn
      have cP := bP.cell; have fP := bP.free; have zP := bP.lt
      go_wp2
      exact bodyPost_ret (v := .tuple #[ruX zeroR, .int .i64 8]) (by simp [results, Tryz.results18, go_sem, cP, zeroR]) rfl ⟨by rw [HN.out], (by repeat (first | with_reducible exact Ext.refl _ | with_reducible assumption | with_reducible apply Ext.drewN | with_reducible apply Ext.drew | with_reducible apply Ext.alloc | ((with_reducible refine Ext.setCell ?_ ?_ _); rotate_left; (first | (dsimp only; omega) | (simp; omega) | skip)) | exact Ext.refl _ | assumption | apply Ext.drewN | apply Ext.drew | apply Ext.alloc | refine Ext.setCell ?_ (by first | (dsimp only; omega) | (simp; omega)) _))⟩
    have hke := nemp_bool hkz
    have hkl : (bs key).isEmpty = false := by rw [← isE]; exact hke
    cases more
    rotate_left
    · skip
      have hn : parseRu (bs s) = (zeroR, 8) := by rw [HEQ.out]; unfold candB; simp only [hkd, hkl, Bool.not_true]; try rfl
      have HN := Lib.hid hn
      clear hn
      have cP := bP.cell; have fP := bP.free; have zP := bP.lt
      go_wp2
      exact bodyPost_ret (v := .tuple #[ruX zeroR, .int .i64 8]) (by simp [results, Tryz.results18, go_sem, cP, zeroR]) rfl ⟨by rw [HN.out], (by repeat (first | with_reducible exact Ext.refl _ | with_reducible assumption | with_reducible apply Ext.drewN | with_reducible apply Ext.drew | with_reducible apply Ext.alloc | ((with_reducible refine Ext.setCell ?_ ?_ _); rotate_left; (first | (dsimp only; omega) | (simp; omega) | skip)) | exact Ext.refl _ | assumption | apply Ext.drewN | apply Ext.drew | apply Ext.alloc | refine Ext.setCell ?_ (by first | (dsimp only; omega) | (simp; omega)) _))⟩
    rcases Nat.eq_zero_or_pos rest.size with hrz | hrz
    rotate_left
    · have hre := nemp_bool hrz
      have hrl : (bs rest).isEmpty = false := by rw [← isE]; exact hre
      have hn : parseRu (bs s) = (zeroR, 8) := by rw [HEQ.out]; unfold candB; simp only [hkd, hkl, hrl, Bool.not_true]; try rfl
      have HN := Lib.hid hn
      clear hn
      have cP := bP.cell; have fP := bP.free; have zP := bP.lt
      go_wp2
      exact bodyPost_ret (v := .tuple #[ruX zeroR, .int .i64 8]) (by simp [results, Tryz.results18, go_sem, cP, zeroR]) rfl ⟨by rw [HN.out], (by repeat (first | with_reducible exact Ext.refl _ | with_reducible assumption | with_reducible apply Ext.drewN | with_reducible apply Ext.drew | with_reducible apply Ext.alloc | ((with_reducible refine Ext.setCell ?_ ?_ _); rotate_left; (first | (dsimp only; omega) | (simp; omega) | skip)) | exact Ext.refl _ | assumption | apply Ext.drewN | apply Ext.drew | apply Ext.alloc | refine Ext.setCell ?_ (by first | (dsimp only; omega) | (simp; omega)) _))⟩
    have hre := emp_bool hrz
    have hrl : (bs rest).isEmpty = true := by rw [bs_nil hrz]; rfl
    have hsome : parseRu (bs s) = endRu (some (⟨k, bs key, [], [], []⟩ : Ru)) := by rw [HEQ.out]; unfold candB; simp only [hkd, hkl, hrl]; try rfl
    have HS := Lib.hid hsome
    clear hsome
    have cR := bR.cell; have fR := bR.free; have zR := bR.lt
    have hck := fun W (h : Ext w W) => CheckRule_any ⟨k, key, ⟨#[]⟩, ⟨#[]⟩, ⟨#[]⟩⟩ W (hg.ext h) ⟨(show key.size ≤ 2097152 by omega), (show (⟨#[]⟩ : ByteArray).size ≤ 2097152 by decide), (show (⟨#[]⟩ : ByteArray).size ≤ 2097152 by decide), (show (⟨#[]⟩ : ByteArray).size ≤ 2097152 by decide)⟩
    have hrl : RB.l ⟨k, key, ⟨#[]⟩, ⟨#[]⟩, ⟨#[]⟩⟩ = (⟨k, bs key, [], [], []⟩ : Ru) := rfl
    rw [hrl] at hck
    generalize hQ : (⟨k, bs key, [], [], []⟩ : Ru) = Q at *
    have hQv : ruX Q = ruV ⟨k, key, ⟨#[]⟩, ⟨#[]⟩, ⟨#[]⟩⟩ := by rw [← hQ]
    clear hQ hrl
    go_wp2_with fail
    refine (hck _ hxw).mono ?_
    rintro e wz ⟨rfl, hxz⟩
    replace bP := bP.ext hxz
    replace bR := bR.ext hxz
    replace hxw := hxw.trans hxz
    clear hck cR fR zR hxz
    by_cases h0 : ruErr Q = 0
    · have hres : parseRu (bs s) = (Q, 0) := by rw [HS.out, endRu, if_neg (by rw [h0]; decide)]
      have HRES := Lib.hid hres
      rw [h0]
      clear hres h0
      have cR := bR.cell
      have cP := bP.cell; have fP := bP.free; have zP := bP.lt
      go_wp2
      exact bodyPost_ret (v := .tuple #[ruV ⟨k, key, ⟨#[]⟩, ⟨#[]⟩, ⟨#[]⟩⟩, .int .i64 0]) (by simp [results, Tryz.results18, go_sem, cP]) rfl ⟨by rw [HRES.out]; dsimp only; rw [hQv], (by repeat (first | with_reducible exact Ext.refl _ | with_reducible assumption | with_reducible apply Ext.drewN | with_reducible apply Ext.drew | with_reducible apply Ext.alloc | ((with_reducible refine Ext.setCell ?_ ?_ _); rotate_left; (first | (dsimp only; omega) | (simp; omega) | skip)) | exact Ext.refl _ | assumption | apply Ext.drewN | apply Ext.drew | apply Ext.alloc | refine Ext.setCell ?_ (by first | (dsimp only; omega) | (simp; omega)) _))⟩
    · have hres : parseRu (bs s) = (zeroR, ruErr Q) := by rw [HS.out, endRu, if_pos h0]
      have HRES := Lib.hid hres
      have hb : (ruErr Q != 0) = true := by rw [bne_iff_ne]; exact h0
      clear hres h0
      have cP := bP.cell; have fP := bP.free; have zP := bP.lt
      go_wp2
      exact bodyPost_ret (v := .tuple #[ruX zeroR, .int .i64 (ruErr Q)]) (by simp [results, Tryz.results18, go_sem, cP, zeroR]) rfl ⟨by rw [HRES.out], (by repeat (first | with_reducible exact Ext.refl _ | with_reducible assumption | with_reducible apply Ext.drewN | with_reducible apply Ext.drew | with_reducible apply Ext.alloc | ((with_reducible refine Ext.setCell ?_ ?_ _); rotate_left; (first | (dsimp only; omega) | (simp; omega) | skip)) | exact Ext.refl _ | assumption | apply Ext.drewN | apply Ext.drew | apply Ext.alloc | refine Ext.setCell ?_ (by first | (dsimp only; omega) | (simp; omega)) _))⟩
  · skip
    have bRc := bR.cell; have bRf := bR.free; have bRz := bR.lt
    rcases Nat.eq_zero_or_pos key.size with hkz | hkz
    · have hke := emp_bool hkz
      have hkl : (bs key).isEmpty = true := by rw [bs_nil hkz]; rfl
      have hn : parseRu (bs s) = (zeroR, 8) := by rw [HEQ.out]; unfold candB; simp only [hkd, hkl, Bool.not_true]; try rfl
      have HN := Lib.hid hn
      clear hn
      have cP := bP.cell; have fP := bP.free; have zP := bP.lt
      go_wp2
      exact bodyPost_ret (v := .tuple #[ruX zeroR, .int .i64 8]) (by simp [results, Tryz.results18, go_sem, cP, zeroR]) rfl ⟨by rw [HN.out], (by repeat (first | with_reducible exact Ext.refl _ | with_reducible assumption | with_reducible apply Ext.drewN | with_reducible apply Ext.drew | with_reducible apply Ext.alloc | ((with_reducible refine Ext.setCell ?_ ?_ _); rotate_left; (first | (dsimp only; omega) | (simp; omega) | skip)) | exact Ext.refl _ | assumption | apply Ext.drewN | apply Ext.drew | apply Ext.alloc | refine Ext.setCell ?_ (by first | (dsimp only; omega) | (simp; omega)) _))⟩
    have hke := nemp_bool hkz
    have hkl : (bs key).isEmpty = false := by rw [← isE]; exact hke
    cases more
    · skip
      have hn : parseRu (bs s) = (zeroR, 8) := by rw [HEQ.out]; unfold candB; simp only [hkd, hkl, Bool.not_true]; try rfl
      have HN := Lib.hid hn
      clear hn
      have cP := bP.cell; have fP := bP.free; have zP := bP.lt
      go_wp2
      exact bodyPost_ret (v := .tuple #[ruX zeroR, .int .i64 8]) (by simp [results, Tryz.results18, go_sem, cP, zeroR]) rfl ⟨by rw [HN.out], (by repeat (first | with_reducible exact Ext.refl _ | with_reducible assumption | with_reducible apply Ext.drewN | with_reducible apply Ext.drew | with_reducible apply Ext.alloc | ((with_reducible refine Ext.setCell ?_ ?_ _); rotate_left; (first | (dsimp only; omega) | (simp; omega) | skip)) | exact Ext.refl _ | assumption | apply Ext.drewN | apply Ext.drew | apply Ext.alloc | refine Ext.setCell ?_ (by first | (dsimp only; omega) | (simp; omega)) _))⟩
    go_wp2_with fail
    refine (quoted_ex rest _ (by omega)).mono ?_
    rintro e w5 ⟨t, z, ok, rfl, hq, htz, hzz, hx5⟩
    replace bP := bP.ext hx5
    replace bR := bR.ext hx5
    replace hxw := hxw.trans hx5
    clear hx5
    clear bRc bRf bRz
    have bRc := bR.cell; have bRf := bR.free; have bRz := bR.lt
    replace bP := bP.far2 hne2 3 (.string t)
    replace bR := bR.set 3 (.string t)
    replace hxw := hxw.setCell (p := ⟨w2.heap.size, 3, none⟩) hgw (.string t)
    cases ok
    · skip
      have hn : parseRu (bs s) = (zeroR, 8) := by rw [HEQ.out]; unfold candB; simp only [hkd, candO, hkl, hq, Bool.not_true]; try rfl
      have HN := Lib.hid hn
      clear hn
      have cP := bP.cell; have fP := bP.free; have zP := bP.lt
      go_wp2
      exact bodyPost_ret (v := .tuple #[ruX zeroR, .int .i64 8]) (by simp [results, Tryz.results18, go_sem, cP, zeroR]) rfl ⟨by rw [HN.out], (by repeat (first | with_reducible exact Ext.refl _ | with_reducible assumption | with_reducible apply Ext.drewN | with_reducible apply Ext.drew | with_reducible apply Ext.alloc | ((with_reducible refine Ext.setCell ?_ ?_ _); rotate_left; (first | (dsimp only; omega) | (simp; omega) | skip)) | exact Ext.refl _ | assumption | apply Ext.drewN | apply Ext.drew | apply Ext.alloc | refine Ext.setCell ?_ (by first | (dsimp only; omega) | (simp; omega)) _))⟩
    go_wp2_with fail
    refine (hasPrefix_any z ⟨#[32]⟩ _).mono ?_
    rintro e w' ⟨rfl, rfl⟩
    have hb32 : bs (⟨#[32]⟩ : ByteArray) = [32] := rfl
    rw [hb32]
    cases hpf : ([32] : Str).isPrefixOf (bs z)
    · skip
      have hn : parseRu (bs s) = (zeroR, 8) := by rw [HEQ.out]; unfold candB; simp only [hkd, candO, hkl, hq, hpf, Bool.not_true]; try rfl
      have HN := Lib.hid hn
      clear hn
      have cP := bP.cell; have fP := bP.free; have zP := bP.lt
      go_wp2
      exact bodyPost_ret (v := .tuple #[ruX zeroR, .int .i64 8]) (by simp [results, Tryz.results18, go_sem, cP, zeroR]) rfl ⟨by rw [HN.out], (by repeat (first | with_reducible exact Ext.refl _ | with_reducible assumption | with_reducible apply Ext.drewN | with_reducible apply Ext.drew | with_reducible apply Ext.alloc | ((with_reducible refine Ext.setCell ?_ ?_ _); rotate_left; (first | (dsimp only; omega) | (simp; omega) | skip)) | exact Ext.refl _ | assumption | apply Ext.drewN | apply Ext.drew | apply Ext.alloc | refine Ext.setCell ?_ (by first | (dsimp only; omega) | (simp; omega)) _))⟩
    have hz1 : 1 ≤ z.size := by
      have := (List.isPrefixOf_iff_prefix.1 hpf).length_le
      rw [bs_length] at this
      exact this
    have hzx : bs (z.extract 1 z.size) = (bs z).drop 1 := Lib.extract_to_end z 1
    have hzs : (z.extract 1 z.size).size ≤ z.size := by simp
    clear bRc bRf bRz
    have bRc := bR.cell; have bRf := bR.free; have bRz := bR.lt
    go_wp2_with fail
    refine (quoted_ex (z.extract 1 z.size) _ (by omega)).mono ?_
    rw [hzx]
    rintro e w6 ⟨t2, z2, ok2, rfl, hq2, htz2, hzz2, hx6⟩
    replace bP := bP.ext hx6
    replace bR := bR.ext hx6
    replace hxw := hxw.trans hx6
    clear hx6
    clear bRc bRf bRz
    have bRc := bR.cell; have bRf := bR.free; have bRz := bR.lt
    replace bP := bP.far2 hne2 4 (.string t2)
    replace bR := bR.set 4 (.string t2)
    replace hxw := hxw.setCell (p := ⟨w2.heap.size, 4, none⟩) hgw (.string t2)
    cases ok2
    · skip
      have hn : parseRu (bs s) = (zeroR, 8) := by rw [HEQ.out]; unfold candB; simp only [hkd, candO, hkl, hq, hpf, hq2, Bool.not_true]; try rfl
      have HN := Lib.hid hn
      clear hn
      have cP := bP.cell; have fP := bP.free; have zP := bP.lt
      go_wp2
      exact bodyPost_ret (v := .tuple #[ruX zeroR, .int .i64 8]) (by simp [results, Tryz.results18, go_sem, cP, zeroR]) rfl ⟨by rw [HN.out], (by repeat (first | with_reducible exact Ext.refl _ | with_reducible assumption | with_reducible apply Ext.drewN | with_reducible apply Ext.drew | with_reducible apply Ext.alloc | ((with_reducible refine Ext.setCell ?_ ?_ _); rotate_left; (first | (dsimp only; omega) | (simp; omega) | skip)) | exact Ext.refl _ | assumption | apply Ext.drewN | apply Ext.drew | apply Ext.alloc | refine Ext.setCell ?_ (by first | (dsimp only; omega) | (simp; omega)) _))⟩
    rcases Nat.eq_zero_or_pos z2.size with hz3 | hz3
    rotate_left
    · have hze := nemp_bool hz3
      have hzl : (bs z2).isEmpty = false := by rw [← isE]; exact hze
      have hn : parseRu (bs s) = (zeroR, 8) := by rw [HEQ.out]; unfold candB; simp only [hkd, candO, hkl, hq, hpf, hq2, hzl, Bool.not_true]; try rfl
      have HN := Lib.hid hn
      clear hn
      have cP := bP.cell; have fP := bP.free; have zP := bP.lt
      go_wp2
      exact bodyPost_ret (v := .tuple #[ruX zeroR, .int .i64 8]) (by simp [results, Tryz.results18, go_sem, cP, zeroR]) rfl ⟨by rw [HN.out], (by repeat (first | with_reducible exact Ext.refl _ | with_reducible assumption | with_reducible apply Ext.drewN | with_reducible apply Ext.drew | with_reducible apply Ext.alloc | ((with_reducible refine Ext.setCell ?_ ?_ _); rotate_left; (first | (dsimp only; omega) | (simp; omega) | skip)) | exact Ext.refl _ | assumption | apply Ext.drewN | apply Ext.drew | apply Ext.alloc | refine Ext.setCell ?_ (by first | (dsimp only; omega) | (simp; omega)) _))⟩
    have hze := emp_bool hz3
    have hzl : (bs z2).isEmpty = true := by rw [bs_nil hz3]; rfl
    have hsome : parseRu (bs s) = endRu (some (⟨k, bs key, [], bs t, bs t2⟩ : Ru)) := by rw [HEQ.out]; unfold candB; simp only [hkd, candO, hkl, hq, hpf, hq2, hzl]; try rfl
    have HS := Lib.hid hsome
    clear hsome
    have cR := bR.cell; have fR := bR.free; have zR := bR.lt
    have hck := fun W (h : Ext w W) => CheckRule_any ⟨k, key, ⟨#[]⟩, t, t2⟩ W (hg.ext h) ⟨(show key.size ≤ 2097152 by omega), (show (⟨#[]⟩ : ByteArray).size ≤ 2097152 by decide), (show t.size ≤ 2097152 by omega), (show t2.size ≤ 2097152 by omega)⟩
    have hrl : RB.l ⟨k, key, ⟨#[]⟩, t, t2⟩ = (⟨k, bs key, [], bs t, bs t2⟩ : Ru) := rfl
    rw [hrl] at hck
    generalize hQ : (⟨k, bs key, [], bs t, bs t2⟩ : Ru) = Q at *
    have hQv : ruX Q = ruV ⟨k, key, ⟨#[]⟩, t, t2⟩ := by rw [← hQ]
    clear hQ hrl
    go_wp2_with fail
    refine (hck _ hxw).mono ?_
    rintro e wz ⟨rfl, hxz⟩
    replace bP := bP.ext hxz
    replace bR := bR.ext hxz
    replace hxw := hxw.trans hxz
    clear hck cR fR zR hxz
    by_cases h0 : ruErr Q = 0
    · have hres : parseRu (bs s) = (Q, 0) := by rw [HS.out, endRu, if_neg (by rw [h0]; decide)]
      have HRES := Lib.hid hres
      rw [h0]
      clear hres h0
      have cR := bR.cell
      have cP := bP.cell; have fP := bP.free; have zP := bP.lt
      go_wp2
      exact bodyPost_ret (v := .tuple #[ruV ⟨k, key, ⟨#[]⟩, t, t2⟩, .int .i64 0]) (by simp [results, Tryz.results18, go_sem, cP]) rfl ⟨by rw [HRES.out]; dsimp only; rw [hQv], (by repeat (first | with_reducible exact Ext.refl _ | with_reducible assumption | with_reducible apply Ext.drewN | with_reducible apply Ext.drew | with_reducible apply Ext.alloc | ((with_reducible refine Ext.setCell ?_ ?_ _); rotate_left; (first | (dsimp only; omega) | (simp; omega) | skip)) | exact Ext.refl _ | assumption | apply Ext.drewN | apply Ext.drew | apply Ext.alloc | refine Ext.setCell ?_ (by first | (dsimp only; omega) | (simp; omega)) _))⟩
    · have hres : parseRu (bs s) = (zeroR, ruErr Q) := by rw [HS.out, endRu, if_pos h0]
      have HRES := Lib.hid hres
      have hb : (ruErr Q != 0) = true := by rw [bne_iff_ne]; exact h0
      clear hres h0
      have cP := bP.cell; have fP := bP.free; have zP := bP.lt
      go_wp2
      exact bodyPost_ret (v := .tuple #[ruX zeroR, .int .i64 (ruErr Q)]) (by simp [results, Tryz.results18, go_sem, cP, zeroR]) rfl ⟨by rw [HRES.out], (by repeat (first | with_reducible exact Ext.refl _ | with_reducible assumption | with_reducible apply Ext.drewN | with_reducible apply Ext.drew | with_reducible apply Ext.alloc | ((with_reducible refine Ext.setCell ?_ ?_ _); rotate_left; (first | (dsimp only; omega) | (simp; omega) | skip)) | exact Ext.refl _ | assumption | apply Ext.drewN | apply Ext.drew | apply Ext.alloc | refine Ext.setCell ?_ (by first | (dsimp only; omega) | (simp; omega)) _))⟩
end Go.Proofs.YtghhjlcbcojcnaaGreatDoor
